/-
  Alarms in memory: rows of alarms that a call makes; slices of alarms. Typed.
  Rows that grow beside structs of one's own. (Out of areal/XArH.)
-/
import Derived.Test.YtllkiadedaghoaaGreatDoorOr16
import Derived.Test.YtllkiadedaghoaaGreatDoorOr17
import Derived.Test.YtllkiadedaghoaaGreatDoorOr18
import Derived.Test.YtllkiadedaghoaaGreatDoorOr24
import Derived.Test.YtllkiadedaghoaaGreatDoorOr14
import Derived.Test.YtllkiadedaghoaaGreatDoorOr10

set_option linter.unusedVariables false
set_option linter.unusedSimpArgs false
namespace Go.Proofs.YtllkiadedaghoaaGreatDoor
open Go.RowKit Go.Sort Go.Shelf
namespace Al
/-- A block of ints. -/
def IntB (w : World) (b : Nat) : Prop := ∃ cur fr, w.heap[b]? = some (.cells cur 3 fr)
theorem IntB.keep {w w' : World} {b : Nat} (h : IntB w b) (e : w'.heap[b]? = w.heap[b]?) : IntB w' b := by obtain ⟨c, f, h⟩ := h; exact ⟨c, f, e.trans h⟩
theorem IntB.lt {w : World} {b : Nat} (h : IntB w b) : b < w.heap.size := by obtain ⟨c, f, h⟩ := h; exact (Array.getElem?_eq_some_iff.1 h).1
theorem IntB.gr {w w' : World} {b : Nat} (h : IntB w b) (g : Gr w w') : IntB w' b := h.keep (Below.block g b h.lt)
/-- An alarm whose numbers lie in a block of their own. -/
structure A.Own (a : A) (w : World) : Prop where
  at' : a.At w
  ib : IntB w a.b
  n0 : 0 < a.n
theorem A.Own.gr {a : A} {w w' : World} (h : a.Own w) (g : Gr w w') : a.Own w' := ⟨h.at'.gr g, h.ib.gr g, h.n0⟩
theorem A.Own.keep {a : A} {w w' : World} (h : a.Own w) (e : w'.heap[a.b]? = w.heap[a.b]?) : a.Own w' :=
  ⟨⟨h.at'.hn, h.at'.hp, fun i hi => by rw [← h.at'.hX i hi]; exact World.cell?_of_block (w := w) e⟩, h.ib.keep e, h.n0⟩
theorem A.Own.ne {a : A} {w : World} (h : a.Own w) {g : Nat} {cur : Array Value} {fr : Nat × Nat} (hg : w.heap[g]? = some (.cells cur 31 fr)) : a.b ≠ g := by
  intro e
  obtain ⟨c, f, h⟩ := h.ib
  rw [e, hg] at h
  simp only [Option.some.injEq, Obj.cells.injEq] at h
  exact absurd h.2.1 (by decide)
/-- A row of alarms that a call has made. -/
structure OwnA (w : World) (base : Nat) (v : Value) (d : List Al.A) : Prop where
  row : w.ownsRow base 31 4 v d.length (d.flatMap Al.A.enc)
  own : ∀ a ∈ d, a.Own w
theorem OwnA.nil (w : World) (base : Nat) : OwnA w base (.slice none 0 0) [] := ⟨World.ownsRow_nil _ _ _ _, fun a h => by simp at h⟩
theorem OwnA.gr {w w' : World} {base : Nat} {v : Value} {d : List Al.A} (h : OwnA w base v d) (g : Gr w w') : OwnA w' base v d := ⟨ownsRow_gr h.row g, fun a ha => (h.own a ha).gr g⟩
/-- An alarm put behind. -/
theorem OwnA.push {w w' : World} {base : Nat} {v v' : Value} {d : List Al.A} {a : A} (h : OwnA w base v d) (ha : a.Own w) (hrow : w'.ownsRow base 31 4 v' (d.length + 1) (d.flatMap Al.A.enc ++ a.enc)) (hg : w.grownBy w' v.ownBlock) : OwnA w' base v' (d ++ [a]) := by
  have keep : ∀ x : A, x.Own w → x.Own w' := fun x hx => hx.keep (hg.block x.b hx.ib.lt fun e => by
    obtain ⟨hl, ⟨rfl, -⟩ | ⟨g, cap, cur, rfl, hb, hc, -⟩⟩ := h.row
    · cases e
    · simp only [Value.ownBlock, Option.some.injEq] at e
      exact hx.ne hc e)
  refine ⟨?_, fun x hx => ?_⟩
  · rw [List.length_append, List.flatMap_append]; simpa using hrow
  · rcases List.mem_append.1 hx with q | q
    · exact keep x (h.own x q)
    · simp only [List.mem_singleton] at q; subst q; exact keep x ha
/-- A slice of alarms. -/
structure SlA where
  A : Option Addr
  n : Nat
  c : Nat
  b : Nat
  o : Nat
  D : Nat → Al.A
def A.Cells (w : World) (b o : Nat) (a : A) : Prop := w.cell? ⟨b, o, none⟩ = some (.int .i64 a.kd) ∧ w.cell? ⟨b, o + 1, none⟩ = some (.string a.nd) ∧ w.cell? ⟨b, o + 2, none⟩ = some (.int .i64 a.tm) ∧ w.cell? ⟨b, o + 3, none⟩ = some (.slice a.p a.n a.c)
theorem A.Cells.gr {w w1 : World} {b o : Nat} {d : Al.A} (h : d.Cells w b o) (hg : Gr w w1) : d.Cells w1 b o := by
  obtain ⟨h0, h1, h2, h3⟩ := h
  exact ⟨Gr.at hg h0, Gr.at hg h1, Gr.at hg h2, Gr.at hg h3⟩
structure SlA.At (w : World) (s : SlA) : Prop where
  hA : 0 < s.n → s.A = some ⟨s.b, s.o, none⟩
  hN : s.A = none → s.c = 0
  hc : s.n ≤ s.c
  hb : s.c ≤ 9223372036854775807
  hD : ∀ i, i < s.n → (s.D i).Cells w s.b (s.o + i * 4) ∧ (s.D i).Own w
theorem SlA.At.gr {w w1 : World} {s : SlA} (h : s.At w) (hg : Gr w w1) : s.At w1 := ⟨h.hA, h.hN, h.hc, h.hb, fun i hi => ⟨(h.hD i hi).1.gr hg, (h.hD i hi).2.gr hg⟩⟩
/-- The contents of a slice's alarms. -/
def SlA.con (s : SlA) : List C := (List.range s.n).map fun i => (s.D i).con
theorem SlA.con_len (s : SlA) : s.con.length = s.n := by simp [SlA.con]
def SlA.val (s : SlA) : Value := .slice s.A s.n s.c
/-- The slice of a row. -/
def SlA.row (g cap : Nat) (l : List Al.A) : SlA := ⟨some ⟨g, 0, none⟩, l.length, cap, g, 0, fun i => l[i]!⟩
theorem SlA.row_con (g cap : Nat) (l : List Al.A) : (SlA.row g cap l).con = l.map Al.A.con := by
  unfold SlA.row SlA.con
  apply List.ext_getElem
  · simp
  · intro i h1 h2; simp at h1; simp [h1]
def SlA.nil : SlA := ⟨none, 0, 0, 0, 0, fun _ => default⟩
theorem SlA.nil_at (w : World) : SlA.nil.At w := ⟨fun h => absurd h (Nat.lt_irrefl _), fun _ => rfl, Nat.le_refl _, Nat.zero_le _, fun i hi => absurd hi (Nat.not_lt_zero _)⟩
theorem SlA.row_at {w : World} {g cap : Nat} {l : List Al.A} (hr : RowE Al.A.enc 4 w g l) (hown : ∀ a ∈ l, a.Own w) (hc : l.length ≤ cap) (hm : cap ≤ maxLen) : (SlA.row g cap l).At w := by
  refine ⟨fun _ => rfl, fun h => (by cases h), hc, by unfold maxLen at hm; exact hm, fun i hi => ?_⟩
  have hi' : i < l.length := hi
  have key : ∀ c, c < 4 → w.cell? ⟨g, i * 4 + c, none⟩ = some (l[i]!.enc)[c]! := fun c h => (hr i hi' c h).1
  refine ⟨⟨?_, ?_, ?_, ?_⟩, ?_⟩
  · show w.cell? ⟨g, 0 + i * 4, none⟩ = _
    rw [Nat.zero_add]; exact key 0 (by omega)
  · show w.cell? ⟨g, 0 + i * 4 + 1, none⟩ = _
    rw [Nat.zero_add]; exact key 1 (by omega)
  · show w.cell? ⟨g, 0 + i * 4 + 2, none⟩ = _
    rw [Nat.zero_add]; exact key 2 (by omega)
  · show w.cell? ⟨g, 0 + i * 4 + 3, none⟩ = _
    rw [Nat.zero_add]; exact key 3 (by omega)
  · show (l[i]!).Own w
    rw [getElem!_pos l i hi']; exact hown _ (List.getElem_mem _)
/-- A row is nil, or lies in a block of alarms. -/
theorem OwnA.open {w : World} {base : Nat} {v : Value} {d : List Al.A} (h : OwnA w base v d) : (v = .slice none 0 0 ∧ d = []) ∨ ∃ g cap cur, v = .slice (some ⟨g, 0, none⟩) d.length cap ∧ base ≤ g ∧ w.heap[g]? = some (.cells cur 31 (0, 0)) ∧ d.length ≤ cap ∧ cap ≤ maxLen ∧ RowE Al.A.enc 4 w g d := by
  have h' := h.row
  obtain ⟨hl, ⟨rfl, z⟩ | ⟨g, cap, cur, rfl, hb, hc, hn, hm, hs, r⟩⟩ := h.row
  · exact Or.inl ⟨rfl, List.length_eq_zero_iff.1 z⟩
  · refine Or.inr ⟨g, cap, cur, rfl, hb, hc, hn, hm, fun i hi c hcc => ?_⟩
    have hlt : i * 4 + c < d.length * 4 := by omega
    have e := flat_get Al.A.enc 4 (fun _ => rfl) d i c hi hcc
    rw [← r, List.getElem?_take_of_lt hlt, Array.getElem?_toList] at e
    exact ⟨by simp only [World.cell?, hc]; simpa using e, by simp [World.frozen?, hc]⟩
/-- A row as a slice. -/
theorem OwnA.sl {w : World} {base : Nat} {v : Value} {d : List Al.A} (h : OwnA w base v d) : ∃ s : SlA, v = s.val ∧ s.At w ∧ s.con = d.map Al.A.con := by
  rcases h.open with ⟨rfl, rfl⟩ | ⟨g, cap, cur, rfl, hb, hc, hn, hm, hr⟩
  · exact ⟨SlA.nil, rfl, SlA.nil_at w, by simp [SlA.con, SlA.nil]⟩
  · exact ⟨SlA.row g cap d, rfl, SlA.row_at hr h.own hn hm, SlA.row_con _ _ _⟩
/-- What a function that returns alarms answers. -/
def RetAl (L : List C) (w : World) (e : Ending) (w' : World) : Prop := ∃ s : SlA, e = .returned s.val ∧ s.At w' ∧ s.con = L ∧ Gr w w'
/-- With an error number. -/
def RetAe (L : List C) (k : Int) (w : World) (e : Ending) (w' : World) : Prop := ∃ s : SlA, e = .returned (.tuple #[s.val, .int .i64 k]) ∧ s.At w' ∧ s.con = L ∧ Gr w w'
end Al
set_option maxHeartbeats 4000000 in
/-- ordered, of a row that a call has made. -/
theorem ordered_own (v : Value) (d : List Al.A) (w : World) (base : Nat) (h : Al.OwnA w base v d) (hsz : d.length ≤ 1000000) :
    Calls Tryz.prog 68 #[v] w fun e w' => ∃ s : Al.SlA, e = .returned s.val ∧ s.At w' ∧ s.con = Al.srt (d.map Al.A.con) ∧ ∀ w0, Gr w0 w → w0.heap.size ≤ base → Gr w0 w' := by
  by_cases hne : d = []
  · subst hne
    rcases h.open with ⟨rfl, -⟩ | ⟨g, cap, cur, rfl, hb, hc, hn, hm, hr⟩
    · refine (ordered_none none 0 w).mono ?_
      rintro e w' ⟨rfl, rfl⟩
      exact ⟨Al.SlA.nil, rfl, Al.SlA.nil_at _, by rw [List.map_nil, Al.srt_nil]; simp [Al.SlA.con, Al.SlA.nil], fun _ h _ => h⟩
    · refine (ordered_none (some ⟨g, 0, none⟩) cap w).mono ?_
      rintro e w' ⟨rfl, rfl⟩
      exact ⟨Al.SlA.row g cap [], rfl, Al.SlA.row_at hr h.own hn hm, by rw [Al.SlA.row_con, List.map_nil, Al.srt_nil], fun _ h _ => h⟩
  · rcases h.open with ⟨rfl, z⟩ | ⟨g, cap, cur, rfl, hb, hc, hn, hm, hr⟩
    · exact absurd z hne
    · have hlt := (Array.getElem?_eq_some_iff.1 hc).1
      refine (ordered_any g cap d w hlt (fun a ha => ⟨(h.own a ha).at', (h.own a ha).ne hc⟩) hne hr hsz).mono ?_
      rintro e w' ⟨rfl, d', hp, hs, hr', hx⟩
      have hl : d'.length = d.length := hp.length_eq.symm
      refine ⟨Al.SlA.row g cap d', by unfold Al.SlA.val Al.SlA.row; rw [hl], Al.SlA.row_at hr' (fun a ha => ?_) (by omega) hm, ?_, fun w0 h0 hb0 => GrX.gr h0 (Nat.le_trans hb0 hb) hx⟩
      · have ho := h.own a (hp.mem_iff.2 ha)
        exact ho.keep (hx.block a.b ho.ib.lt (ho.ne hc))
      · rw [Al.SlA.row_con]
        exact Al.srt_of (hp.map _) (List.pairwise_map.2 hs)
end Go.Proofs.YtllkiadedaghoaaGreatDoor
set_option linter.unusedVariables false
set_option linter.unusedSimpArgs false
namespace Go.Proofs.YtllkiadedaghoaaGreatDoor
open Go.RowKit
theorem GrY.grow {R M : Nat} {a b c : World} {base E size n : Nat} {v : Value} {xs : List Value} (h : GrY R M a b) (hb : a.heap.size ≤ base) (ho : b.ownsRow base E size v n xs) (hgr : b.grownBy c v.ownBlock) : GrY R M a c :=
  ⟨hgr.os.trans h.os, hgr.tape.trans h.tape, hgr.output.trans h.output, Nat.le_trans h.size hgr.size, fun k hk hR hM => (hgr.block k (Nat.lt_of_lt_of_le hk h.size) (fun e => by have := (ho.lt k (by first | exact e | exact e.symm)).1; omega)).trans (h.block k hk hR hM)⟩
theorem GrY.keep {R M : Nat} {w w' : World} (h : GrY R M w w') {b o : Nat} {v : Value} (hR : b ≠ R) (hM : b ≠ M) (hc : Own w b o v) : Own w' b o v := by
  have hlt := World.block_lt_of_cell? w ⟨b, o, none⟩ hc.1
  have e := h.block b hlt hR hM
  exact ⟨(World.cell?_of_block (w := w) e).trans hc.1, (World.frozen?_of_block (w := w) (a := ⟨b, o, none⟩) e).trans hc.2⟩
theorem own_far {w : World} {base E size n B : Nat} {v : Value} {xs : List Value} (ho : w.ownsRow base E size v n xs) (hB : B < base) : some B ≠ v.ownBlock := fun e => by
  have := (ho.lt B (by first | exact e | exact e.symm)).1; omega
theorem ownsRow_set {w : World} {base E size n B o : Nat} {v u : Value} {xs : List Value} (h : w.ownsRow base E size v n xs) (hB : B < base) : (w.setCell ⟨B, o, none⟩ u).ownsRow base E size v n xs := by
  obtain ⟨hl, h | ⟨g, cap, cur, hv, hb, hc, r⟩⟩ := h
  · exact ⟨hl, Or.inl h⟩
  · exact ⟨hl, Or.inr ⟨g, cap, cur, hv, hb, (Below.heap_setCell _ _ _ _ (by simp only; omega)).trans hc, r⟩⟩
theorem ownsRow_atn {w : World} {base e n : Nat} {v : Value} {xs : List Value} (h : w.ownsRow base e 1 v n xs) : ∃ (A : Option Addr) (c b : Nat), v = .slice A n c ∧ (0 < n → A = some ⟨b, 0, none⟩) ∧ n ≤ c ∧ c ≤ 9223372036854775807 ∧ (∀ i, i < n → w.cell? ⟨b, i, none⟩ = xs[i]?) ∧ base ≤ b := by
  have h' := h
  obtain ⟨hl, ⟨rfl, rfl⟩ | ⟨g, cap, cur, rfl, hb, hc, hn, hm, r⟩⟩ := h
  · exact ⟨none, 0, base, rfl, fun h => absurd h (by omega), Nat.le_refl _, by omega, fun i hi => absurd hi (by omega), Nat.le_refl _⟩
  · exact ⟨some ⟨g, 0, none⟩, cap, g, rfl, fun _ => rfl, hn, by unfold maxLen at hm; exact hm, fun i hi => h'.cellAt i (by omega), hb⟩
theorem own_grow {w w' : World} {row : Option Nat} {b o : Nat} {v : Value} (h : Own w b o v) (hg : w.grownBy w' row) (hne : some b ≠ row) : Own w' b o v := by
  have hlt := World.block_lt_of_cell? w ⟨b, o, none⟩ h.1
  have e := hg.block b hlt hne
  exact ⟨(World.cell?_of_block (w := w) e).trans h.1, (World.frozen?_of_block (w := w) (a := ⟨b, o, none⟩) e).trans h.2⟩
theorem ownsRow_base {w : World} {base base' E size n : Nat} {v : Value} {xs : List Value} (h : w.ownsRow base E size v n xs) (hb : base' ≤ base) : w.ownsRow base' E size v n xs := by
  obtain ⟨hl, h | ⟨g, cap, cur, hv, hb2, r⟩⟩ := h
  · exact ⟨hl, Or.inl h⟩
  · exact ⟨hl, Or.inr ⟨g, cap, cur, hv, Nat.le_trans hb hb2, r⟩⟩
/-- A row grows: what was there before its base is as it was. -/
theorem Gr.grow {a b c : World} {base E size n : Nat} {v : Value} {xs : List Value} (h : Gr a b) (hb : a.heap.size ≤ base) (ho : b.ownsRow base E size v n xs) (hgr : b.grownBy c v.ownBlock) : Gr a c := Gr.own h hb ho hgr
end Go.Proofs.YtllkiadedaghoaaGreatDoor
