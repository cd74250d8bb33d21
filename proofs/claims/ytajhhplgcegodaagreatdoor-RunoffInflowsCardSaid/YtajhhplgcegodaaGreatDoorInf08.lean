/-
  Memory: families of rows that a call owns, apart; rows of triangles and of findings. No condition.
  Maps whose keys are pairs of ints: sides, and points. No condition.
  Surfaces: the state of mesh.Check's loops in memory, and how it turns. No condition.
  Surfaces, plain: what mesh.Check knows in its loops. No condition.
-/
import Derived.Test.YtajhhplgcegodaaGreatDoorInf07
import Derived.Test.YtajhhplgcegodaaGreatDoorInf02
import Derived.Deep.AppendLies
import Derived.DeepKeys4
import Derived.WalkArith
import Derived.Lib.ItoaNum
set_option linter.unusedVariables false
set_option linter.unusedSimpArgs false
namespace Go.Proofs.YtajhhplgcegodaaGreatDoor
open Go.RowKit
/-- Two slices do not lie in one block. -/
def Apt (x y : Value) : Prop := x.ownBlock = none ∨ x.ownBlock ≠ y.ownBlock
theorem Apt.symm {x y : Value} (h : Apt x y) : Apt y x := by
  unfold Apt at *
  by_cases e : y.ownBlock = none
  · exact .inl e
  · rcases h with h | h
    · exact .inr (by rw [h]; exact e)
    · exact .inr (Ne.symm h)
theorem apt_new {w : World} {B n m g cap E S : Nat} {a b : Value} {ys : List Value} (hb : w.ownsRow B E S b n ys) (h : Apt b a) (hat : a.ownBlock = some g ∨ g = w.heap.size) : Apt b (.slice (some ⟨g, 0, none⟩) m cap) := by
  rcases h with h | h
  · exact .inl h
  · right
    rcases hat with e | e
    · rw [e] at h; exact h
    · intro e2
      have := (hb.lt g (by rw [e2]; rfl)).2
      omega
theorem Own.below {B : Nat} {w w' : World} {b o : Nat} {v : Value} (h : Own w b o v) (hg : Below B w w') (hb : b < B) : Own w' b o v :=
  ⟨(Below.cell hg (p := ⟨b, o, none⟩) hb).trans h.1, (Below.frozen hg (p := ⟨b, o, none⟩) hb).trans h.2⟩
theorem Row.below {B : Nat} {w w' : World} {g n : Nat} {X : Nat → Value} (h : Row w g n X) (hg : Below B w w') (hb : 0 < n → g < B) : Row w' g n X := fun j hj => (h j hj).below hg (hb (by omega))
theorem Row.grx {M : Nat} {w w' : World} {g n : Nat} {X : Nat → Value} (h : Row w g n X) (hg : GrX M w w') (hb : 0 < n → g ≠ M) : Row w' g n X := fun j hj => (h j hj).grx hg (hb (by omega))
theorem MapIs.below {P : Program} {k : TypeId} {B : Nat} {w w' : World} {b n : Nat} {f : Value → Option Value} (h : MapIs P k w b n f) (g : Below B w w') (hb : b < B) : MapIs P k w' b n f := by
  obtain ⟨es, clock, h1, r⟩ := h
  exact ⟨es, clock, (Below.block g b hb).trans h1, r⟩
theorem ownsRow_grx {M : Nat} {w w' : World} {base e size n : Nat} {v : Value} {xs : List Value} (h : w.ownsRow base e size v n xs) (hg : GrX M w w') (hb : v.ownBlock ≠ some M) : w'.ownsRow base e size v n xs := by
  obtain ⟨hl, h | ⟨g, cap, cur, hv, hb', hc, r⟩⟩ := h
  · exact ⟨hl, Or.inl h⟩
  · refine ⟨hl, Or.inr ⟨g, cap, cur, hv, hb', ?_, r⟩⟩
    have hlt : g < w.heap.size := (Array.getElem?_eq_some_iff.1 hc).1
    rw [hg.block g hlt (fun e => hb (by rw [hv, e]; rfl))]; exact hc
theorem own_below {w w' : World} {base e size n : Nat} {v : Value} {xs : List Value} (ho : w.ownsRow base e size v n xs) (hgr : w.grownBy w' v.ownBlock) (hb : base ≤ w.heap.size) : Below base w w' :=
  Below.grown (Below.refl _ _) hgr hb fun k hk => (ho.lt k hk).1
theorem grown_gr {w w' : World} (h : w.grownBy w' none) : Gr w w' := ⟨h.os, h.tape, h.output, h.size, fun k hk => h.block k hk (by simp)⟩
theorem map_made {P : Program} {k : TypeId} {w : World} {b : Nat} (h : b = w.heap.size) : MapIs P k (w.alloc (.map #[] 0)) b 0 (fun _ => none) := h ▸ MapIs.made P k w
theorem own_ne {w : World} {base e size n M : Nat} {v : Value} {xs : List Value} (ho : w.ownsRow base e size v n xs) (hM : M < base) : v.ownBlock ≠ some M := fun e => by have := (ho.lt M e).1; omega
theorem own_fresh {w : World} {base e size n M : Nat} {v : Value} {xs : List Value} (ho : w.ownsRow base e size v n xs) (hM : w.heap.size ≤ M) : some M ≠ v.ownBlock := fun e => by have := (ho.lt M e.symm).2; omega
theorem ownsRow_base {w : World} {base base' e size n : Nat} {v : Value} {xs : List Value} (ho : w.ownsRow base e size v n xs) (hb : base' ≤ base) : w.ownsRow base' e size v n xs := by
  obtain ⟨hl, h | ⟨g, cap, cur, hv, hg, r⟩⟩ := ho
  · exact ⟨hl, Or.inl h⟩
  · exact ⟨hl, Or.inr ⟨g, cap, cur, hv, Nat.le_trans hb hg, r⟩⟩
/-- A function turned at one number. -/
def upd {α : Type} (f : Nat → α) (k : Nat) (x : α) (j : Nat) : α := if j = k then x else f j
theorem upd_same {α : Type} (f : Nat → α) (k : Nat) (x : α) : upd f k x k = x := by unfold upd; rw [if_pos rfl]
theorem upd_ne {α : Type} (f : Nat → α) {k j : Nat} (x : α) (h : j ≠ k) : upd f k x j = f j := by unfold upd; rw [if_neg h]
/-- A family of rows that a call owns, apart. -/
structure Fam (w : World) (base E size K : Nat) (V : Nat → Value) (N : Nat → Nat) (L : Nat → List Value) : Prop where
  own : ∀ k, k < K → w.ownsRow base E size (V k) (N k) (L k)
  apt : ∀ j k, j < K → k < K → j ≠ k → Apt (V j) (V k)
section
variable {w w1 : World} {base E size K : Nat} {V : Nat → Value} {N : Nat → Nat} {L : Nat → List Value}
theorem Fam.nil : Fam w base E size K (fun _ => .slice none 0 0) (fun _ => 0) (fun _ => []) := ⟨fun _ _ => World.ownsRow_nil _ _ _ _, fun _ _ _ _ _ => .inl rfl⟩
theorem Fam.gr (h : Fam w base E size K V N L) (hg : Gr w w1) : Fam w1 base E size K V N L := ⟨fun k hk => ownsRow_gr (h.own k hk) hg, h.apt⟩
theorem Fam.grx {M : Nat} (h : Fam w base E size K V N L) (hg : GrX M w w1) (hM : M < base) : Fam w1 base E size K V N L := ⟨fun k hk => ownsRow_grx (h.own k hk) hg (own_ne (h.own k hk) hM), h.apt⟩
/-- A block that none of them is turns. -/
theorem Fam.kept {row : Option Nat} (h : Fam w base E size K V N L) (hg : w.grownBy w1 row) (hr : ∀ k, k < K → (V k).ownBlock = none ∨ (V k).ownBlock ≠ row) : Fam w1 base E size K V N L := ⟨fun k hk => (h.own k hk).kept hg (hr k hk), h.apt⟩
theorem Fam.app {k g cap n' : Nat} {xs : List Value} (h : Fam w base E size K V N L) (hk : k < K) (ho : w1.ownsRow base E size (.slice (some ⟨g, 0, none⟩) n' cap) n' xs) (hgr : w.grownBy w1 (V k).ownBlock) (hat : (V k).ownBlock = some g ∨ g = w.heap.size) :
    Fam w1 base E size K (upd V k (.slice (some ⟨g, 0, none⟩) n' cap)) (upd N k n') (upd L k xs) := by
  refine ⟨fun j hj => ?_, fun i j hi hj hij => ?_⟩
  · by_cases e : j = k
    · subst e; rw [upd_same, upd_same, upd_same]; exact ho
    · rw [upd_ne _ _ e, upd_ne _ _ e, upd_ne _ _ e]
      exact (h.own j hj).kept hgr (h.apt j k hj hk e)
  · by_cases e : i = k
    · subst e
      rw [upd_same, upd_ne _ _ (Ne.symm hij)]
      exact (apt_new (h.own j hj) (h.apt j i hj hk (Ne.symm hij)) hat).symm
    · rw [upd_ne _ _ e]
      by_cases e2 : j = k
      · subst e2; rw [upd_same]; exact apt_new (h.own i hi) (h.apt i j hi hk hij) hat
      · rw [upd_ne _ _ e2]; exact h.apt i j hi hj hij
theorem Fam.as {N' : Nat → Nat} {L' : Nat → List Value} (h : Fam w base E size K V N L) (hN : ∀ k, k < K → N' k = N k) (hL : ∀ k, k < K → L' k = L k) : Fam w base E size K V N' L' := ⟨fun k hk => by rw [hN k hk, hL k hk]; exact h.own k hk, h.apt⟩
end
/-- A family of rows of ints whose slices lie in one block of their own. -/
structure Fnd (w : World) (base FB K : Nat) (V : Nat → Value) (l : Nat → List Nat) : Prop where
  cel : ∀ k, k < K → Own w FB k (V k)
  fam : Fam w base 3 1 K V (fun k => (l k).length) (fun k => (l k).map fun (i : Nat) => Value.int .i64 (i : Int))
/-- Numbers as cells. -/
def fi (l : List Nat) : List Value := l.map fun (i : Nat) => Value.int .i64 (i : Int)
theorem fi_app (l : List Nat) (i : Nat) : fi (l ++ [i]) = fi l ++ [.int .i64 (i : Int)] := by unfold fi; rw [List.map_append]; rfl
theorem fi_get {l : List Nat} {j i : Nat} (h : l[j]? = some i) : (fi l)[j]? = some (.int .i64 (i : Int)) := by unfold fi; rw [List.getElem?_map, h]; rfl
section
variable {w w1 : World} {base FB K : Nat} {V : Nat → Value} {l l' : Nat → List Nat}
theorem Fnd.gr (h : Fnd w base FB K V l) (hg : Gr w w1) : Fnd w1 base FB K V l := ⟨fun k hk => (h.cel k hk).gr hg, h.fam.gr hg⟩
theorem Fnd.grx {M : Nat} (h : Fnd w base FB K V l) (hg : GrX M w w1) (h1 : FB ≠ M) (h2 : M < base) : Fnd w1 base FB K V l := ⟨fun k hk => (h.cel k hk).grx hg h1, h.fam.grx hg h2⟩
theorem Fnd.as (h : Fnd w base FB K V l) (e : ∀ k, k < K → l' k = l k) : Fnd w base FB K V l' := ⟨h.cel, h.fam.as (fun k hk => by rw [e k hk]) (fun k hk => by rw [e k hk])⟩
theorem Fnd.row (h : Fnd w base FB K V l) {k : Nat} (hk : k < K) : w.ownsRow base 3 1 (V k) (l k).length (fi (l k)) := h.fam.own k hk
/-- One of the rows has got one number more, and its slice has been stored. -/
theorem Fnd.push {k g cap i : Nat} (h : Fnd w base FB K V l) (hk : k < K) (hF : FB < base) (hb : base ≤ w.heap.size) (ho : w1.ownsRow base 3 1 (.slice (some ⟨g, 0, none⟩) ((l k).length + 1) cap) ((l k).length + 1) (fi (l k) ++ [.int .i64 (i : Int)])) (hgr : w.grownBy w1 (V k).ownBlock) (hat : (V k).ownBlock = some g ∨ g = w.heap.size)
    (he : ∀ j, j < K → l' j = upd l k (l k ++ [i]) j) : Fnd (w1.setCell ⟨FB, k, none⟩ (.slice (some ⟨g, 0, none⟩) ((l k).length + 1) cap)) base FB K (upd V k (.slice (some ⟨g, 0, none⟩) ((l k).length + 1) cap)) l' := by
  have hB := own_below (h.row hk) hgr hb
  have hc : ∀ j, j < K → Own w1 FB j (V j) := fun j hj => (h.cel j hj).below hB hF
  have hfm := (h.fam.app hk ho hgr hat).grx (M := FB) (w1 := w1.setCell ⟨FB, k, none⟩ (.slice (some ⟨g, 0, none⟩) ((l k).length + 1) cap)) (GrX.setCell (GrX.refl FB w1) rfl _) hF
  refine ⟨fun j hj => ?_, hfm.as (fun j hj => ?_) (fun j hj => ?_)⟩
  · by_cases e : j = k
    · subst e; rw [upd_same]; exact (hc j hj).set
    · rw [upd_ne _ _ e]; exact (hc j hj).other (Or.inr e)
  · rw [he j hj]
    by_cases e : j = k
    · subst e; rw [upd_same, upd_same, List.length_append]; rfl
    · rw [upd_ne _ _ e, upd_ne _ _ e]
  · rw [he j hj]
    by_cases e : j = k
    · subst e; rw [upd_same, upd_same]; exact fi_app _ _
    · rw [upd_ne _ _ e, upd_ne _ _ e]
end
/-- Triangles as cells. -/
def ft : List Ba.Tri → List Value
  | [] => []
  | t :: l => [.int .i64 t.x0, .int .i64 t.y0, .int .i64 t.x1, .int .i64 t.y1, .int .i64 t.x2, .int .i64 t.y2] ++ ft l
theorem ft_app : ∀ (l : List Ba.Tri) (t : Ba.Tri), ft (l ++ [t]) = ft l ++ [.int .i64 t.x0, .int .i64 t.y0, .int .i64 t.x1, .int .i64 t.y1, .int .i64 t.x2, .int .i64 t.y2]
  | [], t => by simp [ft]
  | a :: l, t => by rw [List.cons_append, ft, ft, ft_app l t]; simp
theorem ft_get : ∀ {l : List Ba.Tri} {j : Nat} {t : Ba.Tri}, l[j]? = some t → (ft l)[j * 6]? = some (.int .i64 t.x0) ∧ (ft l)[j * 6 + 1]? = some (.int .i64 t.y0) ∧ (ft l)[j * 6 + 2]? = some (.int .i64 t.x1) ∧ (ft l)[j * 6 + 3]? = some (.int .i64 t.y1) ∧ (ft l)[j * 6 + 4]? = some (.int .i64 t.x2) ∧ (ft l)[j * 6 + 5]? = some (.int .i64 t.y2)
  | [], j, t, h => by simp at h
  | a :: l, 0, t, h => by
    simp only [List.getElem?_cons_zero, Option.some.injEq] at h
    subst h
    exact ⟨rfl, rfl, rfl, rfl, rfl, rfl⟩
  | a :: l, j + 1, t, h => by
    rw [List.getElem?_cons_succ] at h
    obtain ⟨h0, h1, h2, h3, h4, h5⟩ := ft_get h
    rw [ft]
    have hl : ∀ (q : Nat) (x : Value), (ft l)[j * 6 + q]? = some x → ([Value.int .i64 a.x0, .int .i64 a.y0, .int .i64 a.x1, .int .i64 a.y1, .int .i64 a.x2, .int .i64 a.y2] ++ ft l)[(j + 1) * 6 + q]? = some x := fun q x hx => by
      rw [List.getElem?_append_right (by simp; omega)]
      rw [show (j + 1) * 6 + q - [Value.int .i64 a.x0, .int .i64 a.y0, .int .i64 a.x1, .int .i64 a.y1, .int .i64 a.x2, .int .i64 a.y2].length = j * 6 + q by simp; omega]
      exact hx
    exact ⟨hl 0 _ h0, hl 1 _ h1, hl 2 _ h2, hl 3 _ h3, hl 4 _ h4, hl 5 _ h5⟩
/-- A slice of triangles that a call owns is a slice of triangles. -/
theorem own_tri {w : World} {base E n : Nat} {v : Value} {l : List Ba.Tri} (h : w.ownsRow base E 6 v n (ft l)) (hl : l.length = n) (hb : ∀ t ∈ l, Ms.tOk t) : ∃ s : Ba.SlTri, v = .slice s.A s.n s.c ∧ s.n = n ∧ s.At w ∧ ∀ j, j < n → l[j]? = some (s.D j) := by
  have h' := h
  obtain ⟨hl', ⟨rfl, he⟩ | ⟨g, cap, cur, rfl, hb', hc, hn, hm, r⟩⟩ := h
  · subst he
    exact ⟨⟨none, 0, 0, 0, 0, fun _ => ⟨0, 0, 0, 0, 0, 0⟩⟩, rfl, rfl, ⟨fun h => absurd h (by simp), Nat.le_refl _, by decide, fun i hi => absurd hi (by simp)⟩, fun j hj => absurd hj (by omega)⟩
  · refine ⟨⟨some ⟨g, 0, none⟩, n, cap, g, 0, fun j => l.getD j ⟨0, 0, 0, 0, 0, 0⟩⟩, rfl, rfl, ⟨fun _ => rfl, hn, by unfold maxLen at hm; exact hm, fun i hi => ?_⟩, fun j hj => ?_⟩
    · have hi' : i < l.length := by rw [hl]; exact hi
      have e : l[i]? = some (l.getD i ⟨0, 0, 0, 0, 0, 0⟩) := by rw [List.getElem?_eq_getElem hi', List.getD, List.getElem?_eq_getElem hi']; rfl
      obtain ⟨t, ht⟩ : ∃ t, l.getD i ⟨0, 0, 0, 0, 0, 0⟩ = t := ⟨_, rfl⟩
      rw [ht] at e
      simp only [ht]
      have ok := hb t (List.mem_of_getElem? e)
      obtain ⟨h0, h1, h2, h3, h4, h5⟩ := ft_get e
      unfold Ms.tOk Ms.cd at ok
      have hin : i < n := hi
      have c : ∀ q, q < 6 → w.cell? ⟨g, i * 6 + q, none⟩ = (ft l)[i * 6 + q]? := fun q hq => h'.cellAt (i * 6 + q) (by omega)
      refine ⟨⟨?_, ?_, ?_, ?_, ?_, ?_⟩, ?_⟩
      · rw [Nat.zero_add]; exact (c 0 (by omega)).trans h0
      · rw [Nat.zero_add]; exact (c 1 (by omega)).trans h1
      · rw [Nat.zero_add]; exact (c 2 (by omega)).trans h2
      · rw [Nat.zero_add]; exact (c 3 (by omega)).trans h3
      · rw [Nat.zero_add]; exact (c 4 (by omega)).trans h4
      · rw [Nat.zero_add]; exact (c 5 (by omega)).trans h5
      · unfold Ba.Tri.Ok Ba.i64
        omega
    · have hj' : j < l.length := by omega
      simp only
      rw [List.getElem?_eq_getElem hj', List.getD, List.getElem?_eq_getElem hj']; rfl
end Go.Proofs.YtajhhplgcegodaaGreatDoor
namespace Go.Proofs.YtajhhplgcegodaaGreatDoor
open Go.RowKit Go.Maps Go.WideMaps
namespace Ms
/-- A pair of ints. -/
def k2 (a b : Int) : Value := .agg #[.int .i64 a, .int .i64 b]
theorem k2_inj {a b c d : Int} (h : k2 a b = k2 c d) : a = c ∧ b = d := by
  unfold k2 at h
  simpa using h
end Ms
theorem ms_laid : laidOutB Tryz.prog = true := by as_aux_lemma => kernel_rfl
theorem ms_types : ∃ m, Tryz.prog.types.size = m + 1 := ⟨Tryz.prog.types.size - 1, by have : 0 < Tryz.prog.types.size := of_decide_eq_true (by kernel_rfl); omega⟩
theorem keyed_side : Keyed Tryz.prog 174 := Keyed.of_law (deep_law_laid ms_laid (m := 2) (by omega) (of_decide_eq_true (by kernel_rfl)) (by kernel_rfl) (by rw [Tryz.underlying174]))
theorem keyed_point : Keyed Tryz.prog 61 := Keyed.of_law (deep_law_laid ms_laid (m := 2) (by omega) (of_decide_eq_true (by kernel_rfl)) (by kernel_rfl) (by rw [Tryz.underlying61]))
theorem key_side {a b : Int} (ha : Ba.i64 a) (hb : Ba.i64 b) : ∃ l, keyOf Tryz.prog 174 (Ms.k2 a b) = some l := by
  obtain ⟨m, hm⟩ := ms_types
  unfold Ba.i64 at ha hb
  have w1 : (Lit.int .i64 a).wf = true := WalkArith.wf_i64 (by omega)
  have w2 : (Lit.int .i64 b).wf = true := WalkArith.wf_i64 (by omega)
  have c1 : Tryz.prog.cellsOf 174 = 2 := by as_aux_lemma => kernel_rfl
  have c2 : Tryz.prog.cellsOf 3 = 1 := by as_aux_lemma => kernel_rfl
  have kt : Tryz.prog.keyType 174 = true := by as_aux_lemma => kernel_rfl
  unfold keyOf Ms.k2
  rw [Tryz.underlying174]
  simp [kt, Value.formed, Tryz.underlying174, Tryz.underlying3, c1, c2, Value.cells, hm, Program.keyLits, w1, w2, List.range, List.range.loop]
theorem key_point {a b : Int} (ha : Ba.i64 a) (hb : Ba.i64 b) : ∃ l, keyOf Tryz.prog 61 (Ms.k2 a b) = some l := by
  obtain ⟨m, hm⟩ := ms_types
  unfold Ba.i64 at ha hb
  have w1 : (Lit.int .i64 a).wf = true := WalkArith.wf_i64 (by omega)
  have w2 : (Lit.int .i64 b).wf = true := WalkArith.wf_i64 (by omega)
  have c1 : Tryz.prog.cellsOf 61 = 2 := by as_aux_lemma => kernel_rfl
  have c2 : Tryz.prog.cellsOf 3 = 1 := by as_aux_lemma => kernel_rfl
  have kt : Tryz.prog.keyType 61 = true := by as_aux_lemma => kernel_rfl
  have e1 : Tryz.prog.keyLits (m + 1) 3 [.int .i64 a] = some [.int .i64 a] := by unfold Program.keyLits; rw [Tryz.underlying3]; simp only [w1, and_self, if_true]
  have e2 : Tryz.prog.keyLits (m + 1) 3 [.int .i64 b] = some [.int .i64 b] := by unfold Program.keyLits; rw [Tryz.underlying3]; simp only [w2, and_self, if_true]
  obtain ⟨f1, f2, hu, ha, hf1, hf2, ho1, ho2⟩ : ∃ f1 f2 : Field, Tryz.prog.underlying 61 = some (.struct #[f1, f2]) ∧ (#[f1, f2] : Array Field).all (fun x => x.name != "_") = true ∧ f1.type = 3 ∧ f2.type = 3 ∧ f1.offset = 0 ∧ f2.offset = 1 :=
    ⟨_, _, Tryz.underlying61, by as_aux_lemma => kernel_rfl, rfl, rfl, rfl, rfl⟩
  have e3 : Tryz.prog.keyLits (m + 1 + 1) 61 [.int .i64 a, .int .i64 b] = some [.int .i64 a, .int .i64 b] := by
    unfold Program.keyLits
    rw [hu]
    simp only
    rw [if_pos ⟨by rw [c1]; rfl, ha⟩]
    simp [List.mapM_cons, hf1, hf2, ho1, ho2, c2, e1, e2]
  have hfo : (Value.agg #[.int .i64 a, .int .i64 b]).formed Tryz.prog 61 = true := by
    simp [Value.formed, hu, c1]
  unfold keyOf Ms.k2
  rw [hu]
  simp only
  rw [kt, hfo, hm]
  simp only [Bool.and_self, if_true]
  rw [show (Value.agg #[.int .i64 a, .int .i64 b]).cells.toList = [.int .i64 a, .int .i64 b] from rfl, e3]
  exact ⟨_, rfl⟩
end Go.Proofs.YtajhhplgcegodaaGreatDoor
namespace Go.Proofs.YtajhhplgcegodaaGreatDoor
open Go.RowKit
theorem GrX.trans {R : Nat} {a b c : World} (h : GrX R a b) (k : GrX R b c) : GrX R a c :=
  ⟨k.os.trans h.os, k.tape.trans h.tape, k.output.trans h.output, Nat.le_trans h.size k.size, fun i hi hR => (k.block i (Nat.lt_of_lt_of_le hi h.size) hR).trans (h.block i hi hR), fun o ho => k.row o (h.row o ho), fun o ho => (k.free o (h.row o ho)).trans (h.free o ho)⟩
theorem Fam.grx' {w w1 : World} {base E size K M : Nat} {V : Nat → Value} {N : Nat → Nat} {L : Nat → List Value} (h : Fam w base E size K V N L) (hg : GrX M w w1) (hM : ∀ k, k < K → (V k).ownBlock ≠ some M) : Fam w1 base E size K V N L := ⟨fun k hk => ownsRow_grx (h.own k hk) hg (hM k hk), h.apt⟩
theorem Fnd.grx' {w w1 : World} {base FB K M : Nat} {V : Nat → Value} {l : Nat → List Nat} (h : Fnd w base FB K V l) (hg : GrX M w w1) (h1 : FB ≠ M) (h2 : ∀ k, k < K → (V k).ownBlock ≠ some M) : Fnd w1 base FB K V l := ⟨fun k hk => (h.cel k hk).grx hg h1, h.fam.grx' hg h2⟩
/-- What stays where the call's rows and one block of slices turn: the blocks below base, and the new ones that are kept apart. -/
structure St (w : World) (base FB : Nat) (BS : Nat → Prop) (W : World) (V : Nat → Value) (l : Nat → List Nat) (sv : Value) (ts : List Ba.Tri) : Prop where
  fnd : Fnd W base FB 7 V l
  snd : W.ownsRow base 171 6 sv ts.length (ft ts)
  ap : ∀ k, k < 7 → Apt (V k) sv
  pr : ∀ B, BS B → B < W.heap.size ∧ (∀ k, k < 7 → (V k).ownBlock ≠ some B) ∧ sv.ownBlock ≠ some B ∧ FB ≠ B
  g : Gr w W
  hb : base ≤ W.heap.size
  hF : w.heap.size ≤ FB ∧ FB < base
section
variable {w W W1 : World} {base FB : Nat} {BS : Nat → Prop} {V : Nat → Value} {l l' : Nat → List Nat} {sv : Value} {ts : List Ba.Tri}
theorem St.gr (h : St w base FB BS W V l sv ts) (hg : Gr W W1) : St w base FB BS W1 V l sv ts :=
  ⟨h.fnd.gr hg, ownsRow_gr h.snd hg, h.ap, fun B hB => ⟨Nat.lt_of_lt_of_le (h.pr B hB).1 (Gr.size hg), (h.pr B hB).2⟩, h.g.trans hg, Nat.le_trans h.hb (Gr.size hg), h.hF⟩
theorem St.as (h : St w base FB BS W V l sv ts) (e : ∀ k, k < 7 → l' k = l k) : St w base FB BS W V l' sv ts := ⟨h.fnd.as e, h.snd, h.ap, h.pr, h.g, h.hb, h.hF⟩
/-- A block that was not there before is kept apart from now on. -/
theorem St.more (h : St w base FB BS W V l sv ts) (hg : Gr W W1) {B : Nat} (h1 : W.heap.size ≤ B) (h2 : B < W1.heap.size) : St w base FB (fun b => BS b ∨ b = B) W1 V l sv ts := by
  have k := h.gr hg
  refine ⟨k.fnd, k.snd, k.ap, ?_, k.g, k.hb, k.hF⟩
  rintro b (hb | rfl)
  · exact k.pr b hb
  · refine ⟨h2, fun q hq e => ?_, fun e => ?_, ?_⟩
    · exact own_fresh (h.fnd.row hq) h1 e.symm
    · exact own_fresh h.snd h1 e.symm
    · have := h.hF; have := h.hb; omega
theorem St.less (h : St w base FB BS W V l sv ts) {BT : Nat → Prop} (e : ∀ b, BT b → BS b) : St w base FB BT W V l sv ts := ⟨h.fnd, h.snd, h.ap, fun b hb => h.pr b (e b hb), h.g, h.hb, h.hF⟩
/-- A block that is kept apart turns. -/
theorem St.turn (h : St w base FB BS W V l sv ts) {B : Nat} (hB : BS B) (hw : w.heap.size ≤ B) (hg : GrX B W W1) : St w base FB BS W1 V l sv ts :=
  ⟨h.fnd.grx' hg (h.pr B hB).2.2.2 (h.pr B hB).2.1, ownsRow_grx h.snd hg (h.pr B hB).2.2.1, h.ap, fun b hb => ⟨Nat.lt_of_lt_of_le (h.pr b hb).1 hg.size, (h.pr b hb).2⟩, GrX.gr h.g hw hg, Nat.le_trans h.hb hg.size, h.hF⟩
/-- A number has been appended to row k: the slice's cell is as it was; then the slice is stored. -/
theorem St.push {k g cap i : Nat} (h : St w base FB BS W V l sv ts) (hk : k < 7) (ho : W1.ownsRow base 3 1 (.slice (some ⟨g, 0, none⟩) ((l k).length + 1) cap) ((l k).length + 1) (fi (l k) ++ [.int .i64 (i : Int)])) (hgr : W.grownBy W1 (V k).ownBlock) (hat : (V k).ownBlock = some g ∨ g = W.heap.size)
    (he : ∀ j, j < 7 → l' j = upd l k (l k ++ [i]) j) : Own W1 FB k (V k) ∧ St w base FB BS (W1.setCell ⟨FB, k, none⟩ (.slice (some ⟨g, 0, none⟩) ((l k).length + 1) cap)) (upd V k (.slice (some ⟨g, 0, none⟩) ((l k).length + 1) cap)) l' sv ts := by
  have hB := own_below (h.fnd.row hk) hgr h.hb
  have gx : GrX FB W1 (W1.setCell ⟨FB, k, none⟩ (.slice (some ⟨g, 0, none⟩) ((l k).length + 1) cap)) := GrX.setCell (GrX.refl FB W1) rfl _
  refine ⟨(h.fnd.cel k hk).below hB h.hF.2, h.fnd.push hk h.hF.2 h.hb ho hgr hat he, ?_, ?_, ?_, ?_, ?_, h.hF⟩
  · exact ownsRow_grx (h.snd.kept hgr (h.ap k hk).symm) gx (own_ne h.snd h.hF.2)
  · intro j hj
    by_cases e : j = k
    · subst e; rw [upd_same]; exact (apt_new h.snd (h.ap j hj).symm hat).symm
    · rw [upd_ne _ _ e]; exact h.ap j hj
  · intro B hB'
    obtain ⟨p1, p2, p3, p4⟩ := h.pr B hB'
    refine ⟨Nat.lt_of_lt_of_le p1 (Nat.le_trans hgr.size gx.size), fun j hj => ?_, p3, p4⟩
    by_cases e : j = k
    · subst e; rw [upd_same]
      intro e2
      have e3 : g = B := by simpa [Value.ownBlock] using e2
      rcases hat with q | q
      · exact p2 j hj (by rw [q, e3])
      · omega
    · rw [upd_ne _ _ e]; exact p2 j hj
  · exact GrX.gr (Gr.own h.g (by have := h.hF; omega) (h.fnd.row hk) hgr) h.hF.1 gx
  · exact Nat.le_trans h.hb (Nat.le_trans hgr.size gx.size)
theorem St.push_cell {k g cap B o : Nat} {v : Value} (h : St w base FB BS W V l sv ts) (hk : k < 7) (hgr : W.grownBy W1 (V k).ownBlock) (hB : BS B ∨ (B < base ∧ FB ≠ B)) (hc : W.cell? ⟨B, o, none⟩ = some v) : (W1.setCell ⟨FB, k, none⟩ (.slice (some ⟨g, 0, none⟩) ((l k).length + 1) cap)).cell? ⟨B, o, none⟩ = some v := by
  refine GrX.at (GrX.setCell (GrX.refl FB W1) rfl _) ?_ (World.grownBy.cell hgr (a := ⟨B, o, none⟩) hc ?_)
  · rcases hB with h1 | h1
    · exact Ne.symm (h.pr B h1).2.2.2
    · exact Ne.symm h1.2
  · rcases hB with h1 | h1
    · exact fun e => (h.pr B h1).2.1 k hk e.symm
    · exact fun e => own_ne (h.fnd.row hk) h1.1 e.symm
theorem St.push_map {P : Program} {t : TypeId} {k g cap B n : Nat} {f : Value → Option Value} (h : St w base FB BS W V l sv ts) (hk : k < 7) (hgr : W.grownBy W1 (V k).ownBlock) (hB : BS B) (hm : MapIs P t W B n f) : MapIs P t (W1.setCell ⟨FB, k, none⟩ (.slice (some ⟨g, 0, none⟩) ((l k).length + 1) cap)) B n f :=
  (hm.grownBy hgr (fun e => (h.pr B hB).2.1 k hk e.symm)).grx (GrX.setCell (GrX.refl FB W1) rfl _) (Ne.symm (h.pr B hB).2.2.2)
/-- A triangle has been appended. -/
theorem St.tri {g cap : Nat} {t : Ba.Tri} (h : St w base FB BS W V l sv ts) (ho : W1.ownsRow base 171 6 (.slice (some ⟨g, 0, none⟩) (ts.length + 1) cap) (ts.length + 1) (ft ts ++ [.int .i64 t.x0, .int .i64 t.y0, .int .i64 t.x1, .int .i64 t.y1, .int .i64 t.x2, .int .i64 t.y2])) (hgr : W.grownBy W1 sv.ownBlock) (hat : sv.ownBlock = some g ∨ g = W.heap.size) :
    St w base FB BS W1 V l (.slice (some ⟨g, 0, none⟩) (ts.length + 1) cap) (ts ++ [t]) := by
  have hB := own_below h.snd hgr h.hb
  refine ⟨⟨fun k hk => (h.fnd.cel k hk).below hB h.hF.2, h.fnd.fam.kept hgr (fun k hk => h.ap k hk)⟩, ?_, ?_, ?_, ?_, ?_, h.hF⟩
  · rw [ft_app, List.length_append]; exact ho
  · intro k hk
    exact apt_new (h.fnd.row hk) (h.ap k hk) hat
  · intro B hB'
    obtain ⟨p1, p2, p3, p4⟩ := h.pr B hB'
    refine ⟨Nat.lt_of_lt_of_le p1 hgr.size, p2, fun e => ?_, p4⟩
    have e3 : g = B := by simpa [Value.ownBlock] using e
    rcases hat with q | q
    · exact p3 (by rw [q, e3])
    · omega
  · exact Gr.own h.g (by have := h.hF; omega) h.snd hgr
  · exact Nat.le_trans h.hb hgr.size
theorem St.tri_cell {B o : Nat} {v : Value} (h : St w base FB BS W V l sv ts) (hgr : W.grownBy W1 sv.ownBlock) (hB : BS B ∨ B < base) (hc : W.cell? ⟨B, o, none⟩ = some v) : W1.cell? ⟨B, o, none⟩ = some v := by
  refine World.grownBy.cell hgr (a := ⟨B, o, none⟩) hc ?_
  rcases hB with h1 | h1
  · exact fun e => (h.pr B h1).2.2.1 e.symm
  · exact fun e => own_ne h.snd h1 e.symm
theorem St.tri_map {P : Program} {t : TypeId} {B n : Nat} {f : Value → Option Value} (h : St w base FB BS W V l sv ts) (hgr : W.grownBy W1 sv.ownBlock) (hB : BS B) (hm : MapIs P t W B n f) : MapIs P t W1 B n f :=
  hm.grownBy hgr (fun e => (h.pr B hB).2.2.1 e.symm)
end
end Go.Proofs.YtajhhplgcegodaaGreatDoor
namespace Go.Proofs.YtajhhplgcegodaaGreatDoor
open Go.RowKit
namespace Ms
/-- Findings as cells. -/
def ff : List (Nat × Nat) → List Value
  | [] => []
  | x :: l => [.int .i64 (x.1 : Int), .string ⟨(Lib.decDigits x.2).toArray⟩] ++ ff l
/-- The points that are taken. -/
def atP (m : Mesh) (i : Nat) (key : Value) : Prop := ∃ j, j < i ∧ spB (m.S.D j) = true ∧ k2 (m.S.D j).x (m.S.D j).y = key
/-- The sides that are taken: those of the sound faces below i, and the first q of face i. -/
def tkP (m : Mesh) (i q : Nat) (key : Value) : Prop := (∃ j, j < i ∧ sndB m (m.F.D j) = true ∧ ∃ k, k < 3 ∧ k2 (cor (m.F.D j) k) (cor (m.F.D j) (k + 1)) = key) ∨ ∃ k, k < q ∧ k2 (cor (m.F.D i) k) (cor (m.F.D i) (k + 1)) = key
open Classical in
noncomputable def setF (P : Value → Prop) (key : Value) : Option Value := if P key then some (.bool true) else none
theorem setF_yes {P : Value → Prop} {key : Value} (h : P key) : setF P key = some (.bool true) := by unfold setF; rw [if_pos h]
theorem setF_no {P : Value → Prop} {key : Value} (h : ¬ P key) : setF P key = none := by unfold setF; rw [if_neg h]
theorem setF_of {P : Value → Prop} {key : Value} {b : Bool} (h : b = true ↔ P key) : (setF P key).getD (.bool false) = .bool b := by
  cases b
  · rw [setF_no (fun q => by cases h.2 q)]; rfl
  · rw [setF_yes (h.1 rfl)]; rfl
theorem setF_nil : (fun _ => none) = setF fun _ => False := funext fun _ => (setF_no (fun h => h)).symm
theorem setF_congr {P Q : Value → Prop} (h : ∀ x, P x ↔ Q x) : setF P = setF Q := by rw [show P = Q from funext fun x => propext (h x)]
/-- The set with one more. -/
theorem setF_add {P : Value → Prop} (key : Value) : (setF fun x => P x ∨ x = key) key = some (.bool true) ∧ ∀ x, x ≠ key → (setF fun x => P x ∨ x = key) x = setF P x := by
  refine ⟨setF_yes (Or.inr rfl), fun x hx => ?_⟩
  by_cases h : P x
  · rw [setF_yes h, setF_yes (Or.inl h)]
  · rw [setF_no h, setF_no (fun q => q.elim h hx)]
/-- The findings so far: the first i spots and the first j faces have been looked at. -/
def lst (m : Mesh) (i j k : Nat) : List Nat := idx (kd m k) (if k ≤ 2 then i else j)
theorem lst_s (m : Mesh) (i j k : Nat) (hk : k ≤ 2) : lst m (i + 1) j k = if kd m k i then lst m i j k ++ [i] else lst m i j k := by
  unfold lst; rw [if_pos hk, if_pos hk, idx]
theorem lst_f (m : Mesh) (i j k : Nat) (hk : ¬ k ≤ 2) : lst m i (j + 1) k = if kd m k j then lst m i j k ++ [j] else lst m i j k := by
  unfold lst; rw [if_neg hk, if_neg hk, idx]
theorem lst_so (m : Mesh) (i j k : Nat) (hk : ¬ k ≤ 2) : lst m (i + 1) j k = lst m i j k := by unfold lst; rw [if_neg hk, if_neg hk]
theorem lst_fo (m : Mesh) (i j k : Nat) (hk : k ≤ 2) : lst m i (j + 1) k = lst m i j k := by unfold lst; rw [if_pos hk, if_pos hk]
theorem lst_push {m : Mesh} {i j k : Nat} (hk : k ≤ 2) (h : kd m k i = true) (ho : ∀ q, q ≤ 2 → q ≠ k → kd m q i = false) (q : Nat) : lst m (i + 1) j q = upd (lst m i j) k (lst m i j k ++ [i]) q := by
  by_cases e : q = k
  · subst e; rw [upd_same, lst_s m i j q hk, h]; rfl
  · rw [upd_ne _ _ e]
    by_cases e2 : q ≤ 2
    · rw [lst_s m i j q e2, ho q e2 e]; rfl
    · exact lst_so m i j q e2
theorem lst_stay {m : Mesh} {i j : Nat} (ho : ∀ q, q ≤ 2 → kd m q i = false) (q : Nat) : lst m (i + 1) j q = lst m i j q := by
  by_cases e2 : q ≤ 2
  · rw [lst_s m i j q e2, ho q e2]; rfl
  · exact lst_so m i j q e2
theorem kd12 {m : Mesh} {i : Nat} {b1 b2 : Bool} (h1 : kd m 1 i = b1) (h2 : kd m 2 i = b2) : ∀ q, q ≤ 2 → kd m q i = (if q = 1 then b1 else if q = 2 then b2 else false) := by
  intro q hq
  match q, hq with
  | 0, _ => rfl
  | 1, _ => exact h1
  | 2, _ => exact h2
theorem atP_iff (m : Mesh) (i : Nat) (x y : Int) : Ba.any (fun j => spB (m.S.D j) && ((m.S.D j).x == x && (m.S.D j).y == y)) i = true ↔ atP m i (k2 x y) := by
  rw [any_iff]
  constructor
  · rintro ⟨j, hj, h⟩
    simp only [Bool.and_eq_true, beq_iff_eq] at h
    exact ⟨j, hj, h.1, by rw [h.2.1, h.2.2]⟩
  · rintro ⟨j, hj, h1, h2⟩
    obtain ⟨a, b⟩ := k2_inj h2
    exact ⟨j, hj, by simp [h1, a, b]⟩
theorem atP_far {m : Mesh} {i : Nat} (h : spB (m.S.D i) = false) : setF (atP m (i + 1)) = setF (atP m i) := setF_congr fun x => by
  constructor
  · rintro ⟨j, hj, a, b⟩
    by_cases e : j = i
    · subst e; rw [h] at a; cases a
    · exact ⟨j, by omega, a, b⟩
  · rintro ⟨j, hj, a, b⟩; exact ⟨j, by omega, a, b⟩
theorem atP_near {m : Mesh} {i : Nat} (h : spB (m.S.D i) = true) : setF (atP m (i + 1)) = setF fun x => atP m i x ∨ x = k2 (m.S.D i).x (m.S.D i).y := setF_congr fun x => by
  constructor
  · rintro ⟨j, hj, a, b⟩
    by_cases e : j = i
    · subst e; exact Or.inr b.symm
    · exact Or.inl ⟨j, by omega, a, b⟩
  · rintro (⟨j, hj, a, b⟩ | rfl)
    · exact ⟨j, by omega, a, b⟩
    · exact ⟨i, by omega, h, rfl⟩
theorem atP_nil (m : Mesh) : (fun _ => none) = setF (atP m 0) := by
  rw [setF_nil]; exact setF_congr fun x => ⟨fun h => h.elim, fun ⟨j, hj, _⟩ => absurd hj (by omega)⟩
/-- The triangles of the sound faces below j. -/
def snl (m : Mesh) (j : Nat) : List Tri := (idx (fun i => sndB m (m.F.D i)) j).map fun i => tri m (m.F.D i)
theorem snl_yes {m : Mesh} {j : Nat} (h : sndB m (m.F.D j) = true) : snl m (j + 1) = snl m j ++ [tri m (m.F.D j)] := by unfold snl; rw [idx_yes h, List.map_append]; rfl
theorem snl_no {m : Mesh} {j : Nat} (h : sndB m (m.F.D j) = false) : snl m (j + 1) = snl m j := by unfold snl; rw [idx_no h]
theorem snl_len (m : Mesh) (j : Nat) : (snl m j).length ≤ j := by unfold snl; rw [List.length_map]; exact idx_le _ _
theorem snl_ok (m : Mesh) (j : Nat) : ∀ t ∈ snl m j, tOk t := by
  intro t ht
  unfold snl at ht
  obtain ⟨i, hi, rfl⟩ := List.mem_map.1 ht
  have h := (idx_mem.1 hi).2
  unfold sndB at h
  rw [Bool.and_eq_true] at h
  exact tri_ok h.1
theorem snl_any {m : Mesh} {j : Nat} (P : Tri → Bool) (D : Nat → Tri) (hD : ∀ q, q < (snl m j).length → (snl m j)[q]? = some (D q)) : Ba.any (fun q => P (D q)) (snl m j).length = Ba.any (fun i => sndB m (m.F.D i) && P (tri m (m.F.D i))) j := by
  rw [Bool.eq_iff_iff, any_iff, any_iff]
  constructor
  · rintro ⟨q, hq, h⟩
    have hm := List.mem_of_getElem? (hD q hq)
    obtain ⟨i, hi, e⟩ := List.mem_map.1 hm
    obtain ⟨h1, h2⟩ := idx_mem.1 hi
    exact ⟨i, h1, by rw [e, h, h2]; rfl⟩
  · rintro ⟨i, hi, h⟩
    rw [Bool.and_eq_true] at h
    have hm : tri m (m.F.D i) ∈ snl m j := List.mem_map.2 ⟨i, idx_mem.2 ⟨hi, h.1⟩, rfl⟩
    obtain ⟨q, hq, e⟩ := List.getElem_of_mem hm
    have := hD q hq
    rw [List.getElem?_eq_getElem hq] at this
    have e2 : D q = tri m (m.F.D i) := by rw [← e]; simpa using this.symm
    exact ⟨q, hq, by rw [e2]; exact h.2⟩
theorem tk_iff (m : Mesh) (j q : Nat) : Ba.any (fun i => sndB m (m.F.D i) && Ba.any (fun k => sdB (m.F.D j) (m.F.D i) q k) 3) j = true ↔ tkP m j 0 (k2 (cor (m.F.D j) q) (cor (m.F.D j) (q + 1))) := by
  rw [any_iff]
  constructor
  · rintro ⟨i, hi, h⟩
    rw [Bool.and_eq_true, any_iff] at h
    obtain ⟨h1, k, hk, h2⟩ := h
    unfold sdB at h2
    simp only [Bool.and_eq_true, beq_iff_eq] at h2
    exact Or.inl ⟨i, hi, h1, k, hk, by rw [h2.1, h2.2]⟩
  · rintro (⟨i, hi, h1, k, hk, e⟩ | ⟨k, hk, _⟩)
    · obtain ⟨a, b⟩ := k2_inj e
      refine ⟨i, hi, ?_⟩
      rw [Bool.and_eq_true, any_iff]
      exact ⟨h1, k, hk, by unfold sdB; rw [a, b]; simp⟩
    · omega
theorem any3 (p : Nat → Bool) : Ba.any p 3 = (p 0 || (p 1 || p 2)) := by
  rw [any_succ, any_succ, any_succ]
  show (((false || _) || _) || _) = _
  rw [Bool.false_or, Bool.or_assoc]
theorem tk_all (m : Mesh) (j : Nat) : Ba.any (fun q => Ba.any (fun i => sndB m (m.F.D i) && Ba.any (fun k => sdB (m.F.D j) (m.F.D i) q k) 3) j) 3 = Ba.any (fun i => sndB m (m.F.D i) && ssB (m.F.D j) (m.F.D i)) j := by
  rw [Bool.eq_iff_iff, any_iff, any_iff]
  constructor
  · rintro ⟨q, hq, h⟩
    obtain ⟨i, hi, h⟩ := (any_iff _ _).1 h
    rw [Bool.and_eq_true] at h
    exact ⟨i, hi, by rw [Bool.and_eq_true]; exact ⟨h.1, (any_iff _ _).2 ⟨q, hq, h.2⟩⟩⟩
  · rintro ⟨i, hi, h⟩
    rw [Bool.and_eq_true] at h
    obtain ⟨q, hq, h2⟩ := (any_iff _ _).1 h.2
    exact ⟨q, hq, (any_iff _ _).2 ⟨i, hi, by rw [Bool.and_eq_true]; exact ⟨h.1, h2⟩⟩⟩
theorem tkP_step (m : Mesh) (j q : Nat) : setF (tkP m j (q + 1)) = setF fun x => tkP m j q x ∨ x = k2 (cor (m.F.D j) q) (cor (m.F.D j) (q + 1)) := setF_congr fun x => by
  constructor
  · rintro (h | ⟨k, hk, e⟩)
    · exact Or.inl (Or.inl h)
    · by_cases e2 : k = q
      · subst e2; exact Or.inr e.symm
      · exact Or.inl (Or.inr ⟨k, by omega, e⟩)
  · rintro ((h | ⟨k, hk, e⟩) | rfl)
    · exact Or.inl h
    · exact Or.inr ⟨k, by omega, e⟩
    · exact Or.inr ⟨q, by omega, rfl⟩
theorem tkP_next {m : Mesh} {j : Nat} (h : sndB m (m.F.D j) = true) : setF (tkP m (j + 1) 0) = setF (tkP m j 3) := setF_congr fun x => by
  constructor
  · rintro (⟨i, hi, a, b⟩ | ⟨k, hk, _⟩)
    · by_cases e : i = j
      · subst e; exact Or.inr b
      · exact Or.inl ⟨i, by omega, a, b⟩
    · omega
  · rintro (⟨i, hi, a, b⟩ | h3)
    · exact Or.inl ⟨i, by omega, a, b⟩
    · exact Or.inl ⟨j, by omega, h, h3⟩
theorem tkP_skip {m : Mesh} {j : Nat} (h : sndB m (m.F.D j) = false) : setF (tkP m (j + 1) 0) = setF (tkP m j 0) := setF_congr fun x => by
  constructor
  · rintro (⟨i, hi, a, b⟩ | ⟨k, hk, _⟩)
    · by_cases e : i = j
      · subst e; rw [h] at a; cases a
      · exact Or.inl ⟨i, by omega, a, b⟩
    · omega
  · rintro (⟨i, hi, a, b⟩ | ⟨k, hk, _⟩)
    · exact Or.inl ⟨i, by omega, a, b⟩
    · omega
theorem tkP_nil (m : Mesh) : (fun _ => none) = setF (tkP m 0 0) := by
  rw [setF_nil]
  refine setF_congr fun x => ⟨fun h => h.elim, ?_⟩
  rintro (⟨j, hj, _⟩ | ⟨k, hk, _⟩) <;> omega
theorem lst_one {m : Mesh} {i j k : Nat} (hk : ¬ k ≤ 2) (h : kd m k j = true) (ho : ∀ q, 3 ≤ q → q < 7 → q ≠ k → kd m q j = false) (q : Nat) (hq : q < 7) : lst m i (j + 1) q = upd (lst m i j) k (lst m i j k ++ [j]) q := by
  by_cases e : q = k
  · subst e; rw [upd_same, lst_f m i j q hk, h]; rfl
  · rw [upd_ne _ _ e]
    by_cases e2 : q ≤ 2
    · exact lst_fo m i j q e2
    · rw [lst_f m i j q e2, ho q (by omega) hq e]; rfl
def l5 (l : Nat → List Nat) (j : Nat) (b : Bool) : Nat → List Nat := if b then upd l 5 (l 5 ++ [j]) else l
def l6 (l : Nat → List Nat) (j : Nat) (b : Bool) : Nat → List Nat := if b then upd l 6 (l 6 ++ [j]) else l
theorem lst_two {m : Mesh} {i j : Nat} {b5 b6 : Bool} (h3 : kd m 3 j = false) (h4 : kd m 4 j = false) (h5 : kd m 5 j = b5) (h6 : kd m 6 j = b6) (q : Nat) (hq : q < 7) : lst m i (j + 1) q = l6 (l5 (lst m i j) j b5) j b6 q := by
  by_cases e2 : q ≤ 2
  · rw [lst_fo m i j q e2]
    unfold l6 l5
    cases b5 <;> cases b6 <;> simp only [if_true, if_false, Bool.false_eq_true] <;> (repeat rw [upd_ne _ _ (by omega)])
  · rw [lst_f m i j q e2]
    have hq' : q = 3 ∨ q = 4 ∨ q = 5 ∨ q = 6 := by omega
    unfold l6 l5
    rcases hq' with rfl | rfl | rfl | rfl
    · rw [h3]; cases b5 <;> cases b6 <;> rfl
    · rw [h4]; cases b5 <;> cases b6 <;> rfl
    · rw [h5]; cases b5 <;> cases b6 <;> rfl
    · rw [h6]; cases b5 <;> cases b6 <;> rfl
theorem ff_app : ∀ (l : List (Nat × Nat)) (x : Nat × Nat), ff (l ++ [x]) = ff l ++ [.int .i64 (x.1 : Int), .string ⟨(Lib.decDigits x.2).toArray⟩]
  | [], x => by simp [ff]
  | a :: l, x => by rw [List.cons_append, ff, ff, ff_app l x]; simp
theorem ff_len : ∀ l : List (Nat × Nat), (ff l).length = l.length * 2
  | [] => rfl
  | t :: l => by rw [ff, List.length_append, ff_len l, List.length_cons]; simp; omega
/-- The findings of the kinds below k, and the first q of kind k. -/
def fnq (m : Mesh) (k q : Nat) : List (Nat × Nat) := fnd m k ++ ((idx (kd m k) (num m k)).take q).map fun i => (k, i)
theorem fnq_zero (m : Mesh) (k : Nat) : fnq m k 0 = fnd m k := by unfold fnq; simp
theorem fnq_succ {m : Mesh} {k q i : Nat} (h : (idx (kd m k) (num m k))[q]? = some i) : fnq m k (q + 1) = fnq m k q ++ [(k, i)] := by
  unfold fnq
  rw [List.take_add_one, h, List.map_append, List.append_assoc]
  rfl
theorem fnq_all (m : Mesh) (k : Nat) : fnq m k (idx (kd m k) (num m k)).length = fnd m (k + 1) := by
  unfold fnq; rw [List.take_length]; rfl
theorem fnd_le (m : Mesh) (h1 : m.S.n ≤ 61) (h2 : m.F.n ≤ 61) : ∀ k, (fnd m k).length ≤ k * 61
  | 0 => by simp [fnd]
  | k + 1 => by
    have := fnd_le m h1 h2 k
    have hx := idx_le (kd m k) (num m k)
    have hn : num m k ≤ 61 := by unfold num; split <;> omega
    rw [fnd, List.length_append, List.length_map]; omega
theorem fnq_le (m : Mesh) (h1 : m.S.n ≤ 61) (h2 : m.F.n ≤ 61) (k q : Nat) : (fnq m k q).length ≤ k * 61 + 61 := by
  have := fnd_le m h1 h2 k
  have hx := idx_le (kd m k) (num m k)
  have hn : num m k ≤ 61 := by unfold num; split <;> omega
  unfold fnq
  rw [List.length_append, List.length_map, List.length_take]; omega
theorem fcB_not (m : Mesh) (f : Ba.Face) : (!fcB m f) = (Ba.any (fun q => !inR m (cor f q)) 3 || ((f.a == f.b) || ((f.b == f.c) || ((f.c == f.a) || (decide (f.k < 0) || decide (16 ≤ f.k)))))) := by
  rw [any3]
  show (!(inR m f.a && (inR m f.b && (inR m f.c && (!(f.a == f.b) && (!(f.b == f.c) && (!(f.c == f.a) && bt f.k 0 15))))))) = ((!inR m f.a || (!inR m f.b || !inR m f.c)) || _)
  have e : bt f.k 0 15 = (!decide (f.k < 0) && !decide (16 ≤ f.k)) := by
    unfold bt
    rw [Bool.eq_iff_iff]
    simp
    omega
  rw [e]
  cases inR m f.a <;> cases inR m f.b <;> cases inR m f.c <;> cases (f.a == f.b) <;> cases (f.b == f.c) <;> cases (f.c == f.a) <;> cases decide (f.k < 0) <;> cases decide (16 ≤ f.k) <;> rfl
end Ms
end Go.Proofs.YtajhhplgcegodaaGreatDoor
