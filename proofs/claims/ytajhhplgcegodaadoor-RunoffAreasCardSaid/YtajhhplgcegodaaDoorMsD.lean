/-
  Memory: families of rows that a call owns, apart; rows of triangles and of findings. No condition.
-/
import Derived.Test.YtajhhplgcegodaaDoorMsPlain
import Derived.Test.YtajhhplgcegodaaDoorGA2
import Derived.Test.YtajhhplgcegodaaDoorGA1
import Derived.Deep.AppendLies
set_option linter.unusedVariables false
set_option linter.unusedSimpArgs false
namespace Go.Proofs.YtajhhplgcegodaaDoor
open Go.RowKit
/-- Two slices do not lie in one block. -/
def Apt (x y : Value) : Prop := x.ownBlock = none ∨ x.ownBlock ≠ y.ownBlock
theorem Apt.symm {x y : Value} (h : Apt x y) : Apt y x := by
  unfold Apt at *
  by_cases e : y.ownBlock = none
  · exact .inl e
  · rcases h with h | h
    · exact .inr (by rw [h]; exact e)
    · exact .inr (Ne.symm h)
theorem apt_new {w : World} {B n m g cap E S : Nat} {a b : Value} {ys : List Value} (hb : w.ownsRow B E S b n ys) (h : Apt b a) (hat : a.ownBlock = some g ∨ g = w.heap.size) : Apt b (.slice (some ⟨g, 0, none⟩) m cap) := by
  rcases h with h | h
  · exact .inl h
  · right
    rcases hat with e | e
    · rw [e] at h; exact h
    · intro e2
      have := (hb.lt g (by rw [e2]; rfl)).2
      omega
theorem Own.below {B : Nat} {w w' : World} {b o : Nat} {v : Value} (h : Own w b o v) (hg : Below B w w') (hb : b < B) : Own w' b o v :=
  ⟨(Below.cell hg (p := ⟨b, o, none⟩) hb).trans h.1, (Below.frozen hg (p := ⟨b, o, none⟩) hb).trans h.2⟩
theorem Row.below {B : Nat} {w w' : World} {g n : Nat} {X : Nat → Value} (h : Row w g n X) (hg : Below B w w') (hb : 0 < n → g < B) : Row w' g n X := fun j hj => (h j hj).below hg (hb (by omega))
theorem Row.grx {M : Nat} {w w' : World} {g n : Nat} {X : Nat → Value} (h : Row w g n X) (hg : GrX M w w') (hb : 0 < n → g ≠ M) : Row w' g n X := fun j hj => (h j hj).grx hg (hb (by omega))
theorem MapIs.below {P : Program} {k : TypeId} {B : Nat} {w w' : World} {b n : Nat} {f : Value → Option Value} (h : MapIs P k w b n f) (g : Below B w w') (hb : b < B) : MapIs P k w' b n f := by
  obtain ⟨es, clock, h1, r⟩ := h
  exact ⟨es, clock, (Below.block g b hb).trans h1, r⟩
theorem ownsRow_grx {M : Nat} {w w' : World} {base e size n : Nat} {v : Value} {xs : List Value} (h : w.ownsRow base e size v n xs) (hg : GrX M w w') (hb : v.ownBlock ≠ some M) : w'.ownsRow base e size v n xs := by
  obtain ⟨hl, h | ⟨g, cap, cur, hv, hb', hc, r⟩⟩ := h
  · exact ⟨hl, Or.inl h⟩
  · refine ⟨hl, Or.inr ⟨g, cap, cur, hv, hb', ?_, r⟩⟩
    have hlt : g < w.heap.size := (Array.getElem?_eq_some_iff.1 hc).1
    rw [hg.block g hlt (fun e => hb (by rw [hv, e]; rfl))]; exact hc
theorem own_below {w w' : World} {base e size n : Nat} {v : Value} {xs : List Value} (ho : w.ownsRow base e size v n xs) (hgr : w.grownBy w' v.ownBlock) (hb : base ≤ w.heap.size) : Below base w w' :=
  Below.grown (Below.refl _ _) hgr hb fun k hk => (ho.lt k hk).1
theorem grown_gr {w w' : World} (h : w.grownBy w' none) : Gr w w' := ⟨h.os, h.tape, h.output, h.size, fun k hk => h.block k hk (by simp)⟩
theorem map_made {P : Program} {k : TypeId} {w : World} {b : Nat} (h : b = w.heap.size) : MapIs P k (w.alloc (.map #[] 0)) b 0 (fun _ => none) := h ▸ MapIs.made P k w
theorem own_ne {w : World} {base e size n M : Nat} {v : Value} {xs : List Value} (ho : w.ownsRow base e size v n xs) (hM : M < base) : v.ownBlock ≠ some M := fun e => by have := (ho.lt M e).1; omega
theorem own_fresh {w : World} {base e size n M : Nat} {v : Value} {xs : List Value} (ho : w.ownsRow base e size v n xs) (hM : w.heap.size ≤ M) : some M ≠ v.ownBlock := fun e => by have := (ho.lt M e.symm).2; omega
theorem ownsRow_base {w : World} {base base' e size n : Nat} {v : Value} {xs : List Value} (ho : w.ownsRow base e size v n xs) (hb : base' ≤ base) : w.ownsRow base' e size v n xs := by
  obtain ⟨hl, h | ⟨g, cap, cur, hv, hg, r⟩⟩ := ho
  · exact ⟨hl, Or.inl h⟩
  · exact ⟨hl, Or.inr ⟨g, cap, cur, hv, Nat.le_trans hb hg, r⟩⟩
/-- A function turned at one number. -/
def upd {α : Type} (f : Nat → α) (k : Nat) (x : α) (j : Nat) : α := if j = k then x else f j
theorem upd_same {α : Type} (f : Nat → α) (k : Nat) (x : α) : upd f k x k = x := by unfold upd; rw [if_pos rfl]
theorem upd_ne {α : Type} (f : Nat → α) {k j : Nat} (x : α) (h : j ≠ k) : upd f k x j = f j := by unfold upd; rw [if_neg h]
/-- A family of rows that a call owns, apart. -/
structure Fam (w : World) (base E size K : Nat) (V : Nat → Value) (N : Nat → Nat) (L : Nat → List Value) : Prop where
  own : ∀ k, k < K → w.ownsRow base E size (V k) (N k) (L k)
  apt : ∀ j k, j < K → k < K → j ≠ k → Apt (V j) (V k)
section
variable {w w1 : World} {base E size K : Nat} {V : Nat → Value} {N : Nat → Nat} {L : Nat → List Value}
theorem Fam.nil : Fam w base E size K (fun _ => .slice none 0 0) (fun _ => 0) (fun _ => []) := ⟨fun _ _ => World.ownsRow_nil _ _ _ _, fun _ _ _ _ _ => .inl rfl⟩
theorem Fam.gr (h : Fam w base E size K V N L) (hg : Gr w w1) : Fam w1 base E size K V N L := ⟨fun k hk => ownsRow_gr (h.own k hk) hg, h.apt⟩
theorem Fam.grx {M : Nat} (h : Fam w base E size K V N L) (hg : GrX M w w1) (hM : M < base) : Fam w1 base E size K V N L := ⟨fun k hk => ownsRow_grx (h.own k hk) hg (own_ne (h.own k hk) hM), h.apt⟩
/-- A block that none of them is turns. -/
theorem Fam.kept {row : Option Nat} (h : Fam w base E size K V N L) (hg : w.grownBy w1 row) (hr : ∀ k, k < K → (V k).ownBlock = none ∨ (V k).ownBlock ≠ row) : Fam w1 base E size K V N L := ⟨fun k hk => (h.own k hk).kept hg (hr k hk), h.apt⟩
theorem Fam.app {k g cap n' : Nat} {xs : List Value} (h : Fam w base E size K V N L) (hk : k < K) (ho : w1.ownsRow base E size (.slice (some ⟨g, 0, none⟩) n' cap) n' xs) (hgr : w.grownBy w1 (V k).ownBlock) (hat : (V k).ownBlock = some g ∨ g = w.heap.size) :
    Fam w1 base E size K (upd V k (.slice (some ⟨g, 0, none⟩) n' cap)) (upd N k n') (upd L k xs) := by
  refine ⟨fun j hj => ?_, fun i j hi hj hij => ?_⟩
  · by_cases e : j = k
    · subst e; rw [upd_same, upd_same, upd_same]; exact ho
    · rw [upd_ne _ _ e, upd_ne _ _ e, upd_ne _ _ e]
      exact (h.own j hj).kept hgr (h.apt j k hj hk e)
  · by_cases e : i = k
    · subst e
      rw [upd_same, upd_ne _ _ (Ne.symm hij)]
      exact (apt_new (h.own j hj) (h.apt j i hj hk (Ne.symm hij)) hat).symm
    · rw [upd_ne _ _ e]
      by_cases e2 : j = k
      · subst e2; rw [upd_same]; exact apt_new (h.own i hi) (h.apt i j hi hk hij) hat
      · rw [upd_ne _ _ e2]; exact h.apt i j hi hj hij
theorem Fam.as {N' : Nat → Nat} {L' : Nat → List Value} (h : Fam w base E size K V N L) (hN : ∀ k, k < K → N' k = N k) (hL : ∀ k, k < K → L' k = L k) : Fam w base E size K V N' L' := ⟨fun k hk => by rw [hN k hk, hL k hk]; exact h.own k hk, h.apt⟩
end
/-- A family of rows of ints whose slices lie in one block of their own. -/
structure Fnd (w : World) (base FB K : Nat) (V : Nat → Value) (l : Nat → List Nat) : Prop where
  cel : ∀ k, k < K → Own w FB k (V k)
  fam : Fam w base 3 1 K V (fun k => (l k).length) (fun k => (l k).map fun (i : Nat) => Value.int .i64 (i : Int))
/-- Numbers as cells. -/
def fi (l : List Nat) : List Value := l.map fun (i : Nat) => Value.int .i64 (i : Int)
theorem fi_len (l : List Nat) : (fi l).length = l.length := by unfold fi; rw [List.length_map]
theorem fi_app (l : List Nat) (i : Nat) : fi (l ++ [i]) = fi l ++ [.int .i64 (i : Int)] := by unfold fi; rw [List.map_append]; rfl
theorem fi_get {l : List Nat} {j i : Nat} (h : l[j]? = some i) : (fi l)[j]? = some (.int .i64 (i : Int)) := by unfold fi; rw [List.getElem?_map, h]; rfl
section
variable {w w1 : World} {base FB K : Nat} {V : Nat → Value} {l l' : Nat → List Nat}
theorem Fnd.gr (h : Fnd w base FB K V l) (hg : Gr w w1) : Fnd w1 base FB K V l := ⟨fun k hk => (h.cel k hk).gr hg, h.fam.gr hg⟩
theorem Fnd.grx {M : Nat} (h : Fnd w base FB K V l) (hg : GrX M w w1) (h1 : FB ≠ M) (h2 : M < base) : Fnd w1 base FB K V l := ⟨fun k hk => (h.cel k hk).grx hg h1, h.fam.grx hg h2⟩
theorem Fnd.as (h : Fnd w base FB K V l) (e : ∀ k, k < K → l' k = l k) : Fnd w base FB K V l' := ⟨h.cel, h.fam.as (fun k hk => by rw [e k hk]) (fun k hk => by rw [e k hk])⟩
theorem Fnd.row (h : Fnd w base FB K V l) {k : Nat} (hk : k < K) : w.ownsRow base 3 1 (V k) (l k).length (fi (l k)) := h.fam.own k hk
/-- One of the rows has got one number more, and its slice has been stored. -/
theorem Fnd.push {k g cap i : Nat} (h : Fnd w base FB K V l) (hk : k < K) (hF : FB < base) (hb : base ≤ w.heap.size) (ho : w1.ownsRow base 3 1 (.slice (some ⟨g, 0, none⟩) ((l k).length + 1) cap) ((l k).length + 1) (fi (l k) ++ [.int .i64 (i : Int)])) (hgr : w.grownBy w1 (V k).ownBlock) (hat : (V k).ownBlock = some g ∨ g = w.heap.size)
    (he : ∀ j, j < K → l' j = upd l k (l k ++ [i]) j) : Fnd (w1.setCell ⟨FB, k, none⟩ (.slice (some ⟨g, 0, none⟩) ((l k).length + 1) cap)) base FB K (upd V k (.slice (some ⟨g, 0, none⟩) ((l k).length + 1) cap)) l' := by
  have hB := own_below (h.row hk) hgr hb
  have hc : ∀ j, j < K → Own w1 FB j (V j) := fun j hj => (h.cel j hj).below hB hF
  have hfm := (h.fam.app hk ho hgr hat).grx (M := FB) (w1 := w1.setCell ⟨FB, k, none⟩ (.slice (some ⟨g, 0, none⟩) ((l k).length + 1) cap)) (GrX.setCell (GrX.refl FB w1) rfl _) hF
  refine ⟨fun j hj => ?_, hfm.as (fun j hj => ?_) (fun j hj => ?_)⟩
  · by_cases e : j = k
    · subst e; rw [upd_same]; exact (hc j hj).set
    · rw [upd_ne _ _ e]; exact (hc j hj).other (Or.inr e)
  · rw [he j hj]
    by_cases e : j = k
    · subst e; rw [upd_same, upd_same, List.length_append]; rfl
    · rw [upd_ne _ _ e, upd_ne _ _ e]
  · rw [he j hj]
    by_cases e : j = k
    · subst e; rw [upd_same, upd_same]; exact fi_app _ _
    · rw [upd_ne _ _ e, upd_ne _ _ e]
end
/-- Triangles as cells. -/
def ft : List Ba.Tri → List Value
  | [] => []
  | t :: l => [.int .i64 t.x0, .int .i64 t.y0, .int .i64 t.x1, .int .i64 t.y1, .int .i64 t.x2, .int .i64 t.y2] ++ ft l
theorem ft_app : ∀ (l : List Ba.Tri) (t : Ba.Tri), ft (l ++ [t]) = ft l ++ [.int .i64 t.x0, .int .i64 t.y0, .int .i64 t.x1, .int .i64 t.y1, .int .i64 t.x2, .int .i64 t.y2]
  | [], t => by simp [ft]
  | a :: l, t => by rw [List.cons_append, ft, ft, ft_app l t]; simp
theorem ft_len : ∀ l : List Ba.Tri, (ft l).length = l.length * 6
  | [] => rfl
  | t :: l => by rw [ft, List.length_append, ft_len l, List.length_cons]; simp; omega
theorem ft_get : ∀ {l : List Ba.Tri} {j : Nat} {t : Ba.Tri}, l[j]? = some t → (ft l)[j * 6]? = some (.int .i64 t.x0) ∧ (ft l)[j * 6 + 1]? = some (.int .i64 t.y0) ∧ (ft l)[j * 6 + 2]? = some (.int .i64 t.x1) ∧ (ft l)[j * 6 + 3]? = some (.int .i64 t.y1) ∧ (ft l)[j * 6 + 4]? = some (.int .i64 t.x2) ∧ (ft l)[j * 6 + 5]? = some (.int .i64 t.y2)
  | [], j, t, h => by simp at h
  | a :: l, 0, t, h => by
    simp only [List.getElem?_cons_zero, Option.some.injEq] at h
    subst h
    exact ⟨rfl, rfl, rfl, rfl, rfl, rfl⟩
  | a :: l, j + 1, t, h => by
    rw [List.getElem?_cons_succ] at h
    obtain ⟨h0, h1, h2, h3, h4, h5⟩ := ft_get h
    rw [ft]
    have hl : ∀ (q : Nat) (x : Value), (ft l)[j * 6 + q]? = some x → ([Value.int .i64 a.x0, .int .i64 a.y0, .int .i64 a.x1, .int .i64 a.y1, .int .i64 a.x2, .int .i64 a.y2] ++ ft l)[(j + 1) * 6 + q]? = some x := fun q x hx => by
      rw [List.getElem?_append_right (by simp; omega)]
      rw [show (j + 1) * 6 + q - [Value.int .i64 a.x0, .int .i64 a.y0, .int .i64 a.x1, .int .i64 a.y1, .int .i64 a.x2, .int .i64 a.y2].length = j * 6 + q by simp; omega]
      exact hx
    exact ⟨hl 0 _ h0, hl 1 _ h1, hl 2 _ h2, hl 3 _ h3, hl 4 _ h4, hl 5 _ h5⟩
/-- A slice of triangles that a call owns is a slice of triangles. -/
theorem own_tri {w : World} {base E n : Nat} {v : Value} {l : List Ba.Tri} (h : w.ownsRow base E 6 v n (ft l)) (hl : l.length = n) (hb : ∀ t ∈ l, Ms.tOk t) : ∃ s : Ba.SlTri, v = .slice s.A s.n s.c ∧ s.n = n ∧ s.At w ∧ ∀ j, j < n → l[j]? = some (s.D j) := by
  have h' := h
  obtain ⟨hl', ⟨rfl, he⟩ | ⟨g, cap, cur, rfl, hb', hc, hn, hm, r⟩⟩ := h
  · subst he
    exact ⟨⟨none, 0, 0, 0, 0, fun _ => ⟨0, 0, 0, 0, 0, 0⟩⟩, rfl, rfl, ⟨fun h => absurd h (by simp), Nat.le_refl _, by decide, fun i hi => absurd hi (by simp)⟩, fun j hj => absurd hj (by omega)⟩
  · refine ⟨⟨some ⟨g, 0, none⟩, n, cap, g, 0, fun j => l.getD j ⟨0, 0, 0, 0, 0, 0⟩⟩, rfl, rfl, ⟨fun _ => rfl, hn, by unfold maxLen at hm; exact hm, fun i hi => ?_⟩, fun j hj => ?_⟩
    · have hi' : i < l.length := by rw [hl]; exact hi
      have e : l[i]? = some (l.getD i ⟨0, 0, 0, 0, 0, 0⟩) := by rw [List.getElem?_eq_getElem hi', List.getD, List.getElem?_eq_getElem hi']; rfl
      obtain ⟨t, ht⟩ : ∃ t, l.getD i ⟨0, 0, 0, 0, 0, 0⟩ = t := ⟨_, rfl⟩
      rw [ht] at e
      simp only [ht]
      have ok := hb t (List.mem_of_getElem? e)
      obtain ⟨h0, h1, h2, h3, h4, h5⟩ := ft_get e
      unfold Ms.tOk Ms.cd at ok
      have hin : i < n := hi
      have c : ∀ q, q < 6 → w.cell? ⟨g, i * 6 + q, none⟩ = (ft l)[i * 6 + q]? := fun q hq => h'.cellAt (i * 6 + q) (by omega)
      refine ⟨⟨?_, ?_, ?_, ?_, ?_, ?_⟩, ?_⟩
      · rw [Nat.zero_add]; exact (c 0 (by omega)).trans h0
      · rw [Nat.zero_add]; exact (c 1 (by omega)).trans h1
      · rw [Nat.zero_add]; exact (c 2 (by omega)).trans h2
      · rw [Nat.zero_add]; exact (c 3 (by omega)).trans h3
      · rw [Nat.zero_add]; exact (c 4 (by omega)).trans h4
      · rw [Nat.zero_add]; exact (c 5 (by omega)).trans h5
      · unfold Ba.Tri.Ok Ba.i64
        omega
    · have hj' : j < l.length := by omega
      simp only
      rw [List.getElem?_eq_getElem hj', List.getD, List.getElem?_eq_getElem hj']; rfl
end Go.Proofs.YtajhhplgcegodaaDoor
