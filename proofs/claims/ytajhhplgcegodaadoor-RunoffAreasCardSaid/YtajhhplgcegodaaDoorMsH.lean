/-
  Surfaces, plain: what mesh.Check knows in its loops. No condition.
-/
import Derived.Test.YtajhhplgcegodaaDoorGA3
import Derived.Lib.ItoaNum
set_option linter.unusedVariables false
set_option linter.unusedSimpArgs false
namespace Go.Proofs.YtajhhplgcegodaaDoor
open Go.RowKit
namespace Ms
/-- Findings as cells. -/
def ff : List (Nat × Nat) → List Value
  | [] => []
  | x :: l => [.int .i64 (x.1 : Int), .string ⟨(Lib.decDigits x.2).toArray⟩] ++ ff l
/-- The points that are taken. -/
def atP (m : Mesh) (i : Nat) (key : Value) : Prop := ∃ j, j < i ∧ spB (m.S.D j) = true ∧ k2 (m.S.D j).x (m.S.D j).y = key
/-- The sides that are taken: those of the sound faces below i, and the first q of face i. -/
def tkP (m : Mesh) (i q : Nat) (key : Value) : Prop := (∃ j, j < i ∧ sndB m (m.F.D j) = true ∧ ∃ k, k < 3 ∧ k2 (cor (m.F.D j) k) (cor (m.F.D j) (k + 1)) = key) ∨ ∃ k, k < q ∧ k2 (cor (m.F.D i) k) (cor (m.F.D i) (k + 1)) = key
open Classical in
noncomputable def setF (P : Value → Prop) (key : Value) : Option Value := if P key then some (.bool true) else none
theorem setF_yes {P : Value → Prop} {key : Value} (h : P key) : setF P key = some (.bool true) := by unfold setF; rw [if_pos h]
theorem setF_no {P : Value → Prop} {key : Value} (h : ¬ P key) : setF P key = none := by unfold setF; rw [if_neg h]
theorem setF_of {P : Value → Prop} {key : Value} {b : Bool} (h : b = true ↔ P key) : (setF P key).getD (.bool false) = .bool b := by
  cases b
  · rw [setF_no (fun q => by cases h.2 q)]; rfl
  · rw [setF_yes (h.1 rfl)]; rfl
theorem setF_nil : (fun _ => none) = setF fun _ => False := funext fun _ => (setF_no (fun h => h)).symm
theorem setF_congr {P Q : Value → Prop} (h : ∀ x, P x ↔ Q x) : setF P = setF Q := by rw [show P = Q from funext fun x => propext (h x)]
/-- The set with one more. -/
theorem setF_add {P : Value → Prop} (key : Value) : (setF fun x => P x ∨ x = key) key = some (.bool true) ∧ ∀ x, x ≠ key → (setF fun x => P x ∨ x = key) x = setF P x := by
  refine ⟨setF_yes (Or.inr rfl), fun x hx => ?_⟩
  by_cases h : P x
  · rw [setF_yes h, setF_yes (Or.inl h)]
  · rw [setF_no h, setF_no (fun q => q.elim h hx)]
/-- The findings so far: the first i spots and the first j faces have been looked at. -/
def lst (m : Mesh) (i j k : Nat) : List Nat := idx (kd m k) (if k ≤ 2 then i else j)
theorem lst_s (m : Mesh) (i j k : Nat) (hk : k ≤ 2) : lst m (i + 1) j k = if kd m k i then lst m i j k ++ [i] else lst m i j k := by
  unfold lst; rw [if_pos hk, if_pos hk, idx]
theorem lst_f (m : Mesh) (i j k : Nat) (hk : ¬ k ≤ 2) : lst m i (j + 1) k = if kd m k j then lst m i j k ++ [j] else lst m i j k := by
  unfold lst; rw [if_neg hk, if_neg hk, idx]
theorem lst_so (m : Mesh) (i j k : Nat) (hk : ¬ k ≤ 2) : lst m (i + 1) j k = lst m i j k := by unfold lst; rw [if_neg hk, if_neg hk]
theorem lst_fo (m : Mesh) (i j k : Nat) (hk : k ≤ 2) : lst m i (j + 1) k = lst m i j k := by unfold lst; rw [if_pos hk, if_pos hk]
theorem lst_push {m : Mesh} {i j k : Nat} (hk : k ≤ 2) (h : kd m k i = true) (ho : ∀ q, q ≤ 2 → q ≠ k → kd m q i = false) (q : Nat) : lst m (i + 1) j q = upd (lst m i j) k (lst m i j k ++ [i]) q := by
  by_cases e : q = k
  · subst e; rw [upd_same, lst_s m i j q hk, h]; rfl
  · rw [upd_ne _ _ e]
    by_cases e2 : q ≤ 2
    · rw [lst_s m i j q e2, ho q e2 e]; rfl
    · exact lst_so m i j q e2
theorem lst_stay {m : Mesh} {i j : Nat} (ho : ∀ q, q ≤ 2 → kd m q i = false) (q : Nat) : lst m (i + 1) j q = lst m i j q := by
  by_cases e2 : q ≤ 2
  · rw [lst_s m i j q e2, ho q e2]; rfl
  · exact lst_so m i j q e2
theorem kd12 {m : Mesh} {i : Nat} {b1 b2 : Bool} (h1 : kd m 1 i = b1) (h2 : kd m 2 i = b2) : ∀ q, q ≤ 2 → kd m q i = (if q = 1 then b1 else if q = 2 then b2 else false) := by
  intro q hq
  match q, hq with
  | 0, _ => rfl
  | 1, _ => exact h1
  | 2, _ => exact h2
theorem atP_iff (m : Mesh) (i : Nat) (x y : Int) : Ba.any (fun j => spB (m.S.D j) && ((m.S.D j).x == x && (m.S.D j).y == y)) i = true ↔ atP m i (k2 x y) := by
  rw [any_iff]
  constructor
  · rintro ⟨j, hj, h⟩
    simp only [Bool.and_eq_true, beq_iff_eq] at h
    exact ⟨j, hj, h.1, by rw [h.2.1, h.2.2]⟩
  · rintro ⟨j, hj, h1, h2⟩
    obtain ⟨a, b⟩ := k2_inj h2
    exact ⟨j, hj, by simp [h1, a, b]⟩
theorem atP_far {m : Mesh} {i : Nat} (h : spB (m.S.D i) = false) : setF (atP m (i + 1)) = setF (atP m i) := setF_congr fun x => by
  constructor
  · rintro ⟨j, hj, a, b⟩
    by_cases e : j = i
    · subst e; rw [h] at a; cases a
    · exact ⟨j, by omega, a, b⟩
  · rintro ⟨j, hj, a, b⟩; exact ⟨j, by omega, a, b⟩
theorem atP_near {m : Mesh} {i : Nat} (h : spB (m.S.D i) = true) : setF (atP m (i + 1)) = setF fun x => atP m i x ∨ x = k2 (m.S.D i).x (m.S.D i).y := setF_congr fun x => by
  constructor
  · rintro ⟨j, hj, a, b⟩
    by_cases e : j = i
    · subst e; exact Or.inr b.symm
    · exact Or.inl ⟨j, by omega, a, b⟩
  · rintro (⟨j, hj, a, b⟩ | rfl)
    · exact ⟨j, by omega, a, b⟩
    · exact ⟨i, by omega, h, rfl⟩
theorem atP_nil (m : Mesh) : (fun _ => none) = setF (atP m 0) := by
  rw [setF_nil]; exact setF_congr fun x => ⟨fun h => h.elim, fun ⟨j, hj, _⟩ => absurd hj (by omega)⟩
/-- The triangles of the sound faces below j. -/
def snl (m : Mesh) (j : Nat) : List Tri := (idx (fun i => sndB m (m.F.D i)) j).map fun i => tri m (m.F.D i)
theorem snl_yes {m : Mesh} {j : Nat} (h : sndB m (m.F.D j) = true) : snl m (j + 1) = snl m j ++ [tri m (m.F.D j)] := by unfold snl; rw [idx_yes h, List.map_append]; rfl
theorem snl_no {m : Mesh} {j : Nat} (h : sndB m (m.F.D j) = false) : snl m (j + 1) = snl m j := by unfold snl; rw [idx_no h]
theorem snl_len (m : Mesh) (j : Nat) : (snl m j).length ≤ j := by unfold snl; rw [List.length_map]; exact idx_le _ _
theorem snl_ok (m : Mesh) (j : Nat) : ∀ t ∈ snl m j, tOk t := by
  intro t ht
  unfold snl at ht
  obtain ⟨i, hi, rfl⟩ := List.mem_map.1 ht
  have h := (idx_mem.1 hi).2
  unfold sndB at h
  rw [Bool.and_eq_true] at h
  exact tri_ok h.1
theorem snl_any {m : Mesh} {j : Nat} (P : Tri → Bool) (D : Nat → Tri) (hD : ∀ q, q < (snl m j).length → (snl m j)[q]? = some (D q)) : Ba.any (fun q => P (D q)) (snl m j).length = Ba.any (fun i => sndB m (m.F.D i) && P (tri m (m.F.D i))) j := by
  rw [Bool.eq_iff_iff, any_iff, any_iff]
  constructor
  · rintro ⟨q, hq, h⟩
    have hm := List.mem_of_getElem? (hD q hq)
    obtain ⟨i, hi, e⟩ := List.mem_map.1 hm
    obtain ⟨h1, h2⟩ := idx_mem.1 hi
    exact ⟨i, h1, by rw [e, h, h2]; rfl⟩
  · rintro ⟨i, hi, h⟩
    rw [Bool.and_eq_true] at h
    have hm : tri m (m.F.D i) ∈ snl m j := List.mem_map.2 ⟨i, idx_mem.2 ⟨hi, h.1⟩, rfl⟩
    obtain ⟨q, hq, e⟩ := List.getElem_of_mem hm
    have := hD q hq
    rw [List.getElem?_eq_getElem hq] at this
    have e2 : D q = tri m (m.F.D i) := by rw [← e]; simpa using this.symm
    exact ⟨q, hq, by rw [e2]; exact h.2⟩
theorem tk_iff (m : Mesh) (j q : Nat) : Ba.any (fun i => sndB m (m.F.D i) && Ba.any (fun k => sdB (m.F.D j) (m.F.D i) q k) 3) j = true ↔ tkP m j 0 (k2 (cor (m.F.D j) q) (cor (m.F.D j) (q + 1))) := by
  rw [any_iff]
  constructor
  · rintro ⟨i, hi, h⟩
    rw [Bool.and_eq_true, any_iff] at h
    obtain ⟨h1, k, hk, h2⟩ := h
    unfold sdB at h2
    simp only [Bool.and_eq_true, beq_iff_eq] at h2
    exact Or.inl ⟨i, hi, h1, k, hk, by rw [h2.1, h2.2]⟩
  · rintro (⟨i, hi, h1, k, hk, e⟩ | ⟨k, hk, _⟩)
    · obtain ⟨a, b⟩ := k2_inj e
      refine ⟨i, hi, ?_⟩
      rw [Bool.and_eq_true, any_iff]
      exact ⟨h1, k, hk, by unfold sdB; rw [a, b]; simp⟩
    · omega
theorem any3 (p : Nat → Bool) : Ba.any p 3 = (p 0 || (p 1 || p 2)) := by
  rw [any_succ, any_succ, any_succ]
  show (((false || _) || _) || _) = _
  rw [Bool.false_or, Bool.or_assoc]
theorem tk_all (m : Mesh) (j : Nat) : Ba.any (fun q => Ba.any (fun i => sndB m (m.F.D i) && Ba.any (fun k => sdB (m.F.D j) (m.F.D i) q k) 3) j) 3 = Ba.any (fun i => sndB m (m.F.D i) && ssB (m.F.D j) (m.F.D i)) j := by
  rw [Bool.eq_iff_iff, any_iff, any_iff]
  constructor
  · rintro ⟨q, hq, h⟩
    obtain ⟨i, hi, h⟩ := (any_iff _ _).1 h
    rw [Bool.and_eq_true] at h
    exact ⟨i, hi, by rw [Bool.and_eq_true]; exact ⟨h.1, (any_iff _ _).2 ⟨q, hq, h.2⟩⟩⟩
  · rintro ⟨i, hi, h⟩
    rw [Bool.and_eq_true] at h
    obtain ⟨q, hq, h2⟩ := (any_iff _ _).1 h.2
    exact ⟨q, hq, (any_iff _ _).2 ⟨i, hi, by rw [Bool.and_eq_true]; exact ⟨h.1, h2⟩⟩⟩
theorem tkP_step (m : Mesh) (j q : Nat) : setF (tkP m j (q + 1)) = setF fun x => tkP m j q x ∨ x = k2 (cor (m.F.D j) q) (cor (m.F.D j) (q + 1)) := setF_congr fun x => by
  constructor
  · rintro (h | ⟨k, hk, e⟩)
    · exact Or.inl (Or.inl h)
    · by_cases e2 : k = q
      · subst e2; exact Or.inr e.symm
      · exact Or.inl (Or.inr ⟨k, by omega, e⟩)
  · rintro ((h | ⟨k, hk, e⟩) | rfl)
    · exact Or.inl h
    · exact Or.inr ⟨k, by omega, e⟩
    · exact Or.inr ⟨q, by omega, rfl⟩
theorem tkP_next {m : Mesh} {j : Nat} (h : sndB m (m.F.D j) = true) : setF (tkP m (j + 1) 0) = setF (tkP m j 3) := setF_congr fun x => by
  constructor
  · rintro (⟨i, hi, a, b⟩ | ⟨k, hk, _⟩)
    · by_cases e : i = j
      · subst e; exact Or.inr b
      · exact Or.inl ⟨i, by omega, a, b⟩
    · omega
  · rintro (⟨i, hi, a, b⟩ | h3)
    · exact Or.inl ⟨i, by omega, a, b⟩
    · exact Or.inl ⟨j, by omega, h, h3⟩
theorem tkP_skip {m : Mesh} {j : Nat} (h : sndB m (m.F.D j) = false) : setF (tkP m (j + 1) 0) = setF (tkP m j 0) := setF_congr fun x => by
  constructor
  · rintro (⟨i, hi, a, b⟩ | ⟨k, hk, _⟩)
    · by_cases e : i = j
      · subst e; rw [h] at a; cases a
      · exact Or.inl ⟨i, by omega, a, b⟩
    · omega
  · rintro (⟨i, hi, a, b⟩ | ⟨k, hk, _⟩)
    · exact Or.inl ⟨i, by omega, a, b⟩
    · omega
theorem tkP_nil (m : Mesh) : (fun _ => none) = setF (tkP m 0 0) := by
  rw [setF_nil]
  refine setF_congr fun x => ⟨fun h => h.elim, ?_⟩
  rintro (⟨j, hj, _⟩ | ⟨k, hk, _⟩) <;> omega
theorem lst_one {m : Mesh} {i j k : Nat} (hk : ¬ k ≤ 2) (h : kd m k j = true) (ho : ∀ q, 3 ≤ q → q < 7 → q ≠ k → kd m q j = false) (q : Nat) (hq : q < 7) : lst m i (j + 1) q = upd (lst m i j) k (lst m i j k ++ [j]) q := by
  by_cases e : q = k
  · subst e; rw [upd_same, lst_f m i j q hk, h]; rfl
  · rw [upd_ne _ _ e]
    by_cases e2 : q ≤ 2
    · exact lst_fo m i j q e2
    · rw [lst_f m i j q e2, ho q (by omega) hq e]; rfl
def l5 (l : Nat → List Nat) (j : Nat) (b : Bool) : Nat → List Nat := if b then upd l 5 (l 5 ++ [j]) else l
def l6 (l : Nat → List Nat) (j : Nat) (b : Bool) : Nat → List Nat := if b then upd l 6 (l 6 ++ [j]) else l
theorem lst_two {m : Mesh} {i j : Nat} {b5 b6 : Bool} (h3 : kd m 3 j = false) (h4 : kd m 4 j = false) (h5 : kd m 5 j = b5) (h6 : kd m 6 j = b6) (q : Nat) (hq : q < 7) : lst m i (j + 1) q = l6 (l5 (lst m i j) j b5) j b6 q := by
  by_cases e2 : q ≤ 2
  · rw [lst_fo m i j q e2]
    unfold l6 l5
    cases b5 <;> cases b6 <;> simp only [if_true, if_false, Bool.false_eq_true] <;> (repeat rw [upd_ne _ _ (by omega)])
  · rw [lst_f m i j q e2]
    have hq' : q = 3 ∨ q = 4 ∨ q = 5 ∨ q = 6 := by omega
    unfold l6 l5
    rcases hq' with rfl | rfl | rfl | rfl
    · rw [h3]; cases b5 <;> cases b6 <;> rfl
    · rw [h4]; cases b5 <;> cases b6 <;> rfl
    · rw [h5]; cases b5 <;> cases b6 <;> rfl
    · rw [h6]; cases b5 <;> cases b6 <;> rfl
theorem ff_app : ∀ (l : List (Nat × Nat)) (x : Nat × Nat), ff (l ++ [x]) = ff l ++ [.int .i64 (x.1 : Int), .string ⟨(Lib.decDigits x.2).toArray⟩]
  | [], x => by simp [ff]
  | a :: l, x => by rw [List.cons_append, ff, ff, ff_app l x]; simp
theorem ff_len : ∀ l : List (Nat × Nat), (ff l).length = l.length * 2
  | [] => rfl
  | t :: l => by rw [ff, List.length_append, ff_len l, List.length_cons]; simp; omega
/-- The findings of the kinds below k, and the first q of kind k. -/
def fnq (m : Mesh) (k q : Nat) : List (Nat × Nat) := fnd m k ++ ((idx (kd m k) (num m k)).take q).map fun i => (k, i)
theorem fnq_zero (m : Mesh) (k : Nat) : fnq m k 0 = fnd m k := by unfold fnq; simp
theorem fnq_succ {m : Mesh} {k q i : Nat} (h : (idx (kd m k) (num m k))[q]? = some i) : fnq m k (q + 1) = fnq m k q ++ [(k, i)] := by
  unfold fnq
  rw [List.take_add_one, h, List.map_append, List.append_assoc]
  rfl
theorem fnq_all (m : Mesh) (k : Nat) : fnq m k (idx (kd m k) (num m k)).length = fnd m (k + 1) := by
  unfold fnq; rw [List.take_length]; rfl
theorem fnd_le (m : Mesh) (h1 : m.S.n ≤ 61) (h2 : m.F.n ≤ 61) : ∀ k, (fnd m k).length ≤ k * 61
  | 0 => by simp [fnd]
  | k + 1 => by
    have := fnd_le m h1 h2 k
    have hx := idx_le (kd m k) (num m k)
    have hn : num m k ≤ 61 := by unfold num; split <;> omega
    rw [fnd, List.length_append, List.length_map]; omega
theorem fnq_le (m : Mesh) (h1 : m.S.n ≤ 61) (h2 : m.F.n ≤ 61) (k q : Nat) : (fnq m k q).length ≤ k * 61 + 61 := by
  have := fnd_le m h1 h2 k
  have hx := idx_le (kd m k) (num m k)
  have hn : num m k ≤ 61 := by unfold num; split <;> omega
  unfold fnq
  rw [List.length_append, List.length_map, List.length_take]; omega
theorem fcB_not (m : Mesh) (f : Ba.Face) : (!fcB m f) = (Ba.any (fun q => !inR m (cor f q)) 3 || ((f.a == f.b) || ((f.b == f.c) || ((f.c == f.a) || (decide (f.k < 0) || decide (16 ≤ f.k)))))) := by
  rw [any3]
  show (!(inR m f.a && (inR m f.b && (inR m f.c && (!(f.a == f.b) && (!(f.b == f.c) && (!(f.c == f.a) && bt f.k 0 15))))))) = ((!inR m f.a || (!inR m f.b || !inR m f.c)) || _)
  have e : bt f.k 0 15 = (!decide (f.k < 0) && !decide (16 ≤ f.k)) := by
    unfold bt
    rw [Bool.eq_iff_iff]
    simp
    omega
  rw [e]
  cases inR m f.a <;> cases inR m f.b <;> cases inR m f.c <;> cases (f.a == f.b) <;> cases (f.b == f.c) <;> cases (f.c == f.a) <;> cases decide (f.k < 0) <;> cases decide (16 ≤ f.k) <;> rfl
end Ms
end Go.Proofs.YtajhhplgcegodaaDoor
