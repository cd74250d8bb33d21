/-
  Surfaces: plain, for MeshMutual: what the map of open sides holds. No condition.
-/
import Derived.Test.YtajhhplgcegodaaDoorMsMu
set_option linter.unusedVariables false
set_option linter.unusedSimpArgs false
namespace Go.Proofs.YtajhhplgcegodaaDoor
namespace Ms
open Classical in
/-- A map's contents: at each border side t what v says of it. -/
noncomputable def opF (m : Mesh) (v : Nat → Option Int) (x : Value) : Option Value :=
  if h : ∃ t, t < 3 * m.F.n ∧ op m t = none ∧ x = k2 (st m t) (en m t) then (v h.choose).map (Value.int .i64) else none
theorem opF_at {m : Mesh} (hv : vlB m = true) (v : Nat → Option Int) {t : Nat} (ht : t < 3 * m.F.n) (ho : op m t = none) : opF m v (k2 (st m t) (en m t)) = (v t).map (Value.int .i64) := by
  have h : ∃ s, s < 3 * m.F.n ∧ op m s = none ∧ k2 (st m t) (en m t) = k2 (st m s) (en m s) := ⟨t, ht, ho, rfl⟩
  unfold opF
  rw [dif_pos h]
  obtain ⟨h1, h2, h3⟩ := h.choose_spec
  obtain ⟨e1, e2⟩ := k2_inj h3
  rw [vl_uni hv h1 ht e1.symm e2.symm]
theorem opF_ext {m : Mesh} {v v' : Nat → Option Int} (x : Value) (h : ∀ t, t < 3 * m.F.n → op m t = none → x = k2 (st m t) (en m t) → v' t = v t) : opF m v' x = opF m v x := by
  unfold opF
  split
  · rename_i h0
    obtain ⟨h1, h2, h3⟩ := h0.choose_spec
    rw [h _ h1 h2 h3]
  · rfl
theorem opF_zero {m : Mesh} {v : Nat → Option Int} (h : ∀ t, t < 3 * m.F.n → op m t = none → v t = some 0) (x y : Value) (e : opF m v x = some y) : y = .int .i64 0 := by
  unfold opF at e
  split at e
  · rename_i h0
    obtain ⟨h1, h2, h3⟩ := h0.choose_spec
    rw [h _ h1 h2] at e
    simpa using e.symm
  · cases e
/-- The border sides below t0 are in it, each once. -/
noncomputable def opA (m : Mesh) (t0 : Nat) : Value → Option Value := opF m fun s => if s < t0 then some 1 else none
theorem opA_zero (m : Mesh) : opA m 0 = fun _ => none := by
  funext x
  show opF m _ x = none
  unfold opF
  split
  · simp
  · rfl
theorem opA_skip {m : Mesh} {t u : Nat} (h : op m t = some u) : opA m (t + 1) = opA m t := by
  funext x
  refine opF_ext x fun s hs ho _ => ?_
  have : s ≠ t := fun e => by subst e; rw [h] at ho; cases ho
  by_cases c : s < t
  · rw [if_pos c, if_pos (by omega)]
  · rw [if_neg c, if_neg (by omega)]
theorem opA_get {m : Mesh} (hv : vlB m = true) {t : Nat} (ht : t < 3 * m.F.n) (ho : op m t = none) : opA m t (k2 (st m t) (en m t)) = none ∧ opA m (t + 1) (k2 (st m t) (en m t)) = some (.int .i64 1) := by
  constructor
  · show opF m _ _ = _
    rw [opF_at hv _ ht ho, if_neg (by omega)]; rfl
  · show opF m _ _ = _
    rw [opF_at hv _ ht ho, if_pos (by omega)]; rfl
theorem opA_ne {m : Mesh} {t : Nat} (x : Value) (hx : x ≠ k2 (st m t) (en m t)) : opA m (t + 1) x = opA m t x := by
  refine opF_ext x fun s hs ho e => ?_
  have : s ≠ t := fun q => by subst q; exact hx e
  by_cases c : s < t
  · rw [if_pos c, if_pos (by omega)]
  · rw [if_neg c, if_neg (by omega)]
/-- All border sides are in it: those of dn nought times, the others once. -/
noncomputable def opR (m : Mesh) (dn : List Nat) : Value → Option Value := opF m fun s => some (if s ∈ dn then 0 else 1)
theorem opA_opR (m : Mesh) : opA m (3 * m.F.n) = opR m [] := by
  funext x
  refine opF_ext x fun s hs ho _ => ?_
  rw [if_pos hs, if_neg (by simp)]
theorem opR_get {m : Mesh} (hv : vlB m = true) {t : Nat} {dn : List Nat} (ht : t < 3 * m.F.n) (ho : op m t = none) (hn : t ∉ dn) : opR m dn (k2 (st m t) (en m t)) = some (.int .i64 1) ∧ opR m (dn ++ [t]) (k2 (st m t) (en m t)) = some (.int .i64 0) := by
  constructor
  · show opF m _ _ = _
    rw [opF_at hv _ ht ho, if_neg hn]; rfl
  · show opF m _ _ = _
    rw [opF_at hv _ ht ho, if_pos (by simp)]; rfl
theorem opR_ne {m : Mesh} {t : Nat} {dn : List Nat} (x : Value) (hx : x ≠ k2 (st m t) (en m t)) : opR m (dn ++ [t]) x = opR m dn x := by
  refine opF_ext x fun s hs ho e => ?_
  have : s ≠ t := fun q => by subst q; exact hx e
  have : (s ∈ dn ++ [t]) ↔ s ∈ dn := by simp [this]
  simp only [this]
/-- The rings ahead of row r, and the first j of row r. -/
def upTo (L : List (List Nat)) (r j : Nat) : List Nat := (L.take r).flatten ++ (L.getD r []).take j
theorem upTo_zero (L : List (List Nat)) : upTo L 0 0 = [] := by simp [upTo]
theorem upTo_row (L : List (List Nat)) {r : Nat} (hr : r < L.length) : upTo L r (L.getD r []).length = upTo L (r + 1) 0 := by
  unfold upTo
  rw [List.take_length, List.take_add_one (l := L), List.getElem?_eq_getElem hr, List.getD, List.getElem?_eq_getElem hr, List.flatten_append]
  simp
theorem upTo_end (L : List (List Nat)) : upTo L L.length 0 = L.flatten := by simp [upTo]
theorem upTo_step {L : List (List Nat)} {r j t : Nat} (h : (L.getD r [])[j]? = some t) : upTo L r (j + 1) = upTo L r j ++ [t] := by
  unfold upTo
  rw [List.take_add_one, h, List.append_assoc]; rfl
theorem upTo_new {L : List (List Nat)} (hn : L.flatten.Nodup) {r j t : Nat} (hr : r < L.length) (h : (L.getD r [])[j]? = some t) : t ∉ upTo L r j := by
  have hj := (List.getElem?_eq_some_iff.1 h).1
  have e : L.flatten = (L.take r).flatten ++ (L.getD r [] ++ (L.drop (r + 1)).flatten) := by
    rw [List.getD, List.getElem?_eq_getElem hr, Option.getD_some, ← List.flatten_cons, List.getElem_cons_drop, ← List.flatten_append, List.take_append_drop]
  have e2 : L.getD r [] = (L.getD r []).take j ++ (t :: (L.getD r []).drop (j + 1)) := by
    have : (L.getD r [])[j] = t := (List.getElem?_eq_some_iff.1 h).2
    rw [← this, List.getElem_cons_drop, List.take_append_drop]
  rw [e2] at e
  rw [e] at hn
  have e3 : (L.take r).flatten ++ ((L.getD r []).take j ++ (t :: (L.getD r []).drop (j + 1)) ++ (L.drop (r + 1)).flatten) = upTo L r j ++ (t :: ((L.getD r []).drop (j + 1) ++ (L.drop (r + 1)).flatten)) := by
    unfold upTo; simp
  rw [e3, List.nodup_append] at hn
  intro hm
  exact hn.2.2 t hm t (by simp) rfl
/-- The rings of a valid surface, row by row. -/
structure RowsOK (m : Mesh) (L : List (List Nat)) : Prop where
  len : ∀ r, r < L.length → 3 ≤ (L.getD r []).length
  side : ∀ r j, r < L.length → j < (L.getD r []).length → ∃ t, (L.getD r [])[j]? = some t ∧ (L.getD r []).getD j 0 = t ∧ t < 3 * m.F.n ∧ op m t = none ∧ st m ((L.getD r []).getD ((j + 1) % (L.getD r []).length) 0) = en m t ∧ t ∉ upTo L r j
  all : ∀ t, t < 3 * m.F.n → op m t = none → t ∈ upTo L L.length 0
  cnt : (upTo L L.length 0).length = bdN m
theorem rows_ok {m : Mesh} (hv : vlB m = true) : RowsOK m (bS m (3 * m.F.n)).2 := by
  have R := rings hv
  have hr3 := fun l hl => ring3 hv (l := l) hl
  have hl := rings_len hv
  generalize (bS m (3 * m.F.n)).2 = L at *
  have mem : ∀ r, r < L.length → L.getD r [] ∈ L := fun r hr => by
    rw [List.getD, List.getElem?_eq_getElem hr]; exact List.getElem_mem hr
  refine ⟨fun r hr => hr3 _ (mem r hr), fun r j hr hj => ?_, fun t ht ho => ?_, ?_⟩
  · obtain ⟨t, h1, h2, h3, h4⟩ := (R.ring _ (mem r hr)).all j hj
    have h3 : (op m t).isNone = true := h3
    refine ⟨t, h1, by rw [List.getD, h1]; rfl, h2, by simpa using h3, ?_, upTo_new R.nodup hr h1⟩
    rw [List.getD, h4]
    exact st_ph m t
  · rw [upTo_end]
    exact (R.done t).1 (R.have_ t ht ht (by simp [ho]))
  · rw [upTo_end]; exact hl
theorem opR_all {m : Mesh} {dn : List Nat} (h : ∀ t, t < 3 * m.F.n → op m t = none → t ∈ dn) (x y : Value) (e : opR m dn x = some y) : y = .int .i64 0 := by
  refine opF_zero (v := fun s => some (if s ∈ dn then 0 else 1)) (fun t ht ho => ?_) x y e
  simp [h t ht ho]
end Ms
end Go.Proofs.YtajhhplgcegodaaDoor
