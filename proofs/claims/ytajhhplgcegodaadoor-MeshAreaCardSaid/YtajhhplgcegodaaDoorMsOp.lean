/-
  Surfaces: plain: findings when the faces are reversed, when one is left out, when one occurs twice. No condition.
-/
import Derived.Test.YtajhhplgcegodaaDoorMsTa
set_option linter.unusedVariables false
set_option linter.unusedSimpArgs false
namespace Go.Proofs.YtajhhplgcegodaaDoor
namespace Ms
theorem ss_iff {f g : Ba.Face} : ssB f g = true ↔ ∃ k l, k < 3 ∧ l < 3 ∧ cor f k = cor g l ∧ cor f (k + 1) = cor g (l + 1) := by
  constructor
  · intro h
    obtain ⟨k, hk, h⟩ := (any_iff _ _).1 h
    obtain ⟨l, hl, h⟩ := (any_iff _ _).1 h
    unfold sdB at h
    rw [Bool.and_eq_true, beq_iff_eq, beq_iff_eq] at h
    exact ⟨k, l, hk, hl, h.1, h.2⟩
  · rintro ⟨k, l, hk, hl, h1, h2⟩
    exact ss_of hk hl h1 h2
theorem ss_comm (f g : Ba.Face) : ssB f g = ssB g f := by
  rw [Bool.eq_iff_iff, ss_iff, ss_iff]
  constructor
  · rintro ⟨k, l, hk, hl, h1, h2⟩; exact ⟨l, k, hl, hk, h1.symm, h2.symm⟩
  · rintro ⟨k, l, hk, hl, h1, h2⟩; exact ⟨l, k, hl, hk, h1.symm, h2.symm⟩
theorem ov_comm (t u : Tri) : ovB t u = ovB u t := by unfold ovB; exact Bool.and_comm _ _
theorem idx_none {p : Nat → Bool} : ∀ {n : Nat}, (∀ i, i < n → p i = false) → idx p n = []
  | 0, _ => rfl
  | n + 1, h => by rw [idx_no (h n (by omega)), idx_none fun i hi => h i (by omega)]
theorem fnd_none {m : Mesh} : ∀ {K : Nat}, (∀ k, k < K → ∀ i, i < num m k → kd m k i = false) → fnd m K = []
  | 0, _ => rfl
  | K + 1, h => by rw [fnd, fnd_none fun k hk => h k (by omega), idx_none (h K (by omega))]; rfl
theorem vl_iff {m : Mesh} : vlB m = true ↔ smB m = true ∧ (∀ i, i < m.S.n → kd m 1 i = false ∧ kd m 2 i = false) ∧ (∀ i, i < m.F.n → sndB m (m.F.D i) = true) ∧
    ∀ i j, j < i → i < m.F.n → ssB (m.F.D i) (m.F.D j) = false ∧ ovB (tri m (m.F.D i)) (tri m (m.F.D j)) = false := by
  constructor
  · intro h
    refine ⟨?_, fun i hi => ⟨vl_kd h (by omega) (by unfold num; rw [if_pos (by omega)]; exact hi), vl_kd h (by omega) (by unfold num; rw [if_pos (by omega)]; exact hi)⟩, fun i hi => vl_snd h hi, fun i j hj hi => ⟨vl_ss h hj hi, ?_⟩⟩
    · unfold vlB at h; rw [Bool.and_eq_true] at h; exact h.1
    · have h6 : (sndB m (m.F.D i) && Ba.any (fun j => sndB m (m.F.D j) && ovB (tri m (m.F.D i)) (tri m (m.F.D j))) i) = false := vl_kd h (k := 6) (i := i) (by omega) (by unfold num; rw [if_neg (by omega)]; exact hi)
      rw [vl_snd h hi, Bool.true_and] at h6
      cases e : ovB (tri m (m.F.D i)) (tri m (m.F.D j)) with
      | false => rfl
      | true =>
        have := any_hit (p := fun j => sndB m (m.F.D j) && ovB (tri m (m.F.D i)) (tri m (m.F.D j))) (i := j) (n := i) (by rw [vl_snd h (by omega), e]; rfl) hj
        rw [this] at h6; cases h6
  · rintro ⟨h0, h1, h2, h3⟩
    unfold vlB
    rw [h0, fnd_none]
    · rfl
    · intro k hk i hi
      have hF : ∀ i, i < m.F.n → fcB m (m.F.D i) = true ∧ decide (0 < tTn (tri m (m.F.D i))) = true := fun i hi => by
        have := h2 i hi; unfold sndB at this; rwa [Bool.and_eq_true] at this
      have hany : ∀ (q : Nat → Nat → Bool) i, i < m.F.n → (∀ j, j < i → q i j = false) → Ba.any (fun j => sndB m (m.F.D j) && q i j) i = false := fun q i hi hq => by
        cases e : Ba.any (fun j => sndB m (m.F.D j) && q i j) i with
        | false => rfl
        | true =>
          obtain ⟨j, hj, e⟩ := (any_iff _ _).1 e
          rw [hq j hj, Bool.and_false] at e; cases e
      unfold num at hi
      rcases (by omega : k = 0 ∨ k = 1 ∨ k = 2 ∨ k = 3 ∨ k = 4 ∨ k = 5 ∨ k = 6) with rfl | rfl | rfl | rfl | rfl | rfl | rfl
      · rfl
      · exact (h1 i (by simpa using hi)).1
      · exact (h1 i (by simpa using hi)).2
      · rw [if_neg (by omega)] at hi
        show (!fcB m (m.F.D i)) = false
        rw [(hF i hi).1]; rfl
      · rw [if_neg (by omega)] at hi
        show (fcB m (m.F.D i) && !decide (0 < tTn (tri m (m.F.D i)))) = false
        rw [(hF i hi).1, (hF i hi).2]; rfl
      · rw [if_neg (by omega)] at hi
        show (sndB m (m.F.D i) && Ba.any (fun j => sndB m (m.F.D j) && ssB (m.F.D i) (m.F.D j)) i) = false
        rw [hany (fun i j => ssB (m.F.D i) (m.F.D j)) i hi fun j hj => (h3 i j hj hi).1, Bool.and_false]
      · rw [if_neg (by omega)] at hi
        show (sndB m (m.F.D i) && Ba.any (fun j => sndB m (m.F.D j) && ovB (tri m (m.F.D i)) (tri m (m.F.D j))) i) = false
        rw [hany (fun i j => ovB (tri m (m.F.D i)) (tri m (m.F.D j))) i hi fun j hj => (h3 i j hj hi).2, Bool.and_false]
section
variable {m m' : Mesh}
theorem fc_same (h1 : m'.S.n = m.S.n) (h2 : m'.S.D = m.S.D) (f : Ba.Face) : fcB m' f = fcB m f := by unfold fcB inR; rw [h1, h2]
theorem tri_same (h2 : m'.S.D = m.S.D) (f : Ba.Face) : tri m' f = tri m f := by unfold tri; rw [h2]
theorem snd_same (h1 : m'.S.n = m.S.n) (h2 : m'.S.D = m.S.D) (f : Ba.Face) : sndB m' f = sndB m f := by unfold sndB; rw [fc_same h1 h2, tri_same h2]
theorem kd1_same (h2 : m'.S.D = m.S.D) (i : Nat) : kd m' 1 i = kd m 1 i := by simp only [kd]; rw [h2]
theorem kd2_same (h2 : m'.S.D = m.S.D) (i : Nat) : kd m' 2 i = kd m 2 i := by simp only [kd]; rw [h2]
/-- The faces of m' are those of m in the other order. -/
structure Rev (m m' : Mesh) : Prop where
  sn : m'.S.n = m.S.n
  sD : m'.S.D = m.S.D
  fn : m'.F.n = m.F.n
  fD : ∀ i, i < m.F.n → m'.F.D i = m.F.D (m.F.n - 1 - i)
theorem Rev.symm (h : Rev m m') : Rev m' m := ⟨h.sn.symm, h.sD.symm, h.fn.symm, fun i hi => by
  rw [h.fn] at hi ⊢
  rw [h.fD _ (by omega), show m.F.n - 1 - (m.F.n - 1 - i) = i by omega]⟩
theorem Rev.vl (h : Rev m m') (hv : vlB m = true) : vlB m' = true := by
  obtain ⟨h0, h1, h2, h3⟩ := vl_iff.1 hv
  refine vl_iff.2 ⟨?_, fun i hi => ?_, fun i hi => ?_, fun i j hj hi => ?_⟩
  · unfold smB at h0 ⊢; rw [h.sn, h.fn]; exact h0
  · rw [kd1_same h.sD, kd2_same h.sD]; exact h1 i (by rw [← h.sn]; exact hi)
  · rw [h.fn] at hi
    rw [snd_same h.sn h.sD, h.fD i hi]; exact h2 _ (by omega)
  · rw [h.fn] at hi
    rw [tri_same h.sD, tri_same h.sD, h.fD i hi, h.fD j (by omega), ss_comm, ov_comm]
    exact h3 _ _ (by omega) (by omega)
theorem Rev.vlB (h : Rev m m') : Ms.vlB m' = Ms.vlB m := by
  rw [Bool.eq_iff_iff]
  exact ⟨h.symm.vl, h.vl⟩
theorem len_idx (p : Nat → Bool) : ∀ n, (idx p (n + 1)).length = (if p 0 then 1 else 0) + (idx (fun i => p (i + 1)) n).length
  | 0 => by cases e : p 0 <;> simp [idx, e]
  | n + 1 => by
    have ih := len_idx p n
    rw [idx]
    cases e : p (n + 1)
    · rw [if_neg (by decide), ih, idx_no (p := fun i => p (i + 1)) e]
    · rw [if_pos rfl, List.length_append, ih, idx_yes (p := fun i => p (i + 1)) e, List.length_append]; simp; omega
theorem len_rev (p : Nat → Bool) : ∀ n, (idx (fun i => p (n - 1 - i)) n).length = (idx p n).length
  | 0 => rfl
  | n + 1 => by
    rw [len_idx]
    have e : idx (fun i => p (n + 1 - 1 - (i + 1))) n = idx (fun i => p (n - 1 - i)) n := idx_congr fun i hi => by rw [show n + 1 - 1 - (i + 1) = n - 1 - i by omega]
    rw [e, len_rev p n, idx]
    rw [show n + 1 - 1 - 0 = n by omega]
    cases p n <;> simp; omega
/-- How many findings of a kind there are. -/
def cnt (m : Mesh) (k : Nat) : Nat := (idx (kd m k) (num m k)).length
theorem Rev.cnt (h : Rev m m') {k : Nat} (h1 : 1 ≤ k) (h4 : k ≤ 4) : Ms.cnt m' k = Ms.cnt m k := by
  unfold Ms.cnt
  have hn : num m' k = num m k := by unfold num; rw [h.sn, h.fn]
  rw [hn]
  rcases (by omega : k = 1 ∨ k = 2 ∨ k = 3 ∨ k = 4) with rfl | rfl | rfl | rfl
  · rw [idx_congr fun i _ => kd1_same h.sD i]
  · rw [idx_congr fun i _ => kd2_same h.sD i]
  · show (idx (kd m' 3) m.F.n).length = (idx (kd m 3) m.F.n).length
    rw [← len_rev (kd m 3), idx_congr]
    intro i hi
    show (!fcB m' (m'.F.D i)) = !fcB m (m.F.D (m.F.n - 1 - i))
    rw [fc_same h.sn h.sD, h.fD i hi]
  · show (idx (kd m' 4) m.F.n).length = (idx (kd m 4) m.F.n).length
    rw [← len_rev (kd m 4), idx_congr]
    intro i hi
    show (fcB m' (m'.F.D i) && !decide (0 < tTn (tri m' (m'.F.D i)))) = (fcB m (m.F.D (m.F.n - 1 - i)) && !decide (0 < tTn (tri m (m.F.D (m.F.n - 1 - i)))))
    rw [fc_same h.sn h.sD, tri_same h.sD, h.fD i hi]
/-- The last face is left out. -/
theorem less_vl (hv : vlB m = true) (h1 : m'.S.n = m.S.n) (h2 : m'.S.D = m.S.D) (h3 : m'.F.n ≤ m.F.n) (h4 : ∀ i, i < m'.F.n → m'.F.D i = m.F.D i) : vlB m' = true := by
  obtain ⟨q0, q1, q2, q3⟩ := vl_iff.1 hv
  refine vl_iff.2 ⟨?_, fun i hi => ?_, fun i hi => ?_, fun i j hj hi => ?_⟩
  · unfold smB at q0 ⊢
    rw [Bool.and_eq_true, decide_eq_true_eq, decide_eq_true_eq] at q0 ⊢
    omega
  · rw [kd1_same h2, kd2_same h2]; exact q1 i (by rw [← h1]; exact hi)
  · rw [snd_same h1 h2, h4 i hi]; exact q2 i (by omega)
  · rw [tri_same h2, tri_same h2, h4 i hi, h4 j (by omega)]
    exact q3 _ _ hj (by omega)
/-- A face occurs twice. -/
theorem twice_vl (h3 : 0 < m.F.n) (h4 : m'.F.n = m.F.n + 1) (h5 : m'.F.D 0 = m.F.D 0) (h6 : m'.F.D m.F.n = m.F.D 0) : vlB m' = false := by
  cases e : vlB m' with
  | false => rfl
  | true =>
    have := vl_ss e (i := m.F.n) (j := 0) h3 (by omega)
    rw [h5, h6, ss_of (k := 0) (l := 0) (by omega) (by omega) rfl rfl] at this
    cases this
theorem cnt_fnd (m : Mesh) (k : Nat) : ∀ K, ((fnd m K).filter fun p => p.1 == k).length = if k < K then cnt m k else 0
  | 0 => rfl
  | K + 1 => by
    rw [fnd, List.filter_append, List.length_append, cnt_fnd m k K, List.filter_map, List.length_map]
    by_cases e : K = k
    · subst e
      rw [if_neg (by omega), if_pos (by omega), List.filter_eq_self.2 (by intro a _; simp)]
      unfold cnt; omega
    · have : (idx (kd m K) (num m K)).filter ((fun p : Nat × Nat => p.1 == k) ∘ fun i => (K, i)) = [] := by
        rw [List.filter_eq_nil_iff]
        intro a _
        simp [e]
      rw [this]
      by_cases c : k < K
      · rw [if_pos c, if_pos (by omega)]; rfl
      · rw [if_neg c, if_neg (by omega)]; rfl
end
end Ms
end Go.Proofs.YtajhhplgcegodaaDoor
