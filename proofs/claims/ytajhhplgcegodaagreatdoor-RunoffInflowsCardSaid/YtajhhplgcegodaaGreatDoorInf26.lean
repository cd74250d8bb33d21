/-
  Runoff: ratio.Share at what a unit hydrograph is.
-/
import Derived.Test.YtajhhplgcegodaaGreatDoorInf25

set_option linter.unusedVariables false
set_option linter.unusedSimpArgs false
namespace Go.Proofs.YtajhhplgcegodaaGreatDoor
open Go.RowKit
namespace Ba
theorem sumI_up {X : Nat → Int} {n i : Nat} (h : ∀ j, j < n → 0 ≤ X j) : ∀ k, i + k ≤ n → sumI X i ≤ sumI X (i + k)
  | 0, _ => Int.le_refl _
  | k + 1, hk => by
    have a := sumI_up (i := i) h k (by omega)
    have b := h (i + k) (by omega)
    rw [← Nat.add_assoc, sumI]; omega
/-- The share of the first i weights, rounded down; the share of one. -/
def cutI (X : Nat → Int) (t : Int) (n i : Nat) : Int := t * sumI X i / sumI X n
def shrI (X : Nat → Int) (t : Int) (n i : Nat) : Int := cutI X t n (i + 1) - cutI X t n i
theorem uni_parts {s : SlI} (h : uniB s = true) : 1 ≤ s.n ∧ s.n ≤ 1000 ∧ (∀ i, i < s.n → 0 ≤ s.X i ∧ s.X i ≤ 1073741824) ∧ 0 < sumI s.X s.n := by
  unfold uniB wiB at h
  simp only [Bool.and_eq_true, decide_eq_true_eq, bne_iff_ne] at h
  obtain ⟨h1, h2, h3, h4⟩ := h
  have h5 : ∀ i, i < s.n → 0 ≤ s.X i ∧ s.X i ≤ 1073741824 := fun i hi => (bet_iff _ _ _).1 (allB_at h3 hi)
  refine ⟨by omega, by omega, h5, ?_⟩
  obtain ⟨k, hk⟩ : ∃ k, s.n = k + 1 := ⟨s.n - 1, by omega⟩
  rw [hk, show k + 1 - 1 = k by omega] at h4
  have a := sumI_up (X := s.X) (n := s.n) (i := 0) (fun j hj => (h5 j hj).1) k (by omega)
  have b := (h5 k (by omega)).1
  rw [hk, sumI]
  simp only [sumI, Nat.zero_add] at a
  omega
theorem uni_sum {s : SlI} (h : uniB s = true) {i : Nat} (hi : i ≤ s.n) : 0 ≤ sumI s.X i ∧ sumI s.X i ≤ sumI s.X s.n ∧ sumI s.X s.n ≤ 1099511627776 := by
  obtain ⟨h1, h2, h3, h4⟩ := uni_parts h
  have a := sumI_up (X := s.X) (n := s.n) (i := 0) (fun j hj => (h3 j hj).1) i (by omega)
  have b := sumI_up (X := s.X) (n := s.n) (i := i) (fun j hj => (h3 j hj).1) (s.n - i) (by omega)
  rw [show i + (s.n - i) = s.n by omega] at b
  have c := (sumI_le (X := s.X) (lo := 0) (hi := 1073741824) (n := s.n) h3).2
  simp only [sumI, Nat.zero_add] at a
  refine ⟨a, b, ?_⟩
  have d : (1073741824 : Int) * (s.n : Int) ≤ 1073741824 * 1000 := Int.mul_le_mul_of_nonneg_left (by omega) (by omega)
  omega
theorem cut_le {s : SlI} (h : uniB s = true) {t : Int} (ht : 0 ≤ t) {i : Nat} (hi : i ≤ s.n) : 0 ≤ cutI s.X t s.n i ∧ cutI s.X t s.n i ≤ t := by
  obtain ⟨a, b, c⟩ := uni_sum h hi
  have p := (uni_parts h).2.2.2
  unfold cutI
  exact ⟨Int.ediv_nonneg (Int.mul_nonneg ht a) (by omega), Int.ediv_le_of_le_mul p (Int.mul_le_mul_of_nonneg_left b ht)⟩
end Ba
set_option maxHeartbeats 1000000 in
theorem share_any (s : Ba.SlI) (t : Int) (w : World) (hs : s.At w) (hu : Ba.uniB s = true) (ht : 0 ≤ t ∧ t ≤ 1099511627776) : Calls Tryz.prog 96 #[.int .i64 t, .slice s.A s.n s.c] w (fun e w' => ∃ r : Ba.SlI, e = .returned (.tuple #[.slice r.A r.n r.c, .int .i64 0]) ∧ r.At w' ∧ r.n = s.n ∧ (∀ i, i < s.n → r.X i = Ba.shrI s.X t s.n i) ∧ Gr w w') := by
  obtain ⟨h1, h2, h3, h4⟩ := Ba.uni_parts hu
  have h5 := fun i (hi : i ≤ s.n) => Ba.uni_sum hu hi
  refine share_ok s.A s.n s.c s.b s.o s.X t w h1 h2 (hs.hA (by omega)) ht (Lib.hid fun i hi => ⟨(hs.hX i hi).1, h3 i hi⟩) (Ba.sumI s.X) (Lib.hid rfl) (Lib.hid fun _ => rfl) (Lib.hid fun i hi => by have := h5 i hi; omega) h4
    (Ba.cutI s.X t s.n) (fun i => t * Ba.sumI s.X (i + 1) / 18446744073709551616) (fun i => t * Ba.sumI s.X (i + 1) % 18446744073709551616) (fun i => t * Ba.sumI s.X (i + 1) % Ba.sumI s.X s.n) (Lib.hid ?_) (Lib.hid fun i hi => by have := Ba.cut_le hu ht.1 hi; omega) (Lib.hid ?_) (Lib.hid ?_)
  · show t * Ba.sumI s.X 0 / Ba.sumI s.X s.n = 0
    rw [show Ba.sumI s.X 0 = 0 from rfl, Int.mul_zero, Int.zero_ediv]
  · intro i hi W
    have a := h5 (i + 1) (by omega)
    exact mul64_any t (Ba.sumI s.X (i + 1)) W ht.1 (by omega) a.1 (by omega)
  · intro i hi W
    have a := h5 (i + 1) (by omega)
    have p0 : 0 ≤ t * Ba.sumI s.X (i + 1) := Int.mul_nonneg ht.1 a.1
    have p1 : t * Ba.sumI s.X (i + 1) ≤ 1099511627776 * Ba.sumI s.X s.n := Int.mul_le_mul ht.2 a.2.1 a.1 (by omega)
    have e := Int.mul_ediv_add_emod (t * Ba.sumI s.X (i + 1)) 18446744073709551616
    have q := div64_all (t * Ba.sumI s.X (i + 1) / 18446744073709551616) (t * Ba.sumI s.X (i + 1) % 18446744073709551616) (Ba.sumI s.X s.n) W (by omega) (by omega) (by omega) (by omega) (by omega)
    rw [show t * Ba.sumI s.X (i + 1) / 18446744073709551616 * 18446744073709551616 + t * Ba.sumI s.X (i + 1) % 18446744073709551616 = t * Ba.sumI s.X (i + 1) by omega] at q
    exact q
end Go.Proofs.YtajhhplgcegodaaGreatDoor
