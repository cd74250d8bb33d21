/-
  Plain arithmetic of the layer clock: steps of time and how they overlap with a span. No program here.
-/
import Derived.WalkKit
set_option linter.unusedVariables false
set_option linter.unusedSimpArgs false
namespace Go.Proofs.YtlcbjkkcfenlmaaDoor
namespace Ck
def inst (t : Int) : Bool := decide (-68719476736 ≤ t) && decide (t ≤ 68719476736)
def len (n : Int) : Bool := decide (1 ≤ n) && decide (n ≤ 86400)
theorem inst_iff (t : Int) : inst t = true ↔ -68719476736 ≤ t ∧ t ≤ 68719476736 := by unfold inst; simp only [Bool.and_eq_true, decide_eq_true_eq]
theorem len_iff (n : Int) : len n = true ↔ 1 ≤ n ∧ n ≤ 86400 := by unfold len; simp only [Bool.and_eq_true, decide_eq_true_eq]
theorem inst_no {t : Int} (h : inst t = false) : t < -68719476736 ∨ 68719476736 < t := by
  unfold inst at h; simp only [Bool.and_eq_false_iff, decide_eq_false_iff_not] at h; omega
theorem len_no {n : Int} (h : len n = false) : n < 1 ∨ 86400 < n := by
  unfold len at h; simp only [Bool.and_eq_false_iff, decide_eq_false_iff_not] at h; omega
/-- What a span and a step have in common; x is where the step begins. -/
def lap (x s a b : Int) : Int := max 0 (min b (x + s) - max a x)
/-- A point, moved into a span. -/
def clamp (a b x : Int) : Int := max a (min b x)
theorem lap_clamp {x s a b : Int} (hs : 0 ≤ s) (h : a ≤ b) : lap x s a b = clamp a b (x + s) - clamp a b x := by
  unfold lap clamp; omega
theorem clamp_lo {a b x : Int} (h : a ≤ b) (hx : x ≤ a) : clamp a b x = a := by unfold clamp; omega
theorem clamp_hi {a b x : Int} (h : a ≤ b) (hx : b ≤ x) : clamp a b x = b := by unfold clamp; omega
theorem lap_bd {x s a b : Int} (hs : 0 ≤ s) : 0 ≤ lap x s a b ∧ lap x s a b ≤ s := by unfold lap; omega
theorem lap_none {x s a b : Int} (h : b ≤ x ∨ x + s ≤ a) : lap x s a b = 0 := by unfold lap; omega
theorem lap_one {x s a : Int} (h0 : x ≤ a) (h1 : a < x + s) : lap x s a (a + 1) = 1 := by unfold lap; omega
/-- The step that has a point. -/
theorem step_of (f s a : Int) (hs : 1 ≤ s) : f + (a - f) / s * s ≤ a ∧ a < f + (a - f) / s * s + s := by
  have e := Int.mul_ediv_add_emod (a - f) s
  have g := Int.emod_nonneg (a - f) (show s ≠ 0 by omega)
  have h := Int.emod_lt_of_pos (a - f) (show 0 < s by omega)
  have c := Int.mul_comm s ((a - f) / s)
  omega
theorem div_bd {n s B : Int} (hs : 1 ≤ s) (h0 : -B ≤ n) (h1 : n ≤ B) : -B ≤ n / s ∧ n / s ≤ B := by
  have hB : 0 ≤ B := by omega
  have hm := Int.mul_le_mul_of_nonneg_left hs hB
  constructor
  · rw [Int.le_ediv_iff_mul_le (by omega), Int.neg_mul]; omega
  · have := Int.ediv_le_ediv (show 0 < s by omega) h1
    have h2 : B / s ≤ B := by
      have := Int.ediv_le_self s hB; exact this
    omega
theorem mul_bd {k s : Int} (k0 : -1099511627776 ≤ k) (k1 : k ≤ 1099511627776) (s0 : 0 ≤ s) (s1 : s ≤ 86400) : -94997804639846400 ≤ k * s ∧ k * s ≤ 94997804639846400 := by
  have a := Int.mul_le_mul_of_nonneg_right k0 s0
  have b := Int.mul_le_mul_of_nonneg_right k1 s0
  constructor <;> omega
theorem last_le (n l s : Int) (hs : 1 ≤ s) (l0 : 0 ≤ l) (l1 : l ≤ 300 * s) : n / s ≤ (n + l) / s ∧ (n + l) / s ≤ n / s + 300 := by
  have a := Int.ediv_le_ediv (show 0 < s by omega) (show n ≤ n + l by omega)
  have b := Int.ediv_le_ediv (show 0 < s by omega) (show n + l ≤ n + 300 * s by omega)
  rw [Int.add_mul_ediv_right _ _ (by omega)] at b
  exact ⟨a, b⟩
end Ck
end Go.Proofs.YtlcbjkkcfenlmaaDoor
