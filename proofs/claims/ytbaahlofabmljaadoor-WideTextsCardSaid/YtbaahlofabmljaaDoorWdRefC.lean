import Derived.Test.YtbaahlofabmljaaDoorWdRefB
set_option linter.unusedVariables false
set_option linter.unusedSimpArgs false
namespace Go.Proofs.YtbaahlofabmljaaDoor
open Go.RowKit
namespace Wd
theorem ord_sub (x y : Int) : ord x y = if neg (x - y) then -1 else if hi (x - y) = 0 ∧ lo (x - y) = 0 then 0 else 1 := by
  have e := hilo (x - y)
  have l0 := lo_nonneg (x - y); have l1 := lo_lt (x - y); have h0 := hi_nonneg (x - y)
  unfold ord neg
  unfold mag at e
  by_cases h : x < y
  · rw [if_pos h]; have : x - y < 0 := by omega
    simp [this]
  · rw [if_neg h]; have : ¬ x - y < 0 := by omega
    simp only [this, decide_false, Bool.false_eq_true, if_false] at e ⊢
    by_cases h2 : y < x
    · rw [if_pos h2, if_neg (by omega)]
    · rw [if_neg h2, if_pos (by omega)]
end Wd
end Go.Proofs.YtbaahlofabmljaaDoor
