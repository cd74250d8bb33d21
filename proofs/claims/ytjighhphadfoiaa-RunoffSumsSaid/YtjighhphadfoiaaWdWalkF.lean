import Derived.Test.YtjighhphadfoiaaWdWalkE
set_option linter.unusedVariables false
set_option linter.unusedSimpArgs false
namespace Go.Proofs.Ytjighhphadfoiaa
open Go.RowKit
namespace Wd
/-- The order of two integers. -/
def ord (x y : Int) : Int := if x < y then -1 else if y < x then 1 else 0
/-- The first that is not zero. -/
def orI (x y : Int) : Int := if x = 0 then y else x
theorem ord_lt {x y : Int} (h : x < y) : ord x y = -1 := by unfold ord; rw [if_pos h]
theorem ord_gt {x y : Int} (h : y < x) : ord x y = 1 := by unfold ord; rw [if_neg (by omega), if_pos h]
theorem ord_eq (x : Int) : ord x x = 0 := by unfold ord; rw [if_neg (by omega), if_neg (by omega)]
theorem ord_val {h l k m : Int} (hv : vld h l = true) (hv2 : vld k m = true) : orI (ord h k) (ord l m) = ord (val h l) (val k m) := by
  obtain ⟨a, b, c, d⟩ := vld_true hv
  obtain ⟨a', b', c', d'⟩ := vld_true hv2
  unfold orI ord val
  by_cases h1 : h < k
  · simp [h1]; omega
  · by_cases h2 : k < h
    · simp [h1, h2]; omega
    · obtain rfl : h = k := by omega
      simp
end Wd
end Go.Proofs.Ytjighhphadfoiaa
