import Derived.Test.YtbaahlofabmljaaDoorWdRefF
set_option linter.unusedVariables false
set_option linter.unusedSimpArgs false
namespace Go.Proofs.YtbaahlofabmljaaDoor
open Go.RowKit
namespace Wd
theorem flr_same {x y : Int} (hy : y ≠ 0) (h : neg x = neg y) : sg false (mag x / mag y) = flr x y := by
  rw [flr_mag x y hy, h]; simp [sg]
theorem flr_even {x y : Int} (hy : y ≠ 0) (h : neg x ≠ neg y) (hr : mag x % mag y = 0) : sg true (mag x / mag y) = flr x y := by
  rw [flr_mag x y hy]
  have : (neg x != neg y) = true := by cases h1 : neg x <;> cases h2 : neg y <;> simp_all
  rw [this]; unfold inc sg; simp [hr]
theorem flr_odd {x y : Int} (hy : y ≠ 0) (h : neg x ≠ neg y) (hr : 0 < mag x % mag y) : sg true (mag x / mag y + 1) = flr x y := by
  rw [flr_mag x y hy]
  have : (neg x != neg y) = true := by cases h1 : neg x <;> cases h2 : neg y <;> simp_all
  rw [this]; unfold inc sg; simp [hr]
theorem hi_one : hi 1 = 0 ∧ lo 1 = 1 ∧ mag 1 = 1 := by decide
theorem div_le {m d : Int} (hm : 0 ≤ m) (hd : 0 < d) : 0 ≤ m / d ∧ m / d ≤ m := by
  refine ⟨Int.ediv_nonneg hm (by omega), ?_⟩
  exact Int.ediv_le_self _ hm
end Wd
end Go.Proofs.YtbaahlofabmljaaDoor
