/-
  Rounding to a multiple, plainly. No program here.
-/
import Derived.Test.YtagfgnpjljaefaaDoorDcPlain
set_option linter.unusedVariables false
set_option linter.unusedSimpArgs false
namespace Go.Proofs.YtagfgnpjljaefaaDoor
namespace Dc
/-- The multiple to which a number rounds. -/
def rn (n u : Int) : Int := if u ≤ 2 * (n % u) then n / u + 1 else n / u
theorem rn_near (n : Int) {u : Int} (hu : 1 ≤ u) : -u ≤ 2 * (n - rn n u * u) ∧ 2 * (n - rn n u * u) < u := by
  have e := Int.mul_ediv_add_emod n u
  have g := Int.emod_nonneg n (show u ≠ 0 by omega)
  have h := Int.emod_lt_of_pos n (show 0 < u by omega)
  rw [Int.mul_comm] at e
  unfold rn
  split
  · rw [Int.add_mul, Int.one_mul]; omega
  · omega
theorem near_uniq {n u x y : Int} (hu : 1 ≤ u) (hx : -u ≤ 2 * (n - x * u) ∧ 2 * (n - x * u) < u) (hy : -u ≤ 2 * (n - y * u) ∧ 2 * (n - y * u) < u) : x = y := by
  rcases Int.lt_trichotomy x y with h | h | h
  · have := Int.mul_le_mul_of_nonneg_right (show x + 1 ≤ y by omega) (show 0 ≤ u by omega)
    rw [Int.add_mul, Int.one_mul] at this; omega
  · exact h
  · have := Int.mul_le_mul_of_nonneg_right (show y + 1 ≤ x by omega) (show 0 ≤ u by omega)
    rw [Int.add_mul, Int.one_mul] at this; omega
theorem rn_mult (x : Int) {u : Int} (hu : 1 ≤ u) : rn (x * u) u = x := near_uniq hu (rn_near _ hu) (by omega)
theorem rn_shift (n : Int) {u : Int} (hu : 1 ≤ u) : rn (n + u) u = rn n u + 1 := by
  refine near_uniq hu (rn_near _ hu) ?_
  have := rn_near n hu
  rw [Int.add_mul, Int.one_mul]; omega
theorem rn_mono {n m u : Int} (hu : 1 ≤ u) (h : n ≤ m) : rn n u ≤ rn m u := by
  have a := rn_near n hu
  have b := rn_near m hu
  rcases (show rn m u < rn n u ∨ rn n u ≤ rn m u by omega) with c | c
  · have := Int.mul_le_mul_of_nonneg_right (show rn m u + 1 ≤ rn n u by omega) (show 0 ≤ u by omega)
    rw [Int.add_mul, Int.one_mul] at this; omega
  · exact c
/-- Truncating division, brought to the floor. -/
theorem tdiv_neg {n u : Int} (hu : 1 ≤ u) (h : n.tmod u < 0) : n / u = n.tdiv u - 1 ∧ n % u = n.tmod u + u := by
  have e := Int.mul_tdiv_add_tmod n u
  have b := Int.lt_tmod_of_pos n (show 0 < u by omega)
  have f : n = n.tmod u + u + u * (n.tdiv u - 1) := by rw [Int.mul_sub, Int.mul_one]; omega
  have g := Int.ediv_emod_unique (a := n) (b := u) (r := n.tmod u + u) (q := n.tdiv u - 1) (by omega)
  exact g.2 ⟨f.symm, by omega, by omega⟩
theorem tdiv_pos {n u : Int} (hu : 1 ≤ u) (h : 0 ≤ n.tmod u) : n / u = n.tdiv u ∧ n % u = n.tmod u := by
  have e := Int.mul_tdiv_add_tmod n u
  have b := Int.tmod_lt_of_pos n (show 0 < u by omega)
  have g := Int.ediv_emod_unique (a := n) (b := u) (r := n.tmod u) (q := n.tdiv u) (by omega)
  exact g.2 ⟨by omega, by omega, by omega⟩
end Dc
end Go.Proofs.YtagfgnpjljaefaaDoor
