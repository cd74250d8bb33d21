import Derived.Test.YtjighhphadfoiaaWdWalkB
import Derived.Deep.RegionHeld3
set_option linter.unusedVariables false
set_option linter.unusedSimpArgs false
namespace Go.Proofs.Ytjighhphadfoiaa
open Go.RowKit

theorem low32 (z : Int) : bits .and .u64 (z % 18446744073709551616) 4294967295 = z % 18446744073709551616 % 4294967296 := and_low32 _ (by omega) (by omega)
set_option maxHeartbeats 400000 in
theorem mul64_any (x y : Int) (w : World) (hx0 : 0 ≤ x) (hx : x ≤ 18446744073709551615) (hy0 : 0 ≤ y) (hy : y ≤ 18446744073709551615) :
    Calls Try.prog 84 #[.int .u64 x, .int .u64 y] w fun e w' => e = .returned (.tuple #[.int .u64 (x * y / 18446744073709551616), .int .u64 (x * y % 18446744073709551616)]) ∧ w = w' := by
  have ax := and_low32 x hx0 (by omega)
  have ay := and_low32 y hy0 (by omega)
  go_enter Try.func84, Try.ntmps84
  go_wp2
  go_ret2
  refine ⟨ret_two ?_ (IntKind.wrap_u64 _), rfl⟩
  simp only [IntKind.wrap_u64, low32]
  exact mul64_arith x y hx0 (by omega) hy0 (by omega)

set_option maxHeartbeats 400000 in
theorem valid_true (h l : Int) (w : World) (hv : Wd.vld h l = true) :
    Calls Try.prog 114 #[.agg #[.int .i64 h, .int .i64 l]] w fun e w' => e = .returned (.bool true) ∧ Gr w w' := by
  obtain ⟨a, b, c, d⟩ := Wd.vld_true hv
  clear hv
  have a' : decide (-1152921504606846976 ≤ h) = true := by simpa using a
  have b' : decide (h < 1152921504606846976) = true := by simp; omega
  have c' : decide (0 ≤ l) = true := by simpa using c
  have d' : decide (l < 1152921504606846976) = true := by simp; omega
  go_enter Try.func114, Try.ntmps114
  go_wp2
  go_returns
  exact ⟨by first | rfl | (simp; done), gr_auto⟩
set_option maxHeartbeats 400000 in
theorem valid_false (h l : Int) (w : World) (hv : Wd.vld h l = false) :
    Calls Try.prog 114 #[.agg #[.int .i64 h, .int .i64 l]] w fun e w' => e = .returned (.bool false) ∧ Gr w w' := by
  have hv' := Wd.vld_false hv
  clear hv
  by_cases a : -1152921504606846976 ≤ h
  · have a' : decide (-1152921504606846976 ≤ h) = true := by simpa using a
    by_cases b : h < 1152921504606846976
    · have b' : decide (h < 1152921504606846976) = true := by simpa using b
      by_cases c : 0 ≤ l
      · have c' : decide (0 ≤ l) = true := by simpa using c
        have d' : decide (l < 1152921504606846976) = false := by simp; omega
        clear hv'
        go_enter Try.func114, Try.ntmps114
        go_wp2
        go_returns
        exact ⟨by first | rfl | (simp; done), gr_auto⟩
      · have c' : decide (0 ≤ l) = false := by simpa using c
        clear hv'
        go_enter Try.func114, Try.ntmps114
        go_wp2
        go_returns
        exact ⟨by first | rfl | (simp; done), gr_auto⟩
    · have b' : decide (h < 1152921504606846976) = false := by simpa using b
      clear hv'
      go_enter Try.func114, Try.ntmps114
      go_wp2
      go_returns
      exact ⟨by first | rfl | (simp; done), gr_auto⟩
  · have a' : decide (-1152921504606846976 ≤ h) = false := by simpa using a
    clear hv'
    go_enter Try.func114, Try.ntmps114
    go_wp2
    go_returns
    exact ⟨by first | rfl | (simp; done), gr_auto⟩
theorem valid_any (h l : Int) (w : World) :
    Calls Try.prog 114 #[.agg #[.int .i64 h, .int .i64 l]] w fun e w' => e = .returned (.bool (Wd.vld h l)) ∧ Gr w w' := by
  cases hv : Wd.vld h l
  · exact valid_false h l w hv
  · exact valid_true h l w hv
end Go.Proofs.Ytjighhphadfoiaa
