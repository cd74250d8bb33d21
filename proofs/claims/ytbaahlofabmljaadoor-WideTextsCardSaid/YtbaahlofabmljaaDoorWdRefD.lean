import Derived.Test.YtbaahlofabmljaaDoorWdRefC
set_option linter.unusedVariables false
set_option linter.unusedSimpArgs false
namespace Go.Proofs.YtbaahlofabmljaaDoor
open Go.RowKit
set_option maxHeartbeats 400000 in
theorem rvalid_any (h l : Int) (w : World) :
    Calls Tryd.prog 8 #[.agg #[.int .i64 h, .int .i64 l]] w fun e w' => e = .returned (.bool (Wd.vld h l)) ∧ Gr w w' := by
  cases hv : Wd.vld h l
  · have hv' := Wd.vld_false hv
    clear hv
    by_cases a : -1152921504606846976 ≤ h
    · have a' : decide (-1152921504606846976 ≤ h) = true := decide_eq_true a
      by_cases b : h < 1152921504606846976
      · have b' : decide (h < 1152921504606846976) = true := decide_eq_true b
        by_cases c : 0 ≤ l
        · have c' : decide (0 ≤ l) = true := decide_eq_true c
          have d' : decide (l < 1152921504606846976) = false := decide_eq_false (by omega)
          clear hv'
          go_enter Tryd.func8, Tryd.ntmps8
          go_wp2
          go_returns
          exact ⟨by first | rfl | (simp; done), (by repeat' (first | (with_reducible exact Gr.refl _) | (with_reducible assumption) | (with_reducible refine Gr.alloc ?_ _) | (with_reducible refine Gr.drew ?_) | (with_reducible refine Gr.drewN ?_ _) | (with_reducible refine Gr.setCell ?_ ?_ _) | (with_reducible refine Gr.trans ?_ (by with_reducible assumption)) | go_size))⟩
        · have c' : decide (0 ≤ l) = false := decide_eq_false c
          clear hv'
          go_enter Tryd.func8, Tryd.ntmps8
          go_wp2
          go_returns
          exact ⟨by first | rfl | (simp; done), (by repeat' (first | (with_reducible exact Gr.refl _) | (with_reducible assumption) | (with_reducible refine Gr.alloc ?_ _) | (with_reducible refine Gr.drew ?_) | (with_reducible refine Gr.drewN ?_ _) | (with_reducible refine Gr.setCell ?_ ?_ _) | (with_reducible refine Gr.trans ?_ (by with_reducible assumption)) | go_size))⟩
      · have b' : decide (h < 1152921504606846976) = false := decide_eq_false b
        clear hv'
        go_enter Tryd.func8, Tryd.ntmps8
        go_wp2
        go_returns
        exact ⟨by first | rfl | (simp; done), (by repeat' (first | (with_reducible exact Gr.refl _) | (with_reducible assumption) | (with_reducible refine Gr.alloc ?_ _) | (with_reducible refine Gr.drew ?_) | (with_reducible refine Gr.drewN ?_ _) | (with_reducible refine Gr.setCell ?_ ?_ _) | (with_reducible refine Gr.trans ?_ (by with_reducible assumption)) | go_size))⟩
    · have a' : decide (-1152921504606846976 ≤ h) = false := decide_eq_false a
      clear hv'
      go_enter Tryd.func8, Tryd.ntmps8
      go_wp2
      go_returns
      exact ⟨by first | rfl | (simp; done), (by repeat' (first | (with_reducible exact Gr.refl _) | (with_reducible assumption) | (with_reducible refine Gr.alloc ?_ _) | (with_reducible refine Gr.drew ?_) | (with_reducible refine Gr.drewN ?_ _) | (with_reducible refine Gr.setCell ?_ ?_ _) | (with_reducible refine Gr.trans ?_ (by with_reducible assumption)) | go_size))⟩
  · obtain ⟨a, b, c, d⟩ := Wd.vld_true hv
    clear hv
    have a' : decide (-1152921504606846976 ≤ h) = true := decide_eq_true a
    have b' : decide (h < 1152921504606846976) = true := decide_eq_true (by omega)
    have c' : decide (0 ≤ l) = true := decide_eq_true c
    have d' : decide (l < 1152921504606846976) = true := decide_eq_true (by omega)
    go_enter Tryd.func8, Tryd.ntmps8
    go_wp2
    go_returns
    exact ⟨by first | rfl | (simp; done), (by repeat' (first | (with_reducible exact Gr.refl _) | (with_reducible assumption) | (with_reducible refine Gr.alloc ?_ _) | (with_reducible refine Gr.drew ?_) | (with_reducible refine Gr.drewN ?_ _) | (with_reducible refine Gr.setCell ?_ ?_ _) | (with_reducible refine Gr.trans ?_ (by with_reducible assumption)) | go_size))⟩

theorem ret_ib {k : IntKind} {a b : Int} {c d : Bool} (h : a = b) (h' : c = d) : Ending.returned (.tuple #[.int k a, .bool c]) = .returned (.tuple #[.int k b, .bool d]) := by rw [h, h']
set_option maxHeartbeats 400000 in
theorem rshift_any (h l b : Int) (w : World) (h0 : 0 ≤ h) (l0 : 0 ≤ l) (l1 : l ≤ 18446744073709551615) (b0 : 0 ≤ b) (b1 : b ≤ 1) :
    Calls Tryd.prog 58 #[.agg #[.int .u64 h, .int .u64 l], .int .u64 b] w fun e w' => e = .returned (.agg #[.int .u64 ((h * 18446744073709551616 + l) * 2 / 18446744073709551616 % 18446744073709551616), .int .u64 (l * 2 % 18446744073709551616 + b)]) ∧ Gr w w' := by
  obtain ⟨X, hX⟩ : ∃ X, IntKind.u64.wrap (h * 2) = X := ⟨_, rfl⟩
  obtain ⟨Y, hY⟩ : ∃ X, IntKind.u64.wrap (l * 2) = X := ⟨_, rfl⟩
  have hX' := hX
  have hY' := hY
  rw [IntKind.wrap_u64] at hX' hY'
  have e1 : (h * 18446744073709551616 + l) * 2 / 18446744073709551616 % 18446744073709551616 = X + l / 9223372036854775808 := by omega
  have e2 : l * 2 % 18446744073709551616 = Y := hY'
  have bX : 0 ≤ X ∧ X + l / 9223372036854775808 ≤ 18446744073709551615 := by omega
  have bY : 0 ≤ Y ∧ Y + b ≤ 18446744073709551615 := by omega
  obtain ⟨X0, X1⟩ := bX
  obtain ⟨Y0, Y1⟩ := bY
  rw [e1, e2]
  clear e1 e2 hX' hY'
  go_enter Tryd.func58, Tryd.ntmps58
  go_wp2
  go_returns
  exact ⟨by first | rfl | (simp; done), (by repeat' (first | (with_reducible exact Gr.refl _) | (with_reducible assumption) | (with_reducible refine Gr.alloc ?_ _) | (with_reducible refine Gr.drew ?_) | (with_reducible refine Gr.drewN ?_ _) | (with_reducible refine Gr.setCell ?_ ?_ _) | (with_reducible refine Gr.trans ?_ (by with_reducible assumption)) | go_size))⟩
end Go.Proofs.YtbaahlofabmljaaDoor
