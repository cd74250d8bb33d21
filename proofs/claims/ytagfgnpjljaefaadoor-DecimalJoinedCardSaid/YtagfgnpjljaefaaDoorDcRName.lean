import Derived.Test.YtagfgnpjljaefaaDoorDcEqTok
set_option linter.unusedVariables false
set_option linter.unusedSimpArgs false
namespace Go.Proofs.YtagfgnpjljaefaaDoor
open Go.RowKit
theorem rword_zero (s : ByteArray) (w : World) (hm : s.size ≤ 9223372036854775806) : Calls Tryd.prog 45 #[.string s, .int .i64 0] w fun e w' => e = .returned (.int .i64 (Dc.word s.data.toList : Int)) ∧ w = w' := by
  have h := rword_any s 0 w (by omega) hm
  rw [List.drop_zero, Nat.zero_add] at h
  exact h
set_option maxRecDepth 100000 in
theorem risname_any (s : ByteArray) (w : World) (hm : s.size ≤ 1000) : Calls Tryd.prog 21 #[.string s] w fun e w' => e = .returned (.bool (Dc.isName s.data.toList)) ∧ w = w' := by
  have hL : s.data.toList.length = s.size := by simp
  have HD : Hid (Dc.isName s.data.toList = (decide (0 < s.size) && decide (s.size ≤ 20) && Dc.isL (s.data.toList.getD 0 0) && decide (Dc.word s.data.toList = s.size))) := Lib.hid (by unfold Dc.isName; rw [hL])
  have HC := Lib.hid (fun W => rword_zero s W (by omega))
  clear hL
  by_cases h0 : 0 < s.size
  · have t0 : ((s.size : Int) == 0) = false := by rw [beq_eq_false_iff_ne]; omega
    have gx := getD_byte s 0 h0
    have b0 : (s[0].toNat : Int) < 256 := by have := s[0].toNat_lt; omega
    have HA := Lib.hid (rletter_any s[0])
    rw [gx, decide_eq_true h0] at HD
    by_cases h1 : s.size ≤ 20
    · have t1 : decide ((20 : Int) < (s.size : Int)) = false := decide_eq_false (by omega)
      rw [decide_eq_true h1] at HD
      cases hl : Dc.isL s[0]
      · rw [hl] at HA HD
        clear gx hl h1
        go_enter Tryd.func21, Tryd.ntmps21
        go_wp2_with (first | (go_at_call 44; with_reducible refine (HA.out _).mono ?_; rintro e w' ⟨rfl, rfl⟩) | (go_at_call 45; with_reducible refine (HC.out _).mono ?_; rintro e w' ⟨rfl, rfl⟩))
        go_ret
        exact ⟨ret_bool (by rw [HD.out]; rfl), rfl⟩
      · rw [hl] at HA HD
        generalize Dc.word s.data.toList = m at *
        by_cases h2 : m = s.size
        · have t2 : ((m : Int) == (s.size : Int)) = true := by rw [beq_iff_eq]; omega
          rw [decide_eq_true h2] at HD
          clear gx hl h1 h2
          go_enter Tryd.func21, Tryd.ntmps21
          go_wp2_with (first | (go_at_call 44; with_reducible refine (HA.out _).mono ?_; rintro e w' ⟨rfl, rfl⟩) | (go_at_call 45; with_reducible refine (HC.out _).mono ?_; rintro e w' ⟨rfl, rfl⟩))
          go_ret
          exact ⟨ret_bool (by rw [HD.out]; rfl), rfl⟩
        · have t2 : ((m : Int) == (s.size : Int)) = false := by rw [beq_eq_false_iff_ne]; omega
          rw [decide_eq_false h2] at HD
          clear gx hl h1 h2
          go_enter Tryd.func21, Tryd.ntmps21
          go_wp2_with (first | (go_at_call 44; with_reducible refine (HA.out _).mono ?_; rintro e w' ⟨rfl, rfl⟩) | (go_at_call 45; with_reducible refine (HC.out _).mono ?_; rintro e w' ⟨rfl, rfl⟩))
          go_ret
          exact ⟨ret_bool (by rw [HD.out]; rfl), rfl⟩
    · have t1 : decide ((20 : Int) < (s.size : Int)) = true := decide_eq_true (by omega)
      rw [decide_eq_false h1] at HD
      clear gx h1
      go_enter Tryd.func21, Tryd.ntmps21
      go_wp2_with fail
      go_ret
      exact ⟨ret_bool (by rw [HD.out]; simp), rfl⟩
  · have t0 : ((s.size : Int) == 0) = true := by rw [beq_iff_eq]; omega
    rw [decide_eq_false h0] at HD
    clear h0
    go_enter Tryd.func21, Tryd.ntmps21
    go_wp2_with fail
    go_ret
    exact ⟨ret_bool (by rw [HD.out]; rfl), rfl⟩
end Go.Proofs.YtagfgnpjljaefaaDoor
