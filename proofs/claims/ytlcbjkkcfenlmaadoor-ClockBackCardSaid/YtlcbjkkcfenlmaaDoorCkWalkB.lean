import Derived.Test.YtlcbjkkcfenlmaaDoorCkWalkA
set_option linter.unusedVariables false
set_option linter.unusedSimpArgs false
namespace Go.Proofs.YtlcbjkkcfenlmaaDoor
open Go.RowKit
set_option maxHeartbeats 400000 in
theorem floor_any (a b : Int) (w : World) (b0 : 1 ≤ b) (b1 : b ≤ 1099511627776) (a0 : -4611686018427387904 ≤ a) (a1 : a ≤ 4611686018427387904) :
    Calls Tryd.prog 37 #[.int .i64 a, .int .i64 b] w fun e w' => e = .returned (.int .i64 (a / b)) ∧ w = w' := by
  have hf := Ck.tdiv_floor a b (by omega)
  obtain ⟨q0, q1⟩ := Ck.div_bd (n := a) (B := 4611686018427387904) b0 (by omega) (by omega)
  have hz : (b == 0) = false := beq_eq_false_iff_ne.2 (by omega)
  by_cases hr : a.tmod b < 0
  · have hd : decide (a.tmod b < 0) = true := decide_eq_true hr
    rw [if_pos hr] at hf
    have HF := Lib.hid hf; clear hf hr
    go_enter Tryd.func37, Tryd.ntmps37
    go_wp2
    go_ret
    exact ⟨ret_int (by rw [HF.out]; exact IntWalk.wrap64_in _ (by omega)), rfl⟩
  · have hd : decide (a.tmod b < 0) = false := decide_eq_false hr
    rw [if_neg hr] at hf
    have HF := Lib.hid hf; clear hf hr
    go_enter Tryd.func37, Tryd.ntmps37
    go_wp2
    go_ret
    exact ⟨ret_int HF.out, rfl⟩
theorem rfloor_eq (a b : Int) : a - a.tdiv b * b = a.tmod b := by
  have := Int.mul_tdiv_add_tmod a b; rw [Int.mul_comm] at this; omega
set_option maxHeartbeats 400000 in
theorem rfloor_any (a b : Int) (w : World) (b0 : 1 ≤ b) (b1 : b ≤ 1099511627776) (a0 : -4611686018427387904 ≤ a) (a1 : a ≤ 4611686018427387904) :
    Calls Tryd.prog 38 #[.int .i64 a, .int .i64 b] w fun e w' => e = .returned (.int .i64 (a / b)) ∧ w = w' := by
  have hf := Ck.tdiv_floor a b (by omega)
  obtain ⟨q0, q1⟩ := Ck.div_bd (n := a) (B := 4611686018427387904) b0 (by omega) (by omega)
  have hz : (b == 0) = false := beq_eq_false_iff_ne.2 (by omega)
  have he := rfloor_eq a b
  have hm0 : -1099511627776 ≤ a.tmod b := by have := Int.lt_tmod_of_pos a (show 0 < b by omega); omega
  have hm1 : a.tmod b ≤ 1099511627776 := by have := Int.tmod_lt_of_pos a (show 0 < b by omega); omega
  have p0 : -4611687117939015680 ≤ a.tdiv b * b := by omega
  have p1 : a.tdiv b * b ≤ 4611687117939015680 := by omega
  have r0 : -1099511627776 ≤ a - a.tdiv b * b := by omega
  have r1 : a - a.tdiv b * b ≤ 1099511627776 := by omega
  by_cases hr : a.tmod b < 0
  · have hd : decide (a - a.tdiv b * b < 0) = true := decide_eq_true (by omega)
    rw [if_pos hr] at hf
    have HF := Lib.hid hf; clear hf hr he
    go_enter Tryd.func38, Tryd.ntmps38
    go_wp2
    go_ret
    exact ⟨ret_int (by rw [HF.out]; exact IntWalk.wrap64_in _ (by omega)), rfl⟩
  · have hd : decide (a - a.tdiv b * b < 0) = false := decide_eq_false (by omega)
    rw [if_neg hr] at hf
    have HF := Lib.hid hf; clear hf hr he
    go_enter Tryd.func38, Tryd.ntmps38
    go_wp2
    go_ret
    exact ⟨ret_int HF.out, rfl⟩
set_option maxHeartbeats 400000 in
theorem rinstant_any (t : Int) (w : World) :
    Calls Tryd.prog 13 #[.int .i64 t] w fun e w' => e = .returned (.bool (Ck.inst t)) ∧ w = w' := by
  cases h : Ck.inst t
  · rcases Ck.inst_no h with k | k
    · have a : decide (-68719476736 ≤ t) = false := decide_eq_false (by omega)
      clear k h
      go_enter Tryd.func13, Tryd.ntmps13
      go_wp2
      go_ret
      exact ⟨rfl, rfl⟩
    · have a : decide (-68719476736 ≤ t) = true := decide_eq_true (by omega)
      have b : decide (t ≤ 68719476736) = false := decide_eq_false (by omega)
      clear k h
      go_enter Tryd.func13, Tryd.ntmps13
      go_wp2
      go_ret
      exact ⟨rfl, rfl⟩
  · obtain ⟨k, l⟩ := (Ck.inst_iff t).1 h
    have a : decide (-68719476736 ≤ t) = true := decide_eq_true (by omega)
    have b : decide (t ≤ 68719476736) = true := decide_eq_true (by omega)
    clear k l h
    go_enter Tryd.func13, Tryd.ntmps13
    go_wp2
    go_ret
    exact ⟨rfl, rfl⟩
set_option maxHeartbeats 400000 in
theorem rlength_any (t : Int) (w : World) :
    Calls Tryd.prog 14 #[.int .i64 t] w fun e w' => e = .returned (.bool (Ck.len t)) ∧ w = w' := by
  cases h : Ck.len t
  · rcases Ck.len_no h with k | k
    · have a : decide (1 ≤ t) = false := decide_eq_false (by omega)
      clear k h
      go_enter Tryd.func14, Tryd.ntmps14
      go_wp2
      go_ret
      exact ⟨rfl, rfl⟩
    · have a : decide (1 ≤ t) = true := decide_eq_true (by omega)
      have b : decide (t ≤ 86400) = false := decide_eq_false (by omega)
      clear k h
      go_enter Tryd.func14, Tryd.ntmps14
      go_wp2
      go_ret
      exact ⟨rfl, rfl⟩
  · obtain ⟨k, l⟩ := (Ck.len_iff t).1 h
    have a : decide (1 ≤ t) = true := decide_eq_true (by omega)
    have b : decide (t ≤ 86400) = true := decide_eq_true (by omega)
    clear k l h
    go_enter Tryd.func14, Tryd.ntmps14
    go_wp2
    go_ret
    exact ⟨rfl, rfl⟩
set_option maxHeartbeats 400000 in
theorem step_bad (f s t : Int) (w : World) (h : Ck.inst f = false ∨ Ck.inst f = true ∧ (Ck.inst t = false ∨ Ck.inst t = true ∧ Ck.len s = false)) :
    Calls Tryd.prog 12 #[.int .i64 f, .int .i64 s, .int .i64 t] w fun e w' => e = .returned (.tuple #[.int .i64 0, .int .i64 2]) ∧ w = w' := by
  rcases h with h | ⟨h1, h | ⟨h2, h⟩⟩
  all_goals
    go_enter Tryd.func12, Tryd.ntmps12
    go_wp2_with (first | (go_at_call 35; refine (instant_any _ _).mono ?_; rintro e w' ⟨rfl, rfl⟩) | (go_at_call 36; refine (length_any _ _).mono ?_; rintro e w' ⟨rfl, rfl⟩) | (go_at_call 37; refine (floor_any _ _ _ (by omega) (by omega) (by omega) (by omega)).mono ?_; rintro e w' ⟨rfl, rfl⟩))
    go_ret2
    exact ⟨rfl, rfl⟩
set_option maxHeartbeats 400000 in
theorem step_any (f s t : Int) (w : World) (h1 : Ck.inst f = true) (h2 : Ck.inst t = true) (h3 : Ck.len s = true) :
    Calls Tryd.prog 12 #[.int .i64 f, .int .i64 s, .int .i64 t] w fun e w' => e = .returned (.tuple #[.int .i64 ((t - f) / s), .int .i64 0]) ∧ w = w' := by
  obtain ⟨a, b⟩ := (Ck.inst_iff f).1 h1; obtain ⟨c, d⟩ := (Ck.inst_iff t).1 h2; obtain ⟨e, g⟩ := (Ck.len_iff s).1 h3
  go_enter Tryd.func12, Tryd.ntmps12
  go_wp2_with (first | (go_at_call 35; refine (instant_any _ _).mono ?_; rintro e w' ⟨rfl, rfl⟩) | (go_at_call 36; refine (length_any _ _).mono ?_; rintro e w' ⟨rfl, rfl⟩) | (go_at_call 37; refine (floor_any _ _ _ (by omega) (by omega) (by omega) (by omega)).mono ?_; rintro e w' ⟨rfl, rfl⟩))
  go_ret2
  exact ⟨rfl, rfl⟩
set_option maxHeartbeats 400000 in
theorem rstep_any (f s t : Int) (w : World) (h1 : Ck.inst f = true) (h2 : Ck.inst t = true) (h3 : Ck.len s = true) :
    Calls Tryd.prog 15 #[.int .i64 f, .int .i64 s, .int .i64 t] w fun e w' => e = .returned (.int .i64 ((t - f) / s)) ∧ w = w' := by
  obtain ⟨a, b⟩ := (Ck.inst_iff f).1 h1; obtain ⟨c, d⟩ := (Ck.inst_iff t).1 h2; obtain ⟨e, g⟩ := (Ck.len_iff s).1 h3
  go_enter Tryd.func15, Tryd.ntmps15
  go_wp2_with (first | (go_at_call 13; refine (rinstant_any _ _).mono ?_; rintro e w' ⟨rfl, rfl⟩) | (go_at_call 14; refine (rlength_any _ _).mono ?_; rintro e w' ⟨rfl, rfl⟩) | (go_at_call 38; refine (rfloor_any _ _ _ (by omega) (by omega) (by omega) (by omega)).mono ?_; rintro e w' ⟨rfl, rfl⟩))
  go_ret
  exact ⟨rfl, rfl⟩
def Ck.ovBad (f s k a b : Int) : Prop := Ck.inst f = false ∨ Ck.inst f = true ∧ (Ck.inst a = false ∨ Ck.inst a = true ∧ (Ck.inst b = false ∨ Ck.inst b = true ∧ (Ck.len s = false ∨ Ck.len s = true ∧ (decide (k < -1099511627776) = true ∨ decide (k < -1099511627776) = false ∧ decide (1099511627776 < k) = true))))
set_option maxHeartbeats 400000 in
theorem over_bad (f s k a b : Int) (w : World) (h : Ck.ovBad f s k a b) :
    Calls Tryd.prog 16 #[.int .i64 f, .int .i64 s, .int .i64 k, .int .i64 a, .int .i64 b] w fun e w' => e = .returned (.tuple #[.int .i64 0, .int .i64 2]) ∧ w = w' := by
  rcases h with h | ⟨h1, h | ⟨h2, h | ⟨h3, h | ⟨h4, h | ⟨h5, h⟩⟩⟩⟩⟩
  all_goals
    go_enter Tryd.func16, Tryd.ntmps16
    go_wp2_with (first | (go_at_call 35; refine (instant_any _ _).mono ?_; rintro e w' ⟨rfl, rfl⟩) | (go_at_call 36; refine (length_any _ _).mono ?_; rintro e w' ⟨rfl, rfl⟩) | (go_at_call 37; refine (floor_any _ _ _ (by omega) (by omega) (by omega) (by omega)).mono ?_; rintro e w' ⟨rfl, rfl⟩))
    go_ret2
    exact ⟨rfl, rfl⟩
set_option maxHeartbeats 400000 in
theorem over_order (f s k a b : Int) (w : World) (h1 : Ck.inst f = true) (h2 : Ck.inst a = true) (h3 : Ck.inst b = true) (h4 : Ck.len s = true) (k0 : -1099511627776 ≤ k) (k1 : k ≤ 1099511627776) (hab : b < a) :
    Calls Tryd.prog 16 #[.int .i64 f, .int .i64 s, .int .i64 k, .int .i64 a, .int .i64 b] w fun e w' => e = .returned (.tuple #[.int .i64 0, .int .i64 17]) ∧ w = w' := by
  have e1 : decide (k < -1099511627776) = false := decide_eq_false (by omega)
  have e2 : decide (1099511627776 < k) = false := decide_eq_false (by omega)
  have e3 : decide (b < a) = true := decide_eq_true hab
  clear k0 k1 hab
  go_enter Tryd.func16, Tryd.ntmps16
  go_wp2_with (first | (go_at_call 35; refine (instant_any _ _).mono ?_; rintro e w' ⟨rfl, rfl⟩) | (go_at_call 36; refine (length_any _ _).mono ?_; rintro e w' ⟨rfl, rfl⟩) | (go_at_call 37; refine (floor_any _ _ _ (by omega) (by omega) (by omega) (by omega)).mono ?_; rintro e w' ⟨rfl, rfl⟩))
  go_ret2
  exact ⟨rfl, rfl⟩
set_option maxHeartbeats 800000 in
theorem over_any (f s k a b : Int) (w : World) (h1 : Ck.inst f = true) (h2 : Ck.inst a = true) (h3 : Ck.inst b = true) (h4 : Ck.len s = true) (k0 : -1099511627776 ≤ k) (k1 : k ≤ 1099511627776) (hab : a ≤ b) :
    Calls Tryd.prog 16 #[.int .i64 f, .int .i64 s, .int .i64 k, .int .i64 a, .int .i64 b] w fun e w' => e = .returned (.tuple #[.int .i64 (Ck.lap (f + k * s) s a b), .int .i64 0]) ∧ w = w' := by
  have e1 : decide (k < -1099511627776) = false := decide_eq_false (by omega)
  have e2 : decide (1099511627776 < k) = false := decide_eq_false (by omega)
  have e3 : decide (b < a) = false := decide_eq_false (by omega)
  obtain ⟨f0, f1⟩ := (Ck.inst_iff f).1 h1; obtain ⟨a0, a1⟩ := (Ck.inst_iff a).1 h2; obtain ⟨b0, b1⟩ := (Ck.inst_iff b).1 h3; obtain ⟨s0, s1⟩ := (Ck.len_iff s).1 h4
  obtain ⟨p0, p1⟩ := Ck.mul_bd k0 k1 (by omega) s1
  go_enter Tryd.func16, Tryd.ntmps16
  go_wp2_with (first | (go_at_call 35; refine (instant_any _ _).mono ?_; rintro e w' ⟨rfl, rfl⟩) | (go_at_call 36; refine (length_any _ _).mono ?_; rintro e w' ⟨rfl, rfl⟩) | (go_at_call 37; refine (floor_any _ _ _ (by omega) (by omega) (by omega) (by omega)).mono ?_; rintro e w' ⟨rfl, rfl⟩))
  all_goals
    go_ret2
    exact ⟨ret_two (by (try have HQ := HQ.out); unfold Ck.lap; omega) rfl, rfl⟩
def Ck.rovBad (f s k a b : Int) : Prop := Ck.inst f = false ∨ Ck.inst f = true ∧ (Ck.inst a = false ∨ Ck.inst a = true ∧ (Ck.inst b = false ∨ Ck.inst b = true ∧ (Ck.len s = false ∨ Ck.len s = true ∧ (decide (k < -1099511627776) = true ∨ decide (k < -1099511627776) = false ∧ decide (1099511627776 < k) = true))))
set_option maxHeartbeats 400000 in
theorem rover_bad (f s k a b : Int) (w : World) (h : Ck.rovBad f s k a b) :
    Calls Tryd.prog 17 #[.int .i64 f, .int .i64 s, .int .i64 k, .int .i64 a, .int .i64 b] w fun e w' => e = .returned (.tuple #[.int .i64 0, .int .i64 2]) ∧ w = w' := by
  rcases h with h | ⟨h1, h | ⟨h2, h | ⟨h3, h | ⟨h4, h | ⟨h5, h⟩⟩⟩⟩⟩
  all_goals
    go_enter Tryd.func17, Tryd.ntmps17
    go_wp2_with (first | (go_at_call 13; refine (rinstant_any _ _).mono ?_; rintro e w' ⟨rfl, rfl⟩) | (go_at_call 14; refine (rlength_any _ _).mono ?_; rintro e w' ⟨rfl, rfl⟩) | (go_at_call 38; refine (rfloor_any _ _ _ (by omega) (by omega) (by omega) (by omega)).mono ?_; rintro e w' ⟨rfl, rfl⟩))
    go_ret2
    exact ⟨rfl, rfl⟩
set_option maxHeartbeats 400000 in
theorem rover_order (f s k a b : Int) (w : World) (h1 : Ck.inst f = true) (h2 : Ck.inst a = true) (h3 : Ck.inst b = true) (h4 : Ck.len s = true) (k0 : -1099511627776 ≤ k) (k1 : k ≤ 1099511627776) (hab : b < a) :
    Calls Tryd.prog 17 #[.int .i64 f, .int .i64 s, .int .i64 k, .int .i64 a, .int .i64 b] w fun e w' => e = .returned (.tuple #[.int .i64 0, .int .i64 17]) ∧ w = w' := by
  have e1 : decide (k < -1099511627776) = false := decide_eq_false (by omega)
  have e2 : decide (1099511627776 < k) = false := decide_eq_false (by omega)
  have e3 : decide (b < a) = true := decide_eq_true hab
  clear k0 k1 hab
  go_enter Tryd.func17, Tryd.ntmps17
  go_wp2_with (first | (go_at_call 13; refine (rinstant_any _ _).mono ?_; rintro e w' ⟨rfl, rfl⟩) | (go_at_call 14; refine (rlength_any _ _).mono ?_; rintro e w' ⟨rfl, rfl⟩) | (go_at_call 38; refine (rfloor_any _ _ _ (by omega) (by omega) (by omega) (by omega)).mono ?_; rintro e w' ⟨rfl, rfl⟩))
  go_ret2
  exact ⟨rfl, rfl⟩
set_option maxHeartbeats 800000 in
theorem rover_any (f s k a b : Int) (w : World) (h1 : Ck.inst f = true) (h2 : Ck.inst a = true) (h3 : Ck.inst b = true) (h4 : Ck.len s = true) (k0 : -1099511627776 ≤ k) (k1 : k ≤ 1099511627776) (hab : a ≤ b) :
    Calls Tryd.prog 17 #[.int .i64 f, .int .i64 s, .int .i64 k, .int .i64 a, .int .i64 b] w fun e w' => e = .returned (.tuple #[.int .i64 (Ck.lap (f + k * s) s a b), .int .i64 0]) ∧ w = w' := by
  have e1 : decide (k < -1099511627776) = false := decide_eq_false (by omega)
  have e2 : decide (1099511627776 < k) = false := decide_eq_false (by omega)
  have e3 : decide (b < a) = false := decide_eq_false (by omega)
  obtain ⟨f0, f1⟩ := (Ck.inst_iff f).1 h1; obtain ⟨a0, a1⟩ := (Ck.inst_iff a).1 h2; obtain ⟨b0, b1⟩ := (Ck.inst_iff b).1 h3; obtain ⟨s0, s1⟩ := (Ck.len_iff s).1 h4
  obtain ⟨p0, p1⟩ := Ck.mul_bd k0 k1 (by omega) s1
  have q0 : -94997804639932800 ≤ (k + 1) * s := by rw [Int.add_mul]; omega
  have q1 : (k + 1) * s ≤ 94997804639932800 := by rw [Int.add_mul]; omega
  have HQ := Lib.hid (show (k + 1) * s = k * s + s by rw [Int.add_mul]; omega)
  go_enter Tryd.func17, Tryd.ntmps17
  go_wp2_with (first | (go_at_call 13; refine (rinstant_any _ _).mono ?_; rintro e w' ⟨rfl, rfl⟩) | (go_at_call 14; refine (rlength_any _ _).mono ?_; rintro e w' ⟨rfl, rfl⟩) | (go_at_call 38; refine (rfloor_any _ _ _ (by omega) (by omega) (by omega) (by omega)).mono ?_; rintro e w' ⟨rfl, rfl⟩))
  all_goals
    go_ret2
    exact ⟨ret_two (by (try have HQ := HQ.out); unfold Ck.lap; omega) rfl, rfl⟩
end Go.Proofs.YtlcbjkkcfenlmaaDoor
