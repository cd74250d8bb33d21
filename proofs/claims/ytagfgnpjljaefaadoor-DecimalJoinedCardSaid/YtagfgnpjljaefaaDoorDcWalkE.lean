import Derived.Test.YtagfgnpjljaefaaDoorDcWalkD
set_option linter.unusedVariables false
set_option linter.unusedSimpArgs false
namespace Go.Proofs.YtagfgnpjljaefaaDoor
open Go.RowKit
def Dc.plc (n : Int) : Bool := decide (0 ≤ n) && decide (n ≤ 9)
theorem Dc.plc_iff (n : Int) : Dc.plc n = true ↔ 0 ≤ n ∧ n ≤ 9 := by unfold Dc.plc; simp only [Bool.and_eq_true, decide_eq_true_eq]
set_option maxRecDepth 100000 in
theorem places_any (n : Int) (w : World) : Calls Tryd.prog 28 #[.int .i64 n] w fun e w' => e = .returned (.bool (Dc.plc n)) ∧ w = w' := by
  by_cases h0 : 0 ≤ n
  · have t0 : decide (0 ≤ n) = true := decide_eq_true h0
    by_cases h1 : n ≤ 9
    · have t1 : decide (n ≤ 9) = true := decide_eq_true h1
      have HZ := Lib.hid (show (Dc.plc n) = true by unfold Dc.plc; rw [t0, t1]; rfl)
      clear h0 h1
      go_enter Tryd.func28, Tryd.ntmps28
      go_wp2
      go_ret
      exact ⟨ret_bool (by rw [HZ.out]), rfl⟩
    · have t1 : decide (n ≤ 9) = false := decide_eq_false h1
      have HZ := Lib.hid (show (Dc.plc n) = false by unfold Dc.plc; rw [t0, t1]; rfl)
      clear h0 h1
      go_enter Tryd.func28, Tryd.ntmps28
      go_wp2
      go_ret
      exact ⟨ret_bool (by rw [HZ.out]), rfl⟩
  · have t0 : decide (0 ≤ n) = false := decide_eq_false h0
    have HZ := Lib.hid (show (Dc.plc n) = false by unfold Dc.plc; rw [t0]; rfl)
    clear h0
    go_enter Tryd.func28, Tryd.ntmps28
    go_wp2
    go_ret
    exact ⟨ret_bool (by rw [HZ.out]), rfl⟩
set_option maxRecDepth 100000 in
theorem number_any (n : Int) (w : World) : Calls Tryd.prog 29 #[.int .i64 n] w fun e w' => e = .returned (.bool (Dc.num n)) ∧ w = w' := by
  by_cases h0 : -1152921504606846976 ≤ n
  · have t0 : decide (-1152921504606846976 ≤ n) = true := decide_eq_true h0
    by_cases h1 : n ≤ 1152921504606846976
    · have t1 : decide (n ≤ 1152921504606846976) = true := decide_eq_true h1
      have HZ := Lib.hid (show (Dc.num n) = true by unfold Dc.num; rw [t0, t1]; rfl)
      clear h0 h1
      go_enter Tryd.func29, Tryd.ntmps29
      go_wp2
      go_ret
      exact ⟨ret_bool (by rw [HZ.out]), rfl⟩
    · have t1 : decide (n ≤ 1152921504606846976) = false := decide_eq_false h1
      have HZ := Lib.hid (show (Dc.num n) = false by unfold Dc.num; rw [t0, t1]; rfl)
      clear h0 h1
      go_enter Tryd.func29, Tryd.ntmps29
      go_wp2
      go_ret
      exact ⟨ret_bool (by rw [HZ.out]), rfl⟩
  · have t0 : decide (-1152921504606846976 ≤ n) = false := decide_eq_false h0
    have HZ := Lib.hid (show (Dc.num n) = false by unfold Dc.num; rw [t0]; rfl)
    clear h0
    go_enter Tryd.func29, Tryd.ntmps29
    go_wp2
    go_ret
    exact ⟨ret_bool (by rw [HZ.out]), rfl⟩
set_option maxRecDepth 100000 in
theorem rnumber_any (n : Int) (w : World) : Calls Tryd.prog 11 #[.int .i64 n] w fun e w' => e = .returned (.bool (Dc.num n)) ∧ w = w' := by
  by_cases h0 : -1152921504606846976 ≤ n
  · have t0 : decide (-1152921504606846976 ≤ n) = true := decide_eq_true h0
    by_cases h1 : n ≤ 1152921504606846976
    · have t1 : decide (n ≤ 1152921504606846976) = true := decide_eq_true h1
      have HZ := Lib.hid (show (Dc.num n) = true by unfold Dc.num; rw [t0, t1]; rfl)
      clear h0 h1
      go_enter Tryd.func11, Tryd.ntmps11
      go_wp2
      go_ret
      exact ⟨ret_bool (by rw [HZ.out]), rfl⟩
    · have t1 : decide (n ≤ 1152921504606846976) = false := decide_eq_false h1
      have HZ := Lib.hid (show (Dc.num n) = false by unfold Dc.num; rw [t0, t1]; rfl)
      clear h0 h1
      go_enter Tryd.func11, Tryd.ntmps11
      go_wp2
      go_ret
      exact ⟨ret_bool (by rw [HZ.out]), rfl⟩
  · have t0 : decide (-1152921504606846976 ≤ n) = false := decide_eq_false h0
    have HZ := Lib.hid (show (Dc.num n) = false by unfold Dc.num; rw [t0]; rfl)
    clear h0
    go_enter Tryd.func11, Tryd.ntmps11
    go_wp2
    go_ret
    exact ⟨ret_bool (by rw [HZ.out]), rfl⟩
theorem ret_ii {a b a' b' : Int} (h : a = a') (h1 : b = b') : Ending.returned (.tuple #[.int .i64 a, .int .i64 b]) = .returned (.tuple #[.int .i64 a', .int .i64 b']) := by rw [h, h1]
theorem round_unit (n u : Int) (w : World) (h : u < 1 ∨ 1099511627776 < u) : Calls Tryd.prog 13 #[.int .i64 n, .int .i64 u] w fun e w' => e = .returned (.tuple #[.int .i64 0, .int .i64 2]) ∧ w = w' := by
  rcases h with h | h
  · have t0 : decide (u < 1) = true := decide_eq_true h
    clear h
    go_enter Tryd.func13, Tryd.ntmps13
    go_wp2
    go_ret2
    exact ⟨rfl, rfl⟩
  · have t0 : decide (u < 1) = false := decide_eq_false (by omega)
    have t1 : decide (1099511627776 < u) = true := decide_eq_true h
    clear h
    go_enter Tryd.func13, Tryd.ntmps13
    go_wp2
    go_ret2
    exact ⟨rfl, rfl⟩
theorem round_big (n u : Int) (w : World) (h : 1 ≤ u ∧ u ≤ 1099511627776) (hn : Dc.num n = false) : Calls Tryd.prog 13 #[.int .i64 n, .int .i64 u] w fun e w' => e = .returned (.tuple #[.int .i64 0, .int .i64 5]) ∧ w = w' := by
  have HN := Lib.hid (number_any n)
  rw [hn] at HN
  have t0 : decide (u < 1) = false := decide_eq_false (by omega)
  have t1 : decide (1099511627776 < u) = false := decide_eq_false (by omega)
  clear h hn
  go_enter Tryd.func13, Tryd.ntmps13
  go_wp2_with (first | (go_at_call 29; with_reducible refine (HN.out _).mono ?_; rintro e w' ⟨rfl, rfl⟩))
  go_ret2
  exact ⟨rfl, rfl⟩
theorem Dc.tmod_bd {n u : Int} (hu : 1 ≤ u) : -u < n.tmod u ∧ n.tmod u < u := ⟨by have := Int.lt_tmod_of_pos n (show 0 < u by omega); omega, Int.tmod_lt_of_pos n (by omega)⟩
theorem Dc.tdiv_bd {n u : Int} (hu : 1 ≤ u) (hn : Dc.num n = true) : -1152921504606846976 ≤ n.tdiv u ∧ n.tdiv u ≤ 1152921504606846976 := by
  have := (Dc.num_iff n).1 hn
  have a := Int.natAbs_tdiv_le_natAbs n u
  omega
set_option maxHeartbeats 1000000 in
theorem round_any (n u : Int) (w : World) (h : 1 ≤ u ∧ u ≤ 1099511627776) (hn : Dc.num n = true) : Calls Tryd.prog 13 #[.int .i64 n, .int .i64 u] w fun e w' => e = .returned (.tuple #[.int .i64 (Dc.rn n u), .int .i64 0]) ∧ Gr w w' := by
  have HN := Lib.hid (number_any n)
  rw [hn] at HN
  obtain ⟨u1, u2⟩ := h
  have t0 : decide (u < 1) = false := decide_eq_false (by omega)
  have t1 : decide (1099511627776 < u) = false := decide_eq_false (by omega)
  have tb := Dc.tmod_bd (n := n) u1
  have db := Dc.tdiv_bd (n := n) u1 hn
  have hP := fun h => Dc.tdiv_pos (n := n) u1 h
  have hM := fun h => Dc.tdiv_neg (n := n) u1 h
  obtain ⟨n1, n2⟩ := (Dc.num_iff n).1 hn
  have hu0 : (u == 0) = false := by rw [beq_eq_false_iff_ne]; omega
  have hu1 : u ≠ 0 := by omega
  have hu2 : u ≠ -1 := by omega
  have x0 : IntKind.i64.wrap (n.tdiv u) = n.tdiv u := IntWalk.i64_in _ (by omega)
  have x1 : IntKind.i64.wrap (n.tmod u) = n.tmod u := IntWalk.i64_in _ (by omega)
  clear hn
  by_cases hr : n.tmod u < 0
  · obtain ⟨e1, e2⟩ := hM hr
    have HR : Hid (Dc.rn n u = if u ≤ 2 * (n.tmod u + u) then n.tdiv u - 1 + 1 else n.tdiv u - 1) := Lib.hid (by unfold Dc.rn; rw [e1, e2])
    have t2 : decide (n.tmod u < 0) = true := decide_eq_true hr
    clear hP hM e1 e2 hr
    generalize Dc.rn n u = z at *
    by_cases hh : u ≤ 2 * (n.tmod u + u)
    · have t3 : decide (u ≤ 2 * (n.tmod u + u)) = true := decide_eq_true hh
      rw [if_pos hh] at HR
      clear hh
      go_enter Tryd.func13, Tryd.ntmps13
      go_wp2_with (first | (go_at_call 29; with_reducible refine (HN.out _).mono ?_; rintro e w' ⟨rfl, rfl⟩))
      go_quiet (fail)
      go_wp2
      go_ret2
      exact ⟨ret_ii (by have := HR.out; omega) rfl, (by repeat' (first | (with_reducible exact Gr.refl _) | (with_reducible assumption) | (with_reducible refine Gr.alloc ?_ _) | (with_reducible refine Gr.drew ?_) | (with_reducible refine Gr.drewN ?_ _) | (with_reducible refine Gr.setCell ?_ ?_ _) | (with_reducible refine Gr.trans ?_ (by with_reducible assumption)) | go_size))⟩
    · have t3 : decide (u ≤ 2 * (n.tmod u + u)) = false := decide_eq_false hh
      rw [if_neg hh] at HR
      clear hh
      go_enter Tryd.func13, Tryd.ntmps13
      go_wp2_with (first | (go_at_call 29; with_reducible refine (HN.out _).mono ?_; rintro e w' ⟨rfl, rfl⟩))
      go_quiet (fail)
      go_wp2
      go_ret2
      exact ⟨ret_ii (by have := HR.out; omega) rfl, (by repeat' (first | (with_reducible exact Gr.refl _) | (with_reducible assumption) | (with_reducible refine Gr.alloc ?_ _) | (with_reducible refine Gr.drew ?_) | (with_reducible refine Gr.drewN ?_ _) | (with_reducible refine Gr.setCell ?_ ?_ _) | (with_reducible refine Gr.trans ?_ (by with_reducible assumption)) | go_size))⟩
  · obtain ⟨e1, e2⟩ := hP (by omega)
    have HR : Hid (Dc.rn n u = if u ≤ 2 * n.tmod u then n.tdiv u + 1 else n.tdiv u) := Lib.hid (by unfold Dc.rn; rw [e1, e2])
    have t2 : decide (n.tmod u < 0) = false := decide_eq_false hr
    clear hP hM e1 e2
    generalize Dc.rn n u = z at *
    by_cases hh : u ≤ 2 * n.tmod u
    · have t3 : decide (u ≤ 2 * n.tmod u) = true := decide_eq_true hh
      rw [if_pos hh] at HR
      clear hh hr
      go_enter Tryd.func13, Tryd.ntmps13
      go_wp2_with (first | (go_at_call 29; with_reducible refine (HN.out _).mono ?_; rintro e w' ⟨rfl, rfl⟩))
      go_quiet (fail)
      go_wp2
      go_ret2
      exact ⟨ret_ii (by have := HR.out; omega) rfl, (by repeat' (first | (with_reducible exact Gr.refl _) | (with_reducible assumption) | (with_reducible refine Gr.alloc ?_ _) | (with_reducible refine Gr.drew ?_) | (with_reducible refine Gr.drewN ?_ _) | (with_reducible refine Gr.setCell ?_ ?_ _) | (with_reducible refine Gr.trans ?_ (by with_reducible assumption)) | go_size))⟩
    · have t3 : decide (u ≤ 2 * n.tmod u) = false := decide_eq_false hh
      rw [if_neg hh] at HR
      clear hh hr
      go_enter Tryd.func13, Tryd.ntmps13
      go_wp2_with (first | (go_at_call 29; with_reducible refine (HN.out _).mono ?_; rintro e w' ⟨rfl, rfl⟩))
      go_quiet (fail)
      go_wp2
      go_ret2
      exact ⟨ret_ii (by have := HR.out; omega) rfl, (by repeat' (first | (with_reducible exact Gr.refl _) | (with_reducible assumption) | (with_reducible refine Gr.alloc ?_ _) | (with_reducible refine Gr.drew ?_) | (with_reducible refine Gr.drewN ?_ _) | (with_reducible refine Gr.setCell ?_ ?_ _) | (with_reducible refine Gr.trans ?_ (by with_reducible assumption)) | go_size))⟩
set_option maxHeartbeats 1000000 in
theorem rround_any (n u : Int) (w : World) (h : 1 ≤ u ∧ u ≤ 1099511627776) (hn : Dc.num n = true) : Calls Tryd.prog 14 #[.int .i64 n, .int .i64 u] w fun e w' => e = .returned (.int .i64 (Dc.rn n u)) ∧ w = w' := by
  obtain ⟨u1, u2⟩ := h
  have tb := Dc.tmod_bd (n := n) u1
  have db := Dc.tdiv_bd (n := n) u1 hn
  have hP := fun h => Dc.tdiv_pos (n := n) u1 h
  have hM := fun h => Dc.tdiv_neg (n := n) u1 h
  obtain ⟨n1, n2⟩ := (Dc.num_iff n).1 hn
  have hu0 : (u == 0) = false := by rw [beq_eq_false_iff_ne]; omega
  have hu1 : u ≠ 0 := by omega
  have hu2 : u ≠ -1 := by omega
  have ed := Int.mul_tdiv_add_tmod n u
  rw [Int.mul_comm] at ed
  clear hn
  generalize hq : n.tdiv u = q at *
  generalize hp : q * u = p at *
  have er : n - p = n.tmod u := by omega
  have x5 : IntKind.i64.wrap p = p := IntWalk.i64_in _ (by omega)
  have x6 : IntKind.i64.wrap (n - p) = n.tmod u := (IntWalk.i64_in _ (by omega)).trans er
  by_cases hr : n.tmod u < 0
  · obtain ⟨e1, e2⟩ := hM hr
    have HR : Hid (Dc.rn n u = if u ≤ 2 * (n.tmod u + u) then q - 1 + 1 else q - 1) := Lib.hid (by unfold Dc.rn; rw [e1, e2])
    have t2 : decide (n.tmod u < 0) = true := decide_eq_true hr
    clear hP hM e1 e2 hr
    generalize Dc.rn n u = z at *
    by_cases hh : u ≤ 2 * (n.tmod u + u)
    · have t3 : decide (u ≤ 2 * (n.tmod u + u)) = true := decide_eq_true hh
      rw [if_pos hh] at HR
      clear hh er
      go_enter Tryd.func14, Tryd.ntmps14
      go_wp2
      go_ret
      exact ⟨ret_int (by have := HR.out; omega), rfl⟩
    · have t3 : decide (u ≤ 2 * (n.tmod u + u)) = false := decide_eq_false hh
      rw [if_neg hh] at HR
      clear hh er
      go_enter Tryd.func14, Tryd.ntmps14
      go_wp2
      go_ret
      exact ⟨ret_int (by have := HR.out; omega), rfl⟩
  · obtain ⟨e1, e2⟩ := hP (by omega)
    have HR : Hid (Dc.rn n u = if u ≤ 2 * n.tmod u then q + 1 else q) := Lib.hid (by unfold Dc.rn; rw [e1, e2])
    have t2 : decide (n.tmod u < 0) = false := decide_eq_false hr
    clear hP hM e1 e2
    generalize Dc.rn n u = z at *
    by_cases hh : u ≤ 2 * n.tmod u
    · have t3 : decide (u ≤ 2 * n.tmod u) = true := decide_eq_true hh
      rw [if_pos hh] at HR
      clear hh hr er
      go_enter Tryd.func14, Tryd.ntmps14
      go_wp2
      go_ret
      exact ⟨ret_int (by have := HR.out; omega), rfl⟩
    · have t3 : decide (u ≤ 2 * n.tmod u) = false := decide_eq_false hh
      rw [if_neg hh] at HR
      clear hh hr er
      go_enter Tryd.func14, Tryd.ntmps14
      go_wp2
      go_ret
      exact ⟨ret_int (by have := HR.out; omega), rfl⟩
end Go.Proofs.YtagfgnpjljaefaaDoor

