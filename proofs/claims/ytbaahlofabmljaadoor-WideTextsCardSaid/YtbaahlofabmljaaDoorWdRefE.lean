import Derived.Test.YtbaahlofabmljaaDoorWdRefD
set_option linter.unusedVariables false
set_option linter.unusedSimpArgs false
namespace Go.Proofs.YtbaahlofabmljaaDoor
open Go.RowKit
namespace Wd
/-- What the long division, bit by bit, knows behind i rounds. -/
def DInv (N D : Int) (i : Nat) (a q r : Int) : Prop := a = N * 2 ^ i % 340282366920938463463374607431768211456 ∧ q = N / 2 ^ (128 - i) / D ∧ r = N / 2 ^ (128 - i) % D
theorem dinv_start (N D : Int) (h0 : 0 ≤ N) (h1 : N < 340282366920938463463374607431768211456) : DInv N D 0 N 0 0 := by
  unfold DInv
  have e : N / 2 ^ (128 - 0) = 0 := Int.ediv_eq_zero_of_lt h0 (by have : (2 : Int) ^ (128 - 0) = 340282366920938463463374607431768211456 := by decide
                                                                  rw [this]; exact h1)
  rw [e]
  have e2 : (2 : Int) ^ 0 = 1 := rfl
  rw [e2]
  exact ⟨by omega, by simp, by simp⟩
theorem dinv_step (N D : Int) (i : Nat) (a q r : Int) (hi : i < 128) (h0 : 0 ≤ N) (hD : 0 < D) (h : DInv N D i a q r) :
    0 ≤ a / 170141183460469231731687303715884105728 ∧ a / 170141183460469231731687303715884105728 ≤ 1 ∧
    (D ≤ 2 * r + a / 170141183460469231731687303715884105728 → DInv N D (i + 1) (a * 2 % 340282366920938463463374607431768211456) (2 * q + 1) (2 * r + a / 170141183460469231731687303715884105728 - D)) ∧
    (2 * r + a / 170141183460469231731687303715884105728 < D → DInv N D (i + 1) (a * 2 % 340282366920938463463374607431768211456) (2 * q) (2 * r + a / 170141183460469231731687303715884105728)) := by
  obtain ⟨ha, hq, hr⟩ := h
  have hPp : (0 : Int) < 2 ^ (127 - i) := two_pos _
  have hIp : (0 : Int) < 2 ^ i := two_pos _
  have hPI : (2 : Int) ^ (127 - i) * 2 ^ i = 170141183460469231731687303715884105728 := by
    rw [← Int.pow_add]; have : 127 - i + i = 127 := by omega
    rw [this]; decide
  have hP2 : (2 : Int) ^ (128 - i) = 2 ^ (127 - i) * 2 := by
    have : 128 - i = (127 - i) + 1 := by omega
    rw [this, Int.pow_succ]
  have hP3 : 128 - (i + 1) = 127 - i := by omega
  have ht : N / 2 ^ (128 - i) = N / 2 ^ (127 - i) / 2 := by rw [hP2, Int.ediv_ediv_of_nonneg (Int.le_of_lt hPp)]
  have hN := Int.mul_ediv_add_emod N (2 ^ (127 - i))
  have s0 := Int.emod_nonneg N (show (2 : Int) ^ (127 - i) ≠ 0 by omega)
  have s1 := Int.emod_lt_of_pos N hPp
  have key : N * 2 ^ i = 170141183460469231731687303715884105728 * (N / 2 ^ (127 - i)) + N % 2 ^ (127 - i) * 2 ^ i := by
    conv => lhs; rw [← hN]
    rw [Int.add_mul, Int.mul_right_comm, hPI]
  have u0 := Int.mul_nonneg s0 (Int.le_of_lt hIp)
  have u1 : N % 2 ^ (127 - i) * 2 ^ i < 170141183460469231731687303715884105728 := by rw [← hPI]; exact Int.mul_lt_mul_of_pos_right s1 hIp
  have t0 := Int.ediv_nonneg h0 (Int.le_of_lt hPp)
  have hbit : a / 170141183460469231731687303715884105728 = N / 2 ^ (127 - i) % 2 := by rw [ha, key]; omega
  have ha2 : a * 2 % 340282366920938463463374607431768211456 = N * 2 ^ (i + 1) % 340282366920938463463374607431768211456 := by
    rw [ha, Int.pow_succ, ← Int.mul_assoc]; omega
  rw [ht] at hq hr
  unfold DInv
  rw [hP3, hbit, ha2]
  generalize N / 2 ^ (127 - i) = t at *
  have e := Int.mul_ediv_add_emod (t / 2) D
  have r0 := Int.emod_nonneg (t / 2) (show D ≠ 0 by omega)
  have r1 := Int.emod_lt_of_pos (t / 2) hD
  rw [← hq, ← hr] at e
  rw [← hr] at r0 r1
  have tt : t = D * (2 * q) + (2 * r + t % 2) := by
    have : D * (2 * q) = 2 * (D * q) := by rw [Int.mul_left_comm]
    rw [this]; omega
  have m1 : D * (2 * q + 1) = D * (2 * q) + D := by rw [Int.mul_add, Int.mul_one]
  refine ⟨by omega, by omega, fun hle => ⟨rfl, ?_, ?_⟩, fun hlt => ⟨rfl, ?_, ?_⟩⟩
  · have k : t = (2 * r + t % 2 - D) + D * (2 * q + 1) := by omega
    conv => rhs; rw [k]
    rw [Int.add_mul_ediv_left _ _ (by omega), Int.ediv_eq_zero_of_lt (by omega) (by omega)]; omega
  · have k : t = (2 * r + t % 2 - D) + D * (2 * q + 1) := by omega
    conv => rhs; rw [k]
    rw [Int.add_mul_emod_self_left]
    exact (Int.emod_eq_of_lt (by omega) (by omega)).symm
  · have k : t = (2 * r + t % 2) + D * (2 * q) := by omega
    conv => rhs; rw [k]
    rw [Int.add_mul_ediv_left _ _ (by omega), Int.ediv_eq_zero_of_lt (by omega) (by omega)]; omega
  · have k : t = (2 * r + t % 2) + D * (2 * q) := by omega
    conv => rhs; rw [k]
    rw [Int.add_mul_emod_self_left]
    exact (Int.emod_eq_of_lt (by omega) (by omega)).symm
theorem dinv_end (N D a q r : Int) (h : DInv N D 128 a q r) : q = N / D ∧ r = N % D := by
  obtain ⟨_, hq, hr⟩ := h
  have e : (2 : Int) ^ (128 - 128) = 1 := rfl
  rw [e, Int.ediv_one] at hq hr
  exact ⟨hq, hr⟩
theorem dinv_q {N D : Int} {i : Nat} {a q r : Int} (h0 : 0 ≤ N) (h1 : N < 340282366920938463463374607431768211456) (hD : 0 < D) (h : DInv N D i a q r) : 0 ≤ a ∧ a ≤ 340282366920938463463374607431768211455 ∧ 0 ≤ q ∧ q ≤ 340282366920938463463374607431768211455 ∧ 0 ≤ r ∧ r < D := by
  obtain ⟨ha, hq, hr⟩ := h
  have p := two_pos (128 - i)
  have a0 := Int.ediv_nonneg h0 (Int.le_of_lt p)
  have a1 := Int.ediv_le_self (2 ^ (128 - i)) h0
  have b0 := Int.ediv_nonneg a0 (Int.le_of_lt hD)
  have b1 := Int.ediv_le_self D a0
  have r0 := Int.emod_nonneg (N / 2 ^ (128 - i)) (show D ≠ 0 by omega)
  have r1 := Int.emod_lt_of_pos (N / 2 ^ (128 - i)) hD
  omega
theorem words {n : Int} (h0 : 0 ≤ n) : hi n = n / 18446744073709551616 ∧ lo n = n % 18446744073709551616 := by
  unfold hi lo; rw [mag_of_nonneg h0]; exact ⟨rfl, rfl⟩
end Wd
theorem rshift_u (n b : Int) (w : World) (h0 : 0 ≤ n) (h1 : n ≤ 340282366920938463463374607431768211455) (b0 : 0 ≤ b) (b1 : b ≤ 1) :
    Calls Tryd.prog 58 #[.agg #[.int .u64 (Wd.hi n), .int .u64 (Wd.lo n)], .int .u64 b] w fun e w' => e = .returned (.agg #[.int .u64 (Wd.hi ((2 * n + b) % 340282366920938463463374607431768211456)), .int .u64 (Wd.lo ((2 * n + b) % 340282366920938463463374607431768211456))]) ∧ Gr w w' := by
  obtain ⟨e1, e2⟩ := Wd.words h0
  obtain ⟨e3, e4⟩ := Wd.words (n := (2 * n + b) % 340282366920938463463374607431768211456) (by omega)
  have := rshift_any (Wd.hi n) (Wd.lo n) b w (Wd.hi_nonneg n) (Wd.lo_nonneg n) (Wd.lo_lt n) b0 b1
  have f1 : Wd.hi ((2 * n + b) % 340282366920938463463374607431768211456) = (Wd.hi n * 18446744073709551616 + Wd.lo n) * 2 / 18446744073709551616 % 18446744073709551616 := by rw [e1, e2, e3]; omega
  have f2 : Wd.lo ((2 * n + b) % 340282366920938463463374607431768211456) = Wd.lo n * 2 % 18446744073709551616 + b := by rw [e2, e4]; omega
  rw [f1, f2]; exact this
set_option maxHeartbeats 400000 in
theorem rminus_mod (x y : Int) (w : World) (hx : Wd.hi x ≤ 18446744073709551615) (hy : Wd.hi y ≤ 18446744073709551615) :
    Calls Tryd.prog 59 #[.agg #[.int .u64 (Wd.hi x), .int .u64 (Wd.lo x)], .agg #[.int .u64 (Wd.hi y), .int .u64 (Wd.lo y)]] w fun e w' => e = .returned (.agg #[.int .u64 (Wd.hi ((Wd.mag x - Wd.mag y) % 340282366920938463463374607431768211456)), .int .u64 (Wd.lo ((Wd.mag x - Wd.mag y) % 340282366920938463463374607431768211456))]) ∧ Gr w w' := by
  have a0 := Wd.lo_nonneg x; have a1 := Wd.lo_lt x; have b0 := Wd.lo_nonneg y; have b1 := Wd.lo_lt y
  have c0 := Wd.hi_nonneg x; have d0 := Wd.hi_nonneg y
  have e1 := Wd.hilo x; have e2 := Wd.hilo y
  obtain ⟨e3, e4⟩ := Wd.words (n := (Wd.mag x - Wd.mag y) % 340282366920938463463374607431768211456) (by omega)
  rw [e3, e4]
  rw [← e1, ← e2]
  clear e1 e2 e3 e4
  generalize Wd.hi x = a at *; generalize Wd.lo x = b at *; generalize Wd.hi y = c at *; generalize Wd.lo y = d at *
  obtain ⟨H, hH⟩ : ∃ H, IntKind.u64.wrap (a - c) = H := ⟨_, rfl⟩
  obtain ⟨L, hL⟩ : ∃ L, IntKind.u64.wrap (b - d) = L := ⟨_, rfl⟩
  have hH' := hH; have hL' := hL
  rw [IntKind.wrap_u64] at hH' hL'
  by_cases hc : b < d
  · obtain ⟨G, hG⟩ : ∃ G, IntKind.u64.wrap (H - 1) = G := ⟨_, rfl⟩
    have hG' := hG
    rw [IntKind.wrap_u64] at hG'
    have r1 : (a * 18446744073709551616 + b - (c * 18446744073709551616 + d)) % 340282366920938463463374607431768211456 / 18446744073709551616 = G := by omega
    have r2 : (a * 18446744073709551616 + b - (c * 18446744073709551616 + d)) % 340282366920938463463374607431768211456 % 18446744073709551616 = L := by omega
    rw [r1, r2]
    have ht : decide (b < d) = true := decide_eq_true hc
    have hN : ¬ (0 ≤ b - d) := by omega
    clear r1 r2 hH' hL' hG'
    go_enter Tryd.func59, Tryd.ntmps59
    go_wp2
    go_returns
    exact ⟨by first | rfl | (simp; done), (by repeat' (first | (with_reducible exact Gr.refl _) | (with_reducible assumption) | (with_reducible refine Gr.alloc ?_ _) | (with_reducible refine Gr.drew ?_) | (with_reducible refine Gr.drewN ?_ _) | (with_reducible refine Gr.setCell ?_ ?_ _) | (with_reducible refine Gr.trans ?_ (by with_reducible assumption)) | go_size))⟩
  · have r1 : (a * 18446744073709551616 + b - (c * 18446744073709551616 + d)) % 340282366920938463463374607431768211456 / 18446744073709551616 = H := by omega
    have r2 : (a * 18446744073709551616 + b - (c * 18446744073709551616 + d)) % 340282366920938463463374607431768211456 % 18446744073709551616 = b - d := by omega
    rw [r1, r2]
    have ht : decide (b < d) = false := decide_eq_false hc
    clear r1 r2 hH' hL' hL
    go_enter Tryd.func59, Tryd.ntmps59
    go_wp2
    go_returns
    exact ⟨by first | rfl | (simp; done), (by repeat' (first | (with_reducible exact Gr.refl _) | (with_reducible assumption) | (with_reducible refine Gr.alloc ?_ _) | (with_reducible refine Gr.drew ?_) | (with_reducible refine Gr.drewN ?_ _) | (with_reducible refine Gr.setCell ?_ ?_ _) | (with_reducible refine Gr.trans ?_ (by with_reducible assumption)) | go_size))⟩
end Go.Proofs.YtbaahlofabmljaaDoor
