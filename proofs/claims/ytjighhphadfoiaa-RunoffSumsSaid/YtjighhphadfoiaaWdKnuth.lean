/-
  Plain arithmetic: one digit of a long division, after the estimate by the leading digits; and the quotient of two digits.
-/
import Derived.WalkKit
set_option linter.unusedVariables false
set_option linter.unusedSimpArgs false
namespace Go.Proofs.Ytjighhphadfoiaa
namespace Kn
/-- What holds at the head of the loop that corrects an estimated digit q, with r = U - q c. -/
def Inv (c d U u q r : Int) : Prop := q * c + r = U ∧ (U * 4294967296 + u) / (c * 4294967296 + d) ≤ q ∧ 0 ≤ r ∧ 0 ≤ q ∧ q ≤ U
def Dig (c d U u : Int) : Prop := 2147483648 ≤ c ∧ c ≤ 4294967295 ∧ 0 ≤ d ∧ d ≤ 4294967295 ∧ 0 ≤ U ∧ U < c * 4294967296 + d ∧ 0 ≤ u ∧ u ≤ 4294967295
variable {c d U u q r : Int}
theorem qY (c d q : Int) : q * (c * 4294967296 + d) = (q * c) * 4294967296 + q * d := by rw [Int.mul_add, ← Int.mul_assoc]
theorem start (h : Dig c d U u) : Inv c d U u (U / c) (U - U / c * c) ∧ U - U / c * c ≤ 4294967295 := by
  obtain ⟨c0, c1, d0, d1, U0, U1, u0, u1⟩ := h
  have hc : 0 < c := by omega
  have e1 := Int.mul_ediv_add_emod U c
  have e2 := Int.emod_nonneg U (show c ≠ 0 by omega)
  have e3 := Int.emod_lt_of_pos U hc
  have e4 : U / c * c = c * (U / c) := Int.mul_comm _ _
  have q0 : 0 ≤ U / c := Int.ediv_nonneg U0 (by omega)
  have q1 : U / c ≤ U := Int.ediv_le_self _ U0
  refine ⟨⟨by omega, ?_, by omega, q0, q1⟩, by omega⟩
  have hY : 0 < c * 4294967296 + d := by omega
  refine Int.lt_add_one_iff.1 ((Int.ediv_lt_iff_lt_mul hY).2 ?_)
  have := qY c d (U / c + 1)
  rw [this, Int.add_mul (U / c) 1 c, Int.add_mul (U / c) 1 d]
  have q2 : 0 ≤ U / c * d := Int.mul_nonneg q0 d0
  omega
theorem over (h : Dig c d U u) (i : Inv c d U u q r) (t : 4294967296 ≤ q ∨ q < 4294967296 ∧ 4294967296 * r + u < q * d) : Inv c d U u (q - 1) (r + c) ∧ 1 ≤ q := by
  obtain ⟨c0, c1, d0, d1, U0, U1, u0, u1⟩ := h
  obtain ⟨i1, i2, i3, i4, i5⟩ := i
  have hY : 0 < c * 4294967296 + d := by omega
  have k : (U * 4294967296 + u) / (c * 4294967296 + d) < q := by
    refine (Int.ediv_lt_iff_lt_mul hY).2 ?_
    rcases t with t | ⟨_, t⟩
    · have := Int.mul_le_mul_of_nonneg_right t (Int.le_of_lt hY)
      omega
    · rw [qY]; omega
  have z : 0 ≤ (U * 4294967296 + u) / (c * 4294967296 + d) := Int.ediv_nonneg (by omega) (by omega)
  refine ⟨⟨?_, by omega, by omega, by omega, by omega⟩, by omega⟩
  rw [Int.sub_mul]; omega
theorem done (h : Dig c d U u) (i : Inv c d U u q r) (t : q < 4294967296) (t' : q * d ≤ 4294967296 * r + u) : q = (U * 4294967296 + u) / (c * 4294967296 + d) := by
  obtain ⟨c0, c1, d0, d1, U0, U1, u0, u1⟩ := h
  obtain ⟨i1, i2, i3, i4, i5⟩ := i
  have hY : 0 < c * 4294967296 + d := by omega
  have k : q ≤ (U * 4294967296 + u) / (c * 4294967296 + d) := by
    refine (Int.le_ediv_iff_mul_le hY).2 ?_
    rw [qY]; omega
  omega
theorem small (h : Dig c d U u) (i : Inv c d U u q r) (t : 4294967296 ≤ r) : q < 4294967296 ∧ q * d ≤ 4294967296 * r + u := by
  obtain ⟨c0, c1, d0, d1, U0, U1, u0, u1⟩ := h
  obtain ⟨i1, i2, i3, i4, i5⟩ := i
  have k : q < 4294967296 := by
    refine Int.not_le.1 fun g => ?_
    have := Int.mul_le_mul_of_nonneg_right g (show 0 ≤ c by omega)
    omega
  refine ⟨k, ?_⟩
  have := Int.mul_le_mul (show q ≤ 4294967295 by omega) d1 d0 (by omega)
  omega
theorem stop (h : Dig c d U u) (i : Inv c d U u q r) (t : 4294967296 ≤ r) : q = (U * 4294967296 + u) / (c * 4294967296 + d) := by
  obtain ⟨a, b⟩ := small h i t
  exact done h i a b
/-- The digit, and what is left, are in range. -/
theorem digit (h : Dig c d U u) : 0 ≤ (U * 4294967296 + u) / (c * 4294967296 + d) ∧ (U * 4294967296 + u) / (c * 4294967296 + d) ≤ 4294967295 ∧ 0 ≤ (U * 4294967296 + u) % (c * 4294967296 + d) ∧ (U * 4294967296 + u) % (c * 4294967296 + d) < c * 4294967296 + d := by
  obtain ⟨c0, c1, d0, d1, U0, U1, u0, u1⟩ := h
  have hY : 0 < c * 4294967296 + d := by omega
  refine ⟨Int.ediv_nonneg (by omega) (by omega), ?_, Int.emod_nonneg _ (by omega), Int.emod_lt_of_pos _ hY⟩
  refine Int.lt_add_one_iff.1 ((Int.ediv_lt_iff_lt_mul hY).2 ?_)
  have e : (4294967295 + 1) * (c * 4294967296 + d) = 4294967296 * (c * 4294967296 + d) := rfl
  rw [e]
  omega
/-- The remainder, reckoned modulo 2^64. -/
theorem rest (h : Dig c d U u) : IntKind.u64.wrap (IntKind.u64.wrap (IntKind.u64.wrap (U * 4294967296) + u) - IntKind.u64.wrap ((U * 4294967296 + u) / (c * 4294967296 + d) * (c * 4294967296 + d))) = (U * 4294967296 + u) % (c * 4294967296 + d) := by
  obtain ⟨_, _, r0, r1⟩ := digit h
  obtain ⟨c0, c1, d0, d1, U0, U1, u0, u1⟩ := h
  have e := Int.mul_ediv_add_emod (U * 4294967296 + u) (c * 4294967296 + d)
  rw [Int.mul_comm] at e
  generalize (U * 4294967296 + u) / (c * 4294967296 + d) * (c * 4294967296 + d) = A at *
  generalize (U * 4294967296 + u) % (c * 4294967296 + d) = R at *
  rw [IntKind.wrap_u64, IntKind.wrap_u64, IntKind.wrap_u64, IntKind.wrap_u64]
  omega
/-- Two digits. -/
theorem both (N y P L u1 u0 : Int) (hP : 0 < P) (hy : 0 < y) (hY : y * P = c * 4294967296 + d) (hN : N * P = U * 18446744073709551616 + L) (hL : L = u1 * 4294967296 + u0) (h : Dig c d U u1) (u00 : 0 ≤ u0) (u01 : u0 ≤ 4294967295) :
    (U * 4294967296 + u1) / (c * 4294967296 + d) * 4294967296 + ((U * 4294967296 + u1) % (c * 4294967296 + d) * 4294967296 + u0) / (c * 4294967296 + d) = N / y ∧ ((U * 4294967296 + u1) % (c * 4294967296 + d) * 4294967296 + u0) % (c * 4294967296 + d) / P = N % y := by
  obtain ⟨_, _, r0, r1⟩ := digit h
  obtain ⟨c0, c1, d0, d1, U0, U1, b0, b1⟩ := h
  have e1 := Int.mul_ediv_add_emod (U * 4294967296 + u1) (c * 4294967296 + d)
  have e2 := Int.mul_ediv_add_emod ((U * 4294967296 + u1) % (c * 4294967296 + d) * 4294967296 + u0) (c * 4294967296 + d)
  have s0 := Int.emod_nonneg ((U * 4294967296 + u1) % (c * 4294967296 + d) * 4294967296 + u0) (show c * 4294967296 + d ≠ 0 by omega)
  have s1 := Int.emod_lt_of_pos ((U * 4294967296 + u1) % (c * 4294967296 + d) * 4294967296 + u0) (show 0 < c * 4294967296 + d by omega)
  generalize (U * 4294967296 + u1) / (c * 4294967296 + d) = q1 at *
  generalize (U * 4294967296 + u1) % (c * 4294967296 + d) = V at *
  generalize (V * 4294967296 + u0) / (c * 4294967296 + d) = q0 at *
  generalize (V * 4294967296 + u0) % (c * 4294967296 + d) = R at *
  rw [← hY] at e1 e2 s1
  have key : N * P = (y * (q1 * 4294967296 + q0)) * P + R := by
    have a1 : (y * (q1 * 4294967296 + q0)) * P = (y * P * q1) * 4294967296 + y * P * q0 := by grind
    rw [a1, hN, hL]; omega
  have d1 : R = (N - y * (q1 * 4294967296 + q0)) * P := by rw [Int.sub_mul]; omega
  have d2 : R / P = N - y * (q1 * 4294967296 + q0) := by rw [d1]; exact Int.mul_ediv_cancel _ (by omega)
  rw [d2]
  have f0 : 0 ≤ N - y * (q1 * 4294967296 + q0) := by rw [← d2]; exact Int.ediv_nonneg s0 (by omega)
  have f1 : N - y * (q1 * 4294967296 + q0) < y := by
    rw [← d2]; exact (Int.ediv_lt_iff_lt_mul hP).2 s1
  have g : N = y * (q1 * 4294967296 + q0) + (N - y * (q1 * 4294967296 + q0)) := by omega
  have g1 : N / y = q1 * 4294967296 + q0 := by
    rw [g, Int.add_comm, Int.add_mul_ediv_left _ _ (by omega), Int.ediv_eq_zero_of_lt f0 f1]; omega
  have g2 := Int.mul_ediv_add_emod N y
  rw [g1] at g2
  exact ⟨g1.symm, by omega⟩
/-- The dividend and the divisor, shifted to the left till the divisor's first bit is set. -/
theorem norm (h l y : Int) (k : Nat) (hk : k ≤ 63) (h0 : 0 ≤ h) (l0 : 0 ≤ l) (l1 : l ≤ 18446744073709551615) (y0 : h < y) (Y0 : 9223372036854775808 ≤ y * 2 ^ k) (Y1 : y * 2 ^ k ≤ 18446744073709551615) :
    bits .or .u64 (IntKind.u64.wrap (h * 2 ^ k)) (l / 2 ^ (64 - k)) = h * 2 ^ k + l / 2 ^ (64 - k) ∧
    (h * 18446744073709551616 + l) * 2 ^ k = (h * 2 ^ k + l / 2 ^ (64 - k)) * 18446744073709551616 + IntKind.u64.wrap (l * 2 ^ k) ∧
    0 ≤ h * 2 ^ k + l / 2 ^ (64 - k) ∧ h * 2 ^ k + l / 2 ^ (64 - k) < y * 2 ^ k := by
  have hP : (0 : Int) < 2 ^ k := by exact_mod_cast Nat.two_pow_pos k
  have hQ : (0 : Int) < 2 ^ (64 - k) := by exact_mod_cast Nat.two_pow_pos (64 - k)
  have hPQ : (2 : Int) ^ (64 - k) * 2 ^ k = 18446744073709551616 := by
    have e : 64 - k + k = 64 := by omega
    rw [← Int.pow_add, e]; rfl
  have b0 := Int.mul_nonneg h0 (Int.le_of_lt hP)
  have b1 := Int.mul_le_mul_of_nonneg_right (show h + 1 ≤ y by omega) (Int.le_of_lt hP)
  rw [Int.add_mul] at b1
  have a0 := Int.ediv_nonneg l0 (Int.le_of_lt hQ)
  have a1 : l / 2 ^ (64 - k) < 2 ^ k := by
    refine (Int.ediv_lt_iff_lt_mul hQ).2 ?_
    rw [Int.mul_comm, hPQ]; omega
  have hw : IntKind.u64.wrap (h * 2 ^ k) = h * 2 ^ k := by rw [IntKind.wrap_u64]; omega
  refine ⟨?_, ?_, by omega, by omega⟩
  · rw [hw, u64_or _ _ b0 (by omega) a0 (by omega)]
    have e1 : (h * 2 ^ k).toNat = h.toNat * 2 ^ k := by
      obtain ⟨n, rfl⟩ := Int.eq_ofNat_of_zero_le h0
      have : ((n : Int) * 2 ^ k) = ((n * 2 ^ k : Nat) : Int) := by push_cast; rfl
      rw [this]; rfl
    have e2 : (l / 2 ^ (64 - k)).toNat < 2 ^ k := by
      have : (2 : Int) ^ k = ((2 ^ k : Nat) : Int) := by push_cast; rfl
      rw [this] at a1; omega
    rw [nat_join k _ _ (by rw [e1]; exact Nat.mul_mod_left _ _) e2]
    omega
  · have e := Int.mul_ediv_add_emod l (2 ^ (64 - k))
    have m0 := Int.emod_nonneg l (show (2 : Int) ^ (64 - k) ≠ 0 by omega)
    have m1 := Int.emod_lt_of_pos l hQ
    have f : l * 2 ^ k = 18446744073709551616 * (l / 2 ^ (64 - k)) + l % 2 ^ (64 - k) * 2 ^ k := by
      have g : (2 : Int) ^ (64 - k) * (l / 2 ^ (64 - k)) * 2 ^ k = 18446744073709551616 * (l / 2 ^ (64 - k)) := by
        rw [Int.mul_right_comm, hPQ]
      rw [← g, ← Int.add_mul, e]
    have n0 := Int.mul_nonneg m0 (Int.le_of_lt hP)
    have n1 : l % 2 ^ (64 - k) * 2 ^ k < 18446744073709551616 := by rw [← hPQ]; exact Int.mul_lt_mul_of_pos_right m1 hP
    have f2 : IntKind.u64.wrap (l * 2 ^ k) = l % 2 ^ (64 - k) * 2 ^ k := by rw [IntKind.wrap_u64, f]; omega
    rw [f2, Int.add_mul (h * 18446744073709551616) l, f]
    have f3 : h * 18446744073709551616 * 2 ^ k = h * 2 ^ k * 18446744073709551616 := by grind
    rw [f3]; omega
end Kn
end Go.Proofs.Ytjighhphadfoiaa
