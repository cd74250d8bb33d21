/-
  Plain arithmetic of the layer wide: a signed integer as two words of 64 bits and a sign. No program here.
  
  
  
  
  
  
  
  Plain arithmetic: one digit of a long division, after the estimate by the leading digits; and the quotient of two digits.
-/
import Derived.Test.YtajhhplgcegodaaGreatDoorRows
import Derived.Test.YtajhhplgcegodaaGreatDoorInf01
import Derived.WalkKit
import Derived.WalkSpells
import Derived.WalkLawsBesides
import Derived.Shelf.Spec.BitsCarry
import Derived.Handy
import Derived.BigQuiet
import Derived.Deep.QuietTactic
import Derived.Lib.Hide
import Derived.Deep.RegionHeld3
import Derived.Lib.Strings
import Derived.Lib.Slices
import Derived.Lib.Small
import Derived.Lib.Walk
import Derived.Lib.BitFns
import Derived.Deep.DeepCutAuto
import Derived.Deep.CutBlock
set_option linter.unusedVariables false
set_option linter.unusedSimpArgs false
namespace Go.Proofs.YtajhhplgcegodaaGreatDoor
namespace Wd
/-- The absolute value. -/
def mag (v : Int) : Int := if v < 0 then -v else v
/-- The upper and the lower word of the absolute value. -/
def hi (v : Int) : Int := mag v / 18446744073709551616
def lo (v : Int) : Int := mag v % 18446744073709551616
/-- Is it negative? -/
def neg (v : Int) : Bool := decide (v < 0)
/-- The integer of two words and a sign. -/
def mk (h l : Int) (b : Bool) : Int := if b then -(h * 18446744073709551616 + l) else h * 18446744073709551616 + l
/-- The same for wide integers. -/
def has (v : Int) : Bool := decide (-1329227995784915872903807060280344576 ≤ v) && decide (v ≤ 1329227995784915872903807060280344575)
/-- The value of a pair. -/
def val (h l : Int) : Int := h * 1152921504606846976 + l
end Wd
end Go.Proofs.YtajhhplgcegodaaGreatDoor
namespace Go.Proofs.YtajhhplgcegodaaGreatDoor
open Go.RowKit
theorem ret_two {k l : IntKind} {a b c d : Int} (h : a = b) (h' : c = d) : Ending.returned (.tuple #[.int k a, .int l c]) = .returned (.tuple #[.int k b, .int l d]) := by rw [h, h']
end Go.Proofs.YtajhhplgcegodaaGreatDoor
namespace Go.Proofs.YtajhhplgcegodaaGreatDoor
open Go.RowKit
theorem low32 (z : Int) : bits .and .u64 (z % 18446744073709551616) 4294967295 = z % 18446744073709551616 % 4294967296 := and_low32 _ (by omega) (by omega)
set_option maxHeartbeats 400000 in
theorem mul64_any (x y : Int) (w : World) (hx0 : 0 ≤ x) (hx : x ≤ 18446744073709551615) (hy0 : 0 ≤ y) (hy : y ≤ 18446744073709551615) :
    Calls Tryz.prog 151 #[.int .u64 x, .int .u64 y] w fun e w' => e = .returned (.tuple #[.int .u64 (x * y / 18446744073709551616), .int .u64 (x * y % 18446744073709551616)]) ∧ w = w' := by
  have ax := and_low32 x hx0 (by omega)
  have ay := and_low32 y hy0 (by omega)
  go_enter Tryz.func151, Tryz.ntmps151
  go_wp2
  go_ret2
  refine ⟨ret_two ?_ (IntKind.wrap_u64 _), rfl⟩
  simp only [IntKind.wrap_u64, low32]
  exact mul64_arith x y hx0 (by omega) hy0 (by omega)
end Go.Proofs.YtajhhplgcegodaaGreatDoor
namespace Go.Proofs.YtajhhplgcegodaaGreatDoor
open Go.RowKit
set_option maxHeartbeats 400000 in
theorem len64_any (x : Int) (w : World) (h0 : 0 ≤ x) (h1 : x ≤ 18446744073709551615) :
    Calls Tryz.prog 186 #[.int .u64 x] w fun e w' => e = .returned (.int .i64 (Lib.bitLen x.toNat)) ∧ w = w' := by
  by_cases c32 : 4294967296 ≤ x
  · by_cases c16 : 65536 ≤ x / 4294967296
    · by_cases c8 : 256 ≤ x / 4294967296 / 65536
      · have i0 : 0 ≤ x / 4294967296 / 65536 / 256 := by omega
        have i1 : x / 4294967296 / 65536 / 256 ≤ 255 := by omega
        have l := Lib.bitLen_le8' (x / 4294967296 / 65536 / 256) i0 i1
        have e8 := Lib.len8_of (x / 4294967296 / 65536 / 256) i0 i1
        have s := Lib.bitLen_shift56 x.toNat (by omega) (by omega)
        have e : (x / 4294967296 / 65536 / 256).toNat = x.toNat / 72057594037927936 := by omega
        rw [e] at l e8
        have f : ((Lib.bitLen x.toNat : Nat) : Int) = 56 + Lib.len8 (x / 4294967296 / 65536 / 256) := by rw [s, e8]; omega
        have b0 : 0 ≤ Lib.len8 (x / 4294967296 / 65536 / 256) := by rw [e8]; omega
        have b1 : Lib.len8 (x / 4294967296 / 65536 / 256) ≤ 8 := by rw [e8]; omega
        rw [f]
        clear l e8 f s e
        go_enter Tryz.func186, Tryz.ntmps186
        go_wp2
        go_ret
        exact ⟨ret_int (by omega), rfl⟩
      · have d8 : x / 4294967296 / 65536 < 256 := by omega
        have i0 : 0 ≤ x / 4294967296 / 65536 := by omega
        have i1 : x / 4294967296 / 65536 ≤ 255 := by omega
        have l := Lib.bitLen_le8' (x / 4294967296 / 65536) i0 i1
        have e8 := Lib.len8_of (x / 4294967296 / 65536) i0 i1
        have s := Lib.bitLen_shift48 x.toNat (by omega) (by omega)
        have e : (x / 4294967296 / 65536).toNat = x.toNat / 281474976710656 := by omega
        rw [e] at l e8
        have f : ((Lib.bitLen x.toNat : Nat) : Int) = 48 + Lib.len8 (x / 4294967296 / 65536) := by rw [s, e8]; omega
        have b0 : 0 ≤ Lib.len8 (x / 4294967296 / 65536) := by rw [e8]; omega
        have b1 : Lib.len8 (x / 4294967296 / 65536) ≤ 8 := by rw [e8]; omega
        rw [f]
        clear l e8 f s e
        go_enter Tryz.func186, Tryz.ntmps186
        go_wp2
        go_ret
        exact ⟨ret_int (by omega), rfl⟩
    · have d16 : x / 4294967296 < 65536 := by omega
      by_cases c8 : 256 ≤ x / 4294967296
      · have i0 : 0 ≤ x / 4294967296 / 256 := by omega
        have i1 : x / 4294967296 / 256 ≤ 255 := by omega
        have l := Lib.bitLen_le8' (x / 4294967296 / 256) i0 i1
        have e8 := Lib.len8_of (x / 4294967296 / 256) i0 i1
        have s := Lib.bitLen_shift40 x.toNat (by omega) (by omega)
        have e : (x / 4294967296 / 256).toNat = x.toNat / 1099511627776 := by omega
        rw [e] at l e8
        have f : ((Lib.bitLen x.toNat : Nat) : Int) = 40 + Lib.len8 (x / 4294967296 / 256) := by rw [s, e8]; omega
        have b0 : 0 ≤ Lib.len8 (x / 4294967296 / 256) := by rw [e8]; omega
        have b1 : Lib.len8 (x / 4294967296 / 256) ≤ 8 := by rw [e8]; omega
        rw [f]
        clear l e8 f s e
        go_enter Tryz.func186, Tryz.ntmps186
        go_wp2
        go_ret
        exact ⟨ret_int (by omega), rfl⟩
      · have d8 : x / 4294967296 < 256 := by omega
        have i0 : 0 ≤ x / 4294967296 := by omega
        have i1 : x / 4294967296 ≤ 255 := by omega
        have l := Lib.bitLen_le8' (x / 4294967296) i0 i1
        have e8 := Lib.len8_of (x / 4294967296) i0 i1
        have s := Lib.bitLen_shift32 x.toNat (by omega) (by omega)
        have e : (x / 4294967296).toNat = x.toNat / 4294967296 := by omega
        rw [e] at l e8
        have f : ((Lib.bitLen x.toNat : Nat) : Int) = 32 + Lib.len8 (x / 4294967296) := by rw [s, e8]; omega
        have b0 : 0 ≤ Lib.len8 (x / 4294967296) := by rw [e8]; omega
        have b1 : Lib.len8 (x / 4294967296) ≤ 8 := by rw [e8]; omega
        rw [f]
        clear l e8 f s e
        go_enter Tryz.func186, Tryz.ntmps186
        go_wp2
        go_ret
        exact ⟨ret_int (by omega), rfl⟩
  · have d32 : x < 4294967296 := by omega
    by_cases c16 : 65536 ≤ x
    · by_cases c8 : 256 ≤ x / 65536
      · have i0 : 0 ≤ x / 65536 / 256 := by omega
        have i1 : x / 65536 / 256 ≤ 255 := by omega
        have l := Lib.bitLen_le8' (x / 65536 / 256) i0 i1
        have e8 := Lib.len8_of (x / 65536 / 256) i0 i1
        have s := Lib.bitLen_shift24 x.toNat (by omega) (by omega)
        have e : (x / 65536 / 256).toNat = x.toNat / 16777216 := by omega
        rw [e] at l e8
        have f : ((Lib.bitLen x.toNat : Nat) : Int) = 24 + Lib.len8 (x / 65536 / 256) := by rw [s, e8]; omega
        have b0 : 0 ≤ Lib.len8 (x / 65536 / 256) := by rw [e8]; omega
        have b1 : Lib.len8 (x / 65536 / 256) ≤ 8 := by rw [e8]; omega
        rw [f]
        clear l e8 f s e
        go_enter Tryz.func186, Tryz.ntmps186
        go_wp2
        go_ret
        exact ⟨ret_int (by omega), rfl⟩
      · have d8 : x / 65536 < 256 := by omega
        have i0 : 0 ≤ x / 65536 := by omega
        have i1 : x / 65536 ≤ 255 := by omega
        have l := Lib.bitLen_le8' (x / 65536) i0 i1
        have e8 := Lib.len8_of (x / 65536) i0 i1
        have s := Lib.bitLen_shift16 x.toNat (by omega) (by omega)
        have e : (x / 65536).toNat = x.toNat / 65536 := by omega
        rw [e] at l e8
        have f : ((Lib.bitLen x.toNat : Nat) : Int) = 16 + Lib.len8 (x / 65536) := by rw [s, e8]; omega
        have b0 : 0 ≤ Lib.len8 (x / 65536) := by rw [e8]; omega
        have b1 : Lib.len8 (x / 65536) ≤ 8 := by rw [e8]; omega
        rw [f]
        clear l e8 f s e
        go_enter Tryz.func186, Tryz.ntmps186
        go_wp2
        go_ret
        exact ⟨ret_int (by omega), rfl⟩
    · have d16 : x < 65536 := by omega
      by_cases c8 : 256 ≤ x
      · have i0 : 0 ≤ x / 256 := by omega
        have i1 : x / 256 ≤ 255 := by omega
        have l := Lib.bitLen_le8' (x / 256) i0 i1
        have e8 := Lib.len8_of (x / 256) i0 i1
        have s := Lib.bitLen_shift8 x.toNat (by omega) (by omega)
        have e : (x / 256).toNat = x.toNat / 256 := by omega
        rw [e] at l e8
        have f : ((Lib.bitLen x.toNat : Nat) : Int) = 8 + Lib.len8 (x / 256) := by rw [s, e8]; omega
        have b0 : 0 ≤ Lib.len8 (x / 256) := by rw [e8]; omega
        have b1 : Lib.len8 (x / 256) ≤ 8 := by rw [e8]; omega
        rw [f]
        clear l e8 f s e
        go_enter Tryz.func186, Tryz.ntmps186
        go_wp2
        go_ret
        exact ⟨ret_int (by omega), rfl⟩
      · have d8 : x < 256 := by omega
        have i0 : 0 ≤ x := by omega
        have i1 : x ≤ 255 := by omega
        have l := Lib.bitLen_le8' (x) i0 i1
        have e8 := Lib.len8_of (x) i0 i1
        have f : ((Lib.bitLen x.toNat : Nat) : Int) = Lib.len8 (x) := by rw [e8]
        have b0 : 0 ≤ Lib.len8 (x) := by rw [e8]; omega
        have b1 : Lib.len8 (x) ≤ 8 := by rw [e8]; omega
        rw [f]
        clear l e8 f
        go_enter Tryz.func186, Tryz.ntmps186
        go_wp2
        go_ret
        exact ⟨ret_int (by omega), rfl⟩
end Go.Proofs.YtajhhplgcegodaaGreatDoor
namespace Go.Proofs.YtajhhplgcegodaaGreatDoor
namespace Kn
/-- What holds at the head of the loop that corrects an estimated digit q, with r = U - q c. -/
def Inv (c d U u q r : Int) : Prop := q * c + r = U ∧ (U * 4294967296 + u) / (c * 4294967296 + d) ≤ q ∧ 0 ≤ r ∧ 0 ≤ q ∧ q ≤ U
def Dig (c d U u : Int) : Prop := 2147483648 ≤ c ∧ c ≤ 4294967295 ∧ 0 ≤ d ∧ d ≤ 4294967295 ∧ 0 ≤ U ∧ U < c * 4294967296 + d ∧ 0 ≤ u ∧ u ≤ 4294967295
variable {c d U u q r : Int}
theorem qY (c d q : Int) : q * (c * 4294967296 + d) = (q * c) * 4294967296 + q * d := by rw [Int.mul_add, ← Int.mul_assoc]
theorem start (h : Dig c d U u) : Inv c d U u (U / c) (U - U / c * c) ∧ U - U / c * c ≤ 4294967295 := by
  obtain ⟨c0, c1, d0, d1, U0, U1, u0, u1⟩ := h
  have hc : 0 < c := by omega
  have e1 := Int.mul_ediv_add_emod U c
  have e2 := Int.emod_nonneg U (show c ≠ 0 by omega)
  have e3 := Int.emod_lt_of_pos U hc
  have e4 : U / c * c = c * (U / c) := Int.mul_comm _ _
  have q0 : 0 ≤ U / c := Int.ediv_nonneg U0 (by omega)
  have q1 : U / c ≤ U := Int.ediv_le_self _ U0
  refine ⟨⟨by omega, ?_, by omega, q0, q1⟩, by omega⟩
  have hY : 0 < c * 4294967296 + d := by omega
  refine Int.lt_add_one_iff.1 ((Int.ediv_lt_iff_lt_mul hY).2 ?_)
  have := qY c d (U / c + 1)
  rw [this, Int.add_mul (U / c) 1 c, Int.add_mul (U / c) 1 d]
  have q2 : 0 ≤ U / c * d := Int.mul_nonneg q0 d0
  omega
theorem over (h : Dig c d U u) (i : Inv c d U u q r) (t : 4294967296 ≤ q ∨ q < 4294967296 ∧ 4294967296 * r + u < q * d) : Inv c d U u (q - 1) (r + c) ∧ 1 ≤ q := by
  obtain ⟨c0, c1, d0, d1, U0, U1, u0, u1⟩ := h
  obtain ⟨i1, i2, i3, i4, i5⟩ := i
  have hY : 0 < c * 4294967296 + d := by omega
  have k : (U * 4294967296 + u) / (c * 4294967296 + d) < q := by
    refine (Int.ediv_lt_iff_lt_mul hY).2 ?_
    rcases t with t | ⟨_, t⟩
    · have := Int.mul_le_mul_of_nonneg_right t (Int.le_of_lt hY)
      omega
    · rw [qY]; omega
  have z : 0 ≤ (U * 4294967296 + u) / (c * 4294967296 + d) := Int.ediv_nonneg (by omega) (by omega)
  refine ⟨⟨?_, by omega, by omega, by omega, by omega⟩, by omega⟩
  rw [Int.sub_mul]; omega
theorem done (h : Dig c d U u) (i : Inv c d U u q r) (t : q < 4294967296) (t' : q * d ≤ 4294967296 * r + u) : q = (U * 4294967296 + u) / (c * 4294967296 + d) := by
  obtain ⟨c0, c1, d0, d1, U0, U1, u0, u1⟩ := h
  obtain ⟨i1, i2, i3, i4, i5⟩ := i
  have hY : 0 < c * 4294967296 + d := by omega
  have k : q ≤ (U * 4294967296 + u) / (c * 4294967296 + d) := by
    refine (Int.le_ediv_iff_mul_le hY).2 ?_
    rw [qY]; omega
  omega
theorem small (h : Dig c d U u) (i : Inv c d U u q r) (t : 4294967296 ≤ r) : q < 4294967296 ∧ q * d ≤ 4294967296 * r + u := by
  obtain ⟨c0, c1, d0, d1, U0, U1, u0, u1⟩ := h
  obtain ⟨i1, i2, i3, i4, i5⟩ := i
  have k : q < 4294967296 := by
    refine Int.not_le.1 fun g => ?_
    have := Int.mul_le_mul_of_nonneg_right g (show 0 ≤ c by omega)
    omega
  refine ⟨k, ?_⟩
  have := Int.mul_le_mul (show q ≤ 4294967295 by omega) d1 d0 (by omega)
  omega
theorem stop (h : Dig c d U u) (i : Inv c d U u q r) (t : 4294967296 ≤ r) : q = (U * 4294967296 + u) / (c * 4294967296 + d) := by
  obtain ⟨a, b⟩ := small h i t
  exact done h i a b
/-- The digit, and what is left, are in range. -/
theorem digit (h : Dig c d U u) : 0 ≤ (U * 4294967296 + u) / (c * 4294967296 + d) ∧ (U * 4294967296 + u) / (c * 4294967296 + d) ≤ 4294967295 ∧ 0 ≤ (U * 4294967296 + u) % (c * 4294967296 + d) ∧ (U * 4294967296 + u) % (c * 4294967296 + d) < c * 4294967296 + d := by
  obtain ⟨c0, c1, d0, d1, U0, U1, u0, u1⟩ := h
  have hY : 0 < c * 4294967296 + d := by omega
  refine ⟨Int.ediv_nonneg (by omega) (by omega), ?_, Int.emod_nonneg _ (by omega), Int.emod_lt_of_pos _ hY⟩
  refine Int.lt_add_one_iff.1 ((Int.ediv_lt_iff_lt_mul hY).2 ?_)
  have e : (4294967295 + 1) * (c * 4294967296 + d) = 4294967296 * (c * 4294967296 + d) := rfl
  rw [e]
  omega
/-- The remainder, reckoned modulo 2^64. -/
theorem rest (h : Dig c d U u) : IntKind.u64.wrap (IntKind.u64.wrap (IntKind.u64.wrap (U * 4294967296) + u) - IntKind.u64.wrap ((U * 4294967296 + u) / (c * 4294967296 + d) * (c * 4294967296 + d))) = (U * 4294967296 + u) % (c * 4294967296 + d) := by
  obtain ⟨_, _, r0, r1⟩ := digit h
  obtain ⟨c0, c1, d0, d1, U0, U1, u0, u1⟩ := h
  have e := Int.mul_ediv_add_emod (U * 4294967296 + u) (c * 4294967296 + d)
  rw [Int.mul_comm] at e
  generalize (U * 4294967296 + u) / (c * 4294967296 + d) * (c * 4294967296 + d) = A at *
  generalize (U * 4294967296 + u) % (c * 4294967296 + d) = R at *
  rw [IntKind.wrap_u64, IntKind.wrap_u64, IntKind.wrap_u64, IntKind.wrap_u64]
  omega
/-- Two digits. -/
theorem both (N y P L u1 u0 : Int) (hP : 0 < P) (hy : 0 < y) (hY : y * P = c * 4294967296 + d) (hN : N * P = U * 18446744073709551616 + L) (hL : L = u1 * 4294967296 + u0) (h : Dig c d U u1) (u00 : 0 ≤ u0) (u01 : u0 ≤ 4294967295) :
    (U * 4294967296 + u1) / (c * 4294967296 + d) * 4294967296 + ((U * 4294967296 + u1) % (c * 4294967296 + d) * 4294967296 + u0) / (c * 4294967296 + d) = N / y ∧ ((U * 4294967296 + u1) % (c * 4294967296 + d) * 4294967296 + u0) % (c * 4294967296 + d) / P = N % y := by
  obtain ⟨_, _, r0, r1⟩ := digit h
  obtain ⟨c0, c1, d0, d1, U0, U1, b0, b1⟩ := h
  have e1 := Int.mul_ediv_add_emod (U * 4294967296 + u1) (c * 4294967296 + d)
  have e2 := Int.mul_ediv_add_emod ((U * 4294967296 + u1) % (c * 4294967296 + d) * 4294967296 + u0) (c * 4294967296 + d)
  have s0 := Int.emod_nonneg ((U * 4294967296 + u1) % (c * 4294967296 + d) * 4294967296 + u0) (show c * 4294967296 + d ≠ 0 by omega)
  have s1 := Int.emod_lt_of_pos ((U * 4294967296 + u1) % (c * 4294967296 + d) * 4294967296 + u0) (show 0 < c * 4294967296 + d by omega)
  generalize (U * 4294967296 + u1) / (c * 4294967296 + d) = q1 at *
  generalize (U * 4294967296 + u1) % (c * 4294967296 + d) = V at *
  generalize (V * 4294967296 + u0) / (c * 4294967296 + d) = q0 at *
  generalize (V * 4294967296 + u0) % (c * 4294967296 + d) = R at *
  rw [← hY] at e1 e2 s1
  have key : N * P = (y * (q1 * 4294967296 + q0)) * P + R := by
    have a1 : (y * (q1 * 4294967296 + q0)) * P = (y * P * q1) * 4294967296 + y * P * q0 := by grind
    rw [a1, hN, hL]; omega
  have d1 : R = (N - y * (q1 * 4294967296 + q0)) * P := by rw [Int.sub_mul]; omega
  have d2 : R / P = N - y * (q1 * 4294967296 + q0) := by rw [d1]; exact Int.mul_ediv_cancel _ (by omega)
  rw [d2]
  have f0 : 0 ≤ N - y * (q1 * 4294967296 + q0) := by rw [← d2]; exact Int.ediv_nonneg s0 (by omega)
  have f1 : N - y * (q1 * 4294967296 + q0) < y := by
    rw [← d2]; exact (Int.ediv_lt_iff_lt_mul hP).2 s1
  have g : N = y * (q1 * 4294967296 + q0) + (N - y * (q1 * 4294967296 + q0)) := by omega
  have g1 : N / y = q1 * 4294967296 + q0 := by
    rw [g, Int.add_comm, Int.add_mul_ediv_left _ _ (by omega), Int.ediv_eq_zero_of_lt f0 f1]; omega
  have g2 := Int.mul_ediv_add_emod N y
  rw [g1] at g2
  exact ⟨g1.symm, by omega⟩
/-- The dividend and the divisor, shifted to the left till the divisor's first bit is set. -/
theorem norm (h l y : Int) (k : Nat) (hk : k ≤ 63) (h0 : 0 ≤ h) (l0 : 0 ≤ l) (l1 : l ≤ 18446744073709551615) (y0 : h < y) (Y0 : 9223372036854775808 ≤ y * 2 ^ k) (Y1 : y * 2 ^ k ≤ 18446744073709551615) :
    bits .or .u64 (IntKind.u64.wrap (h * 2 ^ k)) (l / 2 ^ (64 - k)) = h * 2 ^ k + l / 2 ^ (64 - k) ∧
    (h * 18446744073709551616 + l) * 2 ^ k = (h * 2 ^ k + l / 2 ^ (64 - k)) * 18446744073709551616 + IntKind.u64.wrap (l * 2 ^ k) ∧
    0 ≤ h * 2 ^ k + l / 2 ^ (64 - k) ∧ h * 2 ^ k + l / 2 ^ (64 - k) < y * 2 ^ k := by
  have hP : (0 : Int) < 2 ^ k := by exact_mod_cast Nat.two_pow_pos k
  have hQ : (0 : Int) < 2 ^ (64 - k) := by exact_mod_cast Nat.two_pow_pos (64 - k)
  have hPQ : (2 : Int) ^ (64 - k) * 2 ^ k = 18446744073709551616 := by
    have e : 64 - k + k = 64 := by omega
    rw [← Int.pow_add, e]; rfl
  have b0 := Int.mul_nonneg h0 (Int.le_of_lt hP)
  have b1 := Int.mul_le_mul_of_nonneg_right (show h + 1 ≤ y by omega) (Int.le_of_lt hP)
  rw [Int.add_mul] at b1
  have a0 := Int.ediv_nonneg l0 (Int.le_of_lt hQ)
  have a1 : l / 2 ^ (64 - k) < 2 ^ k := by
    refine (Int.ediv_lt_iff_lt_mul hQ).2 ?_
    rw [Int.mul_comm, hPQ]; omega
  have hw : IntKind.u64.wrap (h * 2 ^ k) = h * 2 ^ k := by rw [IntKind.wrap_u64]; omega
  refine ⟨?_, ?_, by omega, by omega⟩
  · rw [hw, u64_or _ _ b0 (by omega) a0 (by omega)]
    have e1 : (h * 2 ^ k).toNat = h.toNat * 2 ^ k := by
      obtain ⟨n, rfl⟩ := Int.eq_ofNat_of_zero_le h0
      have : ((n : Int) * 2 ^ k) = ((n * 2 ^ k : Nat) : Int) := by push_cast; rfl
      rw [this]; rfl
    have e2 : (l / 2 ^ (64 - k)).toNat < 2 ^ k := by
      have : (2 : Int) ^ k = ((2 ^ k : Nat) : Int) := by push_cast; rfl
      rw [this] at a1; omega
    rw [nat_join k _ _ (by rw [e1]; exact Nat.mul_mod_left _ _) e2]
    omega
  · have e := Int.mul_ediv_add_emod l (2 ^ (64 - k))
    have m0 := Int.emod_nonneg l (show (2 : Int) ^ (64 - k) ≠ 0 by omega)
    have m1 := Int.emod_lt_of_pos l hQ
    have f : l * 2 ^ k = 18446744073709551616 * (l / 2 ^ (64 - k)) + l % 2 ^ (64 - k) * 2 ^ k := by
      have g : (2 : Int) ^ (64 - k) * (l / 2 ^ (64 - k)) * 2 ^ k = 18446744073709551616 * (l / 2 ^ (64 - k)) := by
        rw [Int.mul_right_comm, hPQ]
      rw [← g, ← Int.add_mul, e]
    have n0 := Int.mul_nonneg m0 (Int.le_of_lt hP)
    have n1 : l % 2 ^ (64 - k) * 2 ^ k < 18446744073709551616 := by rw [← hPQ]; exact Int.mul_lt_mul_of_pos_right m1 hP
    have f2 : IntKind.u64.wrap (l * 2 ^ k) = l % 2 ^ (64 - k) * 2 ^ k := by rw [IntKind.wrap_u64, f]; omega
    rw [f2, Int.add_mul (h * 18446744073709551616) l, f]
    have f3 : h * 18446744073709551616 * 2 ^ k = h * 2 ^ k * 18446744073709551616 := by grind
    rw [f3]; omega
end Kn
end Go.Proofs.YtajhhplgcegodaaGreatDoor
namespace Go.Proofs.YtajhhplgcegodaaGreatDoor
open Go.RowKit
namespace Wd
/-- How many bits a word is shifted to the left till its first bit is set. -/
def lz (y : Int) : Nat := 64 - Lib.bitLen y.toNat
theorem bitLen_spec (x : Nat) (h0 : x ≠ 0) (h1 : x < 18446744073709551616) : 2 ^ (Lib.bitLen x - 1) ≤ x ∧ x < 2 ^ Lib.bitLen x ∧ 1 ≤ Lib.bitLen x ∧ Lib.bitLen x ≤ 64 := by
  have key : ∀ n x : Nat, x ≠ 0 → x < 2 ^ n → n ≤ 64 → 2 ^ (Lib.bitLen x - 1) ≤ x ∧ x < 2 ^ Lib.bitLen x ∧ 1 ≤ Lib.bitLen x := by
    intro n
    induction n with
    | zero => intro x h0 h1 _; simp at h1; omega
    | succ n ih =>
      intro x h0 h1 hn
      have hx : x < 2 ^ 64 := Nat.lt_of_lt_of_le h1 (Nat.pow_le_pow_right (by omega) hn)
      rw [Lib.bitLen_half x h0 hx]
      by_cases hz : x / 2 = 0
      · have : x = 1 := by omega
        subst this
        rw [hz]
        have : Lib.bitLen 0 = 0 := by decide
        rw [this]; decide
      · obtain ⟨a, b, c⟩ := ih (x / 2) hz (by rw [Nat.pow_succ] at h1; omega) (by omega)
        have e1 : 1 + Lib.bitLen (x / 2) - 1 = (Lib.bitLen (x / 2) - 1) + 1 := by omega
        rw [e1, Nat.pow_succ, Nat.add_comm 1, Nat.pow_succ]
        omega
  obtain ⟨a, b, c⟩ := key 64 x h0 h1 (by omega)
  exact ⟨a, b, c, Lib.bitLen_le x 64 (by omega) h1⟩
theorem lz_spec (y : Int) (h0 : 1 ≤ y) (h1 : y ≤ 18446744073709551615) : (lz y : Int) = 64 - (Lib.bitLen y.toNat : Int) ∧ lz y ≤ 63 ∧ 9223372036854775808 ≤ y * 2 ^ lz y ∧ y * 2 ^ lz y ≤ 18446744073709551615 := by
  obtain ⟨a, b, c, d⟩ := bitLen_spec y.toNat (by omega) (by omega)
  have hy : ((y.toNat : Nat) : Int) = y := by omega
  refine ⟨by unfold lz; omega, by unfold lz; omega, ?_, ?_⟩
  · have e : 2 ^ (Lib.bitLen y.toNat - 1) * 2 ^ lz y = 9223372036854775808 := by
      rw [← Nat.pow_add]; have : Lib.bitLen y.toNat - 1 + lz y = 63 := by unfold lz; omega
      rw [this]
    have := Nat.mul_le_mul_right (2 ^ lz y) a
    rw [e] at this
    have t := Int.ofNat_le.2 this
    rw [Int.natCast_mul, Int.natCast_pow, hy] at t
    exact t
  · have e : 2 ^ Lib.bitLen y.toNat * 2 ^ lz y = 18446744073709551616 := by
      rw [← Nat.pow_add]; have : Lib.bitLen y.toNat + lz y = 64 := by unfold lz; omega
      rw [this]
    have hp : 0 < 2 ^ lz y := Nat.two_pow_pos _
    have := Nat.mul_lt_mul_of_pos_right b hp
    rw [e] at this
    have t := Int.ofNat_le.2 (show y.toNat * 2 ^ lz y ≤ 18446744073709551615 by omega)
    rw [Int.natCast_mul, Int.natCast_pow, hy] at t
    exact t
end Wd
set_option maxHeartbeats 400000 in
theorem lz_any (x : Int) (w : World) (h0 : 1 ≤ x) (h1 : x ≤ 18446744073709551615) :
    Calls Tryz.prog 176 #[.int .u64 x] w fun e w' => e = .returned (.int .i64 (Wd.lz x : Nat)) ∧ w = w' := by
  obtain ⟨e, a, b, c⟩ := Wd.lz_spec x h0 h1
  rw [e]
  have hb : Lib.bitLen x.toNat ≤ 64 := Lib.bitLen_le _ 64 (by omega) (by omega)
  clear e b c
  go_enter Tryz.func176, Tryz.ntmps176
  go_wp2_with (go_at_call 186; refine (len64_any _ _ (by omega) (by omega)).mono ?_; rintro e w' ⟨rfl, rfl⟩)
  go_ret
  exact ⟨rfl, rfl⟩
set_option maxHeartbeats 400000 in
set_option maxRecDepth 100000 in
theorem div64_small (l y : Int) (w : World) (l0 : 0 ≤ l) (l1 : l ≤ 18446744073709551615) (y0 : 1 ≤ y) (y1 : y ≤ 18446744073709551615) :
    Calls Tryz.prog 152 #[.int .u64 0, .int .u64 l, .int .u64 y] w fun e w' => e = .returned (.tuple #[.int .u64 (l / y), .int .u64 (l % y)]) ∧ Gr w w' := by
  have a1 : (y == 0) = false := beq_eq_false_iff_ne.2 (by omega)
  have a2 : decide (y ≤ 0) = false := decide_eq_false (by omega)
  go_enter Tryz.func152, Tryz.ntmps152
  go_wp2
  go_quiet (fail)
  go_wp2
  go_ret2
  exact ⟨by first | rfl | (simp; done), gr_auto⟩
set_option maxHeartbeats 400000 in
set_option maxRecDepth 100000 in
theorem div64_any (h l y : Int) (w : World) (h0 : 1 ≤ h) (l0 : 0 ≤ l) (l1 : l ≤ 18446744073709551615) (y0 : h < y) (y1 : y ≤ 18446744073709551615) :
    Calls Tryz.prog 152 #[.int .u64 h, .int .u64 l, .int .u64 y] w fun e w' => e = .returned (.tuple #[.int .u64 ((h * 18446744073709551616 + l) / y), .int .u64 ((h * 18446744073709551616 + l) % y)]) ∧ Gr w w' := by
  have a1 : (y == 0) = false := beq_eq_false_iff_ne.2 (by omega)
  have a2 : decide (y ≤ h) = false := decide_eq_false (by omega)
  have a3 : (h == 0) = false := beq_eq_false_iff_ne.2 (by omega)
  obtain ⟨hk0, hs, Y0, Y1⟩ := Wd.lz_spec y (by omega) y1
  clear hk0
  have hlz : ∀ W : World, Calls Tryz.prog 176 #[.int .u64 y] W fun e w' => e = .returned (.int .i64 (Wd.lz y : Nat)) ∧ W = w' := fun W => lz_any y W (by omega) y1
  have HLZ := Lib.hid hlz; clear hlz
  generalize Wd.lz y = k at *
  obtain ⟨n1, n2, n3, n4⟩ := Kn.norm h l y k hs (by omega) l0 l1 y0 Y0 Y1
  have hP : (0 : Int) < 2 ^ k := by exact_mod_cast Nat.two_pow_pos k
  obtain ⟨Y, hY⟩ : ∃ Y : Int, y * 2 ^ k = Y := ⟨_, rfl⟩
  obtain ⟨U, hU⟩ : ∃ U : Int, h * 2 ^ k + l / 2 ^ (64 - k) = U := ⟨_, rfl⟩
  obtain ⟨L, hL⟩ : ∃ L : Int, IntKind.u64.wrap (l * 2 ^ k) = L := ⟨_, rfl⟩
  have L0 : 0 ≤ L ∧ L ≤ 18446744073709551615 := by rw [← hL, IntKind.wrap_u64]; omega
  obtain ⟨L0, L1⟩ := L0
  rw [hY] at Y0 Y1 n4
  rw [hU] at n1 n2 n3 n4
  rw [hL] at n2
  obtain ⟨c, hc⟩ : ∃ c : Int, Y / 4294967296 = c := ⟨_, rfl⟩
  obtain ⟨d, hd⟩ : ∃ d : Int, bits .and .u64 Y 4294967295 = d := ⟨_, rfl⟩
  obtain ⟨u1, hu1⟩ : ∃ u : Int, L / 4294967296 = u := ⟨_, rfl⟩
  obtain ⟨u0, hu0⟩ : ∃ u : Int, bits .and .u64 L 4294967295 = u := ⟨_, rfl⟩
  have hd2 := hd
  have hu2 := hu0
  rw [and_low32 Y (by omega) (by omega)] at hd2
  rw [and_low32 L L0 (by omega)] at hu2
  have eY : c * 4294967296 + d = Y := by omega
  have eL : L = u1 * 4294967296 + u0 := by omega
  have dig : Kn.Dig c d U u1 := ⟨by omega, by omega, by omega, by omega, n3, by omega, by omega, by omega⟩
  have fin := Kn.both (h * 18446744073709551616 + l) y (2 ^ k) L u1 u0 hP (by omega) (by omega) (by rw [n2]) eL dig (by omega) (by omega)
  obtain ⟨g1, g2⟩ := fin
  rw [← g1, ← g2]
  obtain ⟨q0, q1, v0, v1⟩ := Kn.digit dig
  have rst := Kn.rest dig
  obtain ⟨us, ut⟩ := Kn.start dig
  have bc : 2147483648 ≤ c ∧ c ≤ 4294967295 ∧ 0 ≤ d ∧ d ≤ 4294967295 ∧ 0 ≤ u1 ∧ u1 ≤ 4294967295 ∧ 0 ≤ u0 ∧ u0 ≤ 4294967295 := by omega
  obtain ⟨c0, c1, d0, d1, u10, u11, u00, u01⟩ := bc
  obtain ⟨V, hV⟩ : ∃ V : Int, (U * 4294967296 + u1) % (c * 4294967296 + d) = V := ⟨_, rfl⟩
  rw [hV] at v0 v1 rst ⊢
  have dig2 : Kn.Dig c d V u0 := ⟨c0, c1, d0, d1, v0, v1, u00, u01⟩
  obtain ⟨p0, p1, r0, r1⟩ := Kn.digit dig2
  have rst2 := Kn.rest dig2
  obtain ⟨vs, vt⟩ := Kn.start dig2
  obtain ⟨Q1, hQ1⟩ : ∃ Q : Int, (U * 4294967296 + u1) / (c * 4294967296 + d) = Q := ⟨_, rfl⟩
  obtain ⟨Q0, hQ0⟩ : ∃ Q : Int, (V * 4294967296 + u0) / (c * 4294967296 + d) = Q := ⟨_, rfl⟩
  obtain ⟨R, hR⟩ : ∃ R : Int, (V * 4294967296 + u0) % (c * 4294967296 + d) = R := ⟨_, rfl⟩
  have hst1 : ∀ q r : Int, Kn.Inv c d U u1 q r → 4294967296 ≤ r → q = Q1 := fun q r i t => by rw [← hQ1]; exact Kn.stop dig i t
  have hdn1 : ∀ q r : Int, Kn.Inv c d U u1 q r → q < 4294967296 → q * d ≤ 4294967296 * r + u1 → q = Q1 := fun q r i t t' => by rw [← hQ1]; exact Kn.done dig i t t'
  have hst0 : ∀ q r : Int, Kn.Inv c d V u0 q r → 4294967296 ≤ r → q = Q0 := fun q r i t => by rw [← hQ0]; exact Kn.stop dig2 i t
  have hdn0 : ∀ q r : Int, Kn.Inv c d V u0 q r → q < 4294967296 → q * d ≤ 4294967296 * r + u0 → q = Q0 := fun q r i t t' => by rw [← hQ0]; exact Kn.done dig2 i t t'
  have ST1 := Lib.hid hst1; have DN1 := Lib.hid hdn1; have ST0 := Lib.hid hst0; have DN0 := Lib.hid hdn0
  clear hst1 hdn1 hst0 hdn0
  rw [hQ1] at q0 q1 rst ⊢
  rw [hQ0] at p0 p1 rst2 ⊢
  rw [hR] at r0 r1 rst2 ⊢
  rw [eY] at rst rst2 v1 r1
  have DIG := Lib.hid dig
  have DIG2 := Lib.hid dig2
  clear n2 hd2 hu2 eY eL dig dig2 g1 g2 hU hQ1 hQ0 hR hV
  obtain ⟨s1, s2, s3, s4, s5⟩ := us
  have s6 : U / c * c ≤ U := by omega
  have s7 : 0 ≤ U / c * c := Int.mul_nonneg s4 (by omega)
  have US : Hid (Kn.Inv c d U u1 (U / c) (U - U / c * c)) := ⟨s1, s2, s3, s4, s5⟩
  obtain ⟨t1, t2, t3, t4, t5⟩ := vs
  have t6 : V / c * c ≤ V := by omega
  have t7 : 0 ≤ V / c * c := Int.mul_nonneg t4 (by omega)
  have VS : Hid (Kn.Inv c d V u0 (V / c) (V - V / c * c)) := ⟨t1, t2, t3, t4, t5⟩
  clear s1 s2 t1 t2
  go_enter Tryz.func152, Tryz.ntmps152
  go_upto_block 0 with (go_at_call 176; refine (HLZ.out _).mono ?_; rintro e w' ⟨rfl, rfl⟩)
  go_cut [15] (fun s15 wx => s15 = .int .u64 Q1 ∧ wx = w)
  case first =>
    go_wp2
    go_loop [15, 16] (fun s15 s16 => ∃ q r : Int, s15 = .int .u64 q ∧ s16 = .int .u64 r ∧ Hid (Kn.Inv c d U u1 q r) ∧ r ≤ 4294967295) (fun s15 _ => (intOf s15).toNat)
    case atStart => exact ⟨_, _, rfl, rfl, US, ut⟩
    case round =>
      obtain ⟨q, r, rfl, rfl, hi, hr⟩ := hrel
      have hi' : 0 ≤ r ∧ 0 ≤ q ∧ q ≤ U := ⟨hi.out.2.2.1, hi.out.2.2.2.1, hi.out.2.2.2.2⟩
      obtain ⟨i3, i4, i5⟩ := hi'
      by_cases t1 : 4294967296 ≤ q
      · obtain ⟨hj, k1⟩ := Kn.over DIG.out hi.out (Or.inl t1)
        have HJ := Lib.hid hj; clear hj
        have ht1 : decide (4294967296 ≤ q) = true := decide_eq_true t1
        by_cases t2 : 4294967296 ≤ r + c
        · go_wp2
          go_meet
          case rel => exact ⟨by rw [ST1.out _ _ HJ.out t2], rfl⟩
        · go_wp2
          go_round
          case rel => exact ⟨_, _, rfl, rfl, HJ, by omega⟩
          case measure => simp [intOf]; omega
      · have ht1 : decide (4294967296 ≤ q) = false := decide_eq_false t1
        have m0 : 0 ≤ q * d := Int.mul_nonneg i4 d0
        have m1 : q * d ≤ 18446744065119617025 := by have := Int.mul_le_mul (show q ≤ 4294967295 by omega) d1 d0 (by omega); omega
        by_cases t3 : 4294967296 * r + u1 < q * d
        · obtain ⟨hj, k1⟩ := Kn.over DIG.out hi.out (Or.inr ⟨by omega, t3⟩)
          have HJ := Lib.hid hj; clear hj
          have ht3 : decide (4294967296 * r + u1 < q * d) = true := decide_eq_true t3
          by_cases t2 : 4294967296 ≤ r + c
          · go_wp2
            go_meet
            case rel => exact ⟨by rw [ST1.out _ _ HJ.out t2], rfl⟩
          · go_wp2
            go_round
            case rel => exact ⟨_, _, rfl, rfl, HJ, by omega⟩
            case measure => simp [intOf]; omega
        · have ht3 : decide (4294967296 * r + u1 < q * d) = false := decide_eq_false t3
          go_wp2
          go_meet
          case rel => exact ⟨by rw [DN1.out _ _ hi.out (by omega) (by omega)], rfl⟩
  case rest =>
    obtain ⟨rfl, rfl⟩ := hcut
    go_upto_block 2 with (fail)
    go_cut [18] (fun s18 wx => s18 = .int .u64 Q0 ∧ wx = wc)
    case first =>
      go_wp2
      go_loop [18, 16] (fun s15 s16 => ∃ q r : Int, s15 = .int .u64 q ∧ s16 = .int .u64 r ∧ Hid (Kn.Inv c d V u0 q r) ∧ r ≤ 4294967295) (fun s15 _ => (intOf s15).toNat)
      case atStart => exact ⟨_, _, rfl, rfl, VS, vt⟩
      case round =>
        obtain ⟨q, r, rfl, rfl, hi, hr⟩ := hrel
        have hi' : 0 ≤ r ∧ 0 ≤ q ∧ q ≤ V := ⟨hi.out.2.2.1, hi.out.2.2.2.1, hi.out.2.2.2.2⟩
        obtain ⟨i3, i4, i5⟩ := hi'
        by_cases t1 : 4294967296 ≤ q
        · obtain ⟨hj, k1⟩ := Kn.over DIG2.out hi.out (Or.inl t1)
          have HJ := Lib.hid hj; clear hj
          have ht1 : decide (4294967296 ≤ q) = true := decide_eq_true t1
          by_cases t2 : 4294967296 ≤ r + c
          · go_wp2
            go_meet
            case rel => exact ⟨by rw [ST0.out _ _ HJ.out t2], rfl⟩
          · go_wp2
            go_round
            case rel => exact ⟨_, _, rfl, rfl, HJ, by omega⟩
            case measure => simp [intOf]; omega
        · have ht1 : decide (4294967296 ≤ q) = false := decide_eq_false t1
          have m0 : 0 ≤ q * d := Int.mul_nonneg i4 d0
          have m1 : q * d ≤ 18446744065119617025 := by have := Int.mul_le_mul (show q ≤ 4294967295 by omega) d1 d0 (by omega); omega
          by_cases t3 : 4294967296 * r + u0 < q * d
          · obtain ⟨hj, k1⟩ := Kn.over DIG2.out hi.out (Or.inr ⟨by omega, t3⟩)
            have HJ := Lib.hid hj; clear hj
            have ht3 : decide (4294967296 * r + u0 < q * d) = true := decide_eq_true t3
            by_cases t2 : 4294967296 ≤ r + c
            · go_wp2
              go_meet
              case rel => exact ⟨by rw [ST0.out _ _ HJ.out t2], rfl⟩
            · go_wp2
              go_round
              case rel => exact ⟨_, _, rfl, rfl, HJ, by omega⟩
              case measure => simp [intOf]; omega
          · have ht3 : decide (4294967296 * r + u0 < q * d) = false := decide_eq_false t3
            go_wp2
            go_meet
            case rel => exact ⟨by rw [DN0.out _ _ hi.out (by omega) (by omega)], rfl⟩
    case rest =>
      obtain ⟨rfl, rfl⟩ := hcut
      go_wp2
      go_ret2
      exact ⟨rfl, Gr.refl _⟩
end Go.Proofs.YtajhhplgcegodaaGreatDoor
namespace Go.Proofs.YtajhhplgcegodaaGreatDoor
open Go.RowKit
namespace Wd
/-- Quotients, rounded down and up. -/
def flr (v b : Int) : Int := if 0 < b then v / b else (-v) / (-b)
def cel (v b : Int) : Int := -(flr (-v) b)
end Wd
theorem div64_all (h l y : Int) (w : World) (h0 : 0 ≤ h) (l0 : 0 ≤ l) (l1 : l ≤ 18446744073709551615) (y0 : h < y) (y1 : y ≤ 18446744073709551615) :
    Calls Tryz.prog 152 #[.int .u64 h, .int .u64 l, .int .u64 y] w fun e w' => e = .returned (.tuple #[.int .u64 ((h * 18446744073709551616 + l) / y), .int .u64 ((h * 18446744073709551616 + l) % y)]) ∧ Gr w w' := by
  by_cases hz : h = 0
  · subst hz
    have := div64_small l y w l0 l1 (by omega) y1
    simpa using this
  · exact div64_any h l y w (by omega) l0 l1 y0 y1
end Go.Proofs.YtajhhplgcegodaaGreatDoor
