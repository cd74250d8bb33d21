import Derived.Test.YtjighhphadfoiaaWdWalkF
import Derived.Lib.Strings
import Derived.Lib.Slices
import Derived.Lib.Small
import Derived.Lib.Walk
import Derived.Lib.BitFns
set_option linter.unusedVariables false
set_option linter.unusedSimpArgs false
namespace Go.Proofs.Ytjighhphadfoiaa
open Go.RowKit
set_option maxHeartbeats 400000 in
theorem len64_any (x : Int) (w : World) (h0 : 0 ≤ x) (h1 : x ≤ 18446744073709551615) :
    Calls Try.prog 127 #[.int .u64 x] w fun e w' => e = .returned (.int .i64 (Lib.bitLen x.toNat)) ∧ w = w' := by
  by_cases c32 : 4294967296 ≤ x
  · by_cases c16 : 65536 ≤ x / 4294967296
    · by_cases c8 : 256 ≤ x / 4294967296 / 65536
      · have i0 : 0 ≤ x / 4294967296 / 65536 / 256 := by omega
        have i1 : x / 4294967296 / 65536 / 256 ≤ 255 := by omega
        have l := Lib.bitLen_le8' (x / 4294967296 / 65536 / 256) i0 i1
        have e8 := Lib.len8_of (x / 4294967296 / 65536 / 256) i0 i1
        have s := Lib.bitLen_shift56 x.toNat (by omega) (by omega)
        have e : (x / 4294967296 / 65536 / 256).toNat = x.toNat / 72057594037927936 := by omega
        rw [e] at l e8
        have f : ((Lib.bitLen x.toNat : Nat) : Int) = 56 + Lib.len8 (x / 4294967296 / 65536 / 256) := by rw [s, e8]; omega
        have b0 : 0 ≤ Lib.len8 (x / 4294967296 / 65536 / 256) := by rw [e8]; omega
        have b1 : Lib.len8 (x / 4294967296 / 65536 / 256) ≤ 8 := by rw [e8]; omega
        rw [f]
        clear l e8 f s e
        go_enter Try.func127, Try.ntmps127
        go_wp2
        go_ret
        exact ⟨ret_int (by omega), rfl⟩
      · have d8 : x / 4294967296 / 65536 < 256 := by omega
        have i0 : 0 ≤ x / 4294967296 / 65536 := by omega
        have i1 : x / 4294967296 / 65536 ≤ 255 := by omega
        have l := Lib.bitLen_le8' (x / 4294967296 / 65536) i0 i1
        have e8 := Lib.len8_of (x / 4294967296 / 65536) i0 i1
        have s := Lib.bitLen_shift48 x.toNat (by omega) (by omega)
        have e : (x / 4294967296 / 65536).toNat = x.toNat / 281474976710656 := by omega
        rw [e] at l e8
        have f : ((Lib.bitLen x.toNat : Nat) : Int) = 48 + Lib.len8 (x / 4294967296 / 65536) := by rw [s, e8]; omega
        have b0 : 0 ≤ Lib.len8 (x / 4294967296 / 65536) := by rw [e8]; omega
        have b1 : Lib.len8 (x / 4294967296 / 65536) ≤ 8 := by rw [e8]; omega
        rw [f]
        clear l e8 f s e
        go_enter Try.func127, Try.ntmps127
        go_wp2
        go_ret
        exact ⟨ret_int (by omega), rfl⟩
    · have d16 : x / 4294967296 < 65536 := by omega
      by_cases c8 : 256 ≤ x / 4294967296
      · have i0 : 0 ≤ x / 4294967296 / 256 := by omega
        have i1 : x / 4294967296 / 256 ≤ 255 := by omega
        have l := Lib.bitLen_le8' (x / 4294967296 / 256) i0 i1
        have e8 := Lib.len8_of (x / 4294967296 / 256) i0 i1
        have s := Lib.bitLen_shift40 x.toNat (by omega) (by omega)
        have e : (x / 4294967296 / 256).toNat = x.toNat / 1099511627776 := by omega
        rw [e] at l e8
        have f : ((Lib.bitLen x.toNat : Nat) : Int) = 40 + Lib.len8 (x / 4294967296 / 256) := by rw [s, e8]; omega
        have b0 : 0 ≤ Lib.len8 (x / 4294967296 / 256) := by rw [e8]; omega
        have b1 : Lib.len8 (x / 4294967296 / 256) ≤ 8 := by rw [e8]; omega
        rw [f]
        clear l e8 f s e
        go_enter Try.func127, Try.ntmps127
        go_wp2
        go_ret
        exact ⟨ret_int (by omega), rfl⟩
      · have d8 : x / 4294967296 < 256 := by omega
        have i0 : 0 ≤ x / 4294967296 := by omega
        have i1 : x / 4294967296 ≤ 255 := by omega
        have l := Lib.bitLen_le8' (x / 4294967296) i0 i1
        have e8 := Lib.len8_of (x / 4294967296) i0 i1
        have s := Lib.bitLen_shift32 x.toNat (by omega) (by omega)
        have e : (x / 4294967296).toNat = x.toNat / 4294967296 := by omega
        rw [e] at l e8
        have f : ((Lib.bitLen x.toNat : Nat) : Int) = 32 + Lib.len8 (x / 4294967296) := by rw [s, e8]; omega
        have b0 : 0 ≤ Lib.len8 (x / 4294967296) := by rw [e8]; omega
        have b1 : Lib.len8 (x / 4294967296) ≤ 8 := by rw [e8]; omega
        rw [f]
        clear l e8 f s e
        go_enter Try.func127, Try.ntmps127
        go_wp2
        go_ret
        exact ⟨ret_int (by omega), rfl⟩
  · have d32 : x < 4294967296 := by omega
    by_cases c16 : 65536 ≤ x
    · by_cases c8 : 256 ≤ x / 65536
      · have i0 : 0 ≤ x / 65536 / 256 := by omega
        have i1 : x / 65536 / 256 ≤ 255 := by omega
        have l := Lib.bitLen_le8' (x / 65536 / 256) i0 i1
        have e8 := Lib.len8_of (x / 65536 / 256) i0 i1
        have s := Lib.bitLen_shift24 x.toNat (by omega) (by omega)
        have e : (x / 65536 / 256).toNat = x.toNat / 16777216 := by omega
        rw [e] at l e8
        have f : ((Lib.bitLen x.toNat : Nat) : Int) = 24 + Lib.len8 (x / 65536 / 256) := by rw [s, e8]; omega
        have b0 : 0 ≤ Lib.len8 (x / 65536 / 256) := by rw [e8]; omega
        have b1 : Lib.len8 (x / 65536 / 256) ≤ 8 := by rw [e8]; omega
        rw [f]
        clear l e8 f s e
        go_enter Try.func127, Try.ntmps127
        go_wp2
        go_ret
        exact ⟨ret_int (by omega), rfl⟩
      · have d8 : x / 65536 < 256 := by omega
        have i0 : 0 ≤ x / 65536 := by omega
        have i1 : x / 65536 ≤ 255 := by omega
        have l := Lib.bitLen_le8' (x / 65536) i0 i1
        have e8 := Lib.len8_of (x / 65536) i0 i1
        have s := Lib.bitLen_shift16 x.toNat (by omega) (by omega)
        have e : (x / 65536).toNat = x.toNat / 65536 := by omega
        rw [e] at l e8
        have f : ((Lib.bitLen x.toNat : Nat) : Int) = 16 + Lib.len8 (x / 65536) := by rw [s, e8]; omega
        have b0 : 0 ≤ Lib.len8 (x / 65536) := by rw [e8]; omega
        have b1 : Lib.len8 (x / 65536) ≤ 8 := by rw [e8]; omega
        rw [f]
        clear l e8 f s e
        go_enter Try.func127, Try.ntmps127
        go_wp2
        go_ret
        exact ⟨ret_int (by omega), rfl⟩
    · have d16 : x < 65536 := by omega
      by_cases c8 : 256 ≤ x
      · have i0 : 0 ≤ x / 256 := by omega
        have i1 : x / 256 ≤ 255 := by omega
        have l := Lib.bitLen_le8' (x / 256) i0 i1
        have e8 := Lib.len8_of (x / 256) i0 i1
        have s := Lib.bitLen_shift8 x.toNat (by omega) (by omega)
        have e : (x / 256).toNat = x.toNat / 256 := by omega
        rw [e] at l e8
        have f : ((Lib.bitLen x.toNat : Nat) : Int) = 8 + Lib.len8 (x / 256) := by rw [s, e8]; omega
        have b0 : 0 ≤ Lib.len8 (x / 256) := by rw [e8]; omega
        have b1 : Lib.len8 (x / 256) ≤ 8 := by rw [e8]; omega
        rw [f]
        clear l e8 f s e
        go_enter Try.func127, Try.ntmps127
        go_wp2
        go_ret
        exact ⟨ret_int (by omega), rfl⟩
      · have d8 : x < 256 := by omega
        have i0 : 0 ≤ x := by omega
        have i1 : x ≤ 255 := by omega
        have l := Lib.bitLen_le8' (x) i0 i1
        have e8 := Lib.len8_of (x) i0 i1
        have f : ((Lib.bitLen x.toNat : Nat) : Int) = Lib.len8 (x) := by rw [e8]
        have b0 : 0 ≤ Lib.len8 (x) := by rw [e8]; omega
        have b1 : Lib.len8 (x) ≤ 8 := by rw [e8]; omega
        rw [f]
        clear l e8 f
        go_enter Try.func127, Try.ntmps127
        go_wp2
        go_ret
        exact ⟨ret_int (by omega), rfl⟩
end Go.Proofs.Ytjighhphadfoiaa
