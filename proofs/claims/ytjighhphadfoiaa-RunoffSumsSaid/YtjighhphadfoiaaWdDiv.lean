import Derived.Test.YtjighhphadfoiaaWdLen
import Derived.Test.YtjighhphadfoiaaWdKnuth
import Derived.Deep.DeepCutAuto
import Derived.Deep.CutBlock
set_option linter.unusedVariables false
set_option linter.unusedSimpArgs false
namespace Go.Proofs.Ytjighhphadfoiaa
open Go.RowKit
namespace Wd
/-- How many bits a word is shifted to the left till its first bit is set. -/
def lz (y : Int) : Nat := 64 - Lib.bitLen y.toNat
theorem bitLen_spec (x : Nat) (h0 : x ≠ 0) (h1 : x < 18446744073709551616) : 2 ^ (Lib.bitLen x - 1) ≤ x ∧ x < 2 ^ Lib.bitLen x ∧ 1 ≤ Lib.bitLen x ∧ Lib.bitLen x ≤ 64 := by
  have key : ∀ n x : Nat, x ≠ 0 → x < 2 ^ n → n ≤ 64 → 2 ^ (Lib.bitLen x - 1) ≤ x ∧ x < 2 ^ Lib.bitLen x ∧ 1 ≤ Lib.bitLen x := by
    intro n
    induction n with
    | zero => intro x h0 h1 _; simp at h1; omega
    | succ n ih =>
      intro x h0 h1 hn
      have hx : x < 2 ^ 64 := Nat.lt_of_lt_of_le h1 (Nat.pow_le_pow_right (by omega) hn)
      rw [Lib.bitLen_half x h0 hx]
      by_cases hz : x / 2 = 0
      · have : x = 1 := by omega
        subst this
        rw [hz]
        have : Lib.bitLen 0 = 0 := by decide
        rw [this]; decide
      · obtain ⟨a, b, c⟩ := ih (x / 2) hz (by rw [Nat.pow_succ] at h1; omega) (by omega)
        have e1 : 1 + Lib.bitLen (x / 2) - 1 = (Lib.bitLen (x / 2) - 1) + 1 := by omega
        rw [e1, Nat.pow_succ, Nat.add_comm 1, Nat.pow_succ]
        omega
  obtain ⟨a, b, c⟩ := key 64 x h0 h1 (by omega)
  exact ⟨a, b, c, Lib.bitLen_le x 64 (by omega) h1⟩
theorem lz_spec (y : Int) (h0 : 1 ≤ y) (h1 : y ≤ 18446744073709551615) : (lz y : Int) = 64 - (Lib.bitLen y.toNat : Int) ∧ lz y ≤ 63 ∧ 9223372036854775808 ≤ y * 2 ^ lz y ∧ y * 2 ^ lz y ≤ 18446744073709551615 := by
  obtain ⟨a, b, c, d⟩ := bitLen_spec y.toNat (by omega) (by omega)
  have hy : ((y.toNat : Nat) : Int) = y := by omega
  refine ⟨by unfold lz; omega, by unfold lz; omega, ?_, ?_⟩
  · have e : 2 ^ (Lib.bitLen y.toNat - 1) * 2 ^ lz y = 9223372036854775808 := by
      rw [← Nat.pow_add]; have : Lib.bitLen y.toNat - 1 + lz y = 63 := by unfold lz; omega
      rw [this]
    have := Nat.mul_le_mul_right (2 ^ lz y) a
    rw [e] at this
    have t := Int.ofNat_le.2 this
    rw [Int.natCast_mul, Int.natCast_pow, hy] at t
    exact t
  · have e : 2 ^ Lib.bitLen y.toNat * 2 ^ lz y = 18446744073709551616 := by
      rw [← Nat.pow_add]; have : Lib.bitLen y.toNat + lz y = 64 := by unfold lz; omega
      rw [this]
    have hp : 0 < 2 ^ lz y := Nat.two_pow_pos _
    have := Nat.mul_lt_mul_of_pos_right b hp
    rw [e] at this
    have t := Int.ofNat_le.2 (show y.toNat * 2 ^ lz y ≤ 18446744073709551615 by omega)
    rw [Int.natCast_mul, Int.natCast_pow, hy] at t
    exact t
end Wd
set_option maxHeartbeats 400000 in
theorem lz_any (x : Int) (w : World) (h0 : 1 ≤ x) (h1 : x ≤ 18446744073709551615) :
    Calls Try.prog 110 #[.int .u64 x] w fun e w' => e = .returned (.int .i64 (Wd.lz x : Nat)) ∧ w = w' := by
  obtain ⟨e, a, b, c⟩ := Wd.lz_spec x h0 h1
  rw [e]
  have hb : Lib.bitLen x.toNat ≤ 64 := Lib.bitLen_le _ 64 (by omega) (by omega)
  clear e b c
  go_enter Try.func110, Try.ntmps110
  go_wp2_with (go_at_call 127; refine (len64_any _ _ (by omega) (by omega)).mono ?_; rintro e w' ⟨rfl, rfl⟩)
  go_ret
  exact ⟨rfl, rfl⟩

set_option maxHeartbeats 400000 in
set_option maxRecDepth 100000 in
theorem div64_small (l y : Int) (w : World) (l0 : 0 ≤ l) (l1 : l ≤ 18446744073709551615) (y0 : 1 ≤ y) (y1 : y ≤ 18446744073709551615) :
    Calls Try.prog 85 #[.int .u64 0, .int .u64 l, .int .u64 y] w fun e w' => e = .returned (.tuple #[.int .u64 (l / y), .int .u64 (l % y)]) ∧ Gr w w' := by
  have a1 : (y == 0) = false := beq_eq_false_iff_ne.2 (by omega)
  have a2 : decide (y ≤ 0) = false := decide_eq_false (by omega)
  go_enter Try.func85, Try.ntmps85
  go_wp2
  go_quiet (fail)
  go_wp2
  go_ret2
  exact ⟨by first | rfl | (simp; done), gr_auto⟩

set_option maxHeartbeats 400000 in
set_option maxRecDepth 100000 in
theorem div64_any (h l y : Int) (w : World) (h0 : 1 ≤ h) (l0 : 0 ≤ l) (l1 : l ≤ 18446744073709551615) (y0 : h < y) (y1 : y ≤ 18446744073709551615) :
    Calls Try.prog 85 #[.int .u64 h, .int .u64 l, .int .u64 y] w fun e w' => e = .returned (.tuple #[.int .u64 ((h * 18446744073709551616 + l) / y), .int .u64 ((h * 18446744073709551616 + l) % y)]) ∧ Gr w w' := by
  have a1 : (y == 0) = false := beq_eq_false_iff_ne.2 (by omega)
  have a2 : decide (y ≤ h) = false := decide_eq_false (by omega)
  have a3 : (h == 0) = false := beq_eq_false_iff_ne.2 (by omega)
  obtain ⟨hk0, hs, Y0, Y1⟩ := Wd.lz_spec y (by omega) y1
  clear hk0
  have hlz : ∀ W : World, Calls Try.prog 110 #[.int .u64 y] W fun e w' => e = .returned (.int .i64 (Wd.lz y : Nat)) ∧ W = w' := fun W => lz_any y W (by omega) y1
  have HLZ := Lib.hid hlz; clear hlz
  generalize Wd.lz y = k at *
  obtain ⟨n1, n2, n3, n4⟩ := Kn.norm h l y k hs (by omega) l0 l1 y0 Y0 Y1
  have hP : (0 : Int) < 2 ^ k := by exact_mod_cast Nat.two_pow_pos k
  obtain ⟨Y, hY⟩ : ∃ Y : Int, y * 2 ^ k = Y := ⟨_, rfl⟩
  obtain ⟨U, hU⟩ : ∃ U : Int, h * 2 ^ k + l / 2 ^ (64 - k) = U := ⟨_, rfl⟩
  obtain ⟨L, hL⟩ : ∃ L : Int, IntKind.u64.wrap (l * 2 ^ k) = L := ⟨_, rfl⟩
  have L0 : 0 ≤ L ∧ L ≤ 18446744073709551615 := by rw [← hL, IntKind.wrap_u64]; omega
  obtain ⟨L0, L1⟩ := L0
  rw [hY] at Y0 Y1 n4
  rw [hU] at n1 n2 n3 n4
  rw [hL] at n2
  obtain ⟨c, hc⟩ : ∃ c : Int, Y / 4294967296 = c := ⟨_, rfl⟩
  obtain ⟨d, hd⟩ : ∃ d : Int, bits .and .u64 Y 4294967295 = d := ⟨_, rfl⟩
  obtain ⟨u1, hu1⟩ : ∃ u : Int, L / 4294967296 = u := ⟨_, rfl⟩
  obtain ⟨u0, hu0⟩ : ∃ u : Int, bits .and .u64 L 4294967295 = u := ⟨_, rfl⟩
  have hd2 := hd
  have hu2 := hu0
  rw [and_low32 Y (by omega) (by omega)] at hd2
  rw [and_low32 L L0 (by omega)] at hu2
  have eY : c * 4294967296 + d = Y := by omega
  have eL : L = u1 * 4294967296 + u0 := by omega
  have dig : Kn.Dig c d U u1 := ⟨by omega, by omega, by omega, by omega, n3, by omega, by omega, by omega⟩
  have fin := Kn.both (h * 18446744073709551616 + l) y (2 ^ k) L u1 u0 hP (by omega) (by omega) (by rw [n2]) eL dig (by omega) (by omega)
  obtain ⟨g1, g2⟩ := fin
  rw [← g1, ← g2]
  obtain ⟨q0, q1, v0, v1⟩ := Kn.digit dig
  have rst := Kn.rest dig
  obtain ⟨us, ut⟩ := Kn.start dig
  have bc : 2147483648 ≤ c ∧ c ≤ 4294967295 ∧ 0 ≤ d ∧ d ≤ 4294967295 ∧ 0 ≤ u1 ∧ u1 ≤ 4294967295 ∧ 0 ≤ u0 ∧ u0 ≤ 4294967295 := by omega
  obtain ⟨c0, c1, d0, d1, u10, u11, u00, u01⟩ := bc
  obtain ⟨V, hV⟩ : ∃ V : Int, (U * 4294967296 + u1) % (c * 4294967296 + d) = V := ⟨_, rfl⟩
  rw [hV] at v0 v1 rst ⊢
  have dig2 : Kn.Dig c d V u0 := ⟨c0, c1, d0, d1, v0, v1, u00, u01⟩
  obtain ⟨p0, p1, r0, r1⟩ := Kn.digit dig2
  have rst2 := Kn.rest dig2
  obtain ⟨vs, vt⟩ := Kn.start dig2
  obtain ⟨Q1, hQ1⟩ : ∃ Q : Int, (U * 4294967296 + u1) / (c * 4294967296 + d) = Q := ⟨_, rfl⟩
  obtain ⟨Q0, hQ0⟩ : ∃ Q : Int, (V * 4294967296 + u0) / (c * 4294967296 + d) = Q := ⟨_, rfl⟩
  obtain ⟨R, hR⟩ : ∃ R : Int, (V * 4294967296 + u0) % (c * 4294967296 + d) = R := ⟨_, rfl⟩
  have hst1 : ∀ q r : Int, Kn.Inv c d U u1 q r → 4294967296 ≤ r → q = Q1 := fun q r i t => by rw [← hQ1]; exact Kn.stop dig i t
  have hdn1 : ∀ q r : Int, Kn.Inv c d U u1 q r → q < 4294967296 → q * d ≤ 4294967296 * r + u1 → q = Q1 := fun q r i t t' => by rw [← hQ1]; exact Kn.done dig i t t'
  have hst0 : ∀ q r : Int, Kn.Inv c d V u0 q r → 4294967296 ≤ r → q = Q0 := fun q r i t => by rw [← hQ0]; exact Kn.stop dig2 i t
  have hdn0 : ∀ q r : Int, Kn.Inv c d V u0 q r → q < 4294967296 → q * d ≤ 4294967296 * r + u0 → q = Q0 := fun q r i t t' => by rw [← hQ0]; exact Kn.done dig2 i t t'
  have ST1 := Lib.hid hst1; have DN1 := Lib.hid hdn1; have ST0 := Lib.hid hst0; have DN0 := Lib.hid hdn0
  clear hst1 hdn1 hst0 hdn0
  rw [hQ1] at q0 q1 rst ⊢
  rw [hQ0] at p0 p1 rst2 ⊢
  rw [hR] at r0 r1 rst2 ⊢
  rw [eY] at rst rst2 v1 r1
  have DIG := Lib.hid dig
  have DIG2 := Lib.hid dig2
  clear n2 hd2 hu2 eY eL dig dig2 g1 g2 hU hQ1 hQ0 hR hV
  obtain ⟨s1, s2, s3, s4, s5⟩ := us
  have s6 : U / c * c ≤ U := by omega
  have s7 : 0 ≤ U / c * c := Int.mul_nonneg s4 (by omega)
  have US : Hid (Kn.Inv c d U u1 (U / c) (U - U / c * c)) := ⟨s1, s2, s3, s4, s5⟩
  obtain ⟨t1, t2, t3, t4, t5⟩ := vs
  have t6 : V / c * c ≤ V := by omega
  have t7 : 0 ≤ V / c * c := Int.mul_nonneg t4 (by omega)
  have VS : Hid (Kn.Inv c d V u0 (V / c) (V - V / c * c)) := ⟨t1, t2, t3, t4, t5⟩
  clear s1 s2 t1 t2
  go_enter Try.func85, Try.ntmps85
  go_upto_block 0 with (go_at_call 110; refine (HLZ.out _).mono ?_; rintro e w' ⟨rfl, rfl⟩)
  go_cut [15] (fun s15 wx => s15 = .int .u64 Q1 ∧ wx = w)
  case first =>
    go_wp2
    go_loop [15, 16] (fun s15 s16 => ∃ q r : Int, s15 = .int .u64 q ∧ s16 = .int .u64 r ∧ Hid (Kn.Inv c d U u1 q r) ∧ r ≤ 4294967295) (fun s15 _ => (intOf s15).toNat)
    case atStart => exact ⟨_, _, rfl, rfl, US, ut⟩
    case round =>
      obtain ⟨q, r, rfl, rfl, hi, hr⟩ := hrel
      have hi' : 0 ≤ r ∧ 0 ≤ q ∧ q ≤ U := ⟨hi.out.2.2.1, hi.out.2.2.2.1, hi.out.2.2.2.2⟩
      obtain ⟨i3, i4, i5⟩ := hi'
      by_cases t1 : 4294967296 ≤ q
      · obtain ⟨hj, k1⟩ := Kn.over DIG.out hi.out (Or.inl t1)
        have HJ := Lib.hid hj; clear hj
        have ht1 : decide (4294967296 ≤ q) = true := decide_eq_true t1
        by_cases t2 : 4294967296 ≤ r + c
        · go_wp2
          go_meet
          case rel => exact ⟨by rw [ST1.out _ _ HJ.out t2], rfl⟩
        · go_wp2
          go_round
          case rel => exact ⟨_, _, rfl, rfl, HJ, by omega⟩
          case measure => simp [intOf]; omega
      · have ht1 : decide (4294967296 ≤ q) = false := decide_eq_false t1
        have m0 : 0 ≤ q * d := Int.mul_nonneg i4 d0
        have m1 : q * d ≤ 18446744065119617025 := by have := Int.mul_le_mul (show q ≤ 4294967295 by omega) d1 d0 (by omega); omega
        by_cases t3 : 4294967296 * r + u1 < q * d
        · obtain ⟨hj, k1⟩ := Kn.over DIG.out hi.out (Or.inr ⟨by omega, t3⟩)
          have HJ := Lib.hid hj; clear hj
          have ht3 : decide (4294967296 * r + u1 < q * d) = true := decide_eq_true t3
          by_cases t2 : 4294967296 ≤ r + c
          · go_wp2
            go_meet
            case rel => exact ⟨by rw [ST1.out _ _ HJ.out t2], rfl⟩
          · go_wp2
            go_round
            case rel => exact ⟨_, _, rfl, rfl, HJ, by omega⟩
            case measure => simp [intOf]; omega
        · have ht3 : decide (4294967296 * r + u1 < q * d) = false := decide_eq_false t3
          go_wp2
          go_meet
          case rel => exact ⟨by rw [DN1.out _ _ hi.out (by omega) (by omega)], rfl⟩
  case rest =>
    obtain ⟨rfl, rfl⟩ := hcut
    go_upto_block 2 with (fail)
    go_cut [18] (fun s18 wx => s18 = .int .u64 Q0 ∧ wx = wc)
    case first =>
      go_wp2
      go_loop [18, 16] (fun s15 s16 => ∃ q r : Int, s15 = .int .u64 q ∧ s16 = .int .u64 r ∧ Hid (Kn.Inv c d V u0 q r) ∧ r ≤ 4294967295) (fun s15 _ => (intOf s15).toNat)
      case atStart => exact ⟨_, _, rfl, rfl, VS, vt⟩
      case round =>
        obtain ⟨q, r, rfl, rfl, hi, hr⟩ := hrel
        have hi' : 0 ≤ r ∧ 0 ≤ q ∧ q ≤ V := ⟨hi.out.2.2.1, hi.out.2.2.2.1, hi.out.2.2.2.2⟩
        obtain ⟨i3, i4, i5⟩ := hi'
        by_cases t1 : 4294967296 ≤ q
        · obtain ⟨hj, k1⟩ := Kn.over DIG2.out hi.out (Or.inl t1)
          have HJ := Lib.hid hj; clear hj
          have ht1 : decide (4294967296 ≤ q) = true := decide_eq_true t1
          by_cases t2 : 4294967296 ≤ r + c
          · go_wp2
            go_meet
            case rel => exact ⟨by rw [ST0.out _ _ HJ.out t2], rfl⟩
          · go_wp2
            go_round
            case rel => exact ⟨_, _, rfl, rfl, HJ, by omega⟩
            case measure => simp [intOf]; omega
        · have ht1 : decide (4294967296 ≤ q) = false := decide_eq_false t1
          have m0 : 0 ≤ q * d := Int.mul_nonneg i4 d0
          have m1 : q * d ≤ 18446744065119617025 := by have := Int.mul_le_mul (show q ≤ 4294967295 by omega) d1 d0 (by omega); omega
          by_cases t3 : 4294967296 * r + u0 < q * d
          · obtain ⟨hj, k1⟩ := Kn.over DIG2.out hi.out (Or.inr ⟨by omega, t3⟩)
            have HJ := Lib.hid hj; clear hj
            have ht3 : decide (4294967296 * r + u0 < q * d) = true := decide_eq_true t3
            by_cases t2 : 4294967296 ≤ r + c
            · go_wp2
              go_meet
              case rel => exact ⟨by rw [ST0.out _ _ HJ.out t2], rfl⟩
            · go_wp2
              go_round
              case rel => exact ⟨_, _, rfl, rfl, HJ, by omega⟩
              case measure => simp [intOf]; omega
          · have ht3 : decide (4294967296 * r + u0 < q * d) = false := decide_eq_false t3
            go_wp2
            go_meet
            case rel => exact ⟨by rw [DN0.out _ _ hi.out (by omega) (by omega)], rfl⟩
    case rest =>
      obtain ⟨rfl, rfl⟩ := hcut
      go_wp2
      go_ret2
      exact ⟨rfl, Gr.refl _⟩
end Go.Proofs.Ytjighhphadfoiaa
