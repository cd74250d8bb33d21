import Derived.Test.YtjighhphadfoiaaRows
import Derived.Test.YtjighhphadfoiaaGr
import Derived.Test.YtjighhphadfoiaaWdPlain
import Derived.WalkKit
import Derived.WalkSpells
import Derived.WalkLawsBesides
import Derived.Shelf.Spec.BitsCarry
import Derived.Handy
import Derived.BigQuiet
import Derived.Deep.QuietTactic
import Derived.Lib.Hide
set_option linter.unusedVariables false
set_option linter.unusedSimpArgs false
namespace Go.Proofs.Ytjighhphadfoiaa
open Go.RowKit
set_option maxHeartbeats 400000 in
theorem size_any (n : Int) (w : World) (h0 : -9223372036854775808 ≤ n) (h1 : n ≤ 9223372036854775807) :
    Calls Try.prog 112 #[.int .i64 n] w fun e w' => e = .returned (.int .u64 (Wd.mag n)) ∧ w = w' := by
  by_cases hn : n < 0
  · go_enter Try.func112, Try.ntmps112
    go_wp2
    go_ret
    exact ⟨ret_int (by rw [Wd.mag_of_neg hn, IntKind.wrap_u64, IntKind.wrap_u64]; omega), rfl⟩
  · have hn' : 0 ≤ n := by omega
    go_enter Try.func112, Try.ntmps112
    go_wp2
    go_ret
    exact ⟨ret_int (by rw [Wd.mag_of_nonneg hn']), rfl⟩

set_option maxHeartbeats 400000 in
theorem signed_any (h l : Int) (b : Bool) (w : World) (h0 : 0 ≤ h) (l0 : 0 ≤ l) (h1 : h ≤ 18446744073709551615) (l1 : l ≤ 18446744073709551615) :
    Calls Try.prog 113 #[.int .u64 h, .int .u64 l, .bool b] w fun e w' => e = .returned (.agg #[.int .u64 h, .int .u64 l, .bool (Wd.neg (Wd.mk h l b))]) ∧ Gr w w' := by
  cases b
  · rw [Wd.neg_mk_false h l h0 l0]
    go_enter Try.func113, Try.ntmps113
    go_wp2
    go_returns
    exact ⟨by first | rfl | (simp; done), gr_auto⟩
  · by_cases hz : h ≠ 0 ∨ l ≠ 0
    · rw [Wd.neg_mk_true h l h0 l0 hz]
      by_cases hh : h = 0
      · subst hh
        have hl : (l != 0) = true := by simp at hz; simpa using hz
        go_enter Try.func113, Try.ntmps113
        go_wp2
        go_returns
        exact ⟨by first | rfl | (simp; done), gr_auto⟩
      · have hh' : (h != 0) = true := by simpa using hh
        clear hz
        go_enter Try.func113, Try.ntmps113
        go_wp2
        go_returns
        exact ⟨by first | rfl | (simp; done), gr_auto⟩
    · have hh : h = 0 := by omega
      have hl : l = 0 := by omega
      subst hh; subst hl
      rw [Wd.neg_mk_zero]
      go_enter Try.func113, Try.ntmps113
      go_wp2
      go_returns
      exact ⟨by first | rfl | (simp; done), gr_auto⟩

theorem sub64 (x y b : Int) (hx : 0 ≤ x) (hy : 0 ≤ y) (hy' : y ≤ 18446744073709551615) (hb0 : 0 ≤ b) (hb : b ≤ 1) (w : World) : (callFunc 129 #[.int .u64 x, .int .u64 y, .int .u64 b]).run Try.prog w =
    .ok (.value (.tuple #[.int .u64 ((x - y - b) % 18446744073709551616), .int .u64 (Wd.bor x (y + b))])) w := by
  obtain ⟨x, rfl⟩ := Int.eq_ofNat_of_zero_le hx
  obtain ⟨y, rfl⟩ := Int.eq_ofNat_of_zero_le hy
  obtain ⟨b, rfl⟩ := Int.eq_ofNat_of_zero_le hb0
  have e1 : (((x + 18446744073709551616 - y - b) % 18446744073709551616 : Nat) : Int) = ((x : Int) - y - b) % 18446744073709551616 := by omega
  have e2 : ((if x < y + b then 1 else 0 : Nat) : Int) = Wd.bor x (y + b) := by unfold Wd.bor; split <;> split <;> omega
  rw [← e1, ← e2]
  rw [run_callFunc_extern Try.func129 (by kernel_rfl) (by kernel_rfl) (by kernel_rfl) (e := sub64Entry) (by kernel_rfl), run_sub64 x y b (by omega)]
  rfl
theorem sub64_0 (x y : Int) (hx : 0 ≤ x) (hy : 0 ≤ y) (hy' : y ≤ 18446744073709551615) (w : World) : (callFunc 129 #[.int .u64 x, .int .u64 y, .int .u64 0]).run Try.prog w =
    .ok (.value (.tuple #[.int .u64 ((x - y) % 18446744073709551616), .int .u64 (Wd.bor x y)])) w := by
  simpa using sub64 x y 0 hx hy hy' (Int.le_refl 0) (by decide) w

set_option maxHeartbeats 400000 in
theorem value_any (h l : Int) (w : World) (h0 : -1152921504606846976 ≤ h) (h1 : h ≤ 1152921504606846975) (l0 : 0 ≤ l) (l1 : l ≤ 1152921504606846975) :
    Calls Try.prog 116 #[.agg #[.int .i64 h, .int .i64 l]] w fun e w' => e = .returned (.agg #[.int .u64 (Wd.hi (h * 1152921504606846976 + l)), .int .u64 (Wd.lo (h * 1152921504606846976 + l)), .bool (Wd.neg (h * 1152921504606846976 + l))]) ∧ Gr w w' := by
  by_cases hn : h < 0
  · obtain ⟨e1, e2⟩ := Wd.val_neg h l h0 hn l0 l1
    have e3 : Wd.neg (h * 1152921504606846976 + l) = true := Wd.neg_of_neg (by omega)
    obtain ⟨r1, r2⟩ := Wd.val_neg_range h l h0 hn l0 l1
    obtain ⟨r3, r4⟩ := Wd.bor_range (Wd.mag h * 1152921504606846976 % 18446744073709551616) l
    have e5 : IntKind.u64.wrap (Wd.mag h * 1152921504606846976) = Wd.mag h * 1152921504606846976 % 18446744073709551616 := IntKind.wrap_u64 _
    rw [← e1, ← e2, e3]
    clear e1 e2 e3
    go_enter Try.func116, Try.ntmps116
    go_wp2_with (first | (go_at_call 112; refine (size_any _ _ (by omega) (by omega)).mono ?_; rintro e w' ⟨rfl, rfl⟩) | simp only [sub64_0 (Wd.mag h * 1152921504606846976 % 18446744073709551616) l (by omega) l0 (by omega)])
    go_returns
    exact ⟨by first | rfl | (simp; done), gr_auto⟩
  · have hn' : 0 ≤ h := by omega
    obtain ⟨e1, e2⟩ := Wd.val_pos h l hn' h1 l0 l1
    have e3 : Wd.neg (h * 1152921504606846976 + l) = false := Wd.neg_of_nonneg (by omega)
    have e4 := Wd.join60 (Wd.mag h) l (Wd.mag_nonneg _) (by rw [Wd.mag_of_nonneg hn']; omega) l0 l1
    rw [← e1, ← e2, e3]
    clear e1 e2 e3
    go_enter Try.func116, Try.ntmps116
    go_wp2_with (go_at_call 112; refine (size_any _ _ (by omega) (by omega)).mono ?_; rintro e w' ⟨rfl, rfl⟩)
    go_returns
    exact ⟨by first | rfl | (simp; done), gr_auto⟩
end Go.Proofs.Ytjighhphadfoiaa
