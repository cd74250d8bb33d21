import Derived.Test.YtjighhphadfoiaaWdWalkA
import Derived.BigQuiet
import Derived.Deep.QuietTactic
set_option linter.unusedVariables false
set_option linter.unusedSimpArgs false
namespace Go.Proofs.Ytjighhphadfoiaa
open Go.RowKit
theorem ret_two {k l : IntKind} {a b c d : Int} (h : a = b) (h' : c = d) : Ending.returned (.tuple #[.int k a, .int l c]) = .returned (.tuple #[.int k b, .int l d]) := by rw [h, h']

set_option maxHeartbeats 400000 in
theorem whole_any (q : Int) (b : Bool) (w : World) (h1 : Wd.mag q ≤ 18446744073709551615) (hb : b = Wd.neg q) :
    Calls Try.prog 128 #[.int .u64 (Wd.mag q), .bool b] w fun e w' => e = .returned (.tuple #[.int .i64 (Wd.intQ q), .int .i64 (Wd.intE q)]) ∧ w = w' := by
  subst hb
  have h0 := Wd.mag_nonneg q
  by_cases hq : q < 0
  · rw [Wd.neg_of_neg hq]
    have e1 := Wd.mag_of_neg hq
    by_cases hf : Wd.mag q ≤ 9223372036854775808
    · obtain ⟨f1, f2⟩ := Wd.fits_true (q := q) (by omega) (by omega)
      rw [f1, f2]
      have e2 : wrap64 (IntKind.u64.wrap (-Wd.mag q)) = q := by unfold wrap64; rw [IntKind.wrap_u64, e1]; omega
      have H1 := Lib.hid e1; have H2 := Lib.hid e2; clear e1 e2 f1 f2
      go_enter Try.func128, Try.ntmps128
      go_wp2
      go_ret2
      exact ⟨ret_two H2.out rfl, rfl⟩
    · obtain ⟨f1, f2⟩ := Wd.fits_false (q := q) (by omega)
      rw [f1, f2]
      have hf' : 9223372036854775808 < Wd.mag q := by omega
      have H1 := Lib.hid e1; clear e1 f1 f2
      go_enter Try.func128, Try.ntmps128
      go_wp2
      go_ret2
      exact ⟨rfl, rfl⟩
  · have hq' : 0 ≤ q := by omega
    rw [Wd.neg_of_nonneg hq']
    have e1 := Wd.mag_of_nonneg hq'
    rw [e1] at h0 h1 ⊢
    by_cases hf : q ≤ 9223372036854775807
    · obtain ⟨f1, f2⟩ := Wd.fits_true (q := q) (by omega) (by omega)
      rw [f1, f2]
      clear e1 f1 f2
      go_enter Try.func128, Try.ntmps128
      go_wp2
      go_ret2
      exact ⟨rfl, rfl⟩
    · obtain ⟨f1, f2⟩ := Wd.fits_false (q := q) (by omega)
      rw [f1, f2]
      have hf' : 9223372036854775807 < q := by omega
      clear e1 f1 f2
      go_enter Try.func128, Try.ntmps128
      go_wp2
      go_ret2
      exact ⟨rfl, rfl⟩

set_option maxHeartbeats 400000 in
theorem placed_pos (h l : Int) (w : World) (h0 : 0 ≤ h) (h1 : h < 72057594037927936) (l0 : 0 ≤ l) (l1 : l ≤ 18446744073709551615) :
    Calls Try.prog 92 #[.agg #[.int .u64 h, .int .u64 l, .bool false]] w fun e w' => e = .returned (.tuple #[.agg #[.int .i64 (h * 16 + l / 1152921504606846976), .int .i64 (l % 1152921504606846976)], .int .i64 0]) ∧ Gr w w' := by
  have e1 := Wd.join4 h l h0 (by omega) l0 l1
  have e2 := Wd.mask60 l l0 l1
  have hf : decide (72057594037927936 < h) = false := by simp; omega
  have hg : (h == 72057594037927936) = false := by simp; omega
  go_enter Try.func92, Try.ntmps92
  go_wp2
  go_quiet (fail)
  go_wp2
  go_returns
  exact ⟨rfl, gr_auto⟩
set_option maxHeartbeats 400000 in
theorem placed_neg0 (h l : Int) (w : World) (h0 : 0 ≤ h) (h1 : h < 72057594037927936) (l0 : 0 ≤ l) (l1 : l ≤ 18446744073709551615) (hz : l % 1152921504606846976 = 0) :
    Calls Try.prog 92 #[.agg #[.int .u64 h, .int .u64 l, .bool true]] w fun e w' => e = .returned (.tuple #[.agg #[.int .i64 (-(h * 16 + l / 1152921504606846976)), .int .i64 0], .int .i64 0]) ∧ Gr w w' := by
  have e1 := Wd.join4 h l h0 (by omega) l0 l1
  have e2 := Wd.mask60 l l0 l1
  rw [hz] at e2
  have hf : decide (72057594037927936 < h) = false := by simp; omega
  have hg : (h == 72057594037927936) = false := by simp; omega
  clear hz
  go_enter Try.func92, Try.ntmps92
  go_wp2
  go_quiet (fail)
  go_wp2
  go_returns
  exact ⟨rfl, gr_auto⟩
set_option maxHeartbeats 400000 in
theorem placed_neg (h l : Int) (w : World) (h0 : 0 ≤ h) (h1 : h < 72057594037927936) (l0 : 0 ≤ l) (l1 : l ≤ 18446744073709551615) (hz : l % 1152921504606846976 ≠ 0) :
    Calls Try.prog 92 #[.agg #[.int .u64 h, .int .u64 l, .bool true]] w fun e w' => e = .returned (.tuple #[.agg #[.int .i64 (-(h * 16 + l / 1152921504606846976) - 1), .int .i64 (1152921504606846976 - l % 1152921504606846976)], .int .i64 0]) ∧ Gr w w' := by
  have e1 := Wd.join4 h l h0 (by omega) l0 l1
  have e2 := Wd.mask60 l l0 l1
  have hf : decide (72057594037927936 < h) = false := by simp; omega
  have hg : (h == 72057594037927936) = false := by simp; omega
  have hk : (l % 1152921504606846976 == 0) = false := by simpa using hz
  clear hz
  go_enter Try.func92, Try.ntmps92
  go_wp2
  go_quiet (fail)
  go_wp2
  go_returns
  exact ⟨rfl, gr_auto⟩
set_option maxHeartbeats 400000 in
theorem placed_least (w : World) :
    Calls Try.prog 92 #[.agg #[.int .u64 72057594037927936, .int .u64 0, .bool true]] w fun e w' => e = .returned (.tuple #[.agg #[.int .i64 (-1152921504606846976), .int .i64 0], .int .i64 0]) ∧ Gr w w' := by
  have e1 := Wd.join_least
  have e2 : bits .and .u64 0 1152921504606846975 = 0 := Wd.mask60 0 (by omega) (by omega)
  go_enter Try.func92, Try.ntmps92
  go_wp2
  go_quiet (fail)
  go_wp2
  go_returns
  exact ⟨rfl, gr_auto⟩
set_option maxHeartbeats 400000 in
theorem placed_big (h l : Int) (b : Bool) (w : World) (h1 : 72057594037927936 < h) :
    Calls Try.prog 92 #[.agg #[.int .u64 h, .int .u64 l, .bool b]] w fun e w' => e = .returned (.tuple #[.agg #[.int .i64 0, .int .i64 0], .int .i64 5]) ∧ Gr w w' := by
  have hf : decide (72057594037927936 < h) = true := by simpa using h1
  go_enter Try.func92, Try.ntmps92
  go_wp2
  go_returns
  exact ⟨rfl, gr_auto⟩
set_option maxHeartbeats 400000 in
theorem placed_edge (l : Int) (b : Bool) (w : World) (h1 : 0 < l) :
    Calls Try.prog 92 #[.agg #[.int .u64 72057594037927936, .int .u64 l, .bool b]] w fun e w' => e = .returned (.tuple #[.agg #[.int .i64 0, .int .i64 0], .int .i64 5]) ∧ Gr w w' := by
  have hf : decide (0 < l) = true := by simpa using h1
  go_enter Try.func92, Try.ntmps92
  go_wp2
  go_returns
  exact ⟨rfl, gr_auto⟩
set_option maxHeartbeats 400000 in
theorem placed_edge0 (w : World) :
    Calls Try.prog 92 #[.agg #[.int .u64 72057594037927936, .int .u64 0, .bool false]] w fun e w' => e = .returned (.tuple #[.agg #[.int .i64 0, .int .i64 0], .int .i64 5]) ∧ Gr w w' := by
  go_enter Try.func92, Try.ntmps92
  go_wp2
  go_returns
  exact ⟨rfl, gr_auto⟩

theorem placed_any (v : Int) (w : World) (h1 : Wd.hi v ≤ 18446744073709551615) :
    Calls Try.prog 92 #[.agg #[.int .u64 (Wd.hi v), .int .u64 (Wd.lo v), .bool (Wd.neg v)]] w fun e w' => e = .returned (.tuple #[.agg #[.int .i64 (Wd.wH v), .int .i64 (Wd.wL v)], .int .i64 (Wd.wE v)]) ∧ Gr w w' := by
  have b := Wd.lo_lt v; have c := Wd.lo_nonneg v; have d := Wd.hi_nonneg v
  by_cases hb : 72057594037927936 < Wd.hi v
  · obtain ⟨e1, e2, e3⟩ := Wd.put_none v (Or.inl hb)
    rw [e1, e2, e3]; exact placed_big _ _ _ w hb
  by_cases he : Wd.hi v = 72057594037927936
  · by_cases hl : 0 < Wd.lo v
    · obtain ⟨e1, e2, e3⟩ := Wd.put_none v (Or.inr ⟨he, Or.inl hl⟩)
      rw [e1, e2, e3, he]; exact placed_edge _ _ w hl
    · have hl' : Wd.lo v = 0 := by omega
      by_cases hn : v < 0
      · obtain ⟨e1, e2, e3⟩ := Wd.put_least v hn he hl'
        rw [e1, e2, e3, he, hl', Wd.neg_of_neg hn]; exact placed_least w
      · obtain ⟨e1, e2, e3⟩ := Wd.put_none v (Or.inr ⟨he, Or.inr (by omega)⟩)
        rw [e1, e2, e3, he, hl', Wd.neg_of_nonneg (by omega)]; exact placed_edge0 w
  have hh : Wd.hi v < 72057594037927936 := by omega
  by_cases hn : v < 0
  · rw [Wd.neg_of_neg hn]
    by_cases hz : Wd.lo v % 1152921504606846976 = 0
    · obtain ⟨e1, e2, e3⟩ := Wd.put_neg0 v hn hh hz
      rw [e1, e2, e3]; exact placed_neg0 _ _ w d hh c b hz
    · obtain ⟨e1, e2, e3⟩ := Wd.put_neg v hn hh hz
      rw [e1, e2, e3]; exact placed_neg _ _ w d hh c b hz
  · rw [Wd.neg_of_nonneg (by omega)]
    obtain ⟨e1, e2, e3⟩ := Wd.put_pos v (by omega) hh
    rw [e1, e2, e3]; exact placed_pos _ _ w d hh c b

end Go.Proofs.Ytjighhphadfoiaa
