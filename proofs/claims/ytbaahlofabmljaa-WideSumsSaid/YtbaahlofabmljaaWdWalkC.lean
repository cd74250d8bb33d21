import Derived.Test.YtbaahlofabmljaaWdWalkB
import Derived.Deep.RegionHeld3
set_option linter.unusedVariables false
set_option linter.unusedSimpArgs false
namespace Go.Proofs.Ytbaahlofabmljaa
open Go.RowKit

set_option maxHeartbeats 400000 in
theorem sum_more (a b c d : Int) (s : Bool) (w : World) (a1 : a ≤ 18446744073709551615) (b0 : 0 ≤ b) (b1 : b ≤ 18446744073709551615) (c0 : 0 ≤ c) (d0 : 0 ≤ d) (d1 : d ≤ 18446744073709551615) (hl : c < a ∨ c = a ∧ d ≤ b) :
    Calls Try.prog 51 #[.agg #[.int .u64 a, .int .u64 b, .bool s], .agg #[.int .u64 c, .int .u64 d, .bool (!s)]] w fun e w' => e = .returned (.agg #[.int .u64 (a - c - Wd.bor b d), .int .u64 ((b - d) % 18446744073709551616), .bool (Wd.neg (Wd.mk (a - c - Wd.bor b d) ((b - d) % 18446744073709551616) s))]) ∧ Gr w w' := by
  obtain ⟨r1, r2⟩ := Wd.bor_range b d
  have k0 : 0 ≤ a - c - Wd.bor b d := by unfold Wd.bor; split <;> omega
  by_cases h1 : c < a
  · clear hl
    cases s
    all_goals
      go_enter Try.func51, Try.ntmps51
      go_wp2_with (first | simp only [sub64_0 b d b0 d0 d1] | (go_at_call 46; refine (signed_any _ _ _ _ (by omega) (by omega) (by omega) (by omega)).mono ?_; rintro e w1 ⟨rfl, hb⟩; obtain ⟨hc, hf⟩ := Gr.cells hb; have hz := Gr.size hb; simp at hz))
      refine bodyPost_ret (by simp [results, Try.results51, go_sem, hc, hz]; try rfl) rfl ?_
      exact ⟨by first | rfl | (simp; done), (by repeat' (first | (with_reducible exact Gr.refl _) | (with_reducible assumption) | (with_reducible refine Gr.alloc ?_ _) | (with_reducible refine Gr.drew ?_) | (with_reducible refine Gr.drewN ?_ _) | (with_reducible refine Gr.setCell ?_ ?_ _) | (with_reducible refine Gr.trans ?_ (by with_reducible assumption)) | go_size))⟩
  · have h2 : d ≤ b := by omega
    obtain rfl : a = c := by omega
    clear hl h1
    cases s
    all_goals
      go_enter Try.func51, Try.ntmps51
      go_wp2_with (first | simp only [sub64_0 b d b0 d0 d1] | (go_at_call 46; refine (signed_any _ _ _ _ (by omega) (by omega) (by omega) (by omega)).mono ?_; rintro e w1 ⟨rfl, hb⟩; obtain ⟨hc, hf⟩ := Gr.cells hb; have hz := Gr.size hb; simp at hz))
      refine bodyPost_ret (by simp [results, Try.results51, go_sem, hc, hz]; try rfl) rfl ?_
      exact ⟨by first | rfl | (simp; done), (by repeat' (first | (with_reducible exact Gr.refl _) | (with_reducible assumption) | (with_reducible refine Gr.alloc ?_ _) | (with_reducible refine Gr.drew ?_) | (with_reducible refine Gr.drewN ?_ _) | (with_reducible refine Gr.setCell ?_ ?_ _) | (with_reducible refine Gr.trans ?_ (by with_reducible assumption)) | go_size))⟩

theorem sum_any (x y : Int) (w : World) (hx : Wd.hi x ≤ 72057594037927936) (hy : Wd.hi y ≤ 72057594037927936) :
    Calls Try.prog 51 #[.agg #[.int .u64 (Wd.hi x), .int .u64 (Wd.lo x), .bool (Wd.neg x)], .agg #[.int .u64 (Wd.hi y), .int .u64 (Wd.lo y), .bool (Wd.neg y)]] w fun e w' => e = .returned (.agg #[.int .u64 (Wd.hi (x + y)), .int .u64 (Wd.lo (x + y)), .bool (Wd.neg (x + y))]) ∧ Gr w w' := by
  have a0 := Wd.hi_nonneg x; have b0 := Wd.lo_nonneg x; have b1 := Wd.lo_lt x
  have c0 := Wd.hi_nonneg y; have d0 := Wd.lo_nonneg y; have d1 := Wd.lo_lt y
  by_cases hs : Wd.neg x = Wd.neg y
  · have hm := Wd.sum_same x y hs
    have h1 := Wd.hi_mk (Wd.hi x + Wd.hi y + (Wd.lo x + Wd.lo y) / 18446744073709551616) ((Wd.lo x + Wd.lo y) % 18446744073709551616) (Wd.neg x) (by omega) (by omega) (by omega)
    have h2 := Wd.lo_mk (Wd.hi x + Wd.hi y + (Wd.lo x + Wd.lo y) / 18446744073709551616) ((Wd.lo x + Wd.lo y) % 18446744073709551616) (Wd.neg x) (by omega) (by omega) (by omega)
    rw [hm] at h1 h2
    rw [h1, h2, ← hm, ← hs]
    exact sum_same _ _ _ _ _ w a0 hx b0 b1 c0 hy d0 d1
  · by_cases hl : Wd.hi x < Wd.hi y ∨ Wd.hi x = Wd.hi y ∧ Wd.lo x < Wd.lo y
    · have hns : Wd.neg y = !(Wd.neg x) := by cases h1 : Wd.neg x <;> cases h2 : Wd.neg y <;> simp_all
      have hl' : Wd.hi x < Wd.hi y ∨ Wd.hi x = Wd.hi y ∧ Wd.lo x ≤ Wd.lo y := by omega
      have hm := Wd.sum_more y x (Ne.symm hs) hl'
      have hn := Wd.more_nonneg y x hl'
      have h1 := Wd.hi_mk (Wd.hi y - Wd.hi x - Wd.bor (Wd.lo y) (Wd.lo x)) ((Wd.lo y - Wd.lo x) % 18446744073709551616) (Wd.neg y) hn (by omega) (by omega)
      have h2 := Wd.lo_mk (Wd.hi y - Wd.hi x - Wd.bor (Wd.lo y) (Wd.lo x)) ((Wd.lo y - Wd.lo x) % 18446744073709551616) (Wd.neg y) hn (by omega) (by omega)
      rw [hm] at h1 h2
      rw [Int.add_comm x y, h1, h2, ← hm, hns]
      exact sum_less _ _ _ _ _ w a0 b0 b1 (by omega) d0 d1 hl
    · have hns : Wd.neg y = !(Wd.neg x) := by cases h1 : Wd.neg x <;> cases h2 : Wd.neg y <;> simp_all
      have hl' : Wd.hi y < Wd.hi x ∨ Wd.hi y = Wd.hi x ∧ Wd.lo y ≤ Wd.lo x := by omega
      have hm := Wd.sum_more x y hs hl'
      have hn := Wd.more_nonneg x y hl'
      have h1 := Wd.hi_mk (Wd.hi x - Wd.hi y - Wd.bor (Wd.lo x) (Wd.lo y)) ((Wd.lo x - Wd.lo y) % 18446744073709551616) (Wd.neg x) hn (by omega) (by omega)
      have h2 := Wd.lo_mk (Wd.hi x - Wd.hi y - Wd.bor (Wd.lo x) (Wd.lo y)) ((Wd.lo x - Wd.lo y) % 18446744073709551616) (Wd.neg x) hn (by omega) (by omega)
      rw [hm] at h1 h2
      rw [h1, h2, ← hm, hns]
      exact sum_more _ _ _ _ _ w (by omega) b0 b1 c0 d0 d1 hl'

set_option maxHeartbeats 400000 in
theorem minus_raw (h l : Int) (b : Bool) (w : World) (h0 : 0 ≤ h) (l0 : 0 ≤ l) (h1 : h ≤ 18446744073709551615) (l1 : l ≤ 18446744073709551615) :
    Calls Try.prog 52 #[.agg #[.int .u64 h, .int .u64 l, .bool b]] w fun e w' => e = .returned (.agg #[.int .u64 h, .int .u64 l, .bool (Wd.neg (Wd.mk h l (!b)))]) ∧ Gr w w' := by
  cases b
  all_goals
    go_enter Try.func52, Try.ntmps52
    go_wp2_with (first | (go_at_call 46; refine (signed_any _ _ _ _ (by omega) (by omega) (by omega) (by omega)).mono ?_; rintro e w1 ⟨rfl, hb⟩; obtain ⟨hc, hf⟩ := Gr.cells hb; have hz := Gr.size hb; simp at hz))
    refine bodyPost_ret (by simp [results, Try.results52, go_sem, hc, hz]; try rfl) rfl ?_
    exact ⟨by first | rfl | (simp; done), (by repeat' (first | (with_reducible exact Gr.refl _) | (with_reducible assumption) | (with_reducible refine Gr.alloc ?_ _) | (with_reducible refine Gr.drew ?_) | (with_reducible refine Gr.drewN ?_ _) | (with_reducible refine Gr.setCell ?_ ?_ _) | (with_reducible refine Gr.trans ?_ (by with_reducible assumption)) | go_size))⟩
theorem minus_any (x : Int) (w : World) (hx : Wd.hi x ≤ 72057594037927936) :
    Calls Try.prog 52 #[.agg #[.int .u64 (Wd.hi x), .int .u64 (Wd.lo x), .bool (Wd.neg x)]] w fun e w' => e = .returned (.agg #[.int .u64 (Wd.hi (-x)), .int .u64 (Wd.lo (-x)), .bool (Wd.neg (-x))]) ∧ Gr w w' := by
  have a0 := Wd.hi_nonneg x; have b0 := Wd.lo_nonneg x; have b1 := Wd.lo_lt x
  rw [Wd.hi_neg, Wd.lo_neg, ← Wd.mk_minus x]
  exact minus_raw _ _ _ w a0 b0 (by omega) b1

theorem low32 (z : Int) : bits .and .u64 (z % 18446744073709551616) 4294967295 = z % 18446744073709551616 % 4294967296 := and_low32 _ (by omega) (by omega)
set_option maxHeartbeats 400000 in
theorem mul64_any (x y : Int) (w : World) (hx0 : 0 ≤ x) (hx : x ≤ 18446744073709551615) (hy0 : 0 ≤ y) (hy : y ≤ 18446744073709551615) :
    Calls Try.prog 48 #[.int .u64 x, .int .u64 y] w fun e w' => e = .returned (.tuple #[.int .u64 (x * y / 18446744073709551616), .int .u64 (x * y % 18446744073709551616)]) ∧ w = w' := by
  have ax := and_low32 x hx0 (by omega)
  have ay := and_low32 y hy0 (by omega)
  go_enter Try.func48, Try.ntmps48
  go_wp2
  go_ret2
  refine ⟨ret_two ?_ (IntKind.wrap_u64 _), rfl⟩
  simp only [IntKind.wrap_u64, low32]
  exact mul64_arith x y hx0 (by omega) hy0 (by omega)

set_option maxHeartbeats 400000 in
theorem valid_true (h l : Int) (w : World) (hv : Wd.vld h l = true) :
    Calls Try.prog 30 #[.agg #[.int .i64 h, .int .i64 l]] w fun e w' => e = .returned (.bool true) ∧ Gr w w' := by
  obtain ⟨a, b, c, d⟩ := Wd.vld_true hv
  clear hv
  have a' : decide (-1152921504606846976 ≤ h) = true := by simpa using a
  have b' : decide (h < 1152921504606846976) = true := by simp; omega
  have c' : decide (0 ≤ l) = true := by simpa using c
  have d' : decide (l < 1152921504606846976) = true := by simp; omega
  go_enter Try.func30, Try.ntmps30
  go_wp2
  go_returns
  exact ⟨by first | rfl | (simp; done), (by repeat' (first | (with_reducible exact Gr.refl _) | (with_reducible assumption) | (with_reducible refine Gr.alloc ?_ _) | (with_reducible refine Gr.drew ?_) | (with_reducible refine Gr.drewN ?_ _) | (with_reducible refine Gr.setCell ?_ ?_ _) | (with_reducible refine Gr.trans ?_ (by with_reducible assumption)) | go_size))⟩
set_option maxHeartbeats 400000 in
theorem valid_false (h l : Int) (w : World) (hv : Wd.vld h l = false) :
    Calls Try.prog 30 #[.agg #[.int .i64 h, .int .i64 l]] w fun e w' => e = .returned (.bool false) ∧ Gr w w' := by
  have hv' := Wd.vld_false hv
  clear hv
  by_cases a : -1152921504606846976 ≤ h
  · have a' : decide (-1152921504606846976 ≤ h) = true := by simpa using a
    by_cases b : h < 1152921504606846976
    · have b' : decide (h < 1152921504606846976) = true := by simpa using b
      by_cases c : 0 ≤ l
      · have c' : decide (0 ≤ l) = true := by simpa using c
        have d' : decide (l < 1152921504606846976) = false := by simp; omega
        clear hv'
        go_enter Try.func30, Try.ntmps30
        go_wp2
        go_returns
        exact ⟨by first | rfl | (simp; done), (by repeat' (first | (with_reducible exact Gr.refl _) | (with_reducible assumption) | (with_reducible refine Gr.alloc ?_ _) | (with_reducible refine Gr.drew ?_) | (with_reducible refine Gr.drewN ?_ _) | (with_reducible refine Gr.setCell ?_ ?_ _) | (with_reducible refine Gr.trans ?_ (by with_reducible assumption)) | go_size))⟩
      · have c' : decide (0 ≤ l) = false := by simpa using c
        clear hv'
        go_enter Try.func30, Try.ntmps30
        go_wp2
        go_returns
        exact ⟨by first | rfl | (simp; done), (by repeat' (first | (with_reducible exact Gr.refl _) | (with_reducible assumption) | (with_reducible refine Gr.alloc ?_ _) | (with_reducible refine Gr.drew ?_) | (with_reducible refine Gr.drewN ?_ _) | (with_reducible refine Gr.setCell ?_ ?_ _) | (with_reducible refine Gr.trans ?_ (by with_reducible assumption)) | go_size))⟩
    · have b' : decide (h < 1152921504606846976) = false := by simpa using b
      clear hv'
      go_enter Try.func30, Try.ntmps30
      go_wp2
      go_returns
      exact ⟨by first | rfl | (simp; done), (by repeat' (first | (with_reducible exact Gr.refl _) | (with_reducible assumption) | (with_reducible refine Gr.alloc ?_ _) | (with_reducible refine Gr.drew ?_) | (with_reducible refine Gr.drewN ?_ _) | (with_reducible refine Gr.setCell ?_ ?_ _) | (with_reducible refine Gr.trans ?_ (by with_reducible assumption)) | go_size))⟩
  · have a' : decide (-1152921504606846976 ≤ h) = false := by simpa using a
    clear hv'
    go_enter Try.func30, Try.ntmps30
    go_wp2
    go_returns
    exact ⟨by first | rfl | (simp; done), (by repeat' (first | (with_reducible exact Gr.refl _) | (with_reducible assumption) | (with_reducible refine Gr.alloc ?_ _) | (with_reducible refine Gr.drew ?_) | (with_reducible refine Gr.drewN ?_ _) | (with_reducible refine Gr.setCell ?_ ?_ _) | (with_reducible refine Gr.trans ?_ (by with_reducible assumption)) | go_size))⟩
theorem valid_any (h l : Int) (w : World) :
    Calls Try.prog 30 #[.agg #[.int .i64 h, .int .i64 l]] w fun e w' => e = .returned (.bool (Wd.vld h l)) ∧ Gr w w' := by
  cases hv : Wd.vld h l
  · exact valid_false h l w hv
  · exact valid_true h l w hv
end Go.Proofs.Ytbaahlofabmljaa
