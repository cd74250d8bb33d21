import Derived.Test.YtbaahlofabmljaaWdRefC
set_option linter.unusedVariables false
set_option linter.unusedSimpArgs false
namespace Go.Proofs.Ytbaahlofabmljaa
open Go.RowKit
set_option maxHeartbeats 400000 in
theorem rvalid_any (h l : Int) (w : World) :
    Calls Try.prog 14 #[.agg #[.int .i64 h, .int .i64 l]] w fun e w' => e = .returned (.bool (Wd.vld h l)) ∧ Gr w w' := by
  cases hv : Wd.vld h l
  · have hv' := Wd.vld_false hv
    clear hv
    by_cases a : -1152921504606846976 ≤ h
    · have a' : decide (-1152921504606846976 ≤ h) = true := decide_eq_true a
      by_cases b : h < 1152921504606846976
      · have b' : decide (h < 1152921504606846976) = true := decide_eq_true b
        by_cases c : 0 ≤ l
        · have c' : decide (0 ≤ l) = true := decide_eq_true c
          have d' : decide (l < 1152921504606846976) = false := decide_eq_false (by omega)
          clear hv'
          go_enter Try.func14, Try.ntmps14
          go_wp2
          go_returns
          exact ⟨by first | rfl | (simp; done), (by repeat' (first | (with_reducible exact Gr.refl _) | (with_reducible assumption) | (with_reducible refine Gr.alloc ?_ _) | (with_reducible refine Gr.drew ?_) | (with_reducible refine Gr.drewN ?_ _) | (with_reducible refine Gr.setCell ?_ ?_ _) | (with_reducible refine Gr.trans ?_ (by with_reducible assumption)) | go_size))⟩
        · have c' : decide (0 ≤ l) = false := decide_eq_false c
          clear hv'
          go_enter Try.func14, Try.ntmps14
          go_wp2
          go_returns
          exact ⟨by first | rfl | (simp; done), (by repeat' (first | (with_reducible exact Gr.refl _) | (with_reducible assumption) | (with_reducible refine Gr.alloc ?_ _) | (with_reducible refine Gr.drew ?_) | (with_reducible refine Gr.drewN ?_ _) | (with_reducible refine Gr.setCell ?_ ?_ _) | (with_reducible refine Gr.trans ?_ (by with_reducible assumption)) | go_size))⟩
      · have b' : decide (h < 1152921504606846976) = false := decide_eq_false b
        clear hv'
        go_enter Try.func14, Try.ntmps14
        go_wp2
        go_returns
        exact ⟨by first | rfl | (simp; done), (by repeat' (first | (with_reducible exact Gr.refl _) | (with_reducible assumption) | (with_reducible refine Gr.alloc ?_ _) | (with_reducible refine Gr.drew ?_) | (with_reducible refine Gr.drewN ?_ _) | (with_reducible refine Gr.setCell ?_ ?_ _) | (with_reducible refine Gr.trans ?_ (by with_reducible assumption)) | go_size))⟩
    · have a' : decide (-1152921504606846976 ≤ h) = false := decide_eq_false a
      clear hv'
      go_enter Try.func14, Try.ntmps14
      go_wp2
      go_returns
      exact ⟨by first | rfl | (simp; done), (by repeat' (first | (with_reducible exact Gr.refl _) | (with_reducible assumption) | (with_reducible refine Gr.alloc ?_ _) | (with_reducible refine Gr.drew ?_) | (with_reducible refine Gr.drewN ?_ _) | (with_reducible refine Gr.setCell ?_ ?_ _) | (with_reducible refine Gr.trans ?_ (by with_reducible assumption)) | go_size))⟩
  · obtain ⟨a, b, c, d⟩ := Wd.vld_true hv
    clear hv
    have a' : decide (-1152921504606846976 ≤ h) = true := decide_eq_true a
    have b' : decide (h < 1152921504606846976) = true := decide_eq_true (by omega)
    have c' : decide (0 ≤ l) = true := decide_eq_true c
    have d' : decide (l < 1152921504606846976) = true := decide_eq_true (by omega)
    go_enter Try.func14, Try.ntmps14
    go_wp2
    go_returns
    exact ⟨by first | rfl | (simp; done), (by repeat' (first | (with_reducible exact Gr.refl _) | (with_reducible assumption) | (with_reducible refine Gr.alloc ?_ _) | (with_reducible refine Gr.drew ?_) | (with_reducible refine Gr.drewN ?_ _) | (with_reducible refine Gr.setCell ?_ ?_ _) | (with_reducible refine Gr.trans ?_ (by with_reducible assumption)) | go_size))⟩

theorem ret_ib {k : IntKind} {a b : Int} {c d : Bool} (h : a = b) (h' : c = d) : Ending.returned (.tuple #[.int k a, .bool c]) = .returned (.tuple #[.int k b, .bool d]) := by rw [h, h']
set_option maxHeartbeats 400000 in
theorem risint_any (v : Int) (w : World) :
    Calls Try.prog 24 #[.agg #[.int .u64 (Wd.hi v), .int .u64 (Wd.lo v), .bool (Wd.neg v)]] w fun e w' => e = .returned (.tuple #[.int .i64 (Wd.low v), .bool (Wd.fits v)]) ∧ Gr w w' := by
  have l0 := Wd.lo_nonneg v; have l1 := Wd.lo_lt v; have h0 := Wd.hi_nonneg v
  by_cases hn : v < 0
  · have e1 := Wd.low_neg hn (fun a b => by rw [Wd.fits_neg hn, a]; simp [b])
    rw [Wd.fits_neg hn, ← e1, Wd.neg_of_neg hn]
    clear e1
    generalize Wd.hi v = a at *; generalize Wd.lo v = b at *
    by_cases hz : a = 0
    · subst hz
      have hz' : ((0 : Int) == 0) = true := rfl
      go_enter Try.func24, Try.ntmps24
      go_wp2
      go_quiet (fail)
      go_wp2
      go_returns
      exact ⟨ret_ib (by first | rfl | (simp; done)) (by simp), (by repeat' (first | (with_reducible exact Gr.refl _) | (with_reducible assumption) | (with_reducible refine Gr.alloc ?_ _) | (with_reducible refine Gr.drew ?_) | (with_reducible refine Gr.drewN ?_ _) | (with_reducible refine Gr.setCell ?_ ?_ _) | (with_reducible refine Gr.trans ?_ (by with_reducible assumption)) | go_size))⟩
    · have hz' : (a == 0) = false := by simpa using hz
      go_enter Try.func24, Try.ntmps24
      go_wp2
      go_quiet (fail)
      go_wp2
      go_returns
      exact ⟨ret_ib (by first | rfl | (simp; done)) (by simp [hz]), (by repeat' (first | (with_reducible exact Gr.refl _) | (with_reducible assumption) | (with_reducible refine Gr.alloc ?_ _) | (with_reducible refine Gr.drew ?_) | (with_reducible refine Gr.drewN ?_ _) | (with_reducible refine Gr.setCell ?_ ?_ _) | (with_reducible refine Gr.trans ?_ (by with_reducible assumption)) | go_size))⟩
  · have hn' : 0 ≤ v := by omega
    rw [Wd.fits_pos hn', ← Wd.low_pos hn', Wd.neg_of_nonneg hn']
    generalize Wd.hi v = a at *; generalize Wd.lo v = b at *
    by_cases hz : a = 0
    · subst hz
      have hz' : ((0 : Int) == 0) = true := rfl
      go_enter Try.func24, Try.ntmps24
      go_wp2
      go_quiet (fail)
      go_wp2
      go_returns
      exact ⟨ret_ib (by first | rfl | (simp; done)) (by simp), (by repeat' (first | (with_reducible exact Gr.refl _) | (with_reducible assumption) | (with_reducible refine Gr.alloc ?_ _) | (with_reducible refine Gr.drew ?_) | (with_reducible refine Gr.drewN ?_ _) | (with_reducible refine Gr.setCell ?_ ?_ _) | (with_reducible refine Gr.trans ?_ (by with_reducible assumption)) | go_size))⟩
    · have hz' : (a == 0) = false := by simpa using hz
      go_enter Try.func24, Try.ntmps24
      go_wp2
      go_quiet (fail)
      go_wp2
      go_returns
      exact ⟨ret_ib (by first | rfl | (simp; done)) (by simp [hz]), (by repeat' (first | (with_reducible exact Gr.refl _) | (with_reducible assumption) | (with_reducible refine Gr.alloc ?_ _) | (with_reducible refine Gr.drew ?_) | (with_reducible refine Gr.drewN ?_ _) | (with_reducible refine Gr.setCell ?_ ?_ _) | (with_reducible refine Gr.trans ?_ (by with_reducible assumption)) | go_size))⟩

set_option maxHeartbeats 400000 in
theorem rtimes_any (a b : Int) (w : World) (a0 : -9223372036854775808 ≤ a) (a1 : a ≤ 9223372036854775807) (b0 : -9223372036854775808 ≤ b) (b1 : b ≤ 9223372036854775807) :
    Calls Try.prog 20 #[.int .i64 a, .int .i64 b] w fun e w' => e = .returned (.agg #[.int .u64 (Wd.hi (a * b)), .int .u64 (Wd.lo (a * b)), .bool (Wd.neg (a * b))]) ∧ Gr w w' := by
  have m1 := Wd.mag_le a0 a1
  have m2 := Wd.mag_le b0 b1
  have n1 := Wd.mag_nonneg a
  have n2 := Wd.mag_nonneg b
  have hmul : ∀ W : World, Calls Try.prog 41 #[.int .u64 (Wd.mag a), .int .u64 (Wd.mag b)] W fun e w' => e = .returned (.agg #[.int .u64 (Wd.hi (a * b)), .int .u64 (Wd.lo (a * b))]) ∧ Gr W w' := fun W => by
    have := rmul_any _ _ W n1 (by omega) n2 (by omega)
    rw [Wd.mag_mul, Wd.hi_mag, Wd.lo_mag] at this; exact this
  have hmade : ∀ (W : World) (s : Bool), s = (Wd.neg a != Wd.neg b) → Calls Try.prog 40 #[.agg #[.int .u64 (Wd.hi (a * b)), .int .u64 (Wd.lo (a * b))], .bool s] W fun e w' => e = .returned (.agg #[.int .u64 (Wd.hi (a * b)), .int .u64 (Wd.lo (a * b)), .bool (Wd.neg (a * b))]) ∧ Gr W w' := fun W s hs => by
    have := rmade_v (a * b) s W
    have e : Wd.sg s (Wd.mag (a * b)) = a * b := by
      have k := Wd.mk_mul a b
      rw [← hs] at k
      have := Wd.mk_sg s (Wd.mag_nonneg (a * b))
      rw [Wd.hi_mag, Wd.lo_mag, k] at this; exact this.symm
    rw [e] at this; exact this
  have HM := Lib.hid hmul; have HA := Lib.hid hmade
  clear hmul hmade
  generalize a * b = p at *
  by_cases ha : a < 0
  · have ha' : decide (a < 0) = true := decide_eq_true ha
    have NA := Lib.hid (Wd.neg_of_neg ha)
    by_cases hb : b < 0
    · have hb' : decide (b < 0) = true := decide_eq_true hb
      have NB := Lib.hid (Wd.neg_of_neg hb)
      go_enter Try.func20, Try.ntmps20
      go_wp2_with (first | (go_at_call 42; refine (rsize_any _ _ (by omega) (by omega)).mono ?_; rintro e w' ⟨rfl, rfl⟩) | (go_at_call 41; refine (HM.out _).mono ?_; rintro e w1 ⟨rfl, hb1⟩; obtain ⟨hc1, hf1⟩ := Gr.cells hb1; have hz1 := Gr.size hb1; (try simp at hz1); (try have hy1_0 : w.heap.size < w1.heap.size := by omega); (try have hy1_1 : w.heap.size + 1 < w1.heap.size := by omega); (try have hy1_2 : w.heap.size + 1 + 1 < w1.heap.size := by omega); (try have hy1_3 : w.heap.size + 1 + 1 + 1 < w1.heap.size := by omega); (try have hy1_4 : w.heap.size + 1 + 1 + 1 + 1 < w1.heap.size := by omega); (try have hy1_5 : w.heap.size + 1 + 1 + 1 + 1 + 1 < w1.heap.size := by omega)) | (go_at_call 40; refine (HA.out _ _ (by rw [NA.out, NB.out]; rfl)).mono ?_; rintro e w2 ⟨rfl, hb2⟩; obtain ⟨hc2, hf2⟩ := Gr.cells hb2; have hz2 := Gr.size hb2; (try simp at hz2); (try have hy2_0 : w.heap.size < w2.heap.size := by omega); (try have hy2_1 : w.heap.size + 1 < w2.heap.size := by omega); (try have hy2_2 : w.heap.size + 1 + 1 < w2.heap.size := by omega); (try have hy2_3 : w.heap.size + 1 + 1 + 1 < w2.heap.size := by omega); (try have hy2_4 : w.heap.size + 1 + 1 + 1 + 1 < w2.heap.size := by omega); (try have hy2_5 : w.heap.size + 1 + 1 + 1 + 1 + 1 < w2.heap.size := by omega); (try have hy2_1_0 : w1.heap.size < w2.heap.size := by omega); (try have hy2_1_1 : w1.heap.size + 1 < w2.heap.size := by omega)))
      refine bodyPost_ret (by simp [results, Try.results20, go_sem, hc1, hz1, hc2, hz2, hy1_0, hy2_0]; try rfl) rfl ?_
      exact ⟨by first | rfl | (simp; done), (by repeat' (first | (with_reducible exact Gr.refl _) | (with_reducible assumption) | (with_reducible refine Gr.alloc ?_ _) | (with_reducible refine Gr.drew ?_) | (with_reducible refine Gr.drewN ?_ _) | (with_reducible refine Gr.setCell ?_ ?_ _) | (with_reducible refine Gr.trans ?_ (by with_reducible assumption)) | go_size))⟩
    · have hb' : decide (b < 0) = false := decide_eq_false hb
      have NB := Lib.hid (Wd.neg_of_nonneg (show 0 ≤ b by omega))
      go_enter Try.func20, Try.ntmps20
      go_wp2_with (first | (go_at_call 42; refine (rsize_any _ _ (by omega) (by omega)).mono ?_; rintro e w' ⟨rfl, rfl⟩) | (go_at_call 41; refine (HM.out _).mono ?_; rintro e w1 ⟨rfl, hb1⟩; obtain ⟨hc1, hf1⟩ := Gr.cells hb1; have hz1 := Gr.size hb1; (try simp at hz1); (try have hy1_0 : w.heap.size < w1.heap.size := by omega); (try have hy1_1 : w.heap.size + 1 < w1.heap.size := by omega); (try have hy1_2 : w.heap.size + 1 + 1 < w1.heap.size := by omega); (try have hy1_3 : w.heap.size + 1 + 1 + 1 < w1.heap.size := by omega); (try have hy1_4 : w.heap.size + 1 + 1 + 1 + 1 < w1.heap.size := by omega); (try have hy1_5 : w.heap.size + 1 + 1 + 1 + 1 + 1 < w1.heap.size := by omega)) | (go_at_call 40; refine (HA.out _ _ (by rw [NA.out, NB.out]; rfl)).mono ?_; rintro e w2 ⟨rfl, hb2⟩; obtain ⟨hc2, hf2⟩ := Gr.cells hb2; have hz2 := Gr.size hb2; (try simp at hz2); (try have hy2_0 : w.heap.size < w2.heap.size := by omega); (try have hy2_1 : w.heap.size + 1 < w2.heap.size := by omega); (try have hy2_2 : w.heap.size + 1 + 1 < w2.heap.size := by omega); (try have hy2_3 : w.heap.size + 1 + 1 + 1 < w2.heap.size := by omega); (try have hy2_4 : w.heap.size + 1 + 1 + 1 + 1 < w2.heap.size := by omega); (try have hy2_5 : w.heap.size + 1 + 1 + 1 + 1 + 1 < w2.heap.size := by omega); (try have hy2_1_0 : w1.heap.size < w2.heap.size := by omega); (try have hy2_1_1 : w1.heap.size + 1 < w2.heap.size := by omega)))
      refine bodyPost_ret (by simp [results, Try.results20, go_sem, hc1, hz1, hc2, hz2, hy1_0, hy2_0]; try rfl) rfl ?_
      exact ⟨by first | rfl | (simp; done), (by repeat' (first | (with_reducible exact Gr.refl _) | (with_reducible assumption) | (with_reducible refine Gr.alloc ?_ _) | (with_reducible refine Gr.drew ?_) | (with_reducible refine Gr.drewN ?_ _) | (with_reducible refine Gr.setCell ?_ ?_ _) | (with_reducible refine Gr.trans ?_ (by with_reducible assumption)) | go_size))⟩
  · have ha' : decide (a < 0) = false := decide_eq_false ha
    have NA := Lib.hid (Wd.neg_of_nonneg (show 0 ≤ a by omega))
    by_cases hb : b < 0
    · have hb' : decide (b < 0) = true := decide_eq_true hb
      have NB := Lib.hid (Wd.neg_of_neg hb)
      go_enter Try.func20, Try.ntmps20
      go_wp2_with (first | (go_at_call 42; refine (rsize_any _ _ (by omega) (by omega)).mono ?_; rintro e w' ⟨rfl, rfl⟩) | (go_at_call 41; refine (HM.out _).mono ?_; rintro e w1 ⟨rfl, hb1⟩; obtain ⟨hc1, hf1⟩ := Gr.cells hb1; have hz1 := Gr.size hb1; (try simp at hz1); (try have hy1_0 : w.heap.size < w1.heap.size := by omega); (try have hy1_1 : w.heap.size + 1 < w1.heap.size := by omega); (try have hy1_2 : w.heap.size + 1 + 1 < w1.heap.size := by omega); (try have hy1_3 : w.heap.size + 1 + 1 + 1 < w1.heap.size := by omega); (try have hy1_4 : w.heap.size + 1 + 1 + 1 + 1 < w1.heap.size := by omega); (try have hy1_5 : w.heap.size + 1 + 1 + 1 + 1 + 1 < w1.heap.size := by omega)) | (go_at_call 40; refine (HA.out _ _ (by rw [NA.out, NB.out]; rfl)).mono ?_; rintro e w2 ⟨rfl, hb2⟩; obtain ⟨hc2, hf2⟩ := Gr.cells hb2; have hz2 := Gr.size hb2; (try simp at hz2); (try have hy2_0 : w.heap.size < w2.heap.size := by omega); (try have hy2_1 : w.heap.size + 1 < w2.heap.size := by omega); (try have hy2_2 : w.heap.size + 1 + 1 < w2.heap.size := by omega); (try have hy2_3 : w.heap.size + 1 + 1 + 1 < w2.heap.size := by omega); (try have hy2_4 : w.heap.size + 1 + 1 + 1 + 1 < w2.heap.size := by omega); (try have hy2_5 : w.heap.size + 1 + 1 + 1 + 1 + 1 < w2.heap.size := by omega); (try have hy2_1_0 : w1.heap.size < w2.heap.size := by omega); (try have hy2_1_1 : w1.heap.size + 1 < w2.heap.size := by omega)))
      refine bodyPost_ret (by simp [results, Try.results20, go_sem, hc1, hz1, hc2, hz2, hy1_0, hy2_0]; try rfl) rfl ?_
      exact ⟨by first | rfl | (simp; done), (by repeat' (first | (with_reducible exact Gr.refl _) | (with_reducible assumption) | (with_reducible refine Gr.alloc ?_ _) | (with_reducible refine Gr.drew ?_) | (with_reducible refine Gr.drewN ?_ _) | (with_reducible refine Gr.setCell ?_ ?_ _) | (with_reducible refine Gr.trans ?_ (by with_reducible assumption)) | go_size))⟩
    · have hb' : decide (b < 0) = false := decide_eq_false hb
      have NB := Lib.hid (Wd.neg_of_nonneg (show 0 ≤ b by omega))
      go_enter Try.func20, Try.ntmps20
      go_wp2_with (first | (go_at_call 42; refine (rsize_any _ _ (by omega) (by omega)).mono ?_; rintro e w' ⟨rfl, rfl⟩) | (go_at_call 41; refine (HM.out _).mono ?_; rintro e w1 ⟨rfl, hb1⟩; obtain ⟨hc1, hf1⟩ := Gr.cells hb1; have hz1 := Gr.size hb1; (try simp at hz1); (try have hy1_0 : w.heap.size < w1.heap.size := by omega); (try have hy1_1 : w.heap.size + 1 < w1.heap.size := by omega); (try have hy1_2 : w.heap.size + 1 + 1 < w1.heap.size := by omega); (try have hy1_3 : w.heap.size + 1 + 1 + 1 < w1.heap.size := by omega); (try have hy1_4 : w.heap.size + 1 + 1 + 1 + 1 < w1.heap.size := by omega); (try have hy1_5 : w.heap.size + 1 + 1 + 1 + 1 + 1 < w1.heap.size := by omega)) | (go_at_call 40; refine (HA.out _ _ (by rw [NA.out, NB.out]; rfl)).mono ?_; rintro e w2 ⟨rfl, hb2⟩; obtain ⟨hc2, hf2⟩ := Gr.cells hb2; have hz2 := Gr.size hb2; (try simp at hz2); (try have hy2_0 : w.heap.size < w2.heap.size := by omega); (try have hy2_1 : w.heap.size + 1 < w2.heap.size := by omega); (try have hy2_2 : w.heap.size + 1 + 1 < w2.heap.size := by omega); (try have hy2_3 : w.heap.size + 1 + 1 + 1 < w2.heap.size := by omega); (try have hy2_4 : w.heap.size + 1 + 1 + 1 + 1 < w2.heap.size := by omega); (try have hy2_5 : w.heap.size + 1 + 1 + 1 + 1 + 1 < w2.heap.size := by omega); (try have hy2_1_0 : w1.heap.size < w2.heap.size := by omega); (try have hy2_1_1 : w1.heap.size + 1 < w2.heap.size := by omega)))
      refine bodyPost_ret (by simp [results, Try.results20, go_sem, hc1, hz1, hc2, hz2, hy1_0, hy2_0]; try rfl) rfl ?_
      exact ⟨by first | rfl | (simp; done), (by repeat' (first | (with_reducible exact Gr.refl _) | (with_reducible assumption) | (with_reducible refine Gr.alloc ?_ _) | (with_reducible refine Gr.drew ?_) | (with_reducible refine Gr.drewN ?_ _) | (with_reducible refine Gr.setCell ?_ ?_ _) | (with_reducible refine Gr.trans ?_ (by with_reducible assumption)) | go_size))⟩

set_option maxHeartbeats 400000 in
theorem rshift_any (h l b : Int) (w : World) (h0 : 0 ≤ h) (l0 : 0 ≤ l) (l1 : l ≤ 18446744073709551615) (b0 : 0 ≤ b) (b1 : b ≤ 1) :
    Calls Try.prog 62 #[.agg #[.int .u64 h, .int .u64 l], .int .u64 b] w fun e w' => e = .returned (.agg #[.int .u64 ((h * 18446744073709551616 + l) * 2 / 18446744073709551616 % 18446744073709551616), .int .u64 (l * 2 % 18446744073709551616 + b)]) ∧ Gr w w' := by
  obtain ⟨X, hX⟩ : ∃ X, IntKind.u64.wrap (h * 2) = X := ⟨_, rfl⟩
  obtain ⟨Y, hY⟩ : ∃ X, IntKind.u64.wrap (l * 2) = X := ⟨_, rfl⟩
  have hX' := hX
  have hY' := hY
  rw [IntKind.wrap_u64] at hX' hY'
  have e1 : (h * 18446744073709551616 + l) * 2 / 18446744073709551616 % 18446744073709551616 = X + l / 9223372036854775808 := by omega
  have e2 : l * 2 % 18446744073709551616 = Y := hY'
  have bX : 0 ≤ X ∧ X + l / 9223372036854775808 ≤ 18446744073709551615 := by omega
  have bY : 0 ≤ Y ∧ Y + b ≤ 18446744073709551615 := by omega
  obtain ⟨X0, X1⟩ := bX
  obtain ⟨Y0, Y1⟩ := bY
  rw [e1, e2]
  clear e1 e2 hX' hY'
  go_enter Try.func62, Try.ntmps62
  go_wp2
  go_returns
  exact ⟨by first | rfl | (simp; done), (by repeat' (first | (with_reducible exact Gr.refl _) | (with_reducible assumption) | (with_reducible refine Gr.alloc ?_ _) | (with_reducible refine Gr.drew ?_) | (with_reducible refine Gr.drewN ?_ _) | (with_reducible refine Gr.setCell ?_ ?_ _) | (with_reducible refine Gr.trans ?_ (by with_reducible assumption)) | go_size))⟩
end Go.Proofs.Ytbaahlofabmljaa
