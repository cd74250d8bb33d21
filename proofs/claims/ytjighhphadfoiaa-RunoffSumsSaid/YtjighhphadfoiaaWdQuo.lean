import Derived.Test.YtjighhphadfoiaaWdDiv
set_option linter.unusedVariables false
set_option linter.unusedSimpArgs false
namespace Go.Proofs.Ytjighhphadfoiaa
open Go.RowKit
namespace Wd
/-- Quotients, rounded down and up. -/
def flr (v b : Int) : Int := if 0 < b then v / b else (-v) / (-b)
def cel (v b : Int) : Int := -(flr (-v) b)
def rnd (v b : Int) (up : Bool) : Int := if up then cel v b else flr v b
/-- The magnitude of a rounded quotient. -/
def inc (m d : Int) (t : Bool) : Int := if t && decide (0 < m % d) then m / d + 1 else m / d
theorem ediv_neg_pos (m d : Int) (hm : 0 ≤ m) (hd : 0 < d) : (-m) / d = -(if 0 < m % d then m / d + 1 else m / d) := by
  have e := Int.mul_ediv_add_emod m d
  have a := Int.emod_nonneg m (show d ≠ 0 by omega)
  have b := Int.emod_lt_of_pos m hd
  by_cases h : 0 < m % d
  · rw [if_pos h]
    have g : -m = d * (-(m / d + 1)) + (d - m % d) := by rw [Int.mul_neg, Int.mul_add]; omega
    rw [g, Int.add_comm, Int.add_mul_ediv_left _ _ (by omega), Int.ediv_eq_zero_of_lt (by omega) (by omega)]; omega
  · rw [if_neg h]
    have z : m % d = 0 := by omega
    have g : -m = d * (-(m / d)) := by rw [Int.mul_neg]; omega
    rw [g, Int.mul_ediv_cancel_left _ (by omega)]
theorem flr_mag (v b : Int) (hb : b ≠ 0) : flr v b = if neg v != neg b then -(inc (mag v) (mag b) true) else mag v / mag b := by
  unfold flr inc mag neg
  by_cases h1 : v < 0 <;> by_cases h2 : b < 0
  · simp [h1, h2, show ¬ 0 < b by omega]
  · have h3 : 0 < b := by omega
    simp only [h1, h2, h3, if_true, if_false, decide_true, decide_false]
    have := ediv_neg_pos (-v) b (by omega) h3
    rw [Int.neg_neg] at this
    simpa using this
  · have h3 : ¬ 0 < b := by omega
    simp only [h1, h2, h3, if_true, if_false, decide_true, decide_false]
    have := ediv_neg_pos v (-b) (by omega) (by omega)
    simpa using this
  · have h3 : 0 < b := by omega
    simp [h1, h2, h3]
theorem inc_nonneg (m d : Int) (t : Bool) (hm : 0 ≤ m) (hd : 0 < d) : 0 ≤ inc m d t := by
  unfold inc; have := Int.ediv_nonneg hm (Int.le_of_lt hd); split <;> omega
theorem inc_false (m d : Int) : inc m d false = m / d := by unfold inc; simp
theorem neg_opp (v : Int) (hv : v ≠ 0) : neg (-v) = !(neg v) := by unfold neg; by_cases h : v < 0 <;> simp [h] <;> omega
theorem rnd_mag (v b : Int) (up : Bool) (hb : b ≠ 0) : rnd v b up = if neg v != neg b then -(inc (mag v) (mag b) ((neg v != neg b) != up)) else inc (mag v) (mag b) ((neg v != neg b) != up) := by
  unfold rnd
  cases up
  · rw [if_neg (by decide), flr_mag v b hb]
    cases h : (neg v != neg b) <;> simp [inc_false]
  · rw [if_pos rfl]; unfold cel; rw [flr_mag (-v) b hb, mag_neg]
    by_cases hv : v = 0
    · subst hv
      have z : inc (mag 0) (mag b) true = 0 ∧ mag 0 / mag b = 0 ∧ inc (mag 0) (mag b) false = 0 := by
        unfold inc mag; simp
      have e : neg (-0) = neg 0 := by simp
      rw [e]
      cases h : (neg 0 != neg b) <;> simp [z]
    · rw [neg_opp v hv]
      cases h : neg v <;> cases h' : neg b <;> simp [inc_false]
theorem rnd_parts (v b : Int) (up s : Bool) (hb : b ≠ 0) (hs : (neg v != neg b) = s) : mag (rnd v b up) = inc (mag v) (mag b) (s != up) ∧ neg (rnd v b up) = (s && decide (0 < inc (mag v) (mag b) (s != up))) := by
  have hd : 0 < mag b := by unfold mag; split <;> omega
  have n := inc_nonneg (mag v) (mag b) (s != up) (mag_nonneg v) hd
  have e := rnd_mag v b up hb
  rw [hs] at e
  rw [e]
  cases s
  · simp only [Bool.false_eq_true, if_false, Bool.false_and]
    exact ⟨mag_of_nonneg n, neg_of_nonneg n⟩
  · simp only [if_true, Bool.true_and]
    generalize inc (mag v) (mag b) (true != up) = x at *
    refine ⟨by rw [mag_neg, mag_of_nonneg n], ?_⟩
    unfold neg; by_cases h : 0 < x <;> simp [h] <;> omega
end Wd

theorem div64_all (h l y : Int) (w : World) (h0 : 0 ≤ h) (l0 : 0 ≤ l) (l1 : l ≤ 18446744073709551615) (y0 : h < y) (y1 : y ≤ 18446744073709551615) :
    Calls Try.prog 85 #[.int .u64 h, .int .u64 l, .int .u64 y] w fun e w' => e = .returned (.tuple #[.int .u64 ((h * 18446744073709551616 + l) / y), .int .u64 ((h * 18446744073709551616 + l) % y)]) ∧ Gr w w' := by
  by_cases hz : h = 0
  · subst hz
    have := div64_small l y w l0 l1 (by omega) y1
    simpa using this
  · exact div64_any h l y w (by omega) l0 l1 y0 y1

set_option maxHeartbeats 400000 in
theorem quo_big (v b : Int) (up : Bool) (w : World) (b0 : -9223372036854775808 ≤ b) (b1 : b ≤ 9223372036854775807) (hd : Wd.mag b ≤ Wd.hi v) :
    Calls Try.prog 115 #[.agg #[.int .u64 (Wd.hi v), .int .u64 (Wd.lo v), .bool (Wd.neg v)], .int .i64 b, .bool up] w fun e w' => e = .returned (.tuple #[.int .i64 0, .int .i64 5]) ∧ Gr w w' := by
  have hd' : decide (Wd.mag b ≤ Wd.hi v) = true := decide_eq_true hd
  go_enter Try.func115, Try.ntmps115
  go_wp2_with (go_at_call 112; refine (size_any _ _ b0 b1).mono ?_; rintro e w' ⟨rfl, rfl⟩)
  go_ret2
  exact ⟨rfl, gr_auto⟩

set_option maxHeartbeats 400000 in
/-- Rounded away from zero. -/
theorem quo_up (q r z : Int) (h l : Int) (n up : Bool) (b : Int) (w : World) (b0 : -9223372036854775808 ≤ b) (b1 : b ≤ 9223372036854775807) (q0 : 0 ≤ q) (q1 : q ≤ 18446744073709551615) (hr : 0 < r)
    (hd : h < Wd.mag b) (hs : (n == decide (b < 0)) = up)
    (HD : ∀ W : World, Calls Try.prog 85 #[.int .u64 h, .int .u64 l, .int .u64 (Wd.mag b)] W fun e w' => e = .returned (.tuple #[.int .u64 q, .int .u64 r]) ∧ Gr W w')
    (HW : ∀ (k : Int) (W : World) (c : Bool), k = q + 1 → k ≤ 18446744073709551615 → c = !up → Calls Try.prog 128 #[.int .u64 k, .bool c] W fun e w' => e = .returned (.tuple #[.int .i64 (Wd.intQ z), .int .i64 (Wd.intE z)]) ∧ W = w')
    (HB : q = 18446744073709551615 → Wd.intQ z = 0 ∧ Wd.intE z = 5) :
    Calls Try.prog 115 #[.agg #[.int .u64 h, .int .u64 l, .bool n], .int .i64 b, .bool up] w fun e w' => e = .returned (.tuple #[.int .i64 (Wd.intQ z), .int .i64 (Wd.intE z)]) ∧ Gr w w' := by
  have hd' : decide (Wd.mag b ≤ h) = false := decide_eq_false (by omega)
  have m0 := Wd.mag_nonneg b
  have hr' : decide (0 < r) = true := decide_eq_true hr
  have HD := Lib.hid HD
  have HW := Lib.hid HW
  by_cases hq : q = 18446744073709551615
  · obtain ⟨f1, f2⟩ := HB hq
    rw [f1, f2]
    subst hq
    have hz : IntKind.u64.wrap (18446744073709551615 + 1) = 0 := by rw [IntKind.wrap_u64]; rfl
    clear f1 f2 HB
    cases up
    all_goals
      go_enter Try.func115, Try.ntmps115
      go_wp2_with (first | (go_at_call 112; refine (size_any _ _ b0 b1).mono ?_; rintro e w' ⟨rfl, rfl⟩) | (go_at_call 85; refine (HD.out _).mono ?_; rintro e w1 ⟨rfl, hb1⟩; obtain ⟨hc1, hf1⟩ := Gr.cells hb1; have hz1 := Gr.size hb1; (try simp at hz1); (try have hy1_0 : w.heap.size < w1.heap.size := by omega); (try have hy1_1 : w.heap.size + 1 < w1.heap.size := by omega); (try have hy1_2 : w.heap.size + 1 + 1 < w1.heap.size := by omega); (try have hy1_3 : w.heap.size + 1 + 1 + 1 < w1.heap.size := by omega); (try have hy1_4 : w.heap.size + 1 + 1 + 1 + 1 < w1.heap.size := by omega); (try have hy1_5 : w.heap.size + 1 + 1 + 1 + 1 + 1 < w1.heap.size := by omega)))
      go_ret2
      exact ⟨rfl, gr_auto⟩
  · have hq2 : q + 1 ≤ 18446744073709551615 := by omega
    have hz : (q + 1 == 0) = false := beq_eq_false_iff_ne.2 (by omega)
    have hp : decide (0 < q + 1) = true := decide_eq_true (by omega)
    clear HB hq
    cases up
    all_goals
      go_enter Try.func115, Try.ntmps115
      go_wp2_with (first | (go_at_call 112; refine (size_any _ _ b0 b1).mono ?_; rintro e w' ⟨rfl, rfl⟩) | (go_at_call 85; refine (HD.out _).mono ?_; rintro e w1 ⟨rfl, hb1⟩; obtain ⟨hc1, hf1⟩ := Gr.cells hb1; have hz1 := Gr.size hb1; (try simp at hz1); (try have hy1_0 : w.heap.size < w1.heap.size := by omega); (try have hy1_1 : w.heap.size + 1 < w1.heap.size := by omega); (try have hy1_2 : w.heap.size + 1 + 1 < w1.heap.size := by omega); (try have hy1_3 : w.heap.size + 1 + 1 + 1 < w1.heap.size := by omega); (try have hy1_4 : w.heap.size + 1 + 1 + 1 + 1 < w1.heap.size := by omega); (try have hy1_5 : w.heap.size + 1 + 1 + 1 + 1 + 1 < w1.heap.size := by omega)) | (go_at_call 128; refine (HW.out _ _ _ rfl hq2 rfl).mono ?_; rintro e w2 ⟨rfl, rfl⟩))
      go_ret2
      exact ⟨rfl, gr_auto⟩

set_option maxHeartbeats 400000 in
/-- Rounded towards zero. -/
theorem quo_cut (q r z : Int) (h l : Int) (n up s : Bool) (b : Int) (w : World) (b0 : -9223372036854775808 ≤ b) (b1 : b ≤ 9223372036854775807) (q1 : q ≤ 18446744073709551615)
    (hd : h < Wd.mag b) (hs : (n == decide (b < 0)) = s) (hr : r = 0 ∨ 0 < r ∧ s = !up)
    (HD : ∀ W : World, Calls Try.prog 85 #[.int .u64 h, .int .u64 l, .int .u64 (Wd.mag b)] W fun e w' => e = .returned (.tuple #[.int .u64 q, .int .u64 r]) ∧ Gr W w')
    (HW : ∀ (W : World) (c : Bool), c = (!s && decide (0 < q)) → Calls Try.prog 128 #[.int .u64 q, .bool c] W fun e w' => e = .returned (.tuple #[.int .i64 (Wd.intQ z), .int .i64 (Wd.intE z)]) ∧ W = w') :
    Calls Try.prog 115 #[.agg #[.int .u64 h, .int .u64 l, .bool n], .int .i64 b, .bool up] w fun e w' => e = .returned (.tuple #[.int .i64 (Wd.intQ z), .int .i64 (Wd.intE z)]) ∧ Gr w w' := by
  have hd' : decide (Wd.mag b ≤ h) = false := decide_eq_false (by omega)
  have m0 := Wd.mag_nonneg b
  have HD := Lib.hid HD
  have HW := Lib.hid HW
  rcases hr with rfl | ⟨hr, hu⟩
  · cases s
    all_goals
      go_enter Try.func115, Try.ntmps115
      go_wp2_with (first | (go_at_call 112; refine (size_any _ _ b0 b1).mono ?_; rintro e w' ⟨rfl, rfl⟩) | (go_at_call 85; refine (HD.out _).mono ?_; rintro e w1 ⟨rfl, hb1⟩; obtain ⟨hc1, hf1⟩ := Gr.cells hb1; have hz1 := Gr.size hb1; (try simp at hz1); (try have hy1_0 : w.heap.size < w1.heap.size := by omega); (try have hy1_1 : w.heap.size + 1 < w1.heap.size := by omega); (try have hy1_2 : w.heap.size + 1 + 1 < w1.heap.size := by omega); (try have hy1_3 : w.heap.size + 1 + 1 + 1 < w1.heap.size := by omega); (try have hy1_4 : w.heap.size + 1 + 1 + 1 + 1 < w1.heap.size := by omega); (try have hy1_5 : w.heap.size + 1 + 1 + 1 + 1 + 1 < w1.heap.size := by omega)) | (go_at_call 128; refine (HW.out _ _ (by simp)).mono ?_; rintro e w2 ⟨rfl, rfl⟩))
      go_ret2
      exact ⟨rfl, gr_auto⟩
  · have hr' : decide (0 < r) = true := decide_eq_true hr
    subst hu
    cases up
    all_goals
      go_enter Try.func115, Try.ntmps115
      go_wp2_with (first | (go_at_call 112; refine (size_any _ _ b0 b1).mono ?_; rintro e w' ⟨rfl, rfl⟩) | (go_at_call 85; refine (HD.out _).mono ?_; rintro e w1 ⟨rfl, hb1⟩; obtain ⟨hc1, hf1⟩ := Gr.cells hb1; have hz1 := Gr.size hb1; (try simp at hz1); (try have hy1_0 : w.heap.size < w1.heap.size := by omega); (try have hy1_1 : w.heap.size + 1 < w1.heap.size := by omega); (try have hy1_2 : w.heap.size + 1 + 1 < w1.heap.size := by omega); (try have hy1_3 : w.heap.size + 1 + 1 + 1 < w1.heap.size := by omega); (try have hy1_4 : w.heap.size + 1 + 1 + 1 + 1 < w1.heap.size := by omega); (try have hy1_5 : w.heap.size + 1 + 1 + 1 + 1 + 1 < w1.heap.size := by omega)) | (go_at_call 128; refine (HW.out _ _ (by simp)).mono ?_; rintro e w2 ⟨rfl, rfl⟩))
      go_ret2
      exact ⟨rfl, gr_auto⟩

theorem quo_any (v b : Int) (up : Bool) (w : World) (b0 : -9223372036854775808 ≤ b) (b1 : b ≤ 9223372036854775807) (hb : b ≠ 0) :
    Calls Try.prog 115 #[.agg #[.int .u64 (Wd.hi v), .int .u64 (Wd.lo v), .bool (Wd.neg v)], .int .i64 b, .bool up] w fun e w' => e = .returned (.tuple #[.int .i64 (Wd.intQ (Wd.rnd v b up)), .int .i64 (Wd.intE (Wd.rnd v b up))]) ∧ Gr w w' := by
  obtain ⟨e1, e2⟩ := Wd.rnd_parts v b up _ hb rfl
  have m1 := Wd.mag_le b0 b1
  have m0 : 1 ≤ Wd.mag b := by unfold Wd.mag; split <;> omega
  have h0 := Wd.hi_nonneg v; have l0 := Wd.lo_nonneg v; have l1 := Wd.lo_lt v
  have hm := Wd.hilo v
  have q0 := Int.ediv_nonneg (Wd.mag_nonneg v) (show 0 ≤ Wd.mag b by omega)
  have hbig : 18446744073709551615 < Wd.mag (Wd.rnd v b up) → Wd.intQ (Wd.rnd v b up) = 0 ∧ Wd.intE (Wd.rnd v b up) = 5 := fun h => Wd.fits_false (by unfold Wd.mag at h; split at h <;> omega)
  by_cases hd : Wd.mag b ≤ Wd.hi v
  · have k : 18446744073709551616 ≤ Wd.mag v / Wd.mag b := by
      refine (Int.le_ediv_iff_mul_le (by omega)).2 ?_
      omega
    have k2 : Wd.mag v / Wd.mag b ≤ Wd.mag (Wd.rnd v b up) := by rw [e1]; unfold Wd.inc; split <;> omega
    obtain ⟨f1, f2⟩ := hbig (by omega)
    rw [f1, f2]
    exact quo_big v b up w b0 b1 hd
  have q1 : Wd.mag v / Wd.mag b < 18446744073709551616 := by
    refine (Int.ediv_lt_iff_lt_mul (by omega)).2 ?_; omega
  have r0 := Int.emod_nonneg (Wd.mag v) (show Wd.mag b ≠ 0 by omega)
  have hdv : ∀ W : World, Calls Try.prog 85 #[.int .u64 (Wd.hi v), .int .u64 (Wd.lo v), .int .u64 (Wd.mag b)] W fun e w' => e = .returned (.tuple #[.int .u64 (Wd.mag v / Wd.mag b), .int .u64 (Wd.mag v % Wd.mag b)]) ∧ Gr W w' := fun W => by
    rw [← hm]; exact div64_all _ _ _ W h0 l0 l1 (by omega) (by omega)
  have hnb : Wd.neg b = decide (b < 0) := rfl
  rw [hnb] at e1 e2
  unfold Wd.inc at e1 e2
  by_cases hc : (Wd.neg v == decide (b < 0)) = up ∧ 0 < Wd.mag v % Wd.mag b
  · obtain ⟨hu, hr⟩ := hc
    have ht : ((Wd.neg v != decide (b < 0)) != up) = true := by rw [← hu]; cases Wd.neg v <;> cases decide (b < 0) <;> rfl
    rw [ht, decide_eq_true hr] at e1 e2
    simp only [Bool.and_self, if_true] at e1 e2
    have hn : (Wd.neg v != decide (b < 0)) = !up := by rw [← hu]; rfl
    rw [hn, decide_eq_true (show 0 < Wd.mag v / Wd.mag b + 1 by omega), Bool.and_true] at e2
    refine quo_up _ _ _ _ _ _ up b w b0 b1 q0 (by omega) hr (by omega) hu hdv ?_ (fun h => hbig (by omega))
    intro k W c a1 a2 a3
    exact whole_at _ k c W (by rw [e1]; exact a1) (by rw [e1, ← a1]; exact a2) (by rw [e2]; exact a3)
  · have ht : (((Wd.neg v != decide (b < 0)) != up) && decide (0 < Wd.mag v % Wd.mag b)) = false := by
      by_cases hr : 0 < Wd.mag v % Wd.mag b
      · have : ¬ (Wd.neg v == decide (b < 0)) = up := fun h => hc ⟨h, hr⟩
        cases h1 : Wd.neg v <;> cases h2 : decide (b < 0) <;> cases h3 : up <;> simp_all
      · rw [decide_eq_false hr, Bool.and_false]
    rw [ht] at e1 e2
    simp only [Bool.false_eq_true, if_false] at e1 e2
    refine quo_cut _ _ _ _ _ _ up _ b w b0 b1 (by omega) (by omega) rfl ?_ hdv ?_
    · by_cases hr : 0 < Wd.mag v % Wd.mag b
      · have : ¬ (Wd.neg v == decide (b < 0)) = up := fun h => hc ⟨h, hr⟩
        refine Or.inr ⟨hr, ?_⟩
        cases h1 : Wd.neg v <;> cases h2 : decide (b < 0) <;> cases h3 : up <;> simp_all
      · exact Or.inl (by omega)
    · intro W c a
      exact whole_at _ _ c W e1.symm (by rw [e1]; omega) (by rw [e2, a]; rfl)
end Go.Proofs.Ytjighhphadfoiaa
