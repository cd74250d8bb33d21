import Derived.Test.YtjighhphadfoiaaWdWalkC
set_option linter.unusedVariables false
set_option linter.unusedSimpArgs false
namespace Go.Proofs.Ytjighhphadfoiaa
open Go.RowKit

theorem whole_at (q n : Int) (b : Bool) (w : World) (hn : n = Wd.mag q) (h1 : Wd.mag q ≤ 18446744073709551615) (hb : b = Wd.neg q) :
    Calls Try.prog 128 #[.int .u64 n, .bool b] w fun e w' => e = .returned (.tuple #[.int .i64 (Wd.intQ q), .int .i64 (Wd.intE q)]) ∧ w = w' := by
  subst hn; exact whole_any q b w h1 hb

set_option maxHeartbeats 400000 in
theorem times_any (a b : Int) (w : World) (a0 : -9223372036854775808 ≤ a) (a1 : a ≤ 9223372036854775807) (b0 : -9223372036854775808 ≤ b) (b1 : b ≤ 9223372036854775807) :
    Calls Try.prog 93 #[.int .i64 a, .int .i64 b] w fun e w' => e = .returned (.agg #[.int .u64 (Wd.hi (a * b)), .int .u64 (Wd.lo (a * b)), .bool (Wd.neg (a * b))]) ∧ Gr w w' := by
  have m1 := Wd.mag_le a0 a1
  have m2 := Wd.mag_le b0 b1
  have n1 := Wd.mag_nonneg a
  have n2 := Wd.mag_nonneg b
  have p1 := Wd.mul_bound m1 m2
  have p0 := Wd.mag_nonneg (a * b)
  rw [← Wd.mag_mul] at p1 p0
  have f : Wd.hi (a * b) = Wd.mag a * Wd.mag b / 18446744073709551616 ∧ Wd.lo (a * b) = Wd.mag a * Wd.mag b % 18446744073709551616 ∧ Wd.neg (a * b) = Wd.neg (Wd.mk (Wd.mag a * Wd.mag b / 18446744073709551616) (Wd.mag a * Wd.mag b % 18446744073709551616) (Wd.neg a != Wd.neg b)) := by
    have e := Wd.mk_mul a b
    unfold Wd.hi Wd.lo at e ⊢
    rw [← Wd.mag_mul] at e ⊢
    exact ⟨rfl, rfl, by rw [e]⟩
  obtain ⟨f1, f2, f3⟩ := f
  rw [f1, f2, f3]
  clear f1 f2 f3
  generalize hp : Wd.mag a * Wd.mag b = p at *
  have Hp := Lib.hid hp
  clear hp
  have hmul : ∀ W : World, Calls Try.prog 84 #[.int .u64 (Wd.mag a), .int .u64 (Wd.mag b)] W fun e w' => e = .returned (.tuple #[.int .u64 (p / 18446744073709551616), .int .u64 (p % 18446744073709551616)]) ∧ W = w' := by
    intro W; rw [← Hp.out]; exact mul64_any _ _ W n1 (by omega) n2 (by omega)
  have HM := Lib.hid hmul
  clear hmul
  by_cases ha : a < 0
  · rw [Wd.neg_of_neg ha]
    have ha' : decide (a < 0) = true := by simpa using ha
    by_cases hb : b < 0
    · rw [Wd.neg_of_neg hb]
      have hb' : decide (b < 0) = true := by simpa using hb
      go_enter Try.func93, Try.ntmps93
      go_wp2_with (first | (go_at_call 112; refine (size_any _ _ (by omega) (by omega)).mono ?_; rintro e w' ⟨rfl, rfl⟩) | (go_at_call 84; refine (HM.out _).mono ?_; rintro e w' ⟨rfl, rfl⟩) | (go_at_call 113; refine (signed_any _ _ _ _ (by omega) (by omega) (by omega) (by omega)).mono ?_; rintro e w1 ⟨rfl, hb1⟩; obtain ⟨hc1, hf1⟩ := Gr.cells hb1; have hz1 := Gr.size hb1; (try simp at hz1); (try have hy1_0 : w.heap.size < w1.heap.size := by omega); (try have hy1_1 : w.heap.size + 1 < w1.heap.size := by omega); (try have hy1_2 : w.heap.size + 1 + 1 < w1.heap.size := by omega); (try have hy1_3 : w.heap.size + 1 + 1 + 1 < w1.heap.size := by omega); (try have hy1_4 : w.heap.size + 1 + 1 + 1 + 1 < w1.heap.size := by omega); (try have hy1_5 : w.heap.size + 1 + 1 + 1 + 1 + 1 < w1.heap.size := by omega)))
      refine bodyPost_ret (by simp [results, Try.results93, go_sem, hc1, hz1]; try rfl) rfl ?_
      exact ⟨by first | rfl | (simp; done), gr_auto⟩
    · have hb' : 0 ≤ b := by omega
      rw [Wd.neg_of_nonneg hb']
      have hb3 : decide (b < 0) = false := by simpa using hb
      go_enter Try.func93, Try.ntmps93
      go_wp2_with (first | (go_at_call 112; refine (size_any _ _ (by omega) (by omega)).mono ?_; rintro e w' ⟨rfl, rfl⟩) | (go_at_call 84; refine (HM.out _).mono ?_; rintro e w' ⟨rfl, rfl⟩) | (go_at_call 113; refine (signed_any _ _ _ _ (by omega) (by omega) (by omega) (by omega)).mono ?_; rintro e w1 ⟨rfl, hb1⟩; obtain ⟨hc1, hf1⟩ := Gr.cells hb1; have hz1 := Gr.size hb1; (try simp at hz1); (try have hy1_0 : w.heap.size < w1.heap.size := by omega); (try have hy1_1 : w.heap.size + 1 < w1.heap.size := by omega); (try have hy1_2 : w.heap.size + 1 + 1 < w1.heap.size := by omega); (try have hy1_3 : w.heap.size + 1 + 1 + 1 < w1.heap.size := by omega); (try have hy1_4 : w.heap.size + 1 + 1 + 1 + 1 < w1.heap.size := by omega); (try have hy1_5 : w.heap.size + 1 + 1 + 1 + 1 + 1 < w1.heap.size := by omega)))
      refine bodyPost_ret (by simp [results, Try.results93, go_sem, hc1, hz1]; try rfl) rfl ?_
      exact ⟨by first | rfl | (simp; done), gr_auto⟩
  · have ha' : 0 ≤ a := by omega
    rw [Wd.neg_of_nonneg ha']
    have ha3 : decide (a < 0) = false := by simpa using ha
    by_cases hb : b < 0
    · rw [Wd.neg_of_neg hb]
      have hb' : decide (b < 0) = true := by simpa using hb
      go_enter Try.func93, Try.ntmps93
      go_wp2_with (first | (go_at_call 112; refine (size_any _ _ (by omega) (by omega)).mono ?_; rintro e w' ⟨rfl, rfl⟩) | (go_at_call 84; refine (HM.out _).mono ?_; rintro e w' ⟨rfl, rfl⟩) | (go_at_call 113; refine (signed_any _ _ _ _ (by omega) (by omega) (by omega) (by omega)).mono ?_; rintro e w1 ⟨rfl, hb1⟩; obtain ⟨hc1, hf1⟩ := Gr.cells hb1; have hz1 := Gr.size hb1; (try simp at hz1); (try have hy1_0 : w.heap.size < w1.heap.size := by omega); (try have hy1_1 : w.heap.size + 1 < w1.heap.size := by omega); (try have hy1_2 : w.heap.size + 1 + 1 < w1.heap.size := by omega); (try have hy1_3 : w.heap.size + 1 + 1 + 1 < w1.heap.size := by omega); (try have hy1_4 : w.heap.size + 1 + 1 + 1 + 1 < w1.heap.size := by omega); (try have hy1_5 : w.heap.size + 1 + 1 + 1 + 1 + 1 < w1.heap.size := by omega)))
      refine bodyPost_ret (by simp [results, Try.results93, go_sem, hc1, hz1]; try rfl) rfl ?_
      exact ⟨by first | rfl | (simp; done), gr_auto⟩
    · have hb' : 0 ≤ b := by omega
      rw [Wd.neg_of_nonneg hb']
      have hb3 : decide (b < 0) = false := by simpa using hb
      go_enter Try.func93, Try.ntmps93
      go_wp2_with (first | (go_at_call 112; refine (size_any _ _ (by omega) (by omega)).mono ?_; rintro e w' ⟨rfl, rfl⟩) | (go_at_call 84; refine (HM.out _).mono ?_; rintro e w' ⟨rfl, rfl⟩) | (go_at_call 113; refine (signed_any _ _ _ _ (by omega) (by omega) (by omega) (by omega)).mono ?_; rintro e w1 ⟨rfl, hb1⟩; obtain ⟨hc1, hf1⟩ := Gr.cells hb1; have hz1 := Gr.size hb1; (try simp at hz1); (try have hy1_0 : w.heap.size < w1.heap.size := by omega); (try have hy1_1 : w.heap.size + 1 < w1.heap.size := by omega); (try have hy1_2 : w.heap.size + 1 + 1 < w1.heap.size := by omega); (try have hy1_3 : w.heap.size + 1 + 1 + 1 < w1.heap.size := by omega); (try have hy1_4 : w.heap.size + 1 + 1 + 1 + 1 < w1.heap.size := by omega); (try have hy1_5 : w.heap.size + 1 + 1 + 1 + 1 + 1 < w1.heap.size := by omega)))
      refine bodyPost_ret (by simp [results, Try.results93, go_sem, hc1, hz1]; try rfl) rfl ?_
      exact ⟨by first | rfl | (simp; done), gr_auto⟩

set_option maxHeartbeats 400000 in
theorem product_any (a b : Int) (w : World) (a0 : -9223372036854775808 ≤ a) (a1 : a ≤ 9223372036854775807) (b0 : -9223372036854775808 ≤ b) (b1 : b ≤ 9223372036854775807) :
    Calls Try.prog 62 #[.int .i64 a, .int .i64 b] w fun e w' => e = .returned (.tuple #[.agg #[.int .i64 (Wd.wH (a * b)), .int .i64 (Wd.wL (a * b))], .int .i64 (Wd.wE (a * b))]) ∧ Gr w w' := by
  have p1 := Wd.mul_bound (Wd.mag_le a0 a1) (Wd.mag_le b0 b1)
  have p2 : Wd.hi (a * b) ≤ 18446744073709551615 := by unfold Wd.hi; omega
  go_enter Try.func62, Try.ntmps62
  go_wp2_with (first | (go_at_call 93; refine (times_any _ _ _ a0 a1 b0 b1).mono ?_; rintro e w1 ⟨rfl, hb1⟩; obtain ⟨hc1, hf1⟩ := Gr.cells hb1; have hz1 := Gr.size hb1; (try simp at hz1); (try have hy1_0 : w.heap.size < w1.heap.size := by omega); (try have hy1_1 : w.heap.size + 1 < w1.heap.size := by omega); (try have hy1_2 : w.heap.size + 1 + 1 < w1.heap.size := by omega); (try have hy1_3 : w.heap.size + 1 + 1 + 1 < w1.heap.size := by omega); (try have hy1_4 : w.heap.size + 1 + 1 + 1 + 1 < w1.heap.size := by omega); (try have hy1_5 : w.heap.size + 1 + 1 + 1 + 1 + 1 < w1.heap.size := by omega)) | (go_at_call 92; refine (placed_any _ _ p2).mono ?_; rintro e w2 ⟨rfl, hb2⟩; obtain ⟨hc2, hf2⟩ := Gr.cells hb2; have hz2 := Gr.size hb2; (try simp at hz2); (try have hy2_0 : w.heap.size < w2.heap.size := by omega); (try have hy2_1 : w.heap.size + 1 < w2.heap.size := by omega); (try have hy2_2 : w.heap.size + 1 + 1 < w2.heap.size := by omega); (try have hy2_3 : w.heap.size + 1 + 1 + 1 < w2.heap.size := by omega); (try have hy2_4 : w.heap.size + 1 + 1 + 1 + 1 < w2.heap.size := by omega); (try have hy2_5 : w.heap.size + 1 + 1 + 1 + 1 + 1 < w2.heap.size := by omega)))
  refine bodyPost_ret (by simp [results, Try.results62, go_sem, hc1, hz1, hc2, hz2, hy1_0, hy2_0]; try rfl) rfl ?_
  exact ⟨by first | rfl | (simp; done), gr_auto⟩

end Go.Proofs.Ytjighhphadfoiaa
