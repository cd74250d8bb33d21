import Derived.Test.YtbaahlofabmljaaWdRefK
import Derived.Test.YtbaahlofabmljaaWdSums
set_option linter.unusedVariables false
set_option linter.unusedSimpArgs false
namespace Go.Proofs.Ytbaahlofabmljaa
open Go.RowKit
namespace Wd
theorem has_int {m : Int} (m0 : -9223372036854775808 ≤ m) (m1 : m ≤ 9223372036854775807) : has m = true ∧ wH m = m / 1152921504606846976 ∧ wL m = m % 1152921504606846976 ∧ wE m = 0 ∧ vld (m / 1152921504606846976) (m % 1152921504606846976) = true ∧ val (m / 1152921504606846976) (m % 1152921504606846976) = m := by
  have h : has m = true := by unfold has; simp only [Bool.and_eq_true, decide_eq_true_eq]; omega
  obtain ⟨a, b, c⟩ := has_true (v := m) (by omega) (by omega)
  exact ⟨h, a, b, c, vld_mk (by omega) (by omega) (by omega) (by omega), by unfold val; omega⟩
end Wd
set_option maxRecDepth 100000 in
set_option maxHeartbeats 4000000 in
theorem products_cut (m n h l : Int) (w : World) (m0 : -9223372036854775808 ≤ m) (m1 : m ≤ 9223372036854775807) (n0 : -9223372036854775808 ≤ n) (n1 : n ≤ 9223372036854775807)
    (t : Bool) (x y i : Int) (k : Bool)
    (HV : ∀ W : World, Calls Try.prog 14 #[.agg #[.int .i64 h, .int .i64 l]] W fun e w' => e = .returned (.bool t) ∧ Gr W w')
    (HI : ∀ W : World, Calls Try.prog 21 #[.agg #[.int .i64 h, .int .i64 l]] W fun e w' => e = .returned (.tuple #[.int .i64 x, .int .i64 y]) ∧ Gr W w')
    (HN : t = true → ∃ a b c, (∀ W : World, Calls Try.prog 25 #[.agg #[.int .i64 h, .int .i64 l]] W fun e w' => e = .returned (.agg #[.int .u64 a, .int .u64 b, .bool c]) ∧ Gr W w') ∧ (∀ W : World, Calls Try.prog 24 #[.agg #[.int .u64 a, .int .u64 b, .bool c]] W fun e w' => e = .returned (.tuple #[.int .i64 i, .bool k]) ∧ Gr W w'))
    (HB : t = false → (x == 0) = true ∧ (y == 1) = true) (HC : t = true → k = false → (x == 0) = true ∧ (y == 5) = true) (HD : t = true → k = true → (x == i) = true ∧ (y == 0) = true) :
    Calls Try.prog 4 #[.int .i64 m, .int .i64 n, .agg #[.int .i64 h, .int .i64 l]] w fun e w' => e = .returned (.bool true) ∧ Gr w w' := by
  obtain ⟨g0, g1, g2, g3, g4, g5⟩ := Wd.has_int m0 m1
  have ho := fun W => rofint_any m W m0 m1
  have mh : Wd.hi m ≤ 18446744073709551614 := by have := Wd.mag_le m0 m1; unfold Wd.hi; omega
  have ht := fun W => rtowide_any m W mh
  rw [g1, g2, g3] at ht
  have mb := Wd.mul_bound (Wd.mag_le m0 m1) (Wd.mag_le n0 n1)
  have ph : Wd.hi (m * n) ≤ 18446744073709551614 := by have := Wd.mag_nonneg (m * n); unfold Wd.hi; omega
  have hof := fun W => of_any m W m0 m1
  have hin := fun W => int_any (m / 1152921504606846976) (m % 1152921504606846976) W g4
  rw [g5, (Wd.fits_true m0 m1).1, (Wd.fits_true m0 m1).2] at hin
  have KO := Lib.hid ho; have KT := Lib.hid ht
  have KP := Lib.hid (fun W => product_any m n W m0 m1 n0 n1)
  have KM := Lib.hid (fun W => rtimes_any m n W m0 m1 n0 n1)
  have KW := Lib.hid (fun W => rtowide_any (m * n) W ph)
  have KF := Lib.hid hof; have KI := Lib.hid hin
  have HV := Lib.hid HV; have HI := Lib.hid HI; have HN := Lib.hid HN; have HB := Lib.hid HB; have HC := Lib.hid HC; have HD := Lib.hid HD
  clear ho ht hof hin mh ph mb g0 g1 g2 g3 g4 g5 m0 m1 n0 n1
  generalize Wd.wE (m * n) = pe at *
  generalize Wd.wH (m * n) = p1 at *
  generalize Wd.wL (m * n) = p2 at *
  generalize m * n = p at *
  generalize m / 1152921504606846976 = m1 at *
  generalize m % 1152921504606846976 = m2 at *
  have a1 : (m1 != m1) = false := by simp
  have a2 : (m2 != m2) = false := by simp
  have a3 : (m != m) = false := by simp
  go_enter Try.func4, Try.ntmps4
  go_wp2_with fail; refine (awake_any _).mono ?_; rintro e w1 ⟨rfl, hb1⟩; obtain ⟨hc1, hf1⟩ := Gr.cells hb1; have hz1 := Gr.size hb1; (try simp at hz1); (try have hy1_0 : w.heap.size < w1.heap.size := by omega); (try have hy1_1 : w.heap.size + 1 < w1.heap.size := by omega); (try have hy1_2 : w.heap.size + 1 + 1 < w1.heap.size := by omega); (try have hy1_3 : w.heap.size + 1 + 1 + 1 < w1.heap.size := by omega); (try have hy1_4 : w.heap.size + 1 + 1 + 1 + 1 < w1.heap.size := by omega); (try have hy1_5 : w.heap.size + 1 + 1 + 1 + 1 + 1 < w1.heap.size := by omega)
  have kc1_0 := hc1 (w.heap.size) 0 (by first | omega | (simp; done) | (simp; omega))
  have kc1_1 := hc1 (w.heap.size) 1 (by first | omega | (simp; done) | (simp; omega))
  clear hc1
  (try simp [go_sem, *] at kc1_0)
  (try simp [go_sem, *] at kc1_1)
  go_wp2_with fail; refine (KO.out _).mono ?_; rintro e w2 ⟨rfl, hb2⟩; obtain ⟨hc2, hf2⟩ := Gr.cells hb2; have hz2 := Gr.size hb2; (try simp at hz2); (try have hy2_0 : w.heap.size < w2.heap.size := by omega); (try have hy2_1 : w.heap.size + 1 < w2.heap.size := by omega); (try have hy2_2 : w.heap.size + 1 + 1 < w2.heap.size := by omega); (try have hy2_3 : w.heap.size + 1 + 1 + 1 < w2.heap.size := by omega); (try have hy2_4 : w.heap.size + 1 + 1 + 1 + 1 < w2.heap.size := by omega); (try have hy2_5 : w.heap.size + 1 + 1 + 1 + 1 + 1 < w2.heap.size := by omega); (try have hy2_1_0 : w1.heap.size < w2.heap.size := by omega); (try have hy2_1_1 : w1.heap.size + 1 < w2.heap.size := by omega)
  have kc2_0 := hc2 (w.heap.size) 0 (by first | omega | (simp; done) | (simp; omega))
  have kc2_1 := hc2 (w.heap.size) 1 (by first | omega | (simp; done) | (simp; omega))
  clear hc2
  (try simp [go_sem, *] at kc2_0)
  (try simp [go_sem, *] at kc2_1)
  go_wp2_with fail; refine (KT.out _).mono ?_; rintro e w3 ⟨rfl, hb3⟩; obtain ⟨hc3, hf3⟩ := Gr.cells hb3; have hz3 := Gr.size hb3; (try simp at hz3); (try have hy3_0 : w.heap.size < w3.heap.size := by omega); (try have hy3_1 : w.heap.size + 1 < w3.heap.size := by omega); (try have hy3_2 : w.heap.size + 1 + 1 < w3.heap.size := by omega); (try have hy3_3 : w.heap.size + 1 + 1 + 1 < w3.heap.size := by omega); (try have hy3_4 : w.heap.size + 1 + 1 + 1 + 1 < w3.heap.size := by omega); (try have hy3_5 : w.heap.size + 1 + 1 + 1 + 1 + 1 < w3.heap.size := by omega); (try have hy3_1_0 : w1.heap.size < w3.heap.size := by omega); (try have hy3_1_1 : w1.heap.size + 1 < w3.heap.size := by omega); (try have hy3_2_0 : w2.heap.size < w3.heap.size := by omega); (try have hy3_2_1 : w2.heap.size + 1 < w3.heap.size := by omega)
  have kc3_0 := hc3 (w.heap.size) 0 (by first | omega | (simp; done) | (simp; omega))
  have kc3_1 := hc3 (w.heap.size) 1 (by first | omega | (simp; done) | (simp; omega))
  clear hc3
  (try simp [go_sem, *] at kc3_0)
  (try simp [go_sem, *] at kc3_1)
  go_wp2_with fail; refine (KP.out _).mono ?_; rintro e w4 ⟨rfl, hb4⟩; obtain ⟨hc4, hf4⟩ := Gr.cells hb4; have hz4 := Gr.size hb4; (try simp at hz4); (try have hy4_0 : w.heap.size < w4.heap.size := by omega); (try have hy4_1 : w.heap.size + 1 < w4.heap.size := by omega); (try have hy4_2 : w.heap.size + 1 + 1 < w4.heap.size := by omega); (try have hy4_3 : w.heap.size + 1 + 1 + 1 < w4.heap.size := by omega); (try have hy4_4 : w.heap.size + 1 + 1 + 1 + 1 < w4.heap.size := by omega); (try have hy4_5 : w.heap.size + 1 + 1 + 1 + 1 + 1 < w4.heap.size := by omega); (try have hy4_1_0 : w1.heap.size < w4.heap.size := by omega); (try have hy4_1_1 : w1.heap.size + 1 < w4.heap.size := by omega); (try have hy4_2_0 : w2.heap.size < w4.heap.size := by omega); (try have hy4_2_1 : w2.heap.size + 1 < w4.heap.size := by omega); (try have hy4_3_0 : w3.heap.size < w4.heap.size := by omega); (try have hy4_3_1 : w3.heap.size + 1 < w4.heap.size := by omega)
  have kc4_0 := hc4 (w.heap.size) 0 (by first | omega | (simp; done) | (simp; omega))
  have kc4_1 := hc4 (w.heap.size) 1 (by first | omega | (simp; done) | (simp; omega))
  have kc4_2 := hc4 (w3.heap.size) 0 (by first | omega | (simp; done) | (simp; omega))
  have kc4_3 := hc4 (w3.heap.size) 1 (by first | omega | (simp; done) | (simp; omega))
  clear hc4
  (try simp [go_sem, *] at kc4_0)
  (try simp [go_sem, *] at kc4_1)
  (try simp [go_sem, *] at kc4_2)
  (try simp [go_sem, *] at kc4_3)
  go_wp2_with fail; refine (KM.out _).mono ?_; rintro e w5 ⟨rfl, hb5⟩; obtain ⟨hc5, hf5⟩ := Gr.cells hb5; have hz5 := Gr.size hb5; (try simp at hz5); (try have hy5_0 : w.heap.size < w5.heap.size := by omega); (try have hy5_1 : w.heap.size + 1 < w5.heap.size := by omega); (try have hy5_2 : w.heap.size + 1 + 1 < w5.heap.size := by omega); (try have hy5_3 : w.heap.size + 1 + 1 + 1 < w5.heap.size := by omega); (try have hy5_4 : w.heap.size + 1 + 1 + 1 + 1 < w5.heap.size := by omega); (try have hy5_5 : w.heap.size + 1 + 1 + 1 + 1 + 1 < w5.heap.size := by omega); (try have hy5_1_0 : w1.heap.size < w5.heap.size := by omega); (try have hy5_1_1 : w1.heap.size + 1 < w5.heap.size := by omega); (try have hy5_2_0 : w2.heap.size < w5.heap.size := by omega); (try have hy5_2_1 : w2.heap.size + 1 < w5.heap.size := by omega); (try have hy5_3_0 : w3.heap.size < w5.heap.size := by omega); (try have hy5_3_1 : w3.heap.size + 1 < w5.heap.size := by omega); (try have hy5_4_0 : w4.heap.size < w5.heap.size := by omega); (try have hy5_4_1 : w4.heap.size + 1 < w5.heap.size := by omega)
  have kc5_0 := hc5 (w.heap.size) 0 (by first | omega | (simp; done) | (simp; omega))
  have kc5_1 := hc5 (w.heap.size) 1 (by first | omega | (simp; done) | (simp; omega))
  have kc5_2 := hc5 (w3.heap.size) 0 (by first | omega | (simp; done) | (simp; omega))
  have kc5_3 := hc5 (w3.heap.size) 1 (by first | omega | (simp; done) | (simp; omega))
  have kc5_4 := hc5 (w4.heap.size) 0 (by first | omega | (simp; done) | (simp; omega))
  have kc5_5 := hc5 (w4.heap.size) 1 (by first | omega | (simp; done) | (simp; omega))
  clear hc5
  (try simp [go_sem, *] at kc5_0)
  (try simp [go_sem, *] at kc5_1)
  (try simp [go_sem, *] at kc5_2)
  (try simp [go_sem, *] at kc5_3)
  (try simp [go_sem, *] at kc5_4)
  (try simp [go_sem, *] at kc5_5)
  go_wp2_with fail; refine (KW.out _).mono ?_; rintro e w6 ⟨rfl, hb6⟩; obtain ⟨hc6, hf6⟩ := Gr.cells hb6; have hz6 := Gr.size hb6; (try simp at hz6); (try have hy6_0 : w.heap.size < w6.heap.size := by omega); (try have hy6_1 : w.heap.size + 1 < w6.heap.size := by omega); (try have hy6_2 : w.heap.size + 1 + 1 < w6.heap.size := by omega); (try have hy6_3 : w.heap.size + 1 + 1 + 1 < w6.heap.size := by omega); (try have hy6_4 : w.heap.size + 1 + 1 + 1 + 1 < w6.heap.size := by omega); (try have hy6_5 : w.heap.size + 1 + 1 + 1 + 1 + 1 < w6.heap.size := by omega); (try have hy6_1_0 : w1.heap.size < w6.heap.size := by omega); (try have hy6_1_1 : w1.heap.size + 1 < w6.heap.size := by omega); (try have hy6_2_0 : w2.heap.size < w6.heap.size := by omega); (try have hy6_2_1 : w2.heap.size + 1 < w6.heap.size := by omega); (try have hy6_3_0 : w3.heap.size < w6.heap.size := by omega); (try have hy6_3_1 : w3.heap.size + 1 < w6.heap.size := by omega); (try have hy6_4_0 : w4.heap.size < w6.heap.size := by omega); (try have hy6_4_1 : w4.heap.size + 1 < w6.heap.size := by omega); (try have hy6_5_0 : w5.heap.size < w6.heap.size := by omega); (try have hy6_5_1 : w5.heap.size + 1 < w6.heap.size := by omega)
  have kc6_0 := hc6 (w.heap.size) 0 (by first | omega | (simp; done) | (simp; omega))
  have kc6_1 := hc6 (w.heap.size) 1 (by first | omega | (simp; done) | (simp; omega))
  have kc6_2 := hc6 (w3.heap.size) 0 (by first | omega | (simp; done) | (simp; omega))
  have kc6_3 := hc6 (w3.heap.size) 1 (by first | omega | (simp; done) | (simp; omega))
  have kc6_4 := hc6 (w4.heap.size) 0 (by first | omega | (simp; done) | (simp; omega))
  have kc6_5 := hc6 (w4.heap.size) 1 (by first | omega | (simp; done) | (simp; omega))
  clear hc6
  (try simp [go_sem, *] at kc6_0)
  (try simp [go_sem, *] at kc6_1)
  (try simp [go_sem, *] at kc6_2)
  (try simp [go_sem, *] at kc6_3)
  (try simp [go_sem, *] at kc6_4)
  (try simp [go_sem, *] at kc6_5)
  go_wp2_with fail; refine (KF.out _).mono ?_; rintro e w7 ⟨rfl, hb7⟩; obtain ⟨hc7, hf7⟩ := Gr.cells hb7; have hz7 := Gr.size hb7; (try simp at hz7); (try have hy7_0 : w.heap.size < w7.heap.size := by omega); (try have hy7_1 : w.heap.size + 1 < w7.heap.size := by omega); (try have hy7_2 : w.heap.size + 1 + 1 < w7.heap.size := by omega); (try have hy7_3 : w.heap.size + 1 + 1 + 1 < w7.heap.size := by omega); (try have hy7_4 : w.heap.size + 1 + 1 + 1 + 1 < w7.heap.size := by omega); (try have hy7_5 : w.heap.size + 1 + 1 + 1 + 1 + 1 < w7.heap.size := by omega); (try have hy7_1_0 : w1.heap.size < w7.heap.size := by omega); (try have hy7_1_1 : w1.heap.size + 1 < w7.heap.size := by omega); (try have hy7_2_0 : w2.heap.size < w7.heap.size := by omega); (try have hy7_2_1 : w2.heap.size + 1 < w7.heap.size := by omega); (try have hy7_3_0 : w3.heap.size < w7.heap.size := by omega); (try have hy7_3_1 : w3.heap.size + 1 < w7.heap.size := by omega); (try have hy7_4_0 : w4.heap.size < w7.heap.size := by omega); (try have hy7_4_1 : w4.heap.size + 1 < w7.heap.size := by omega); (try have hy7_5_0 : w5.heap.size < w7.heap.size := by omega); (try have hy7_5_1 : w5.heap.size + 1 < w7.heap.size := by omega); (try have hy7_6_0 : w6.heap.size < w7.heap.size := by omega); (try have hy7_6_1 : w6.heap.size + 1 < w7.heap.size := by omega)
  have kc7_0 := hc7 (w.heap.size) 0 (by first | omega | (simp; done) | (simp; omega))
  have kc7_1 := hc7 (w.heap.size) 1 (by first | omega | (simp; done) | (simp; omega))
  have kc7_2 := hc7 (w3.heap.size) 0 (by first | omega | (simp; done) | (simp; omega))
  have kc7_3 := hc7 (w3.heap.size) 1 (by first | omega | (simp; done) | (simp; omega))
  have kc7_4 := hc7 (w4.heap.size) 0 (by first | omega | (simp; done) | (simp; omega))
  have kc7_5 := hc7 (w4.heap.size) 1 (by first | omega | (simp; done) | (simp; omega))
  have kc7_6 := hc7 (w6.heap.size) 0 (by first | omega | (simp; done) | (simp; omega))
  have kc7_7 := hc7 (w6.heap.size) 1 (by first | omega | (simp; done) | (simp; omega))
  clear hc7
  (try simp [go_sem, *] at kc7_0)
  (try simp [go_sem, *] at kc7_1)
  (try simp [go_sem, *] at kc7_2)
  (try simp [go_sem, *] at kc7_3)
  (try simp [go_sem, *] at kc7_4)
  (try simp [go_sem, *] at kc7_5)
  (try simp [go_sem, *] at kc7_6)
  (try simp [go_sem, *] at kc7_7)
  go_wp2_with fail; refine (KI.out _).mono ?_; rintro e w8 ⟨rfl, hb8⟩; obtain ⟨hc8, hf8⟩ := Gr.cells hb8; have hz8 := Gr.size hb8; (try simp at hz8); (try have hy8_0 : w.heap.size < w8.heap.size := by omega); (try have hy8_1 : w.heap.size + 1 < w8.heap.size := by omega); (try have hy8_2 : w.heap.size + 1 + 1 < w8.heap.size := by omega); (try have hy8_3 : w.heap.size + 1 + 1 + 1 < w8.heap.size := by omega); (try have hy8_4 : w.heap.size + 1 + 1 + 1 + 1 < w8.heap.size := by omega); (try have hy8_5 : w.heap.size + 1 + 1 + 1 + 1 + 1 < w8.heap.size := by omega); (try have hy8_1_0 : w1.heap.size < w8.heap.size := by omega); (try have hy8_1_1 : w1.heap.size + 1 < w8.heap.size := by omega); (try have hy8_2_0 : w2.heap.size < w8.heap.size := by omega); (try have hy8_2_1 : w2.heap.size + 1 < w8.heap.size := by omega); (try have hy8_3_0 : w3.heap.size < w8.heap.size := by omega); (try have hy8_3_1 : w3.heap.size + 1 < w8.heap.size := by omega); (try have hy8_4_0 : w4.heap.size < w8.heap.size := by omega); (try have hy8_4_1 : w4.heap.size + 1 < w8.heap.size := by omega); (try have hy8_5_0 : w5.heap.size < w8.heap.size := by omega); (try have hy8_5_1 : w5.heap.size + 1 < w8.heap.size := by omega); (try have hy8_6_0 : w6.heap.size < w8.heap.size := by omega); (try have hy8_6_1 : w6.heap.size + 1 < w8.heap.size := by omega); (try have hy8_7_0 : w7.heap.size < w8.heap.size := by omega); (try have hy8_7_1 : w7.heap.size + 1 < w8.heap.size := by omega)
  have kc8_0 := hc8 (w.heap.size) 0 (by first | omega | (simp; done) | (simp; omega))
  have kc8_1 := hc8 (w.heap.size) 1 (by first | omega | (simp; done) | (simp; omega))
  have kc8_2 := hc8 (w3.heap.size) 0 (by first | omega | (simp; done) | (simp; omega))
  have kc8_3 := hc8 (w3.heap.size) 1 (by first | omega | (simp; done) | (simp; omega))
  have kc8_4 := hc8 (w4.heap.size) 0 (by first | omega | (simp; done) | (simp; omega))
  have kc8_5 := hc8 (w4.heap.size) 1 (by first | omega | (simp; done) | (simp; omega))
  have kc8_6 := hc8 (w6.heap.size) 0 (by first | omega | (simp; done) | (simp; omega))
  have kc8_7 := hc8 (w6.heap.size) 1 (by first | omega | (simp; done) | (simp; omega))
  clear hc8
  (try simp [go_sem, *] at kc8_0)
  (try simp [go_sem, *] at kc8_1)
  (try simp [go_sem, *] at kc8_2)
  (try simp [go_sem, *] at kc8_3)
  (try simp [go_sem, *] at kc8_4)
  (try simp [go_sem, *] at kc8_5)
  (try simp [go_sem, *] at kc8_6)
  (try simp [go_sem, *] at kc8_7)
  go_wp2_with fail
  refine name_world ?_; intro W0 hW0
  have g0 : Gr w W0 := by rw [hW0]; exact (by repeat' (first | (with_reducible exact Gr.refl _) | (with_reducible assumption) | (with_reducible refine Gr.alloc ?_ _) | (with_reducible refine Gr.drew ?_) | (with_reducible refine Gr.drewN ?_ _) | (with_reducible refine Gr.setCell ?_ ?_ _) | (with_reducible refine Gr.trans ?_ (by with_reducible assumption)) | go_size))
  have k0_0 : ∀ w', Gr W0 w' → w'.cell? ⟨w.heap.size, 0, none⟩ = some (.int .i64 h) := fun w' hgW => by first | exact (Gr.at hgW (by rw [hW0]; simp [go_sem, *]))
  have k0_1 : ∀ w', Gr W0 w' → w'.cell? ⟨w.heap.size, 1, none⟩ = some (.int .i64 l) := fun w' hgW => by first | exact (Gr.at hgW (by rw [hW0]; simp [go_sem, *]))
  have k0_2 : ∀ w', Gr W0 w' → w'.cell? ⟨w3.heap.size, 0, none⟩ = some (.int .i64 m1) := fun w' hgW => by first | exact (Gr.at hgW (by rw [hW0]; simp [go_sem, *]))
  have k0_3 : ∀ w', Gr W0 w' → w'.cell? ⟨w3.heap.size, 1, none⟩ = some (.int .i64 m2) := fun w' hgW => by first | exact (Gr.at hgW (by rw [hW0]; simp [go_sem, *]))
  have k0_4 : ∀ w', Gr W0 w' → w'.cell? ⟨w4.heap.size, 0, none⟩ = some (.int .i64 p1) := fun w' hgW => by first | exact (Gr.at hgW (by rw [hW0]; simp [go_sem, *]))
  have k0_5 : ∀ w', Gr W0 w' → w'.cell? ⟨w4.heap.size, 1, none⟩ = some (.int .i64 p2) := fun w' hgW => by first | exact (Gr.at hgW (by rw [hW0]; simp [go_sem, *]))
  have k0_6 : ∀ w', Gr W0 w' → w'.cell? ⟨w6.heap.size, 0, none⟩ = some (.int .i64 p1) := fun w' hgW => by first | exact (Gr.at hgW (by rw [hW0]; simp [go_sem, *]))
  have k0_7 : ∀ w', Gr W0 w' → w'.cell? ⟨w6.heap.size, 1, none⟩ = some (.int .i64 p2) := fun w' hgW => by first | exact (Gr.at hgW (by rw [hW0]; simp [go_sem, *]))
  clear hW0
  have zW0 := Gr.size g0
  go_region_held3 (fun w' => Gr W0 w') (repeat' (first | (with_reducible exact Gr.refl _) | (with_reducible assumption) | (with_reducible refine Gr.alloc ?_ _) | (with_reducible refine Gr.drew ?_) | (with_reducible refine Gr.drewN ?_ _) | (with_reducible refine Gr.setCell ?_ ?_ _) | (with_reducible refine Gr.trans ?_ (by with_reducible assumption)) | go_size)) (first | (go_at_call 22; refine (KF.out _).mono ?_; rintro e w11 ⟨rfl, hb11⟩; have q11 : Gr W0 w11 := (by repeat' (first | (with_reducible exact Gr.refl _) | (with_reducible assumption) | (with_reducible refine Gr.alloc ?_ _) | (with_reducible refine Gr.drew ?_) | (with_reducible refine Gr.drewN ?_ _) | (with_reducible refine Gr.setCell ?_ ?_ _) | (with_reducible refine Gr.trans ?_ (by with_reducible assumption)) | go_size)); have z11 := Gr.size q11; obtain ⟨hc11, hf11⟩ := Gr.cells hb11; have hz11 := Gr.size hb11; (try simp at hz11); (try have hy11_0 : w.heap.size < w11.heap.size := by omega); (try have hy11_1 : w.heap.size + 1 < w11.heap.size := by omega); (try have hy11_2 : w.heap.size + 1 + 1 < w11.heap.size := by omega); (try have hy11_3 : w.heap.size + 1 + 1 + 1 < w11.heap.size := by omega); (try have hy11_4 : w.heap.size + 1 + 1 + 1 + 1 < w11.heap.size := by omega); (try have hy11_5 : w.heap.size + 1 + 1 + 1 + 1 + 1 < w11.heap.size := by omega); (try have hy11_W0_0 : W0.heap.size < w11.heap.size := by omega); (try have hy11_W0_1 : W0.heap.size + 1 < w11.heap.size := by omega); (try have hy11_1_0 : w1.heap.size < w11.heap.size := by omega); (try have hy11_1_1 : w1.heap.size + 1 < w11.heap.size := by omega); (try have hy11_2_0 : w2.heap.size < w11.heap.size := by omega); (try have hy11_2_1 : w2.heap.size + 1 < w11.heap.size := by omega); (try have hy11_3_0 : w3.heap.size < w11.heap.size := by omega); (try have hy11_3_1 : w3.heap.size + 1 < w11.heap.size := by omega); (try have hy11_4_0 : w4.heap.size < w11.heap.size := by omega); (try have hy11_4_1 : w4.heap.size + 1 < w11.heap.size := by omega); (try have hy11_5_0 : w5.heap.size < w11.heap.size := by omega); (try have hy11_5_1 : w5.heap.size + 1 < w11.heap.size := by omega); (try have hy11_6_0 : w6.heap.size < w11.heap.size := by omega); (try have hy11_6_1 : w6.heap.size + 1 < w11.heap.size := by omega); (try have hy11_7_0 : w7.heap.size < w11.heap.size := by omega); (try have hy11_7_1 : w7.heap.size + 1 < w11.heap.size := by omega); (try have hy11_8_0 : w8.heap.size < w11.heap.size := by omega); (try have hy11_8_1 : w8.heap.size + 1 < w11.heap.size := by omega); (try have hy11_9_0 : w9.heap.size < w11.heap.size := by omega); (try have hy11_9_1 : w9.heap.size + 1 < w11.heap.size := by omega); (try have hy11_10_0 : w10.heap.size < w11.heap.size := by omega); (try have hy11_10_1 : w10.heap.size + 1 < w11.heap.size := by omega)) | (go_at_call 23; refine (same_eq _ _ _ _).mono ?_; rintro e w12 ⟨rfl, hb12⟩; have q12 : Gr W0 w12 := (by repeat' (first | (with_reducible exact Gr.refl _) | (with_reducible assumption) | (with_reducible refine Gr.alloc ?_ _) | (with_reducible refine Gr.drew ?_) | (with_reducible refine Gr.drewN ?_ _) | (with_reducible refine Gr.setCell ?_ ?_ _) | (with_reducible refine Gr.trans ?_ (by with_reducible assumption)) | go_size)); have z12 := Gr.size q12; obtain ⟨hc12, hf12⟩ := Gr.cells hb12; have hz12 := Gr.size hb12; (try simp at hz12); (try have hy12_0 : w.heap.size < w12.heap.size := by omega); (try have hy12_1 : w.heap.size + 1 < w12.heap.size := by omega); (try have hy12_2 : w.heap.size + 1 + 1 < w12.heap.size := by omega); (try have hy12_3 : w.heap.size + 1 + 1 + 1 < w12.heap.size := by omega); (try have hy12_4 : w.heap.size + 1 + 1 + 1 + 1 < w12.heap.size := by omega); (try have hy12_5 : w.heap.size + 1 + 1 + 1 + 1 + 1 < w12.heap.size := by omega); (try have hy12_W0_0 : W0.heap.size < w12.heap.size := by omega); (try have hy12_W0_1 : W0.heap.size + 1 < w12.heap.size := by omega); (try have hy12_1_0 : w1.heap.size < w12.heap.size := by omega); (try have hy12_1_1 : w1.heap.size + 1 < w12.heap.size := by omega); (try have hy12_2_0 : w2.heap.size < w12.heap.size := by omega); (try have hy12_2_1 : w2.heap.size + 1 < w12.heap.size := by omega); (try have hy12_3_0 : w3.heap.size < w12.heap.size := by omega); (try have hy12_3_1 : w3.heap.size + 1 < w12.heap.size := by omega); (try have hy12_4_0 : w4.heap.size < w12.heap.size := by omega); (try have hy12_4_1 : w4.heap.size + 1 < w12.heap.size := by omega); (try have hy12_5_0 : w5.heap.size < w12.heap.size := by omega); (try have hy12_5_1 : w5.heap.size + 1 < w12.heap.size := by omega); (try have hy12_6_0 : w6.heap.size < w12.heap.size := by omega); (try have hy12_6_1 : w6.heap.size + 1 < w12.heap.size := by omega); (try have hy12_7_0 : w7.heap.size < w12.heap.size := by omega); (try have hy12_7_1 : w7.heap.size + 1 < w12.heap.size := by omega); (try have hy12_8_0 : w8.heap.size < w12.heap.size := by omega); (try have hy12_8_1 : w8.heap.size + 1 < w12.heap.size := by omega); (try have hy12_9_0 : w9.heap.size < w12.heap.size := by omega); (try have hy12_9_1 : w9.heap.size + 1 < w12.heap.size := by omega); (try have hy12_10_0 : w10.heap.size < w12.heap.size := by omega); (try have hy12_10_1 : w10.heap.size + 1 < w12.heap.size := by omega); (try have hy12_11_0 : w11.heap.size < w12.heap.size := by omega); (try have hy12_11_1 : w11.heap.size + 1 < w12.heap.size := by omega)))
  all_goals
    go_wp2_with fail; refine (HI.out _).mono ?_; rintro e w13 ⟨rfl, hb13⟩; have q13_0 : Gr W0 w13 := (by repeat' (first | (with_reducible exact Gr.refl _) | (with_reducible assumption) | (with_reducible refine Gr.alloc ?_ _) | (with_reducible refine Gr.drew ?_) | (with_reducible refine Gr.drewN ?_ _) | (with_reducible refine Gr.setCell ?_ ?_ _) | (with_reducible refine Gr.trans ?_ (by with_reducible assumption)) | go_size)); have z13_0 := Gr.size q13_0
    go_wp2_with fail; refine (HV.out _).mono ?_; rintro e w14 ⟨rfl, hb14⟩; have q14_0 : Gr W0 w14 := (by repeat' (first | (with_reducible exact Gr.refl _) | (with_reducible assumption) | (with_reducible refine Gr.alloc ?_ _) | (with_reducible refine Gr.drew ?_) | (with_reducible refine Gr.drewN ?_ _) | (with_reducible refine Gr.setCell ?_ ?_ _) | (with_reducible refine Gr.trans ?_ (by with_reducible assumption)) | go_size)); have z14_0 := Gr.size q14_0
    cases t
    · obtain ⟨b1, b2⟩ := HB.out (by trivial)
      go_wp2
      go_ret
      exact ⟨rfl, (by repeat' (first | (with_reducible exact Gr.refl _) | (with_reducible assumption) | (with_reducible refine Gr.alloc ?_ _) | (with_reducible refine Gr.drew ?_) | (with_reducible refine Gr.drewN ?_ _) | (with_reducible refine Gr.setCell ?_ ?_ _) | (with_reducible refine Gr.trans ?_ (by with_reducible assumption)) | go_size))⟩
    · obtain ⟨a, b, c, h1, h2⟩ := HN.out (by trivial)
      have H1 := Lib.hid h1; have H2 := Lib.hid h2; clear h1 h2
      go_wp2_with fail; refine (H1.out _).mono ?_; rintro e w15 ⟨rfl, hb15⟩; have q15_0 : Gr W0 w15 := (by repeat' (first | (with_reducible exact Gr.refl _) | (with_reducible assumption) | (with_reducible refine Gr.alloc ?_ _) | (with_reducible refine Gr.drew ?_) | (with_reducible refine Gr.drewN ?_ _) | (with_reducible refine Gr.setCell ?_ ?_ _) | (with_reducible refine Gr.trans ?_ (by with_reducible assumption)) | go_size)); have z15_0 := Gr.size q15_0
      go_wp2_with fail; refine (H2.out _).mono ?_; rintro e w16 ⟨rfl, hb16⟩; have q16_0 : Gr W0 w16 := (by repeat' (first | (with_reducible exact Gr.refl _) | (with_reducible assumption) | (with_reducible refine Gr.alloc ?_ _) | (with_reducible refine Gr.drew ?_) | (with_reducible refine Gr.drewN ?_ _) | (with_reducible refine Gr.setCell ?_ ?_ _) | (with_reducible refine Gr.trans ?_ (by with_reducible assumption)) | go_size)); have z16_0 := Gr.size q16_0
      cases k
      · obtain ⟨b1, b2⟩ := HC.out (by trivial) (by trivial)
        go_wp2
        go_ret
        exact ⟨rfl, (by repeat' (first | (with_reducible exact Gr.refl _) | (with_reducible assumption) | (with_reducible refine Gr.alloc ?_ _) | (with_reducible refine Gr.drew ?_) | (with_reducible refine Gr.drewN ?_ _) | (with_reducible refine Gr.setCell ?_ ?_ _) | (with_reducible refine Gr.trans ?_ (by with_reducible assumption)) | go_size))⟩
      · obtain ⟨b1, b2⟩ := HD.out (by trivial) (by trivial)
        go_wp2
        go_ret
        exact ⟨rfl, (by repeat' (first | (with_reducible exact Gr.refl _) | (with_reducible assumption) | (with_reducible refine Gr.alloc ?_ _) | (with_reducible refine Gr.drew ?_) | (with_reducible refine Gr.drewN ?_ _) | (with_reducible refine Gr.setCell ?_ ?_ _) | (with_reducible refine Gr.trans ?_ (by with_reducible assumption)) | go_size))⟩
theorem products_any (m n h l : Int) (w : World) (m0 : -9223372036854775808 ≤ m) (m1 : m ≤ 9223372036854775807) (n0 : -9223372036854775808 ≤ n) (n1 : n ≤ 9223372036854775807) :
    Calls Try.prog 4 #[.int .i64 m, .int .i64 n, .agg #[.int .i64 h, .int .i64 l]] w fun e w' => e = .returned (.bool true) ∧ Gr w w' := by
  cases hv : Wd.vld h l
  · refine products_cut m n h l w m0 m1 n0 n1 false 0 1 0 false (fun W => ?_) (fun W => int_bad h l W hv) (fun h => by cases h) (fun _ => ⟨rfl, rfl⟩) (fun h => by cases h) (fun h => by cases h)
    have := rvalid_any h l W; rw [hv] at this; exact this
  · obtain ⟨v0, v1, v2, v3⟩ := Wd.vld_true hv
    refine products_cut m n h l w m0 m1 n0 n1 true _ _ (Wd.low (Wd.val h l)) (Wd.fits (Wd.val h l)) (fun W => ?_) (fun W => int_any h l W hv) (fun _ => ⟨_, _, _, fun W => rofwide_any h l W v0 v1 v2 v3, fun W => risint_any _ W⟩) (fun h => by cases h) (fun _ hf => ?_) (fun _ hf => ?_)
    · have := rvalid_any h l W; rw [hv] at this; exact this
    · unfold Wd.intQ Wd.intE; rw [hf]; exact ⟨rfl, rfl⟩
    · rw [Wd.low_fits hf]; unfold Wd.intQ Wd.intE; rw [hf]; simp
end Go.Proofs.Ytbaahlofabmljaa
