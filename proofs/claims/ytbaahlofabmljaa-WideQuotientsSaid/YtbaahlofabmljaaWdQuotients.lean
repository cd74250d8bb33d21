import Derived.Test.YtbaahlofabmljaaWdRefL
set_option linter.unusedVariables false
set_option linter.unusedSimpArgs false
namespace Go.Proofs.Ytbaahlofabmljaa
open Go.RowKit
set_option maxRecDepth 100000 in
set_option maxHeartbeats 2000000 in
theorem quotients_bad (h l b n m : Int) (w : World) (hv : Wd.vld h l = false) (b0 : -9223372036854775808 ≤ b) (b1 : b ≤ 9223372036854775807) (n0 : -9223372036854775808 ≤ n) (n1 : n ≤ 9223372036854775807) (m0 : -9223372036854775808 ≤ m) (m1 : m ≤ 9223372036854775807) :
    Calls Try.prog 3 #[.agg #[.int .i64 h, .int .i64 l], .int .i64 b, .int .i64 n, .int .i64 m] w fun e w' => e = .returned (.bool true) ∧ Gr w w' := by
  have hf := fun W => floor_any h l b W b0 b1
  have hc := fun W => ceil_any h l b W b0 b1
  have e0 : ∀ u, Wd.dvQ h l b u = 0 ∧ Wd.dvE h l b u = 1 := fun u => by unfold Wd.dvQ Wd.dvE; rw [hv]; exact ⟨rfl, rfl⟩
  rw [(e0 false).1, (e0 false).2] at hf
  rw [(e0 true).1, (e0 true).2] at hc
  have hr := fun W => rvalid_any h l W
  rw [hv] at hr
  have HF := Lib.hid hf; have HC := Lib.hid hc; have HR := Lib.hid hr
  have HS := Lib.hid (fun W => scale_any n m b W n0 n1 m0 m1 b0 b1)
  have HT := Lib.hid (fun W => rscale_any n m b W n0 n1 m0 m1 b0 b1)
  clear hf hc hr e0 hv n0 n1 m0 m1 b0 b1
  generalize Wd.scLo (n * m) b = x at *
  generalize Wd.scHi (n * m) b = y at *
  generalize Wd.scE (n * m) b = z at *
  have x1 : (x != x) = false := by simp
  have y1 : (y != y) = false := by simp
  have z1 : (z != z) = false := by simp
  go_enter Try.func3, Try.ntmps3
  go_wp2_with fail; refine (awake_any _).mono ?_; rintro e w1 ⟨rfl, hb1⟩; obtain ⟨hc1, hf1⟩ := Gr.cells hb1; have hz1 := Gr.size hb1; (try simp at hz1); (try have hy1_0 : w.heap.size < w1.heap.size := by omega); (try have hy1_1 : w.heap.size + 1 < w1.heap.size := by omega); (try have hy1_2 : w.heap.size + 1 + 1 < w1.heap.size := by omega); (try have hy1_3 : w.heap.size + 1 + 1 + 1 < w1.heap.size := by omega); (try have hy1_4 : w.heap.size + 1 + 1 + 1 + 1 < w1.heap.size := by omega); (try have hy1_5 : w.heap.size + 1 + 1 + 1 + 1 + 1 < w1.heap.size := by omega)
  have kc1_0 := hc1 (w.heap.size) 0 (by first | omega | (simp; done) | (simp; omega))
  have kc1_1 := hc1 (w.heap.size) 1 (by first | omega | (simp; done) | (simp; omega))
  clear hc1
  (try simp [go_sem, *] at kc1_0)
  (try simp [go_sem, *] at kc1_1)
  go_wp2_with fail; refine (HS.out _).mono ?_; rintro e w2 ⟨rfl, hb2⟩; obtain ⟨hc2, hf2⟩ := Gr.cells hb2; have hz2 := Gr.size hb2; (try simp at hz2); (try have hy2_0 : w.heap.size < w2.heap.size := by omega); (try have hy2_1 : w.heap.size + 1 < w2.heap.size := by omega); (try have hy2_2 : w.heap.size + 1 + 1 < w2.heap.size := by omega); (try have hy2_3 : w.heap.size + 1 + 1 + 1 < w2.heap.size := by omega); (try have hy2_4 : w.heap.size + 1 + 1 + 1 + 1 < w2.heap.size := by omega); (try have hy2_5 : w.heap.size + 1 + 1 + 1 + 1 + 1 < w2.heap.size := by omega); (try have hy2_1_0 : w1.heap.size < w2.heap.size := by omega); (try have hy2_1_1 : w1.heap.size + 1 < w2.heap.size := by omega)
  have kc2_0 := hc2 (w.heap.size) 0 (by first | omega | (simp; done) | (simp; omega))
  have kc2_1 := hc2 (w.heap.size) 1 (by first | omega | (simp; done) | (simp; omega))
  clear hc2
  (try simp [go_sem, *] at kc2_0)
  (try simp [go_sem, *] at kc2_1)
  go_wp2_with fail; refine (HT.out _).mono ?_; rintro e w3 ⟨rfl, hb3⟩; obtain ⟨hc3, hf3⟩ := Gr.cells hb3; have hz3 := Gr.size hb3; (try simp at hz3); (try have hy3_0 : w.heap.size < w3.heap.size := by omega); (try have hy3_1 : w.heap.size + 1 < w3.heap.size := by omega); (try have hy3_2 : w.heap.size + 1 + 1 < w3.heap.size := by omega); (try have hy3_3 : w.heap.size + 1 + 1 + 1 < w3.heap.size := by omega); (try have hy3_4 : w.heap.size + 1 + 1 + 1 + 1 < w3.heap.size := by omega); (try have hy3_5 : w.heap.size + 1 + 1 + 1 + 1 + 1 < w3.heap.size := by omega); (try have hy3_1_0 : w1.heap.size < w3.heap.size := by omega); (try have hy3_1_1 : w1.heap.size + 1 < w3.heap.size := by omega); (try have hy3_2_0 : w2.heap.size < w3.heap.size := by omega); (try have hy3_2_1 : w2.heap.size + 1 < w3.heap.size := by omega)
  have kc3_0 := hc3 (w.heap.size) 0 (by first | omega | (simp; done) | (simp; omega))
  have kc3_1 := hc3 (w.heap.size) 1 (by first | omega | (simp; done) | (simp; omega))
  clear hc3
  (try simp [go_sem, *] at kc3_0)
  (try simp [go_sem, *] at kc3_1)
  go_wp2_with fail; refine (HF.out _).mono ?_; rintro e w4 ⟨rfl, hb4⟩; obtain ⟨hc4, hf4⟩ := Gr.cells hb4; have hz4 := Gr.size hb4; (try simp at hz4); (try have hy4_0 : w.heap.size < w4.heap.size := by omega); (try have hy4_1 : w.heap.size + 1 < w4.heap.size := by omega); (try have hy4_2 : w.heap.size + 1 + 1 < w4.heap.size := by omega); (try have hy4_3 : w.heap.size + 1 + 1 + 1 < w4.heap.size := by omega); (try have hy4_4 : w.heap.size + 1 + 1 + 1 + 1 < w4.heap.size := by omega); (try have hy4_5 : w.heap.size + 1 + 1 + 1 + 1 + 1 < w4.heap.size := by omega); (try have hy4_1_0 : w1.heap.size < w4.heap.size := by omega); (try have hy4_1_1 : w1.heap.size + 1 < w4.heap.size := by omega); (try have hy4_2_0 : w2.heap.size < w4.heap.size := by omega); (try have hy4_2_1 : w2.heap.size + 1 < w4.heap.size := by omega); (try have hy4_3_0 : w3.heap.size < w4.heap.size := by omega); (try have hy4_3_1 : w3.heap.size + 1 < w4.heap.size := by omega)
  have kc4_0 := hc4 (w.heap.size) 0 (by first | omega | (simp; done) | (simp; omega))
  have kc4_1 := hc4 (w.heap.size) 1 (by first | omega | (simp; done) | (simp; omega))
  clear hc4
  (try simp [go_sem, *] at kc4_0)
  (try simp [go_sem, *] at kc4_1)
  go_wp2_with fail; refine (HC.out _).mono ?_; rintro e w5 ⟨rfl, hb5⟩; obtain ⟨hc5, hf5⟩ := Gr.cells hb5; have hz5 := Gr.size hb5; (try simp at hz5); (try have hy5_0 : w.heap.size < w5.heap.size := by omega); (try have hy5_1 : w.heap.size + 1 < w5.heap.size := by omega); (try have hy5_2 : w.heap.size + 1 + 1 < w5.heap.size := by omega); (try have hy5_3 : w.heap.size + 1 + 1 + 1 < w5.heap.size := by omega); (try have hy5_4 : w.heap.size + 1 + 1 + 1 + 1 < w5.heap.size := by omega); (try have hy5_5 : w.heap.size + 1 + 1 + 1 + 1 + 1 < w5.heap.size := by omega); (try have hy5_1_0 : w1.heap.size < w5.heap.size := by omega); (try have hy5_1_1 : w1.heap.size + 1 < w5.heap.size := by omega); (try have hy5_2_0 : w2.heap.size < w5.heap.size := by omega); (try have hy5_2_1 : w2.heap.size + 1 < w5.heap.size := by omega); (try have hy5_3_0 : w3.heap.size < w5.heap.size := by omega); (try have hy5_3_1 : w3.heap.size + 1 < w5.heap.size := by omega); (try have hy5_4_0 : w4.heap.size < w5.heap.size := by omega); (try have hy5_4_1 : w4.heap.size + 1 < w5.heap.size := by omega)
  have kc5_0 := hc5 (w.heap.size) 0 (by first | omega | (simp; done) | (simp; omega))
  have kc5_1 := hc5 (w.heap.size) 1 (by first | omega | (simp; done) | (simp; omega))
  clear hc5
  (try simp [go_sem, *] at kc5_0)
  (try simp [go_sem, *] at kc5_1)
  go_wp2_with fail; refine (HR.out _).mono ?_; rintro e w6 ⟨rfl, hb6⟩; obtain ⟨hc6, hf6⟩ := Gr.cells hb6; have hz6 := Gr.size hb6; (try simp at hz6); (try have hy6_0 : w.heap.size < w6.heap.size := by omega); (try have hy6_1 : w.heap.size + 1 < w6.heap.size := by omega); (try have hy6_2 : w.heap.size + 1 + 1 < w6.heap.size := by omega); (try have hy6_3 : w.heap.size + 1 + 1 + 1 < w6.heap.size := by omega); (try have hy6_4 : w.heap.size + 1 + 1 + 1 + 1 < w6.heap.size := by omega); (try have hy6_5 : w.heap.size + 1 + 1 + 1 + 1 + 1 < w6.heap.size := by omega); (try have hy6_1_0 : w1.heap.size < w6.heap.size := by omega); (try have hy6_1_1 : w1.heap.size + 1 < w6.heap.size := by omega); (try have hy6_2_0 : w2.heap.size < w6.heap.size := by omega); (try have hy6_2_1 : w2.heap.size + 1 < w6.heap.size := by omega); (try have hy6_3_0 : w3.heap.size < w6.heap.size := by omega); (try have hy6_3_1 : w3.heap.size + 1 < w6.heap.size := by omega); (try have hy6_4_0 : w4.heap.size < w6.heap.size := by omega); (try have hy6_4_1 : w4.heap.size + 1 < w6.heap.size := by omega); (try have hy6_5_0 : w5.heap.size < w6.heap.size := by omega); (try have hy6_5_1 : w5.heap.size + 1 < w6.heap.size := by omega)
  go_wp2
  go_ret
  exact ⟨rfl, (by repeat' (first | (with_reducible exact Gr.refl _) | (with_reducible assumption) | (with_reducible refine Gr.alloc ?_ _) | (with_reducible refine Gr.drew ?_) | (with_reducible refine Gr.drewN ?_ _) | (with_reducible refine Gr.setCell ?_ ?_ _) | (with_reducible refine Gr.trans ?_ (by with_reducible assumption)) | go_size))⟩
set_option maxRecDepth 100000 in
set_option maxHeartbeats 2000000 in
theorem quotients_good (h l b n m : Int) (w : World) (hv : Wd.vld h l = true) (b0 : -9223372036854775808 ≤ b) (b1 : b ≤ 9223372036854775807) (n0 : -9223372036854775808 ≤ n) (n1 : n ≤ 9223372036854775807) (m0 : -9223372036854775808 ≤ m) (m1 : m ≤ 9223372036854775807) :
    Calls Try.prog 3 #[.agg #[.int .i64 h, .int .i64 l], .int .i64 b, .int .i64 n, .int .i64 m] w fun e w' => e = .returned (.bool true) ∧ Gr w w' := by
  have hr := fun W => rvalid_any h l W
  rw [hv] at hr
  have HF := Lib.hid (fun W => floor_any h l b W b0 b1); have HC := Lib.hid (fun W => ceil_any h l b W b0 b1); have HR := Lib.hid hr
  have HS := Lib.hid (fun W => scale_any n m b W n0 n1 m0 m1 b0 b1)
  have HT := Lib.hid (fun W => rscale_any n m b W n0 n1 m0 m1 b0 b1)
  have HG := Lib.hid (fun W => rfloor_any h l b W hv b0 b1); have HD := Lib.hid (fun W => rceil_any h l b W hv b0 b1)
  clear hr hv n0 n1 m0 m1 b0 b1
  generalize Wd.scLo (n * m) b = x at *
  generalize Wd.scHi (n * m) b = y at *
  generalize Wd.scE (n * m) b = z at *
  generalize Wd.dvQ h l b false = p at *
  generalize Wd.dvE h l b false = q at *
  generalize Wd.dvQ h l b true = r at *
  generalize Wd.dvE h l b true = s at *
  have x1 : (x != x) = false := by simp
  have y1 : (y != y) = false := by simp
  have z1 : (z != z) = false := by simp
  have p1 : (p == p) = true := by simp
  have q1 : (q == q) = true := by simp
  have r1 : (r == r) = true := by simp
  have s1 : (s == s) = true := by simp
  go_enter Try.func3, Try.ntmps3
  go_wp2_with fail; refine (awake_any _).mono ?_; rintro e w1 ⟨rfl, hb1⟩; obtain ⟨hc1, hf1⟩ := Gr.cells hb1; have hz1 := Gr.size hb1; (try simp at hz1); (try have hy1_0 : w.heap.size < w1.heap.size := by omega); (try have hy1_1 : w.heap.size + 1 < w1.heap.size := by omega); (try have hy1_2 : w.heap.size + 1 + 1 < w1.heap.size := by omega); (try have hy1_3 : w.heap.size + 1 + 1 + 1 < w1.heap.size := by omega); (try have hy1_4 : w.heap.size + 1 + 1 + 1 + 1 < w1.heap.size := by omega); (try have hy1_5 : w.heap.size + 1 + 1 + 1 + 1 + 1 < w1.heap.size := by omega)
  have kc1_0 := hc1 (w.heap.size) 0 (by first | omega | (simp; done) | (simp; omega))
  have kc1_1 := hc1 (w.heap.size) 1 (by first | omega | (simp; done) | (simp; omega))
  clear hc1
  (try simp [go_sem, *] at kc1_0)
  (try simp [go_sem, *] at kc1_1)
  go_wp2_with fail; refine (HS.out _).mono ?_; rintro e w2 ⟨rfl, hb2⟩; obtain ⟨hc2, hf2⟩ := Gr.cells hb2; have hz2 := Gr.size hb2; (try simp at hz2); (try have hy2_0 : w.heap.size < w2.heap.size := by omega); (try have hy2_1 : w.heap.size + 1 < w2.heap.size := by omega); (try have hy2_2 : w.heap.size + 1 + 1 < w2.heap.size := by omega); (try have hy2_3 : w.heap.size + 1 + 1 + 1 < w2.heap.size := by omega); (try have hy2_4 : w.heap.size + 1 + 1 + 1 + 1 < w2.heap.size := by omega); (try have hy2_5 : w.heap.size + 1 + 1 + 1 + 1 + 1 < w2.heap.size := by omega); (try have hy2_1_0 : w1.heap.size < w2.heap.size := by omega); (try have hy2_1_1 : w1.heap.size + 1 < w2.heap.size := by omega)
  have kc2_0 := hc2 (w.heap.size) 0 (by first | omega | (simp; done) | (simp; omega))
  have kc2_1 := hc2 (w.heap.size) 1 (by first | omega | (simp; done) | (simp; omega))
  clear hc2
  (try simp [go_sem, *] at kc2_0)
  (try simp [go_sem, *] at kc2_1)
  go_wp2_with fail; refine (HT.out _).mono ?_; rintro e w3 ⟨rfl, hb3⟩; obtain ⟨hc3, hf3⟩ := Gr.cells hb3; have hz3 := Gr.size hb3; (try simp at hz3); (try have hy3_0 : w.heap.size < w3.heap.size := by omega); (try have hy3_1 : w.heap.size + 1 < w3.heap.size := by omega); (try have hy3_2 : w.heap.size + 1 + 1 < w3.heap.size := by omega); (try have hy3_3 : w.heap.size + 1 + 1 + 1 < w3.heap.size := by omega); (try have hy3_4 : w.heap.size + 1 + 1 + 1 + 1 < w3.heap.size := by omega); (try have hy3_5 : w.heap.size + 1 + 1 + 1 + 1 + 1 < w3.heap.size := by omega); (try have hy3_1_0 : w1.heap.size < w3.heap.size := by omega); (try have hy3_1_1 : w1.heap.size + 1 < w3.heap.size := by omega); (try have hy3_2_0 : w2.heap.size < w3.heap.size := by omega); (try have hy3_2_1 : w2.heap.size + 1 < w3.heap.size := by omega)
  have kc3_0 := hc3 (w.heap.size) 0 (by first | omega | (simp; done) | (simp; omega))
  have kc3_1 := hc3 (w.heap.size) 1 (by first | omega | (simp; done) | (simp; omega))
  clear hc3
  (try simp [go_sem, *] at kc3_0)
  (try simp [go_sem, *] at kc3_1)
  go_wp2_with fail; refine (HF.out _).mono ?_; rintro e w4 ⟨rfl, hb4⟩; obtain ⟨hc4, hf4⟩ := Gr.cells hb4; have hz4 := Gr.size hb4; (try simp at hz4); (try have hy4_0 : w.heap.size < w4.heap.size := by omega); (try have hy4_1 : w.heap.size + 1 < w4.heap.size := by omega); (try have hy4_2 : w.heap.size + 1 + 1 < w4.heap.size := by omega); (try have hy4_3 : w.heap.size + 1 + 1 + 1 < w4.heap.size := by omega); (try have hy4_4 : w.heap.size + 1 + 1 + 1 + 1 < w4.heap.size := by omega); (try have hy4_5 : w.heap.size + 1 + 1 + 1 + 1 + 1 < w4.heap.size := by omega); (try have hy4_1_0 : w1.heap.size < w4.heap.size := by omega); (try have hy4_1_1 : w1.heap.size + 1 < w4.heap.size := by omega); (try have hy4_2_0 : w2.heap.size < w4.heap.size := by omega); (try have hy4_2_1 : w2.heap.size + 1 < w4.heap.size := by omega); (try have hy4_3_0 : w3.heap.size < w4.heap.size := by omega); (try have hy4_3_1 : w3.heap.size + 1 < w4.heap.size := by omega)
  have kc4_0 := hc4 (w.heap.size) 0 (by first | omega | (simp; done) | (simp; omega))
  have kc4_1 := hc4 (w.heap.size) 1 (by first | omega | (simp; done) | (simp; omega))
  clear hc4
  (try simp [go_sem, *] at kc4_0)
  (try simp [go_sem, *] at kc4_1)
  go_wp2_with fail; refine (HC.out _).mono ?_; rintro e w5 ⟨rfl, hb5⟩; obtain ⟨hc5, hf5⟩ := Gr.cells hb5; have hz5 := Gr.size hb5; (try simp at hz5); (try have hy5_0 : w.heap.size < w5.heap.size := by omega); (try have hy5_1 : w.heap.size + 1 < w5.heap.size := by omega); (try have hy5_2 : w.heap.size + 1 + 1 < w5.heap.size := by omega); (try have hy5_3 : w.heap.size + 1 + 1 + 1 < w5.heap.size := by omega); (try have hy5_4 : w.heap.size + 1 + 1 + 1 + 1 < w5.heap.size := by omega); (try have hy5_5 : w.heap.size + 1 + 1 + 1 + 1 + 1 < w5.heap.size := by omega); (try have hy5_1_0 : w1.heap.size < w5.heap.size := by omega); (try have hy5_1_1 : w1.heap.size + 1 < w5.heap.size := by omega); (try have hy5_2_0 : w2.heap.size < w5.heap.size := by omega); (try have hy5_2_1 : w2.heap.size + 1 < w5.heap.size := by omega); (try have hy5_3_0 : w3.heap.size < w5.heap.size := by omega); (try have hy5_3_1 : w3.heap.size + 1 < w5.heap.size := by omega); (try have hy5_4_0 : w4.heap.size < w5.heap.size := by omega); (try have hy5_4_1 : w4.heap.size + 1 < w5.heap.size := by omega)
  have kc5_0 := hc5 (w.heap.size) 0 (by first | omega | (simp; done) | (simp; omega))
  have kc5_1 := hc5 (w.heap.size) 1 (by first | omega | (simp; done) | (simp; omega))
  clear hc5
  (try simp [go_sem, *] at kc5_0)
  (try simp [go_sem, *] at kc5_1)
  go_wp2_with fail; refine (HR.out _).mono ?_; rintro e w6 ⟨rfl, hb6⟩; obtain ⟨hc6, hf6⟩ := Gr.cells hb6; have hz6 := Gr.size hb6; (try simp at hz6); (try have hy6_0 : w.heap.size < w6.heap.size := by omega); (try have hy6_1 : w.heap.size + 1 < w6.heap.size := by omega); (try have hy6_2 : w.heap.size + 1 + 1 < w6.heap.size := by omega); (try have hy6_3 : w.heap.size + 1 + 1 + 1 < w6.heap.size := by omega); (try have hy6_4 : w.heap.size + 1 + 1 + 1 + 1 < w6.heap.size := by omega); (try have hy6_5 : w.heap.size + 1 + 1 + 1 + 1 + 1 < w6.heap.size := by omega); (try have hy6_1_0 : w1.heap.size < w6.heap.size := by omega); (try have hy6_1_1 : w1.heap.size + 1 < w6.heap.size := by omega); (try have hy6_2_0 : w2.heap.size < w6.heap.size := by omega); (try have hy6_2_1 : w2.heap.size + 1 < w6.heap.size := by omega); (try have hy6_3_0 : w3.heap.size < w6.heap.size := by omega); (try have hy6_3_1 : w3.heap.size + 1 < w6.heap.size := by omega); (try have hy6_4_0 : w4.heap.size < w6.heap.size := by omega); (try have hy6_4_1 : w4.heap.size + 1 < w6.heap.size := by omega); (try have hy6_5_0 : w5.heap.size < w6.heap.size := by omega); (try have hy6_5_1 : w5.heap.size + 1 < w6.heap.size := by omega)
  have kc6_0 := hc6 (w.heap.size) 0 (by first | omega | (simp; done) | (simp; omega))
  have kc6_1 := hc6 (w.heap.size) 1 (by first | omega | (simp; done) | (simp; omega))
  clear hc6
  (try simp [go_sem, *] at kc6_0)
  (try simp [go_sem, *] at kc6_1)
  go_wp2_with fail; refine (HG.out _).mono ?_; rintro e w7 ⟨rfl, hb7⟩; obtain ⟨hc7, hf7⟩ := Gr.cells hb7; have hz7 := Gr.size hb7; (try simp at hz7); (try have hy7_0 : w.heap.size < w7.heap.size := by omega); (try have hy7_1 : w.heap.size + 1 < w7.heap.size := by omega); (try have hy7_2 : w.heap.size + 1 + 1 < w7.heap.size := by omega); (try have hy7_3 : w.heap.size + 1 + 1 + 1 < w7.heap.size := by omega); (try have hy7_4 : w.heap.size + 1 + 1 + 1 + 1 < w7.heap.size := by omega); (try have hy7_5 : w.heap.size + 1 + 1 + 1 + 1 + 1 < w7.heap.size := by omega); (try have hy7_1_0 : w1.heap.size < w7.heap.size := by omega); (try have hy7_1_1 : w1.heap.size + 1 < w7.heap.size := by omega); (try have hy7_2_0 : w2.heap.size < w7.heap.size := by omega); (try have hy7_2_1 : w2.heap.size + 1 < w7.heap.size := by omega); (try have hy7_3_0 : w3.heap.size < w7.heap.size := by omega); (try have hy7_3_1 : w3.heap.size + 1 < w7.heap.size := by omega); (try have hy7_4_0 : w4.heap.size < w7.heap.size := by omega); (try have hy7_4_1 : w4.heap.size + 1 < w7.heap.size := by omega); (try have hy7_5_0 : w5.heap.size < w7.heap.size := by omega); (try have hy7_5_1 : w5.heap.size + 1 < w7.heap.size := by omega); (try have hy7_6_0 : w6.heap.size < w7.heap.size := by omega); (try have hy7_6_1 : w6.heap.size + 1 < w7.heap.size := by omega)
  have kc7_0 := hc7 (w.heap.size) 0 (by first | omega | (simp; done) | (simp; omega))
  have kc7_1 := hc7 (w.heap.size) 1 (by first | omega | (simp; done) | (simp; omega))
  clear hc7
  (try simp [go_sem, *] at kc7_0)
  (try simp [go_sem, *] at kc7_1)
  go_wp2_with fail; refine (HD.out _).mono ?_; rintro e w8 ⟨rfl, hb8⟩; obtain ⟨hc8, hf8⟩ := Gr.cells hb8; have hz8 := Gr.size hb8; (try simp at hz8); (try have hy8_0 : w.heap.size < w8.heap.size := by omega); (try have hy8_1 : w.heap.size + 1 < w8.heap.size := by omega); (try have hy8_2 : w.heap.size + 1 + 1 < w8.heap.size := by omega); (try have hy8_3 : w.heap.size + 1 + 1 + 1 < w8.heap.size := by omega); (try have hy8_4 : w.heap.size + 1 + 1 + 1 + 1 < w8.heap.size := by omega); (try have hy8_5 : w.heap.size + 1 + 1 + 1 + 1 + 1 < w8.heap.size := by omega); (try have hy8_1_0 : w1.heap.size < w8.heap.size := by omega); (try have hy8_1_1 : w1.heap.size + 1 < w8.heap.size := by omega); (try have hy8_2_0 : w2.heap.size < w8.heap.size := by omega); (try have hy8_2_1 : w2.heap.size + 1 < w8.heap.size := by omega); (try have hy8_3_0 : w3.heap.size < w8.heap.size := by omega); (try have hy8_3_1 : w3.heap.size + 1 < w8.heap.size := by omega); (try have hy8_4_0 : w4.heap.size < w8.heap.size := by omega); (try have hy8_4_1 : w4.heap.size + 1 < w8.heap.size := by omega); (try have hy8_5_0 : w5.heap.size < w8.heap.size := by omega); (try have hy8_5_1 : w5.heap.size + 1 < w8.heap.size := by omega); (try have hy8_6_0 : w6.heap.size < w8.heap.size := by omega); (try have hy8_6_1 : w6.heap.size + 1 < w8.heap.size := by omega); (try have hy8_7_0 : w7.heap.size < w8.heap.size := by omega); (try have hy8_7_1 : w7.heap.size + 1 < w8.heap.size := by omega)
  go_wp2
  go_ret
  exact ⟨rfl, (by repeat' (first | (with_reducible exact Gr.refl _) | (with_reducible assumption) | (with_reducible refine Gr.alloc ?_ _) | (with_reducible refine Gr.drew ?_) | (with_reducible refine Gr.drewN ?_ _) | (with_reducible refine Gr.setCell ?_ ?_ _) | (with_reducible refine Gr.trans ?_ (by with_reducible assumption)) | go_size))⟩
theorem quotients_any (h l b n m : Int) (w : World) (b0 : -9223372036854775808 ≤ b) (b1 : b ≤ 9223372036854775807) (n0 : -9223372036854775808 ≤ n) (n1 : n ≤ 9223372036854775807) (m0 : -9223372036854775808 ≤ m) (m1 : m ≤ 9223372036854775807) :
    Calls Try.prog 3 #[.agg #[.int .i64 h, .int .i64 l], .int .i64 b, .int .i64 n, .int .i64 m] w fun e w' => e = .returned (.bool true) ∧ Gr w w' := by
  cases hv : Wd.vld h l
  · exact quotients_bad h l b n m w hv b0 b1 n0 n1 m0 m1
  · exact quotients_good h l b n m w hv b0 b1 n0 n1 m0 m1
end Go.Proofs.Ytbaahlofabmljaa
