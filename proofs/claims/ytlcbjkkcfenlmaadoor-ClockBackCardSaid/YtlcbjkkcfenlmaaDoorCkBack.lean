import Derived.Test.YtlcbjkkcfenlmaaDoorCkTexts
import Derived.Test.YtlcbjkkcfenlmaaDoorCkPlainE
set_option linter.unusedVariables false
set_option linter.unusedSimpArgs false
namespace Go.Proofs.YtlcbjkkcfenlmaaDoor
open Go.RowKit
set_option maxRecDepth 100000 in
set_option maxHeartbeats 4000000 in
theorem back_000 (y m d t q g r : Int) (s : ByteArray) (w : World) (hs : s.size ≤ 60) (hg : g ≠ 0) (hr : r ≠ 0)
    (HN : ∀ W : World, Calls Tryd.prog 19 #[.agg #[.int .i64 y, .int .i64 m, .int .i64 d]] W fun e w' => e = .returned (.tuple #[.int .i64 0, .int .i64 1]) ∧ Gr W w')
    (HP : ∀ W : World, Calls Tryd.prog 32 #[.string s] W fun e w' => e = .returned (.tuple #[.int .i64 q, .int .i64 g]) ∧ Gr W w')
    (HS : ∀ W : World, Calls Tryd.prog 27 #[.int .i64 t] W fun e w' => e = .returned (.tuple #[.agg #[.int .i64 0, .int .i64 0, .int .i64 0], .int .i64 0, .int .i64 r]) ∧ Gr W w')
    : Calls Tryd.prog 10 #[.agg #[.int .i64 y, .int .i64 m, .int .i64 d], .int .i64 t, .string s] w fun e w' => e = .returned (.bool true) ∧ Gr w w' := by
  have HN := Lib.hid HN
  have HP := Lib.hid HP
  have HS := Lib.hid HS
  have h1 : decide ((60 : Int) < (s.size : Int)) = false := decide_eq_false (by omega)
  have e4 : (g == 0) = false := beq_eq_false_iff_ne.2 hg
  clear hg
  have e5 : (r != 0) = true := bne_iff_ne.2 hr
  clear hr
  go_enter Tryd.func10, Tryd.ntmps10
  
  go_wp2_with fail; refine (awake_any _).mono ?_; rintro e w1 ⟨rfl, hb1⟩; obtain ⟨hc1, hf1⟩ := Gr.cells hb1; have hz1 := Gr.size hb1; (try simp at hz1); (try have hy1_0 : w.heap.size < w1.heap.size := by omega); (try have hy1_1 : w.heap.size + 1 < w1.heap.size := by omega); (try have hy1_2 : w.heap.size + 1 + 1 < w1.heap.size := by omega); (try have hy1_3 : w.heap.size + 1 + 1 + 1 < w1.heap.size := by omega); (try have hy1_4 : w.heap.size + 1 + 1 + 1 + 1 < w1.heap.size := by omega); (try have hy1_5 : w.heap.size + 1 + 1 + 1 + 1 + 1 < w1.heap.size := by omega)
  have kc1_0 := hc1 (w.heap.size) 0 (by first | omega | (simp; done) | (simp; omega))
  have kc1_1 := hc1 (w.heap.size) 1 (by first | omega | (simp; done) | (simp; omega))
  have kc1_2 := hc1 (w.heap.size) 2 (by first | omega | (simp; done) | (simp; omega))
  clear hc1
  (try simp [go_sem, *] at kc1_0)
  (try simp [go_sem, *] at kc1_1)
  (try simp [go_sem, *] at kc1_2)
  go_wp2_with fail; refine (HN.out _).mono ?_; rintro e w2 ⟨rfl, hb2⟩; obtain ⟨hc2, hf2⟩ := Gr.cells hb2; have hz2 := Gr.size hb2; (try simp at hz2); (try have hy2_0 : w.heap.size < w2.heap.size := by omega); (try have hy2_1 : w.heap.size + 1 < w2.heap.size := by omega); (try have hy2_2 : w.heap.size + 1 + 1 < w2.heap.size := by omega); (try have hy2_3 : w.heap.size + 1 + 1 + 1 < w2.heap.size := by omega); (try have hy2_4 : w.heap.size + 1 + 1 + 1 + 1 < w2.heap.size := by omega); (try have hy2_5 : w.heap.size + 1 + 1 + 1 + 1 + 1 < w2.heap.size := by omega); (try have hy2_1_0 : w1.heap.size < w2.heap.size := by omega); (try have hy2_1_1 : w1.heap.size + 1 < w2.heap.size := by omega)
  have kc2_0 := hc2 (w.heap.size) 0 (by first | omega | (simp; done) | (simp; omega))
  have kc2_1 := hc2 (w.heap.size) 1 (by first | omega | (simp; done) | (simp; omega))
  have kc2_2 := hc2 (w.heap.size) 2 (by first | omega | (simp; done) | (simp; omega))
  clear hc2
  (try simp [go_sem, *] at kc2_0)
  (try simp [go_sem, *] at kc2_1)
  (try simp [go_sem, *] at kc2_2)
  go_wp2_with fail; refine (HP.out _).mono ?_; rintro e w3 ⟨rfl, hb3⟩; obtain ⟨hc3, hf3⟩ := Gr.cells hb3; have hz3 := Gr.size hb3; (try simp at hz3); (try have hy3_0 : w.heap.size < w3.heap.size := by omega); (try have hy3_1 : w.heap.size + 1 < w3.heap.size := by omega); (try have hy3_2 : w.heap.size + 1 + 1 < w3.heap.size := by omega); (try have hy3_3 : w.heap.size + 1 + 1 + 1 < w3.heap.size := by omega); (try have hy3_4 : w.heap.size + 1 + 1 + 1 + 1 < w3.heap.size := by omega); (try have hy3_5 : w.heap.size + 1 + 1 + 1 + 1 + 1 < w3.heap.size := by omega); (try have hy3_1_0 : w1.heap.size < w3.heap.size := by omega); (try have hy3_1_1 : w1.heap.size + 1 < w3.heap.size := by omega); (try have hy3_2_0 : w2.heap.size < w3.heap.size := by omega); (try have hy3_2_1 : w2.heap.size + 1 < w3.heap.size := by omega)
  have kc3_0 := hc3 (w.heap.size) 0 (by first | omega | (simp; done) | (simp; omega))
  have kc3_1 := hc3 (w.heap.size) 1 (by first | omega | (simp; done) | (simp; omega))
  have kc3_2 := hc3 (w.heap.size) 2 (by first | omega | (simp; done) | (simp; omega))
  clear hc3
  (try simp [go_sem, *] at kc3_0)
  (try simp [go_sem, *] at kc3_1)
  (try simp [go_sem, *] at kc3_2)
  go_wp2_with fail; refine (HS.out _).mono ?_; rintro e w4 ⟨rfl, hb4⟩; obtain ⟨hc4, hf4⟩ := Gr.cells hb4; have hz4 := Gr.size hb4; (try simp at hz4); (try have hy4_0 : w.heap.size < w4.heap.size := by omega); (try have hy4_1 : w.heap.size + 1 < w4.heap.size := by omega); (try have hy4_2 : w.heap.size + 1 + 1 < w4.heap.size := by omega); (try have hy4_3 : w.heap.size + 1 + 1 + 1 < w4.heap.size := by omega); (try have hy4_4 : w.heap.size + 1 + 1 + 1 + 1 < w4.heap.size := by omega); (try have hy4_5 : w.heap.size + 1 + 1 + 1 + 1 + 1 < w4.heap.size := by omega); (try have hy4_1_0 : w1.heap.size < w4.heap.size := by omega); (try have hy4_1_1 : w1.heap.size + 1 < w4.heap.size := by omega); (try have hy4_2_0 : w2.heap.size < w4.heap.size := by omega); (try have hy4_2_1 : w2.heap.size + 1 < w4.heap.size := by omega); (try have hy4_3_0 : w3.heap.size < w4.heap.size := by omega); (try have hy4_3_1 : w3.heap.size + 1 < w4.heap.size := by omega)
  have kc4_0 := hc4 (w.heap.size) 0 (by first | omega | (simp; done) | (simp; omega))
  have kc4_1 := hc4 (w.heap.size) 1 (by first | omega | (simp; done) | (simp; omega))
  have kc4_2 := hc4 (w.heap.size) 2 (by first | omega | (simp; done) | (simp; omega))
  clear hc4
  (try simp [go_sem, *] at kc4_0)
  (try simp [go_sem, *] at kc4_1)
  (try simp [go_sem, *] at kc4_2)
  go_wp2
  go_ret
  exact ⟨rfl, (by repeat' (first | (with_reducible exact Gr.refl _) | (with_reducible assumption) | (with_reducible refine Gr.alloc ?_ _) | (with_reducible refine Gr.drew ?_) | (with_reducible refine Gr.drewN ?_ _) | (with_reducible refine Gr.setCell ?_ ?_ _) | (with_reducible refine Gr.trans ?_ (by with_reducible assumption)) | go_size))⟩
set_option maxRecDepth 100000 in
set_option maxHeartbeats 4000000 in
theorem back_001 (y m d t q g y1 m1 d1 u : Int) (L : List UInt8) (s : ByteArray) (w : World) (hs : s.size ≤ 60) (hg : g ≠ 0) (u0 : 0 ≤ u) (u1 : u < 86400) (hL : L.length = 19)
    (HN : ∀ W : World, Calls Tryd.prog 19 #[.agg #[.int .i64 y, .int .i64 m, .int .i64 d]] W fun e w' => e = .returned (.tuple #[.int .i64 0, .int .i64 1]) ∧ Gr W w')
    (HP : ∀ W : World, Calls Tryd.prog 32 #[.string s] W fun e w' => e = .returned (.tuple #[.int .i64 q, .int .i64 g]) ∧ Gr W w')
    (HS : ∀ W : World, Calls Tryd.prog 27 #[.int .i64 t] W fun e w' => e = .returned (.tuple #[.agg #[.int .i64 y1, .int .i64 m1, .int .i64 d1], .int .i64 u, .int .i64 0]) ∧ Gr W w')
    (HA : ∀ W : World, Calls Tryd.prog 26 #[.agg #[.int .i64 y1, .int .i64 m1, .int .i64 d1], .int .i64 u] W fun e w' => e = .returned (.tuple #[.int .i64 t, .int .i64 0]) ∧ Gr W w')
    (HX : ∀ W : World, Gr w W → Calls Tryd.prog 30 #[.int .i64 t] W fun e w' => e = .returned (.tuple #[.string ⟨L.toArray⟩, .int .i64 0]) ∧ Gr W w')
    (HB : ∀ W : World, Calls Tryd.prog 32 #[.string ⟨L.toArray⟩] W fun e w' => e = .returned (.tuple #[.int .i64 t, .int .i64 0]) ∧ Gr W w')
    (HV : ∀ W : World, Calls Tryd.prog 22 #[.agg #[.int .i64 y1, .int .i64 m1, .int .i64 d1]] W fun e w' => e = .returned (.bool true) ∧ Gr W w')
    : Calls Tryd.prog 10 #[.agg #[.int .i64 y, .int .i64 m, .int .i64 d], .int .i64 t, .string s] w fun e w' => e = .returned (.bool true) ∧ Gr w w' := by
  have HN := Lib.hid HN
  have HP := Lib.hid HP
  have HS := Lib.hid HS
  have HA := Lib.hid HA
  have HX := Lib.hid HX
  have HB := Lib.hid HB
  have HV := Lib.hid HV
  have h1 : decide ((60 : Int) < (s.size : Int)) = false := decide_eq_false (by omega)
  have e4 : (g == 0) = false := beq_eq_false_iff_ne.2 hg
  clear hg
  have e5 : (t == t) = true := by simp
  have x0 : decide (0 ≤ u) = true := decide_eq_true u0
  have x1 : decide (u < 86400) = true := decide_eq_true u1
  go_enter Tryd.func10, Tryd.ntmps10
  
  go_wp2_with fail; refine (awake_any _).mono ?_; rintro e w1 ⟨rfl, hb1⟩; obtain ⟨hc1, hf1⟩ := Gr.cells hb1; have hz1 := Gr.size hb1; (try simp at hz1); (try have hy1_0 : w.heap.size < w1.heap.size := by omega); (try have hy1_1 : w.heap.size + 1 < w1.heap.size := by omega); (try have hy1_2 : w.heap.size + 1 + 1 < w1.heap.size := by omega); (try have hy1_3 : w.heap.size + 1 + 1 + 1 < w1.heap.size := by omega); (try have hy1_4 : w.heap.size + 1 + 1 + 1 + 1 < w1.heap.size := by omega); (try have hy1_5 : w.heap.size + 1 + 1 + 1 + 1 + 1 < w1.heap.size := by omega)
  have kc1_0 := hc1 (w.heap.size) 0 (by first | omega | (simp; done) | (simp; omega))
  have kc1_1 := hc1 (w.heap.size) 1 (by first | omega | (simp; done) | (simp; omega))
  have kc1_2 := hc1 (w.heap.size) 2 (by first | omega | (simp; done) | (simp; omega))
  clear hc1
  (try simp [go_sem, *] at kc1_0)
  (try simp [go_sem, *] at kc1_1)
  (try simp [go_sem, *] at kc1_2)
  go_wp2_with fail; refine (HN.out _).mono ?_; rintro e w2 ⟨rfl, hb2⟩; obtain ⟨hc2, hf2⟩ := Gr.cells hb2; have hz2 := Gr.size hb2; (try simp at hz2); (try have hy2_0 : w.heap.size < w2.heap.size := by omega); (try have hy2_1 : w.heap.size + 1 < w2.heap.size := by omega); (try have hy2_2 : w.heap.size + 1 + 1 < w2.heap.size := by omega); (try have hy2_3 : w.heap.size + 1 + 1 + 1 < w2.heap.size := by omega); (try have hy2_4 : w.heap.size + 1 + 1 + 1 + 1 < w2.heap.size := by omega); (try have hy2_5 : w.heap.size + 1 + 1 + 1 + 1 + 1 < w2.heap.size := by omega); (try have hy2_1_0 : w1.heap.size < w2.heap.size := by omega); (try have hy2_1_1 : w1.heap.size + 1 < w2.heap.size := by omega)
  have kc2_0 := hc2 (w.heap.size) 0 (by first | omega | (simp; done) | (simp; omega))
  have kc2_1 := hc2 (w.heap.size) 1 (by first | omega | (simp; done) | (simp; omega))
  have kc2_2 := hc2 (w.heap.size) 2 (by first | omega | (simp; done) | (simp; omega))
  clear hc2
  (try simp [go_sem, *] at kc2_0)
  (try simp [go_sem, *] at kc2_1)
  (try simp [go_sem, *] at kc2_2)
  go_wp2_with fail; refine (HP.out _).mono ?_; rintro e w3 ⟨rfl, hb3⟩; obtain ⟨hc3, hf3⟩ := Gr.cells hb3; have hz3 := Gr.size hb3; (try simp at hz3); (try have hy3_0 : w.heap.size < w3.heap.size := by omega); (try have hy3_1 : w.heap.size + 1 < w3.heap.size := by omega); (try have hy3_2 : w.heap.size + 1 + 1 < w3.heap.size := by omega); (try have hy3_3 : w.heap.size + 1 + 1 + 1 < w3.heap.size := by omega); (try have hy3_4 : w.heap.size + 1 + 1 + 1 + 1 < w3.heap.size := by omega); (try have hy3_5 : w.heap.size + 1 + 1 + 1 + 1 + 1 < w3.heap.size := by omega); (try have hy3_1_0 : w1.heap.size < w3.heap.size := by omega); (try have hy3_1_1 : w1.heap.size + 1 < w3.heap.size := by omega); (try have hy3_2_0 : w2.heap.size < w3.heap.size := by omega); (try have hy3_2_1 : w2.heap.size + 1 < w3.heap.size := by omega)
  have kc3_0 := hc3 (w.heap.size) 0 (by first | omega | (simp; done) | (simp; omega))
  have kc3_1 := hc3 (w.heap.size) 1 (by first | omega | (simp; done) | (simp; omega))
  have kc3_2 := hc3 (w.heap.size) 2 (by first | omega | (simp; done) | (simp; omega))
  clear hc3
  (try simp [go_sem, *] at kc3_0)
  (try simp [go_sem, *] at kc3_1)
  (try simp [go_sem, *] at kc3_2)
  go_wp2_with fail; refine (HS.out _).mono ?_; rintro e w4 ⟨rfl, hb4⟩; obtain ⟨hc4, hf4⟩ := Gr.cells hb4; have hz4 := Gr.size hb4; (try simp at hz4); (try have hy4_0 : w.heap.size < w4.heap.size := by omega); (try have hy4_1 : w.heap.size + 1 < w4.heap.size := by omega); (try have hy4_2 : w.heap.size + 1 + 1 < w4.heap.size := by omega); (try have hy4_3 : w.heap.size + 1 + 1 + 1 < w4.heap.size := by omega); (try have hy4_4 : w.heap.size + 1 + 1 + 1 + 1 < w4.heap.size := by omega); (try have hy4_5 : w.heap.size + 1 + 1 + 1 + 1 + 1 < w4.heap.size := by omega); (try have hy4_1_0 : w1.heap.size < w4.heap.size := by omega); (try have hy4_1_1 : w1.heap.size + 1 < w4.heap.size := by omega); (try have hy4_2_0 : w2.heap.size < w4.heap.size := by omega); (try have hy4_2_1 : w2.heap.size + 1 < w4.heap.size := by omega); (try have hy4_3_0 : w3.heap.size < w4.heap.size := by omega); (try have hy4_3_1 : w3.heap.size + 1 < w4.heap.size := by omega)
  have kc4_0 := hc4 (w.heap.size) 0 (by first | omega | (simp; done) | (simp; omega))
  have kc4_1 := hc4 (w.heap.size) 1 (by first | omega | (simp; done) | (simp; omega))
  have kc4_2 := hc4 (w.heap.size) 2 (by first | omega | (simp; done) | (simp; omega))
  clear hc4
  (try simp [go_sem, *] at kc4_0)
  (try simp [go_sem, *] at kc4_1)
  (try simp [go_sem, *] at kc4_2)
  
  go_wp2_with fail; refine (HA.out _).mono ?_; rintro e w5 ⟨rfl, hb5⟩; obtain ⟨hc5, hf5⟩ := Gr.cells hb5; have hz5 := Gr.size hb5; (try simp at hz5); (try have hy5_0 : w.heap.size < w5.heap.size := by omega); (try have hy5_1 : w.heap.size + 1 < w5.heap.size := by omega); (try have hy5_2 : w.heap.size + 1 + 1 < w5.heap.size := by omega); (try have hy5_3 : w.heap.size + 1 + 1 + 1 < w5.heap.size := by omega); (try have hy5_4 : w.heap.size + 1 + 1 + 1 + 1 < w5.heap.size := by omega); (try have hy5_5 : w.heap.size + 1 + 1 + 1 + 1 + 1 < w5.heap.size := by omega); (try have hy5_1_0 : w1.heap.size < w5.heap.size := by omega); (try have hy5_1_1 : w1.heap.size + 1 < w5.heap.size := by omega); (try have hy5_2_0 : w2.heap.size < w5.heap.size := by omega); (try have hy5_2_1 : w2.heap.size + 1 < w5.heap.size := by omega); (try have hy5_3_0 : w3.heap.size < w5.heap.size := by omega); (try have hy5_3_1 : w3.heap.size + 1 < w5.heap.size := by omega); (try have hy5_4_0 : w4.heap.size < w5.heap.size := by omega); (try have hy5_4_1 : w4.heap.size + 1 < w5.heap.size := by omega)
  have kc5_0 := hc5 (w.heap.size) 0 (by first | omega | (simp; done) | (simp; omega))
  have kc5_1 := hc5 (w.heap.size) 1 (by first | omega | (simp; done) | (simp; omega))
  have kc5_2 := hc5 (w.heap.size) 2 (by first | omega | (simp; done) | (simp; omega))
  have kc5_3 := hc5 (w4.heap.size) 0 (by first | omega | (simp; done) | (simp; omega))
  have kc5_4 := hc5 (w4.heap.size) 1 (by first | omega | (simp; done) | (simp; omega))
  have kc5_5 := hc5 (w4.heap.size) 2 (by first | omega | (simp; done) | (simp; omega))
  clear hc5
  (try simp [go_sem, *] at kc5_0)
  (try simp [go_sem, *] at kc5_1)
  (try simp [go_sem, *] at kc5_2)
  (try simp [go_sem, *] at kc5_3)
  (try simp [go_sem, *] at kc5_4)
  (try simp [go_sem, *] at kc5_5)
  go_wp2_with fail; refine (HX.out _ (by repeat' (first | (with_reducible exact Gr.refl _) | (with_reducible assumption) | (with_reducible refine Gr.alloc ?_ _) | (with_reducible refine Gr.drew ?_) | (with_reducible refine Gr.drewN ?_ _) | (with_reducible refine Gr.setCell ?_ ?_ _) | (with_reducible refine Gr.trans ?_ (by with_reducible assumption)) | go_size))).mono ?_; rintro e w6 ⟨rfl, hb6⟩; obtain ⟨hc6, hf6⟩ := Gr.cells hb6; have hz6 := Gr.size hb6; (try simp at hz6); (try have hy6_0 : w.heap.size < w6.heap.size := by omega); (try have hy6_1 : w.heap.size + 1 < w6.heap.size := by omega); (try have hy6_2 : w.heap.size + 1 + 1 < w6.heap.size := by omega); (try have hy6_3 : w.heap.size + 1 + 1 + 1 < w6.heap.size := by omega); (try have hy6_4 : w.heap.size + 1 + 1 + 1 + 1 < w6.heap.size := by omega); (try have hy6_5 : w.heap.size + 1 + 1 + 1 + 1 + 1 < w6.heap.size := by omega); (try have hy6_1_0 : w1.heap.size < w6.heap.size := by omega); (try have hy6_1_1 : w1.heap.size + 1 < w6.heap.size := by omega); (try have hy6_2_0 : w2.heap.size < w6.heap.size := by omega); (try have hy6_2_1 : w2.heap.size + 1 < w6.heap.size := by omega); (try have hy6_3_0 : w3.heap.size < w6.heap.size := by omega); (try have hy6_3_1 : w3.heap.size + 1 < w6.heap.size := by omega); (try have hy6_4_0 : w4.heap.size < w6.heap.size := by omega); (try have hy6_4_1 : w4.heap.size + 1 < w6.heap.size := by omega); (try have hy6_5_0 : w5.heap.size < w6.heap.size := by omega); (try have hy6_5_1 : w5.heap.size + 1 < w6.heap.size := by omega)
  have kc6_0 := hc6 (w.heap.size) 0 (by first | omega | (simp; done) | (simp; omega))
  have kc6_1 := hc6 (w.heap.size) 1 (by first | omega | (simp; done) | (simp; omega))
  have kc6_2 := hc6 (w.heap.size) 2 (by first | omega | (simp; done) | (simp; omega))
  have kc6_3 := hc6 (w4.heap.size) 0 (by first | omega | (simp; done) | (simp; omega))
  have kc6_4 := hc6 (w4.heap.size) 1 (by first | omega | (simp; done) | (simp; omega))
  have kc6_5 := hc6 (w4.heap.size) 2 (by first | omega | (simp; done) | (simp; omega))
  clear hc6
  (try simp [go_sem, *] at kc6_0)
  (try simp [go_sem, *] at kc6_1)
  (try simp [go_sem, *] at kc6_2)
  (try simp [go_sem, *] at kc6_3)
  (try simp [go_sem, *] at kc6_4)
  (try simp [go_sem, *] at kc6_5)
  go_wp2_with fail; refine (HB.out _).mono ?_; rintro e w7 ⟨rfl, hb7⟩; obtain ⟨hc7, hf7⟩ := Gr.cells hb7; have hz7 := Gr.size hb7; (try simp at hz7); (try have hy7_0 : w.heap.size < w7.heap.size := by omega); (try have hy7_1 : w.heap.size + 1 < w7.heap.size := by omega); (try have hy7_2 : w.heap.size + 1 + 1 < w7.heap.size := by omega); (try have hy7_3 : w.heap.size + 1 + 1 + 1 < w7.heap.size := by omega); (try have hy7_4 : w.heap.size + 1 + 1 + 1 + 1 < w7.heap.size := by omega); (try have hy7_5 : w.heap.size + 1 + 1 + 1 + 1 + 1 < w7.heap.size := by omega); (try have hy7_1_0 : w1.heap.size < w7.heap.size := by omega); (try have hy7_1_1 : w1.heap.size + 1 < w7.heap.size := by omega); (try have hy7_2_0 : w2.heap.size < w7.heap.size := by omega); (try have hy7_2_1 : w2.heap.size + 1 < w7.heap.size := by omega); (try have hy7_3_0 : w3.heap.size < w7.heap.size := by omega); (try have hy7_3_1 : w3.heap.size + 1 < w7.heap.size := by omega); (try have hy7_4_0 : w4.heap.size < w7.heap.size := by omega); (try have hy7_4_1 : w4.heap.size + 1 < w7.heap.size := by omega); (try have hy7_5_0 : w5.heap.size < w7.heap.size := by omega); (try have hy7_5_1 : w5.heap.size + 1 < w7.heap.size := by omega); (try have hy7_6_0 : w6.heap.size < w7.heap.size := by omega); (try have hy7_6_1 : w6.heap.size + 1 < w7.heap.size := by omega)
  have kc7_0 := hc7 (w.heap.size) 0 (by first | omega | (simp; done) | (simp; omega))
  have kc7_1 := hc7 (w.heap.size) 1 (by first | omega | (simp; done) | (simp; omega))
  have kc7_2 := hc7 (w.heap.size) 2 (by first | omega | (simp; done) | (simp; omega))
  have kc7_3 := hc7 (w4.heap.size) 0 (by first | omega | (simp; done) | (simp; omega))
  have kc7_4 := hc7 (w4.heap.size) 1 (by first | omega | (simp; done) | (simp; omega))
  have kc7_5 := hc7 (w4.heap.size) 2 (by first | omega | (simp; done) | (simp; omega))
  clear hc7
  (try simp [go_sem, *] at kc7_0)
  (try simp [go_sem, *] at kc7_1)
  (try simp [go_sem, *] at kc7_2)
  (try simp [go_sem, *] at kc7_3)
  (try simp [go_sem, *] at kc7_4)
  (try simp [go_sem, *] at kc7_5)
  go_wp2_with fail; refine (HV.out _).mono ?_; rintro e w8 ⟨rfl, hb8⟩; obtain ⟨hc8, hf8⟩ := Gr.cells hb8; have hz8 := Gr.size hb8; (try simp at hz8); (try have hy8_0 : w.heap.size < w8.heap.size := by omega); (try have hy8_1 : w.heap.size + 1 < w8.heap.size := by omega); (try have hy8_2 : w.heap.size + 1 + 1 < w8.heap.size := by omega); (try have hy8_3 : w.heap.size + 1 + 1 + 1 < w8.heap.size := by omega); (try have hy8_4 : w.heap.size + 1 + 1 + 1 + 1 < w8.heap.size := by omega); (try have hy8_5 : w.heap.size + 1 + 1 + 1 + 1 + 1 < w8.heap.size := by omega); (try have hy8_1_0 : w1.heap.size < w8.heap.size := by omega); (try have hy8_1_1 : w1.heap.size + 1 < w8.heap.size := by omega); (try have hy8_2_0 : w2.heap.size < w8.heap.size := by omega); (try have hy8_2_1 : w2.heap.size + 1 < w8.heap.size := by omega); (try have hy8_3_0 : w3.heap.size < w8.heap.size := by omega); (try have hy8_3_1 : w3.heap.size + 1 < w8.heap.size := by omega); (try have hy8_4_0 : w4.heap.size < w8.heap.size := by omega); (try have hy8_4_1 : w4.heap.size + 1 < w8.heap.size := by omega); (try have hy8_5_0 : w5.heap.size < w8.heap.size := by omega); (try have hy8_5_1 : w5.heap.size + 1 < w8.heap.size := by omega); (try have hy8_6_0 : w6.heap.size < w8.heap.size := by omega); (try have hy8_6_1 : w6.heap.size + 1 < w8.heap.size := by omega); (try have hy8_7_0 : w7.heap.size < w8.heap.size := by omega); (try have hy8_7_1 : w7.heap.size + 1 < w8.heap.size := by omega)
  have kc8_0 := hc8 (w.heap.size) 0 (by first | omega | (simp; done) | (simp; omega))
  have kc8_1 := hc8 (w.heap.size) 1 (by first | omega | (simp; done) | (simp; omega))
  have kc8_2 := hc8 (w.heap.size) 2 (by first | omega | (simp; done) | (simp; omega))
  have kc8_3 := hc8 (w4.heap.size) 0 (by first | omega | (simp; done) | (simp; omega))
  have kc8_4 := hc8 (w4.heap.size) 1 (by first | omega | (simp; done) | (simp; omega))
  have kc8_5 := hc8 (w4.heap.size) 2 (by first | omega | (simp; done) | (simp; omega))
  clear hc8
  (try simp [go_sem, *] at kc8_0)
  (try simp [go_sem, *] at kc8_1)
  (try simp [go_sem, *] at kc8_2)
  (try simp [go_sem, *] at kc8_3)
  (try simp [go_sem, *] at kc8_4)
  (try simp [go_sem, *] at kc8_5)
  go_wp2
  go_ret
  exact ⟨rfl, (by repeat' (first | (with_reducible exact Gr.refl _) | (with_reducible assumption) | (with_reducible refine Gr.alloc ?_ _) | (with_reducible refine Gr.drew ?_) | (with_reducible refine Gr.drewN ?_ _) | (with_reducible refine Gr.setCell ?_ ?_ _) | (with_reducible refine Gr.trans ?_ (by with_reducible assumption)) | go_size))⟩
set_option maxRecDepth 100000 in
set_option maxHeartbeats 4000000 in
theorem back_010 (y m d t q r : Int) (s : ByteArray) (w : World) (hs : s.size ≤ 60) (hr : r ≠ 0)
    (HN : ∀ W : World, Calls Tryd.prog 19 #[.agg #[.int .i64 y, .int .i64 m, .int .i64 d]] W fun e w' => e = .returned (.tuple #[.int .i64 0, .int .i64 1]) ∧ Gr W w')
    (HP : ∀ W : World, Calls Tryd.prog 32 #[.string s] W fun e w' => e = .returned (.tuple #[.int .i64 q, .int .i64 0]) ∧ Gr W w')
    (HT : ∀ W : World, Gr w W → Calls Tryd.prog 30 #[.int .i64 q] W fun e w' => e = .returned (.tuple #[.string s, .int .i64 0]) ∧ Gr W w')
    (HS : ∀ W : World, Calls Tryd.prog 27 #[.int .i64 t] W fun e w' => e = .returned (.tuple #[.agg #[.int .i64 0, .int .i64 0, .int .i64 0], .int .i64 0, .int .i64 r]) ∧ Gr W w')
    : Calls Tryd.prog 10 #[.agg #[.int .i64 y, .int .i64 m, .int .i64 d], .int .i64 t, .string s] w fun e w' => e = .returned (.bool true) ∧ Gr w w' := by
  have HN := Lib.hid HN
  have HP := Lib.hid HP
  have HT := Lib.hid HT
  have HS := Lib.hid HS
  have h1 : decide ((60 : Int) < (s.size : Int)) = false := decide_eq_false (by omega)
  have e5 : (r != 0) = true := bne_iff_ne.2 hr
  clear hr
  go_enter Tryd.func10, Tryd.ntmps10
  
  go_wp2_with fail; refine (awake_any _).mono ?_; rintro e w1 ⟨rfl, hb1⟩; obtain ⟨hc1, hf1⟩ := Gr.cells hb1; have hz1 := Gr.size hb1; (try simp at hz1); (try have hy1_0 : w.heap.size < w1.heap.size := by omega); (try have hy1_1 : w.heap.size + 1 < w1.heap.size := by omega); (try have hy1_2 : w.heap.size + 1 + 1 < w1.heap.size := by omega); (try have hy1_3 : w.heap.size + 1 + 1 + 1 < w1.heap.size := by omega); (try have hy1_4 : w.heap.size + 1 + 1 + 1 + 1 < w1.heap.size := by omega); (try have hy1_5 : w.heap.size + 1 + 1 + 1 + 1 + 1 < w1.heap.size := by omega)
  have kc1_0 := hc1 (w.heap.size) 0 (by first | omega | (simp; done) | (simp; omega))
  have kc1_1 := hc1 (w.heap.size) 1 (by first | omega | (simp; done) | (simp; omega))
  have kc1_2 := hc1 (w.heap.size) 2 (by first | omega | (simp; done) | (simp; omega))
  clear hc1
  (try simp [go_sem, *] at kc1_0)
  (try simp [go_sem, *] at kc1_1)
  (try simp [go_sem, *] at kc1_2)
  go_wp2_with fail; refine (HN.out _).mono ?_; rintro e w2 ⟨rfl, hb2⟩; obtain ⟨hc2, hf2⟩ := Gr.cells hb2; have hz2 := Gr.size hb2; (try simp at hz2); (try have hy2_0 : w.heap.size < w2.heap.size := by omega); (try have hy2_1 : w.heap.size + 1 < w2.heap.size := by omega); (try have hy2_2 : w.heap.size + 1 + 1 < w2.heap.size := by omega); (try have hy2_3 : w.heap.size + 1 + 1 + 1 < w2.heap.size := by omega); (try have hy2_4 : w.heap.size + 1 + 1 + 1 + 1 < w2.heap.size := by omega); (try have hy2_5 : w.heap.size + 1 + 1 + 1 + 1 + 1 < w2.heap.size := by omega); (try have hy2_1_0 : w1.heap.size < w2.heap.size := by omega); (try have hy2_1_1 : w1.heap.size + 1 < w2.heap.size := by omega)
  have kc2_0 := hc2 (w.heap.size) 0 (by first | omega | (simp; done) | (simp; omega))
  have kc2_1 := hc2 (w.heap.size) 1 (by first | omega | (simp; done) | (simp; omega))
  have kc2_2 := hc2 (w.heap.size) 2 (by first | omega | (simp; done) | (simp; omega))
  clear hc2
  (try simp [go_sem, *] at kc2_0)
  (try simp [go_sem, *] at kc2_1)
  (try simp [go_sem, *] at kc2_2)
  go_wp2_with fail; refine (HP.out _).mono ?_; rintro e w3 ⟨rfl, hb3⟩; obtain ⟨hc3, hf3⟩ := Gr.cells hb3; have hz3 := Gr.size hb3; (try simp at hz3); (try have hy3_0 : w.heap.size < w3.heap.size := by omega); (try have hy3_1 : w.heap.size + 1 < w3.heap.size := by omega); (try have hy3_2 : w.heap.size + 1 + 1 < w3.heap.size := by omega); (try have hy3_3 : w.heap.size + 1 + 1 + 1 < w3.heap.size := by omega); (try have hy3_4 : w.heap.size + 1 + 1 + 1 + 1 < w3.heap.size := by omega); (try have hy3_5 : w.heap.size + 1 + 1 + 1 + 1 + 1 < w3.heap.size := by omega); (try have hy3_1_0 : w1.heap.size < w3.heap.size := by omega); (try have hy3_1_1 : w1.heap.size + 1 < w3.heap.size := by omega); (try have hy3_2_0 : w2.heap.size < w3.heap.size := by omega); (try have hy3_2_1 : w2.heap.size + 1 < w3.heap.size := by omega)
  have kc3_0 := hc3 (w.heap.size) 0 (by first | omega | (simp; done) | (simp; omega))
  have kc3_1 := hc3 (w.heap.size) 1 (by first | omega | (simp; done) | (simp; omega))
  have kc3_2 := hc3 (w.heap.size) 2 (by first | omega | (simp; done) | (simp; omega))
  clear hc3
  (try simp [go_sem, *] at kc3_0)
  (try simp [go_sem, *] at kc3_1)
  (try simp [go_sem, *] at kc3_2)
  go_wp2_with fail; refine (HT.out _ (by repeat' (first | (with_reducible exact Gr.refl _) | (with_reducible assumption) | (with_reducible refine Gr.alloc ?_ _) | (with_reducible refine Gr.drew ?_) | (with_reducible refine Gr.drewN ?_ _) | (with_reducible refine Gr.setCell ?_ ?_ _) | (with_reducible refine Gr.trans ?_ (by with_reducible assumption)) | go_size))).mono ?_; rintro e w4 ⟨rfl, hb4⟩; obtain ⟨hc4, hf4⟩ := Gr.cells hb4; have hz4 := Gr.size hb4; (try simp at hz4); (try have hy4_0 : w.heap.size < w4.heap.size := by omega); (try have hy4_1 : w.heap.size + 1 < w4.heap.size := by omega); (try have hy4_2 : w.heap.size + 1 + 1 < w4.heap.size := by omega); (try have hy4_3 : w.heap.size + 1 + 1 + 1 < w4.heap.size := by omega); (try have hy4_4 : w.heap.size + 1 + 1 + 1 + 1 < w4.heap.size := by omega); (try have hy4_5 : w.heap.size + 1 + 1 + 1 + 1 + 1 < w4.heap.size := by omega); (try have hy4_1_0 : w1.heap.size < w4.heap.size := by omega); (try have hy4_1_1 : w1.heap.size + 1 < w4.heap.size := by omega); (try have hy4_2_0 : w2.heap.size < w4.heap.size := by omega); (try have hy4_2_1 : w2.heap.size + 1 < w4.heap.size := by omega); (try have hy4_3_0 : w3.heap.size < w4.heap.size := by omega); (try have hy4_3_1 : w3.heap.size + 1 < w4.heap.size := by omega)
  have kc4_0 := hc4 (w.heap.size) 0 (by first | omega | (simp; done) | (simp; omega))
  have kc4_1 := hc4 (w.heap.size) 1 (by first | omega | (simp; done) | (simp; omega))
  have kc4_2 := hc4 (w.heap.size) 2 (by first | omega | (simp; done) | (simp; omega))
  clear hc4
  (try simp [go_sem, *] at kc4_0)
  (try simp [go_sem, *] at kc4_1)
  (try simp [go_sem, *] at kc4_2)
  go_wp2_with fail; refine (HS.out _).mono ?_; rintro e w5 ⟨rfl, hb5⟩; obtain ⟨hc5, hf5⟩ := Gr.cells hb5; have hz5 := Gr.size hb5; (try simp at hz5); (try have hy5_0 : w.heap.size < w5.heap.size := by omega); (try have hy5_1 : w.heap.size + 1 < w5.heap.size := by omega); (try have hy5_2 : w.heap.size + 1 + 1 < w5.heap.size := by omega); (try have hy5_3 : w.heap.size + 1 + 1 + 1 < w5.heap.size := by omega); (try have hy5_4 : w.heap.size + 1 + 1 + 1 + 1 < w5.heap.size := by omega); (try have hy5_5 : w.heap.size + 1 + 1 + 1 + 1 + 1 < w5.heap.size := by omega); (try have hy5_1_0 : w1.heap.size < w5.heap.size := by omega); (try have hy5_1_1 : w1.heap.size + 1 < w5.heap.size := by omega); (try have hy5_2_0 : w2.heap.size < w5.heap.size := by omega); (try have hy5_2_1 : w2.heap.size + 1 < w5.heap.size := by omega); (try have hy5_3_0 : w3.heap.size < w5.heap.size := by omega); (try have hy5_3_1 : w3.heap.size + 1 < w5.heap.size := by omega); (try have hy5_4_0 : w4.heap.size < w5.heap.size := by omega); (try have hy5_4_1 : w4.heap.size + 1 < w5.heap.size := by omega)
  have kc5_0 := hc5 (w.heap.size) 0 (by first | omega | (simp; done) | (simp; omega))
  have kc5_1 := hc5 (w.heap.size) 1 (by first | omega | (simp; done) | (simp; omega))
  have kc5_2 := hc5 (w.heap.size) 2 (by first | omega | (simp; done) | (simp; omega))
  clear hc5
  (try simp [go_sem, *] at kc5_0)
  (try simp [go_sem, *] at kc5_1)
  (try simp [go_sem, *] at kc5_2)
  go_wp2
  go_ret
  exact ⟨rfl, (by repeat' (first | (with_reducible exact Gr.refl _) | (with_reducible assumption) | (with_reducible refine Gr.alloc ?_ _) | (with_reducible refine Gr.drew ?_) | (with_reducible refine Gr.drewN ?_ _) | (with_reducible refine Gr.setCell ?_ ?_ _) | (with_reducible refine Gr.trans ?_ (by with_reducible assumption)) | go_size))⟩
set_option maxRecDepth 100000 in
set_option maxHeartbeats 4000000 in
theorem back_011 (y m d t q y1 m1 d1 u : Int) (L : List UInt8) (s : ByteArray) (w : World) (hs : s.size ≤ 60) (u0 : 0 ≤ u) (u1 : u < 86400) (hL : L.length = 19)
    (HN : ∀ W : World, Calls Tryd.prog 19 #[.agg #[.int .i64 y, .int .i64 m, .int .i64 d]] W fun e w' => e = .returned (.tuple #[.int .i64 0, .int .i64 1]) ∧ Gr W w')
    (HP : ∀ W : World, Calls Tryd.prog 32 #[.string s] W fun e w' => e = .returned (.tuple #[.int .i64 q, .int .i64 0]) ∧ Gr W w')
    (HT : ∀ W : World, Gr w W → Calls Tryd.prog 30 #[.int .i64 q] W fun e w' => e = .returned (.tuple #[.string s, .int .i64 0]) ∧ Gr W w')
    (HS : ∀ W : World, Calls Tryd.prog 27 #[.int .i64 t] W fun e w' => e = .returned (.tuple #[.agg #[.int .i64 y1, .int .i64 m1, .int .i64 d1], .int .i64 u, .int .i64 0]) ∧ Gr W w')
    (HA : ∀ W : World, Calls Tryd.prog 26 #[.agg #[.int .i64 y1, .int .i64 m1, .int .i64 d1], .int .i64 u] W fun e w' => e = .returned (.tuple #[.int .i64 t, .int .i64 0]) ∧ Gr W w')
    (HX : ∀ W : World, Gr w W → Calls Tryd.prog 30 #[.int .i64 t] W fun e w' => e = .returned (.tuple #[.string ⟨L.toArray⟩, .int .i64 0]) ∧ Gr W w')
    (HB : ∀ W : World, Calls Tryd.prog 32 #[.string ⟨L.toArray⟩] W fun e w' => e = .returned (.tuple #[.int .i64 t, .int .i64 0]) ∧ Gr W w')
    (HV : ∀ W : World, Calls Tryd.prog 22 #[.agg #[.int .i64 y1, .int .i64 m1, .int .i64 d1]] W fun e w' => e = .returned (.bool true) ∧ Gr W w')
    : Calls Tryd.prog 10 #[.agg #[.int .i64 y, .int .i64 m, .int .i64 d], .int .i64 t, .string s] w fun e w' => e = .returned (.bool true) ∧ Gr w w' := by
  have HN := Lib.hid HN
  have HP := Lib.hid HP
  have HT := Lib.hid HT
  have HS := Lib.hid HS
  have HA := Lib.hid HA
  have HX := Lib.hid HX
  have HB := Lib.hid HB
  have HV := Lib.hid HV
  have h1 : decide ((60 : Int) < (s.size : Int)) = false := decide_eq_false (by omega)
  have e5 : (t == t) = true := by simp
  have x0 : decide (0 ≤ u) = true := decide_eq_true u0
  have x1 : decide (u < 86400) = true := decide_eq_true u1
  go_enter Tryd.func10, Tryd.ntmps10
  
  go_wp2_with fail; refine (awake_any _).mono ?_; rintro e w1 ⟨rfl, hb1⟩; obtain ⟨hc1, hf1⟩ := Gr.cells hb1; have hz1 := Gr.size hb1; (try simp at hz1); (try have hy1_0 : w.heap.size < w1.heap.size := by omega); (try have hy1_1 : w.heap.size + 1 < w1.heap.size := by omega); (try have hy1_2 : w.heap.size + 1 + 1 < w1.heap.size := by omega); (try have hy1_3 : w.heap.size + 1 + 1 + 1 < w1.heap.size := by omega); (try have hy1_4 : w.heap.size + 1 + 1 + 1 + 1 < w1.heap.size := by omega); (try have hy1_5 : w.heap.size + 1 + 1 + 1 + 1 + 1 < w1.heap.size := by omega)
  have kc1_0 := hc1 (w.heap.size) 0 (by first | omega | (simp; done) | (simp; omega))
  have kc1_1 := hc1 (w.heap.size) 1 (by first | omega | (simp; done) | (simp; omega))
  have kc1_2 := hc1 (w.heap.size) 2 (by first | omega | (simp; done) | (simp; omega))
  clear hc1
  (try simp [go_sem, *] at kc1_0)
  (try simp [go_sem, *] at kc1_1)
  (try simp [go_sem, *] at kc1_2)
  go_wp2_with fail; refine (HN.out _).mono ?_; rintro e w2 ⟨rfl, hb2⟩; obtain ⟨hc2, hf2⟩ := Gr.cells hb2; have hz2 := Gr.size hb2; (try simp at hz2); (try have hy2_0 : w.heap.size < w2.heap.size := by omega); (try have hy2_1 : w.heap.size + 1 < w2.heap.size := by omega); (try have hy2_2 : w.heap.size + 1 + 1 < w2.heap.size := by omega); (try have hy2_3 : w.heap.size + 1 + 1 + 1 < w2.heap.size := by omega); (try have hy2_4 : w.heap.size + 1 + 1 + 1 + 1 < w2.heap.size := by omega); (try have hy2_5 : w.heap.size + 1 + 1 + 1 + 1 + 1 < w2.heap.size := by omega); (try have hy2_1_0 : w1.heap.size < w2.heap.size := by omega); (try have hy2_1_1 : w1.heap.size + 1 < w2.heap.size := by omega)
  have kc2_0 := hc2 (w.heap.size) 0 (by first | omega | (simp; done) | (simp; omega))
  have kc2_1 := hc2 (w.heap.size) 1 (by first | omega | (simp; done) | (simp; omega))
  have kc2_2 := hc2 (w.heap.size) 2 (by first | omega | (simp; done) | (simp; omega))
  clear hc2
  (try simp [go_sem, *] at kc2_0)
  (try simp [go_sem, *] at kc2_1)
  (try simp [go_sem, *] at kc2_2)
  go_wp2_with fail; refine (HP.out _).mono ?_; rintro e w3 ⟨rfl, hb3⟩; obtain ⟨hc3, hf3⟩ := Gr.cells hb3; have hz3 := Gr.size hb3; (try simp at hz3); (try have hy3_0 : w.heap.size < w3.heap.size := by omega); (try have hy3_1 : w.heap.size + 1 < w3.heap.size := by omega); (try have hy3_2 : w.heap.size + 1 + 1 < w3.heap.size := by omega); (try have hy3_3 : w.heap.size + 1 + 1 + 1 < w3.heap.size := by omega); (try have hy3_4 : w.heap.size + 1 + 1 + 1 + 1 < w3.heap.size := by omega); (try have hy3_5 : w.heap.size + 1 + 1 + 1 + 1 + 1 < w3.heap.size := by omega); (try have hy3_1_0 : w1.heap.size < w3.heap.size := by omega); (try have hy3_1_1 : w1.heap.size + 1 < w3.heap.size := by omega); (try have hy3_2_0 : w2.heap.size < w3.heap.size := by omega); (try have hy3_2_1 : w2.heap.size + 1 < w3.heap.size := by omega)
  have kc3_0 := hc3 (w.heap.size) 0 (by first | omega | (simp; done) | (simp; omega))
  have kc3_1 := hc3 (w.heap.size) 1 (by first | omega | (simp; done) | (simp; omega))
  have kc3_2 := hc3 (w.heap.size) 2 (by first | omega | (simp; done) | (simp; omega))
  clear hc3
  (try simp [go_sem, *] at kc3_0)
  (try simp [go_sem, *] at kc3_1)
  (try simp [go_sem, *] at kc3_2)
  go_wp2_with fail; refine (HT.out _ (by repeat' (first | (with_reducible exact Gr.refl _) | (with_reducible assumption) | (with_reducible refine Gr.alloc ?_ _) | (with_reducible refine Gr.drew ?_) | (with_reducible refine Gr.drewN ?_ _) | (with_reducible refine Gr.setCell ?_ ?_ _) | (with_reducible refine Gr.trans ?_ (by with_reducible assumption)) | go_size))).mono ?_; rintro e w4 ⟨rfl, hb4⟩; obtain ⟨hc4, hf4⟩ := Gr.cells hb4; have hz4 := Gr.size hb4; (try simp at hz4); (try have hy4_0 : w.heap.size < w4.heap.size := by omega); (try have hy4_1 : w.heap.size + 1 < w4.heap.size := by omega); (try have hy4_2 : w.heap.size + 1 + 1 < w4.heap.size := by omega); (try have hy4_3 : w.heap.size + 1 + 1 + 1 < w4.heap.size := by omega); (try have hy4_4 : w.heap.size + 1 + 1 + 1 + 1 < w4.heap.size := by omega); (try have hy4_5 : w.heap.size + 1 + 1 + 1 + 1 + 1 < w4.heap.size := by omega); (try have hy4_1_0 : w1.heap.size < w4.heap.size := by omega); (try have hy4_1_1 : w1.heap.size + 1 < w4.heap.size := by omega); (try have hy4_2_0 : w2.heap.size < w4.heap.size := by omega); (try have hy4_2_1 : w2.heap.size + 1 < w4.heap.size := by omega); (try have hy4_3_0 : w3.heap.size < w4.heap.size := by omega); (try have hy4_3_1 : w3.heap.size + 1 < w4.heap.size := by omega)
  have kc4_0 := hc4 (w.heap.size) 0 (by first | omega | (simp; done) | (simp; omega))
  have kc4_1 := hc4 (w.heap.size) 1 (by first | omega | (simp; done) | (simp; omega))
  have kc4_2 := hc4 (w.heap.size) 2 (by first | omega | (simp; done) | (simp; omega))
  clear hc4
  (try simp [go_sem, *] at kc4_0)
  (try simp [go_sem, *] at kc4_1)
  (try simp [go_sem, *] at kc4_2)
  go_wp2_with fail; refine (HS.out _).mono ?_; rintro e w5 ⟨rfl, hb5⟩; obtain ⟨hc5, hf5⟩ := Gr.cells hb5; have hz5 := Gr.size hb5; (try simp at hz5); (try have hy5_0 : w.heap.size < w5.heap.size := by omega); (try have hy5_1 : w.heap.size + 1 < w5.heap.size := by omega); (try have hy5_2 : w.heap.size + 1 + 1 < w5.heap.size := by omega); (try have hy5_3 : w.heap.size + 1 + 1 + 1 < w5.heap.size := by omega); (try have hy5_4 : w.heap.size + 1 + 1 + 1 + 1 < w5.heap.size := by omega); (try have hy5_5 : w.heap.size + 1 + 1 + 1 + 1 + 1 < w5.heap.size := by omega); (try have hy5_1_0 : w1.heap.size < w5.heap.size := by omega); (try have hy5_1_1 : w1.heap.size + 1 < w5.heap.size := by omega); (try have hy5_2_0 : w2.heap.size < w5.heap.size := by omega); (try have hy5_2_1 : w2.heap.size + 1 < w5.heap.size := by omega); (try have hy5_3_0 : w3.heap.size < w5.heap.size := by omega); (try have hy5_3_1 : w3.heap.size + 1 < w5.heap.size := by omega); (try have hy5_4_0 : w4.heap.size < w5.heap.size := by omega); (try have hy5_4_1 : w4.heap.size + 1 < w5.heap.size := by omega)
  have kc5_0 := hc5 (w.heap.size) 0 (by first | omega | (simp; done) | (simp; omega))
  have kc5_1 := hc5 (w.heap.size) 1 (by first | omega | (simp; done) | (simp; omega))
  have kc5_2 := hc5 (w.heap.size) 2 (by first | omega | (simp; done) | (simp; omega))
  clear hc5
  (try simp [go_sem, *] at kc5_0)
  (try simp [go_sem, *] at kc5_1)
  (try simp [go_sem, *] at kc5_2)
  
  go_wp2_with fail; refine (HA.out _).mono ?_; rintro e w6 ⟨rfl, hb6⟩; obtain ⟨hc6, hf6⟩ := Gr.cells hb6; have hz6 := Gr.size hb6; (try simp at hz6); (try have hy6_0 : w.heap.size < w6.heap.size := by omega); (try have hy6_1 : w.heap.size + 1 < w6.heap.size := by omega); (try have hy6_2 : w.heap.size + 1 + 1 < w6.heap.size := by omega); (try have hy6_3 : w.heap.size + 1 + 1 + 1 < w6.heap.size := by omega); (try have hy6_4 : w.heap.size + 1 + 1 + 1 + 1 < w6.heap.size := by omega); (try have hy6_5 : w.heap.size + 1 + 1 + 1 + 1 + 1 < w6.heap.size := by omega); (try have hy6_1_0 : w1.heap.size < w6.heap.size := by omega); (try have hy6_1_1 : w1.heap.size + 1 < w6.heap.size := by omega); (try have hy6_2_0 : w2.heap.size < w6.heap.size := by omega); (try have hy6_2_1 : w2.heap.size + 1 < w6.heap.size := by omega); (try have hy6_3_0 : w3.heap.size < w6.heap.size := by omega); (try have hy6_3_1 : w3.heap.size + 1 < w6.heap.size := by omega); (try have hy6_4_0 : w4.heap.size < w6.heap.size := by omega); (try have hy6_4_1 : w4.heap.size + 1 < w6.heap.size := by omega); (try have hy6_5_0 : w5.heap.size < w6.heap.size := by omega); (try have hy6_5_1 : w5.heap.size + 1 < w6.heap.size := by omega)
  have kc6_0 := hc6 (w.heap.size) 0 (by first | omega | (simp; done) | (simp; omega))
  have kc6_1 := hc6 (w.heap.size) 1 (by first | omega | (simp; done) | (simp; omega))
  have kc6_2 := hc6 (w.heap.size) 2 (by first | omega | (simp; done) | (simp; omega))
  have kc6_3 := hc6 (w5.heap.size) 0 (by first | omega | (simp; done) | (simp; omega))
  have kc6_4 := hc6 (w5.heap.size) 1 (by first | omega | (simp; done) | (simp; omega))
  have kc6_5 := hc6 (w5.heap.size) 2 (by first | omega | (simp; done) | (simp; omega))
  clear hc6
  (try simp [go_sem, *] at kc6_0)
  (try simp [go_sem, *] at kc6_1)
  (try simp [go_sem, *] at kc6_2)
  (try simp [go_sem, *] at kc6_3)
  (try simp [go_sem, *] at kc6_4)
  (try simp [go_sem, *] at kc6_5)
  go_wp2_with fail; refine (HX.out _ (by repeat' (first | (with_reducible exact Gr.refl _) | (with_reducible assumption) | (with_reducible refine Gr.alloc ?_ _) | (with_reducible refine Gr.drew ?_) | (with_reducible refine Gr.drewN ?_ _) | (with_reducible refine Gr.setCell ?_ ?_ _) | (with_reducible refine Gr.trans ?_ (by with_reducible assumption)) | go_size))).mono ?_; rintro e w7 ⟨rfl, hb7⟩; obtain ⟨hc7, hf7⟩ := Gr.cells hb7; have hz7 := Gr.size hb7; (try simp at hz7); (try have hy7_0 : w.heap.size < w7.heap.size := by omega); (try have hy7_1 : w.heap.size + 1 < w7.heap.size := by omega); (try have hy7_2 : w.heap.size + 1 + 1 < w7.heap.size := by omega); (try have hy7_3 : w.heap.size + 1 + 1 + 1 < w7.heap.size := by omega); (try have hy7_4 : w.heap.size + 1 + 1 + 1 + 1 < w7.heap.size := by omega); (try have hy7_5 : w.heap.size + 1 + 1 + 1 + 1 + 1 < w7.heap.size := by omega); (try have hy7_1_0 : w1.heap.size < w7.heap.size := by omega); (try have hy7_1_1 : w1.heap.size + 1 < w7.heap.size := by omega); (try have hy7_2_0 : w2.heap.size < w7.heap.size := by omega); (try have hy7_2_1 : w2.heap.size + 1 < w7.heap.size := by omega); (try have hy7_3_0 : w3.heap.size < w7.heap.size := by omega); (try have hy7_3_1 : w3.heap.size + 1 < w7.heap.size := by omega); (try have hy7_4_0 : w4.heap.size < w7.heap.size := by omega); (try have hy7_4_1 : w4.heap.size + 1 < w7.heap.size := by omega); (try have hy7_5_0 : w5.heap.size < w7.heap.size := by omega); (try have hy7_5_1 : w5.heap.size + 1 < w7.heap.size := by omega); (try have hy7_6_0 : w6.heap.size < w7.heap.size := by omega); (try have hy7_6_1 : w6.heap.size + 1 < w7.heap.size := by omega)
  have kc7_0 := hc7 (w.heap.size) 0 (by first | omega | (simp; done) | (simp; omega))
  have kc7_1 := hc7 (w.heap.size) 1 (by first | omega | (simp; done) | (simp; omega))
  have kc7_2 := hc7 (w.heap.size) 2 (by first | omega | (simp; done) | (simp; omega))
  have kc7_3 := hc7 (w5.heap.size) 0 (by first | omega | (simp; done) | (simp; omega))
  have kc7_4 := hc7 (w5.heap.size) 1 (by first | omega | (simp; done) | (simp; omega))
  have kc7_5 := hc7 (w5.heap.size) 2 (by first | omega | (simp; done) | (simp; omega))
  clear hc7
  (try simp [go_sem, *] at kc7_0)
  (try simp [go_sem, *] at kc7_1)
  (try simp [go_sem, *] at kc7_2)
  (try simp [go_sem, *] at kc7_3)
  (try simp [go_sem, *] at kc7_4)
  (try simp [go_sem, *] at kc7_5)
  go_wp2_with fail; refine (HB.out _).mono ?_; rintro e w8 ⟨rfl, hb8⟩; obtain ⟨hc8, hf8⟩ := Gr.cells hb8; have hz8 := Gr.size hb8; (try simp at hz8); (try have hy8_0 : w.heap.size < w8.heap.size := by omega); (try have hy8_1 : w.heap.size + 1 < w8.heap.size := by omega); (try have hy8_2 : w.heap.size + 1 + 1 < w8.heap.size := by omega); (try have hy8_3 : w.heap.size + 1 + 1 + 1 < w8.heap.size := by omega); (try have hy8_4 : w.heap.size + 1 + 1 + 1 + 1 < w8.heap.size := by omega); (try have hy8_5 : w.heap.size + 1 + 1 + 1 + 1 + 1 < w8.heap.size := by omega); (try have hy8_1_0 : w1.heap.size < w8.heap.size := by omega); (try have hy8_1_1 : w1.heap.size + 1 < w8.heap.size := by omega); (try have hy8_2_0 : w2.heap.size < w8.heap.size := by omega); (try have hy8_2_1 : w2.heap.size + 1 < w8.heap.size := by omega); (try have hy8_3_0 : w3.heap.size < w8.heap.size := by omega); (try have hy8_3_1 : w3.heap.size + 1 < w8.heap.size := by omega); (try have hy8_4_0 : w4.heap.size < w8.heap.size := by omega); (try have hy8_4_1 : w4.heap.size + 1 < w8.heap.size := by omega); (try have hy8_5_0 : w5.heap.size < w8.heap.size := by omega); (try have hy8_5_1 : w5.heap.size + 1 < w8.heap.size := by omega); (try have hy8_6_0 : w6.heap.size < w8.heap.size := by omega); (try have hy8_6_1 : w6.heap.size + 1 < w8.heap.size := by omega); (try have hy8_7_0 : w7.heap.size < w8.heap.size := by omega); (try have hy8_7_1 : w7.heap.size + 1 < w8.heap.size := by omega)
  have kc8_0 := hc8 (w.heap.size) 0 (by first | omega | (simp; done) | (simp; omega))
  have kc8_1 := hc8 (w.heap.size) 1 (by first | omega | (simp; done) | (simp; omega))
  have kc8_2 := hc8 (w.heap.size) 2 (by first | omega | (simp; done) | (simp; omega))
  have kc8_3 := hc8 (w5.heap.size) 0 (by first | omega | (simp; done) | (simp; omega))
  have kc8_4 := hc8 (w5.heap.size) 1 (by first | omega | (simp; done) | (simp; omega))
  have kc8_5 := hc8 (w5.heap.size) 2 (by first | omega | (simp; done) | (simp; omega))
  clear hc8
  (try simp [go_sem, *] at kc8_0)
  (try simp [go_sem, *] at kc8_1)
  (try simp [go_sem, *] at kc8_2)
  (try simp [go_sem, *] at kc8_3)
  (try simp [go_sem, *] at kc8_4)
  (try simp [go_sem, *] at kc8_5)
  go_wp2_with fail; refine (HV.out _).mono ?_; rintro e w9 ⟨rfl, hb9⟩; obtain ⟨hc9, hf9⟩ := Gr.cells hb9; have hz9 := Gr.size hb9; (try simp at hz9); (try have hy9_0 : w.heap.size < w9.heap.size := by omega); (try have hy9_1 : w.heap.size + 1 < w9.heap.size := by omega); (try have hy9_2 : w.heap.size + 1 + 1 < w9.heap.size := by omega); (try have hy9_3 : w.heap.size + 1 + 1 + 1 < w9.heap.size := by omega); (try have hy9_4 : w.heap.size + 1 + 1 + 1 + 1 < w9.heap.size := by omega); (try have hy9_5 : w.heap.size + 1 + 1 + 1 + 1 + 1 < w9.heap.size := by omega); (try have hy9_1_0 : w1.heap.size < w9.heap.size := by omega); (try have hy9_1_1 : w1.heap.size + 1 < w9.heap.size := by omega); (try have hy9_2_0 : w2.heap.size < w9.heap.size := by omega); (try have hy9_2_1 : w2.heap.size + 1 < w9.heap.size := by omega); (try have hy9_3_0 : w3.heap.size < w9.heap.size := by omega); (try have hy9_3_1 : w3.heap.size + 1 < w9.heap.size := by omega); (try have hy9_4_0 : w4.heap.size < w9.heap.size := by omega); (try have hy9_4_1 : w4.heap.size + 1 < w9.heap.size := by omega); (try have hy9_5_0 : w5.heap.size < w9.heap.size := by omega); (try have hy9_5_1 : w5.heap.size + 1 < w9.heap.size := by omega); (try have hy9_6_0 : w6.heap.size < w9.heap.size := by omega); (try have hy9_6_1 : w6.heap.size + 1 < w9.heap.size := by omega); (try have hy9_7_0 : w7.heap.size < w9.heap.size := by omega); (try have hy9_7_1 : w7.heap.size + 1 < w9.heap.size := by omega); (try have hy9_8_0 : w8.heap.size < w9.heap.size := by omega); (try have hy9_8_1 : w8.heap.size + 1 < w9.heap.size := by omega)
  have kc9_0 := hc9 (w.heap.size) 0 (by first | omega | (simp; done) | (simp; omega))
  have kc9_1 := hc9 (w.heap.size) 1 (by first | omega | (simp; done) | (simp; omega))
  have kc9_2 := hc9 (w.heap.size) 2 (by first | omega | (simp; done) | (simp; omega))
  have kc9_3 := hc9 (w5.heap.size) 0 (by first | omega | (simp; done) | (simp; omega))
  have kc9_4 := hc9 (w5.heap.size) 1 (by first | omega | (simp; done) | (simp; omega))
  have kc9_5 := hc9 (w5.heap.size) 2 (by first | omega | (simp; done) | (simp; omega))
  clear hc9
  (try simp [go_sem, *] at kc9_0)
  (try simp [go_sem, *] at kc9_1)
  (try simp [go_sem, *] at kc9_2)
  (try simp [go_sem, *] at kc9_3)
  (try simp [go_sem, *] at kc9_4)
  (try simp [go_sem, *] at kc9_5)
  go_wp2
  go_ret
  exact ⟨rfl, (by repeat' (first | (with_reducible exact Gr.refl _) | (with_reducible assumption) | (with_reducible refine Gr.alloc ?_ _) | (with_reducible refine Gr.drew ?_) | (with_reducible refine Gr.drewN ?_ _) | (with_reducible refine Gr.setCell ?_ ?_ _) | (with_reducible refine Gr.trans ?_ (by with_reducible assumption)) | go_size))⟩
set_option maxRecDepth 100000 in
set_option maxHeartbeats 4000000 in
theorem back_100 (y m d t k q g r : Int) (s : ByteArray) (w : World) (hs : s.size ≤ 60) (hg : g ≠ 0) (hr : r ≠ 0)
    (HN : ∀ W : World, Calls Tryd.prog 19 #[.agg #[.int .i64 y, .int .i64 m, .int .i64 d]] W fun e w' => e = .returned (.tuple #[.int .i64 k, .int .i64 0]) ∧ Gr W w')
    (HD : ∀ W : World, Calls Tryd.prog 20 #[.int .i64 k] W fun e w' => e = .returned (.tuple #[.agg #[.int .i64 y, .int .i64 m, .int .i64 d], .int .i64 0]) ∧ Gr W w')
    (HP : ∀ W : World, Calls Tryd.prog 32 #[.string s] W fun e w' => e = .returned (.tuple #[.int .i64 q, .int .i64 g]) ∧ Gr W w')
    (HS : ∀ W : World, Calls Tryd.prog 27 #[.int .i64 t] W fun e w' => e = .returned (.tuple #[.agg #[.int .i64 0, .int .i64 0, .int .i64 0], .int .i64 0, .int .i64 r]) ∧ Gr W w')
    : Calls Tryd.prog 10 #[.agg #[.int .i64 y, .int .i64 m, .int .i64 d], .int .i64 t, .string s] w fun e w' => e = .returned (.bool true) ∧ Gr w w' := by
  have HN := Lib.hid HN
  have HD := Lib.hid HD
  have HP := Lib.hid HP
  have HS := Lib.hid HS
  have h1 : decide ((60 : Int) < (s.size : Int)) = false := decide_eq_false (by omega)
  have e1 : (y != y) = false := by simp
  have e2 : (m != m) = false := by simp
  have e3 : (d != d) = false := by simp
  have e4 : (g == 0) = false := beq_eq_false_iff_ne.2 hg
  clear hg
  have e5 : (r != 0) = true := bne_iff_ne.2 hr
  clear hr
  go_enter Tryd.func10, Tryd.ntmps10
  
  go_wp2_with fail; refine (awake_any _).mono ?_; rintro e w1 ⟨rfl, hb1⟩; obtain ⟨hc1, hf1⟩ := Gr.cells hb1; have hz1 := Gr.size hb1; (try simp at hz1); (try have hy1_0 : w.heap.size < w1.heap.size := by omega); (try have hy1_1 : w.heap.size + 1 < w1.heap.size := by omega); (try have hy1_2 : w.heap.size + 1 + 1 < w1.heap.size := by omega); (try have hy1_3 : w.heap.size + 1 + 1 + 1 < w1.heap.size := by omega); (try have hy1_4 : w.heap.size + 1 + 1 + 1 + 1 < w1.heap.size := by omega); (try have hy1_5 : w.heap.size + 1 + 1 + 1 + 1 + 1 < w1.heap.size := by omega)
  have kc1_0 := hc1 (w.heap.size) 0 (by first | omega | (simp; done) | (simp; omega))
  have kc1_1 := hc1 (w.heap.size) 1 (by first | omega | (simp; done) | (simp; omega))
  have kc1_2 := hc1 (w.heap.size) 2 (by first | omega | (simp; done) | (simp; omega))
  clear hc1
  (try simp [go_sem, *] at kc1_0)
  (try simp [go_sem, *] at kc1_1)
  (try simp [go_sem, *] at kc1_2)
  go_wp2_with fail; refine (HN.out _).mono ?_; rintro e w2 ⟨rfl, hb2⟩; obtain ⟨hc2, hf2⟩ := Gr.cells hb2; have hz2 := Gr.size hb2; (try simp at hz2); (try have hy2_0 : w.heap.size < w2.heap.size := by omega); (try have hy2_1 : w.heap.size + 1 < w2.heap.size := by omega); (try have hy2_2 : w.heap.size + 1 + 1 < w2.heap.size := by omega); (try have hy2_3 : w.heap.size + 1 + 1 + 1 < w2.heap.size := by omega); (try have hy2_4 : w.heap.size + 1 + 1 + 1 + 1 < w2.heap.size := by omega); (try have hy2_5 : w.heap.size + 1 + 1 + 1 + 1 + 1 < w2.heap.size := by omega); (try have hy2_1_0 : w1.heap.size < w2.heap.size := by omega); (try have hy2_1_1 : w1.heap.size + 1 < w2.heap.size := by omega)
  have kc2_0 := hc2 (w.heap.size) 0 (by first | omega | (simp; done) | (simp; omega))
  have kc2_1 := hc2 (w.heap.size) 1 (by first | omega | (simp; done) | (simp; omega))
  have kc2_2 := hc2 (w.heap.size) 2 (by first | omega | (simp; done) | (simp; omega))
  clear hc2
  (try simp [go_sem, *] at kc2_0)
  (try simp [go_sem, *] at kc2_1)
  (try simp [go_sem, *] at kc2_2)
  go_wp2_with fail; refine (HD.out _).mono ?_; rintro e w3 ⟨rfl, hb3⟩; obtain ⟨hc3, hf3⟩ := Gr.cells hb3; have hz3 := Gr.size hb3; (try simp at hz3); (try have hy3_0 : w.heap.size < w3.heap.size := by omega); (try have hy3_1 : w.heap.size + 1 < w3.heap.size := by omega); (try have hy3_2 : w.heap.size + 1 + 1 < w3.heap.size := by omega); (try have hy3_3 : w.heap.size + 1 + 1 + 1 < w3.heap.size := by omega); (try have hy3_4 : w.heap.size + 1 + 1 + 1 + 1 < w3.heap.size := by omega); (try have hy3_5 : w.heap.size + 1 + 1 + 1 + 1 + 1 < w3.heap.size := by omega); (try have hy3_1_0 : w1.heap.size < w3.heap.size := by omega); (try have hy3_1_1 : w1.heap.size + 1 < w3.heap.size := by omega); (try have hy3_2_0 : w2.heap.size < w3.heap.size := by omega); (try have hy3_2_1 : w2.heap.size + 1 < w3.heap.size := by omega)
  have kc3_0 := hc3 (w.heap.size) 0 (by first | omega | (simp; done) | (simp; omega))
  have kc3_1 := hc3 (w.heap.size) 1 (by first | omega | (simp; done) | (simp; omega))
  have kc3_2 := hc3 (w.heap.size) 2 (by first | omega | (simp; done) | (simp; omega))
  clear hc3
  (try simp [go_sem, *] at kc3_0)
  (try simp [go_sem, *] at kc3_1)
  (try simp [go_sem, *] at kc3_2)
  
  go_wp2_with fail; refine (HP.out _).mono ?_; rintro e w4 ⟨rfl, hb4⟩; obtain ⟨hc4, hf4⟩ := Gr.cells hb4; have hz4 := Gr.size hb4; (try simp at hz4); (try have hy4_0 : w.heap.size < w4.heap.size := by omega); (try have hy4_1 : w.heap.size + 1 < w4.heap.size := by omega); (try have hy4_2 : w.heap.size + 1 + 1 < w4.heap.size := by omega); (try have hy4_3 : w.heap.size + 1 + 1 + 1 < w4.heap.size := by omega); (try have hy4_4 : w.heap.size + 1 + 1 + 1 + 1 < w4.heap.size := by omega); (try have hy4_5 : w.heap.size + 1 + 1 + 1 + 1 + 1 < w4.heap.size := by omega); (try have hy4_1_0 : w1.heap.size < w4.heap.size := by omega); (try have hy4_1_1 : w1.heap.size + 1 < w4.heap.size := by omega); (try have hy4_2_0 : w2.heap.size < w4.heap.size := by omega); (try have hy4_2_1 : w2.heap.size + 1 < w4.heap.size := by omega); (try have hy4_3_0 : w3.heap.size < w4.heap.size := by omega); (try have hy4_3_1 : w3.heap.size + 1 < w4.heap.size := by omega)
  have kc4_0 := hc4 (w.heap.size) 0 (by first | omega | (simp; done) | (simp; omega))
  have kc4_1 := hc4 (w.heap.size) 1 (by first | omega | (simp; done) | (simp; omega))
  have kc4_2 := hc4 (w.heap.size) 2 (by first | omega | (simp; done) | (simp; omega))
  have kc4_3 := hc4 (w3.heap.size) 0 (by first | omega | (simp; done) | (simp; omega))
  have kc4_4 := hc4 (w3.heap.size) 1 (by first | omega | (simp; done) | (simp; omega))
  have kc4_5 := hc4 (w3.heap.size) 2 (by first | omega | (simp; done) | (simp; omega))
  clear hc4
  (try simp [go_sem, *] at kc4_0)
  (try simp [go_sem, *] at kc4_1)
  (try simp [go_sem, *] at kc4_2)
  (try simp [go_sem, *] at kc4_3)
  (try simp [go_sem, *] at kc4_4)
  (try simp [go_sem, *] at kc4_5)
  go_wp2_with fail; refine (HS.out _).mono ?_; rintro e w5 ⟨rfl, hb5⟩; obtain ⟨hc5, hf5⟩ := Gr.cells hb5; have hz5 := Gr.size hb5; (try simp at hz5); (try have hy5_0 : w.heap.size < w5.heap.size := by omega); (try have hy5_1 : w.heap.size + 1 < w5.heap.size := by omega); (try have hy5_2 : w.heap.size + 1 + 1 < w5.heap.size := by omega); (try have hy5_3 : w.heap.size + 1 + 1 + 1 < w5.heap.size := by omega); (try have hy5_4 : w.heap.size + 1 + 1 + 1 + 1 < w5.heap.size := by omega); (try have hy5_5 : w.heap.size + 1 + 1 + 1 + 1 + 1 < w5.heap.size := by omega); (try have hy5_1_0 : w1.heap.size < w5.heap.size := by omega); (try have hy5_1_1 : w1.heap.size + 1 < w5.heap.size := by omega); (try have hy5_2_0 : w2.heap.size < w5.heap.size := by omega); (try have hy5_2_1 : w2.heap.size + 1 < w5.heap.size := by omega); (try have hy5_3_0 : w3.heap.size < w5.heap.size := by omega); (try have hy5_3_1 : w3.heap.size + 1 < w5.heap.size := by omega); (try have hy5_4_0 : w4.heap.size < w5.heap.size := by omega); (try have hy5_4_1 : w4.heap.size + 1 < w5.heap.size := by omega)
  have kc5_0 := hc5 (w.heap.size) 0 (by first | omega | (simp; done) | (simp; omega))
  have kc5_1 := hc5 (w.heap.size) 1 (by first | omega | (simp; done) | (simp; omega))
  have kc5_2 := hc5 (w.heap.size) 2 (by first | omega | (simp; done) | (simp; omega))
  have kc5_3 := hc5 (w3.heap.size) 0 (by first | omega | (simp; done) | (simp; omega))
  have kc5_4 := hc5 (w3.heap.size) 1 (by first | omega | (simp; done) | (simp; omega))
  have kc5_5 := hc5 (w3.heap.size) 2 (by first | omega | (simp; done) | (simp; omega))
  clear hc5
  (try simp [go_sem, *] at kc5_0)
  (try simp [go_sem, *] at kc5_1)
  (try simp [go_sem, *] at kc5_2)
  (try simp [go_sem, *] at kc5_3)
  (try simp [go_sem, *] at kc5_4)
  (try simp [go_sem, *] at kc5_5)
  go_wp2
  go_ret
  exact ⟨rfl, (by repeat' (first | (with_reducible exact Gr.refl _) | (with_reducible assumption) | (with_reducible refine Gr.alloc ?_ _) | (with_reducible refine Gr.drew ?_) | (with_reducible refine Gr.drewN ?_ _) | (with_reducible refine Gr.setCell ?_ ?_ _) | (with_reducible refine Gr.trans ?_ (by with_reducible assumption)) | go_size))⟩
set_option maxRecDepth 100000 in
set_option maxHeartbeats 4000000 in
theorem back_101 (y m d t k q g y1 m1 d1 u : Int) (L : List UInt8) (s : ByteArray) (w : World) (hs : s.size ≤ 60) (hg : g ≠ 0) (u0 : 0 ≤ u) (u1 : u < 86400) (hL : L.length = 19)
    (HN : ∀ W : World, Calls Tryd.prog 19 #[.agg #[.int .i64 y, .int .i64 m, .int .i64 d]] W fun e w' => e = .returned (.tuple #[.int .i64 k, .int .i64 0]) ∧ Gr W w')
    (HD : ∀ W : World, Calls Tryd.prog 20 #[.int .i64 k] W fun e w' => e = .returned (.tuple #[.agg #[.int .i64 y, .int .i64 m, .int .i64 d], .int .i64 0]) ∧ Gr W w')
    (HP : ∀ W : World, Calls Tryd.prog 32 #[.string s] W fun e w' => e = .returned (.tuple #[.int .i64 q, .int .i64 g]) ∧ Gr W w')
    (HS : ∀ W : World, Calls Tryd.prog 27 #[.int .i64 t] W fun e w' => e = .returned (.tuple #[.agg #[.int .i64 y1, .int .i64 m1, .int .i64 d1], .int .i64 u, .int .i64 0]) ∧ Gr W w')
    (HA : ∀ W : World, Calls Tryd.prog 26 #[.agg #[.int .i64 y1, .int .i64 m1, .int .i64 d1], .int .i64 u] W fun e w' => e = .returned (.tuple #[.int .i64 t, .int .i64 0]) ∧ Gr W w')
    (HX : ∀ W : World, Gr w W → Calls Tryd.prog 30 #[.int .i64 t] W fun e w' => e = .returned (.tuple #[.string ⟨L.toArray⟩, .int .i64 0]) ∧ Gr W w')
    (HB : ∀ W : World, Calls Tryd.prog 32 #[.string ⟨L.toArray⟩] W fun e w' => e = .returned (.tuple #[.int .i64 t, .int .i64 0]) ∧ Gr W w')
    (HV : ∀ W : World, Calls Tryd.prog 22 #[.agg #[.int .i64 y1, .int .i64 m1, .int .i64 d1]] W fun e w' => e = .returned (.bool true) ∧ Gr W w')
    : Calls Tryd.prog 10 #[.agg #[.int .i64 y, .int .i64 m, .int .i64 d], .int .i64 t, .string s] w fun e w' => e = .returned (.bool true) ∧ Gr w w' := by
  have HN := Lib.hid HN
  have HD := Lib.hid HD
  have HP := Lib.hid HP
  have HS := Lib.hid HS
  have HA := Lib.hid HA
  have HX := Lib.hid HX
  have HB := Lib.hid HB
  have HV := Lib.hid HV
  have h1 : decide ((60 : Int) < (s.size : Int)) = false := decide_eq_false (by omega)
  have e1 : (y != y) = false := by simp
  have e2 : (m != m) = false := by simp
  have e3 : (d != d) = false := by simp
  have e4 : (g == 0) = false := beq_eq_false_iff_ne.2 hg
  clear hg
  have e5 : (t == t) = true := by simp
  have x0 : decide (0 ≤ u) = true := decide_eq_true u0
  have x1 : decide (u < 86400) = true := decide_eq_true u1
  go_enter Tryd.func10, Tryd.ntmps10
  
  go_wp2_with fail; refine (awake_any _).mono ?_; rintro e w1 ⟨rfl, hb1⟩; obtain ⟨hc1, hf1⟩ := Gr.cells hb1; have hz1 := Gr.size hb1; (try simp at hz1); (try have hy1_0 : w.heap.size < w1.heap.size := by omega); (try have hy1_1 : w.heap.size + 1 < w1.heap.size := by omega); (try have hy1_2 : w.heap.size + 1 + 1 < w1.heap.size := by omega); (try have hy1_3 : w.heap.size + 1 + 1 + 1 < w1.heap.size := by omega); (try have hy1_4 : w.heap.size + 1 + 1 + 1 + 1 < w1.heap.size := by omega); (try have hy1_5 : w.heap.size + 1 + 1 + 1 + 1 + 1 < w1.heap.size := by omega)
  have kc1_0 := hc1 (w.heap.size) 0 (by first | omega | (simp; done) | (simp; omega))
  have kc1_1 := hc1 (w.heap.size) 1 (by first | omega | (simp; done) | (simp; omega))
  have kc1_2 := hc1 (w.heap.size) 2 (by first | omega | (simp; done) | (simp; omega))
  clear hc1
  (try simp [go_sem, *] at kc1_0)
  (try simp [go_sem, *] at kc1_1)
  (try simp [go_sem, *] at kc1_2)
  go_wp2_with fail; refine (HN.out _).mono ?_; rintro e w2 ⟨rfl, hb2⟩; obtain ⟨hc2, hf2⟩ := Gr.cells hb2; have hz2 := Gr.size hb2; (try simp at hz2); (try have hy2_0 : w.heap.size < w2.heap.size := by omega); (try have hy2_1 : w.heap.size + 1 < w2.heap.size := by omega); (try have hy2_2 : w.heap.size + 1 + 1 < w2.heap.size := by omega); (try have hy2_3 : w.heap.size + 1 + 1 + 1 < w2.heap.size := by omega); (try have hy2_4 : w.heap.size + 1 + 1 + 1 + 1 < w2.heap.size := by omega); (try have hy2_5 : w.heap.size + 1 + 1 + 1 + 1 + 1 < w2.heap.size := by omega); (try have hy2_1_0 : w1.heap.size < w2.heap.size := by omega); (try have hy2_1_1 : w1.heap.size + 1 < w2.heap.size := by omega)
  have kc2_0 := hc2 (w.heap.size) 0 (by first | omega | (simp; done) | (simp; omega))
  have kc2_1 := hc2 (w.heap.size) 1 (by first | omega | (simp; done) | (simp; omega))
  have kc2_2 := hc2 (w.heap.size) 2 (by first | omega | (simp; done) | (simp; omega))
  clear hc2
  (try simp [go_sem, *] at kc2_0)
  (try simp [go_sem, *] at kc2_1)
  (try simp [go_sem, *] at kc2_2)
  go_wp2_with fail; refine (HD.out _).mono ?_; rintro e w3 ⟨rfl, hb3⟩; obtain ⟨hc3, hf3⟩ := Gr.cells hb3; have hz3 := Gr.size hb3; (try simp at hz3); (try have hy3_0 : w.heap.size < w3.heap.size := by omega); (try have hy3_1 : w.heap.size + 1 < w3.heap.size := by omega); (try have hy3_2 : w.heap.size + 1 + 1 < w3.heap.size := by omega); (try have hy3_3 : w.heap.size + 1 + 1 + 1 < w3.heap.size := by omega); (try have hy3_4 : w.heap.size + 1 + 1 + 1 + 1 < w3.heap.size := by omega); (try have hy3_5 : w.heap.size + 1 + 1 + 1 + 1 + 1 < w3.heap.size := by omega); (try have hy3_1_0 : w1.heap.size < w3.heap.size := by omega); (try have hy3_1_1 : w1.heap.size + 1 < w3.heap.size := by omega); (try have hy3_2_0 : w2.heap.size < w3.heap.size := by omega); (try have hy3_2_1 : w2.heap.size + 1 < w3.heap.size := by omega)
  have kc3_0 := hc3 (w.heap.size) 0 (by first | omega | (simp; done) | (simp; omega))
  have kc3_1 := hc3 (w.heap.size) 1 (by first | omega | (simp; done) | (simp; omega))
  have kc3_2 := hc3 (w.heap.size) 2 (by first | omega | (simp; done) | (simp; omega))
  clear hc3
  (try simp [go_sem, *] at kc3_0)
  (try simp [go_sem, *] at kc3_1)
  (try simp [go_sem, *] at kc3_2)
  
  go_wp2_with fail; refine (HP.out _).mono ?_; rintro e w4 ⟨rfl, hb4⟩; obtain ⟨hc4, hf4⟩ := Gr.cells hb4; have hz4 := Gr.size hb4; (try simp at hz4); (try have hy4_0 : w.heap.size < w4.heap.size := by omega); (try have hy4_1 : w.heap.size + 1 < w4.heap.size := by omega); (try have hy4_2 : w.heap.size + 1 + 1 < w4.heap.size := by omega); (try have hy4_3 : w.heap.size + 1 + 1 + 1 < w4.heap.size := by omega); (try have hy4_4 : w.heap.size + 1 + 1 + 1 + 1 < w4.heap.size := by omega); (try have hy4_5 : w.heap.size + 1 + 1 + 1 + 1 + 1 < w4.heap.size := by omega); (try have hy4_1_0 : w1.heap.size < w4.heap.size := by omega); (try have hy4_1_1 : w1.heap.size + 1 < w4.heap.size := by omega); (try have hy4_2_0 : w2.heap.size < w4.heap.size := by omega); (try have hy4_2_1 : w2.heap.size + 1 < w4.heap.size := by omega); (try have hy4_3_0 : w3.heap.size < w4.heap.size := by omega); (try have hy4_3_1 : w3.heap.size + 1 < w4.heap.size := by omega)
  have kc4_0 := hc4 (w.heap.size) 0 (by first | omega | (simp; done) | (simp; omega))
  have kc4_1 := hc4 (w.heap.size) 1 (by first | omega | (simp; done) | (simp; omega))
  have kc4_2 := hc4 (w.heap.size) 2 (by first | omega | (simp; done) | (simp; omega))
  have kc4_3 := hc4 (w3.heap.size) 0 (by first | omega | (simp; done) | (simp; omega))
  have kc4_4 := hc4 (w3.heap.size) 1 (by first | omega | (simp; done) | (simp; omega))
  have kc4_5 := hc4 (w3.heap.size) 2 (by first | omega | (simp; done) | (simp; omega))
  clear hc4
  (try simp [go_sem, *] at kc4_0)
  (try simp [go_sem, *] at kc4_1)
  (try simp [go_sem, *] at kc4_2)
  (try simp [go_sem, *] at kc4_3)
  (try simp [go_sem, *] at kc4_4)
  (try simp [go_sem, *] at kc4_5)
  go_wp2_with fail; refine (HS.out _).mono ?_; rintro e w5 ⟨rfl, hb5⟩; obtain ⟨hc5, hf5⟩ := Gr.cells hb5; have hz5 := Gr.size hb5; (try simp at hz5); (try have hy5_0 : w.heap.size < w5.heap.size := by omega); (try have hy5_1 : w.heap.size + 1 < w5.heap.size := by omega); (try have hy5_2 : w.heap.size + 1 + 1 < w5.heap.size := by omega); (try have hy5_3 : w.heap.size + 1 + 1 + 1 < w5.heap.size := by omega); (try have hy5_4 : w.heap.size + 1 + 1 + 1 + 1 < w5.heap.size := by omega); (try have hy5_5 : w.heap.size + 1 + 1 + 1 + 1 + 1 < w5.heap.size := by omega); (try have hy5_1_0 : w1.heap.size < w5.heap.size := by omega); (try have hy5_1_1 : w1.heap.size + 1 < w5.heap.size := by omega); (try have hy5_2_0 : w2.heap.size < w5.heap.size := by omega); (try have hy5_2_1 : w2.heap.size + 1 < w5.heap.size := by omega); (try have hy5_3_0 : w3.heap.size < w5.heap.size := by omega); (try have hy5_3_1 : w3.heap.size + 1 < w5.heap.size := by omega); (try have hy5_4_0 : w4.heap.size < w5.heap.size := by omega); (try have hy5_4_1 : w4.heap.size + 1 < w5.heap.size := by omega)
  have kc5_0 := hc5 (w.heap.size) 0 (by first | omega | (simp; done) | (simp; omega))
  have kc5_1 := hc5 (w.heap.size) 1 (by first | omega | (simp; done) | (simp; omega))
  have kc5_2 := hc5 (w.heap.size) 2 (by first | omega | (simp; done) | (simp; omega))
  have kc5_3 := hc5 (w3.heap.size) 0 (by first | omega | (simp; done) | (simp; omega))
  have kc5_4 := hc5 (w3.heap.size) 1 (by first | omega | (simp; done) | (simp; omega))
  have kc5_5 := hc5 (w3.heap.size) 2 (by first | omega | (simp; done) | (simp; omega))
  clear hc5
  (try simp [go_sem, *] at kc5_0)
  (try simp [go_sem, *] at kc5_1)
  (try simp [go_sem, *] at kc5_2)
  (try simp [go_sem, *] at kc5_3)
  (try simp [go_sem, *] at kc5_4)
  (try simp [go_sem, *] at kc5_5)
  
  go_wp2_with fail; refine (HA.out _).mono ?_; rintro e w6 ⟨rfl, hb6⟩; obtain ⟨hc6, hf6⟩ := Gr.cells hb6; have hz6 := Gr.size hb6; (try simp at hz6); (try have hy6_0 : w.heap.size < w6.heap.size := by omega); (try have hy6_1 : w.heap.size + 1 < w6.heap.size := by omega); (try have hy6_2 : w.heap.size + 1 + 1 < w6.heap.size := by omega); (try have hy6_3 : w.heap.size + 1 + 1 + 1 < w6.heap.size := by omega); (try have hy6_4 : w.heap.size + 1 + 1 + 1 + 1 < w6.heap.size := by omega); (try have hy6_5 : w.heap.size + 1 + 1 + 1 + 1 + 1 < w6.heap.size := by omega); (try have hy6_1_0 : w1.heap.size < w6.heap.size := by omega); (try have hy6_1_1 : w1.heap.size + 1 < w6.heap.size := by omega); (try have hy6_2_0 : w2.heap.size < w6.heap.size := by omega); (try have hy6_2_1 : w2.heap.size + 1 < w6.heap.size := by omega); (try have hy6_3_0 : w3.heap.size < w6.heap.size := by omega); (try have hy6_3_1 : w3.heap.size + 1 < w6.heap.size := by omega); (try have hy6_4_0 : w4.heap.size < w6.heap.size := by omega); (try have hy6_4_1 : w4.heap.size + 1 < w6.heap.size := by omega); (try have hy6_5_0 : w5.heap.size < w6.heap.size := by omega); (try have hy6_5_1 : w5.heap.size + 1 < w6.heap.size := by omega)
  have kc6_0 := hc6 (w.heap.size) 0 (by first | omega | (simp; done) | (simp; omega))
  have kc6_1 := hc6 (w.heap.size) 1 (by first | omega | (simp; done) | (simp; omega))
  have kc6_2 := hc6 (w.heap.size) 2 (by first | omega | (simp; done) | (simp; omega))
  have kc6_3 := hc6 (w3.heap.size) 0 (by first | omega | (simp; done) | (simp; omega))
  have kc6_4 := hc6 (w3.heap.size) 1 (by first | omega | (simp; done) | (simp; omega))
  have kc6_5 := hc6 (w3.heap.size) 2 (by first | omega | (simp; done) | (simp; omega))
  have kc6_6 := hc6 (w5.heap.size) 0 (by first | omega | (simp; done) | (simp; omega))
  have kc6_7 := hc6 (w5.heap.size) 1 (by first | omega | (simp; done) | (simp; omega))
  have kc6_8 := hc6 (w5.heap.size) 2 (by first | omega | (simp; done) | (simp; omega))
  clear hc6
  (try simp [go_sem, *] at kc6_0)
  (try simp [go_sem, *] at kc6_1)
  (try simp [go_sem, *] at kc6_2)
  (try simp [go_sem, *] at kc6_3)
  (try simp [go_sem, *] at kc6_4)
  (try simp [go_sem, *] at kc6_5)
  (try simp [go_sem, *] at kc6_6)
  (try simp [go_sem, *] at kc6_7)
  (try simp [go_sem, *] at kc6_8)
  go_wp2_with fail; refine (HX.out _ (by repeat' (first | (with_reducible exact Gr.refl _) | (with_reducible assumption) | (with_reducible refine Gr.alloc ?_ _) | (with_reducible refine Gr.drew ?_) | (with_reducible refine Gr.drewN ?_ _) | (with_reducible refine Gr.setCell ?_ ?_ _) | (with_reducible refine Gr.trans ?_ (by with_reducible assumption)) | go_size))).mono ?_; rintro e w7 ⟨rfl, hb7⟩; obtain ⟨hc7, hf7⟩ := Gr.cells hb7; have hz7 := Gr.size hb7; (try simp at hz7); (try have hy7_0 : w.heap.size < w7.heap.size := by omega); (try have hy7_1 : w.heap.size + 1 < w7.heap.size := by omega); (try have hy7_2 : w.heap.size + 1 + 1 < w7.heap.size := by omega); (try have hy7_3 : w.heap.size + 1 + 1 + 1 < w7.heap.size := by omega); (try have hy7_4 : w.heap.size + 1 + 1 + 1 + 1 < w7.heap.size := by omega); (try have hy7_5 : w.heap.size + 1 + 1 + 1 + 1 + 1 < w7.heap.size := by omega); (try have hy7_1_0 : w1.heap.size < w7.heap.size := by omega); (try have hy7_1_1 : w1.heap.size + 1 < w7.heap.size := by omega); (try have hy7_2_0 : w2.heap.size < w7.heap.size := by omega); (try have hy7_2_1 : w2.heap.size + 1 < w7.heap.size := by omega); (try have hy7_3_0 : w3.heap.size < w7.heap.size := by omega); (try have hy7_3_1 : w3.heap.size + 1 < w7.heap.size := by omega); (try have hy7_4_0 : w4.heap.size < w7.heap.size := by omega); (try have hy7_4_1 : w4.heap.size + 1 < w7.heap.size := by omega); (try have hy7_5_0 : w5.heap.size < w7.heap.size := by omega); (try have hy7_5_1 : w5.heap.size + 1 < w7.heap.size := by omega); (try have hy7_6_0 : w6.heap.size < w7.heap.size := by omega); (try have hy7_6_1 : w6.heap.size + 1 < w7.heap.size := by omega)
  have kc7_0 := hc7 (w.heap.size) 0 (by first | omega | (simp; done) | (simp; omega))
  have kc7_1 := hc7 (w.heap.size) 1 (by first | omega | (simp; done) | (simp; omega))
  have kc7_2 := hc7 (w.heap.size) 2 (by first | omega | (simp; done) | (simp; omega))
  have kc7_3 := hc7 (w3.heap.size) 0 (by first | omega | (simp; done) | (simp; omega))
  have kc7_4 := hc7 (w3.heap.size) 1 (by first | omega | (simp; done) | (simp; omega))
  have kc7_5 := hc7 (w3.heap.size) 2 (by first | omega | (simp; done) | (simp; omega))
  have kc7_6 := hc7 (w5.heap.size) 0 (by first | omega | (simp; done) | (simp; omega))
  have kc7_7 := hc7 (w5.heap.size) 1 (by first | omega | (simp; done) | (simp; omega))
  have kc7_8 := hc7 (w5.heap.size) 2 (by first | omega | (simp; done) | (simp; omega))
  clear hc7
  (try simp [go_sem, *] at kc7_0)
  (try simp [go_sem, *] at kc7_1)
  (try simp [go_sem, *] at kc7_2)
  (try simp [go_sem, *] at kc7_3)
  (try simp [go_sem, *] at kc7_4)
  (try simp [go_sem, *] at kc7_5)
  (try simp [go_sem, *] at kc7_6)
  (try simp [go_sem, *] at kc7_7)
  (try simp [go_sem, *] at kc7_8)
  go_wp2_with fail; refine (HB.out _).mono ?_; rintro e w8 ⟨rfl, hb8⟩; obtain ⟨hc8, hf8⟩ := Gr.cells hb8; have hz8 := Gr.size hb8; (try simp at hz8); (try have hy8_0 : w.heap.size < w8.heap.size := by omega); (try have hy8_1 : w.heap.size + 1 < w8.heap.size := by omega); (try have hy8_2 : w.heap.size + 1 + 1 < w8.heap.size := by omega); (try have hy8_3 : w.heap.size + 1 + 1 + 1 < w8.heap.size := by omega); (try have hy8_4 : w.heap.size + 1 + 1 + 1 + 1 < w8.heap.size := by omega); (try have hy8_5 : w.heap.size + 1 + 1 + 1 + 1 + 1 < w8.heap.size := by omega); (try have hy8_1_0 : w1.heap.size < w8.heap.size := by omega); (try have hy8_1_1 : w1.heap.size + 1 < w8.heap.size := by omega); (try have hy8_2_0 : w2.heap.size < w8.heap.size := by omega); (try have hy8_2_1 : w2.heap.size + 1 < w8.heap.size := by omega); (try have hy8_3_0 : w3.heap.size < w8.heap.size := by omega); (try have hy8_3_1 : w3.heap.size + 1 < w8.heap.size := by omega); (try have hy8_4_0 : w4.heap.size < w8.heap.size := by omega); (try have hy8_4_1 : w4.heap.size + 1 < w8.heap.size := by omega); (try have hy8_5_0 : w5.heap.size < w8.heap.size := by omega); (try have hy8_5_1 : w5.heap.size + 1 < w8.heap.size := by omega); (try have hy8_6_0 : w6.heap.size < w8.heap.size := by omega); (try have hy8_6_1 : w6.heap.size + 1 < w8.heap.size := by omega); (try have hy8_7_0 : w7.heap.size < w8.heap.size := by omega); (try have hy8_7_1 : w7.heap.size + 1 < w8.heap.size := by omega)
  have kc8_0 := hc8 (w.heap.size) 0 (by first | omega | (simp; done) | (simp; omega))
  have kc8_1 := hc8 (w.heap.size) 1 (by first | omega | (simp; done) | (simp; omega))
  have kc8_2 := hc8 (w.heap.size) 2 (by first | omega | (simp; done) | (simp; omega))
  have kc8_3 := hc8 (w3.heap.size) 0 (by first | omega | (simp; done) | (simp; omega))
  have kc8_4 := hc8 (w3.heap.size) 1 (by first | omega | (simp; done) | (simp; omega))
  have kc8_5 := hc8 (w3.heap.size) 2 (by first | omega | (simp; done) | (simp; omega))
  have kc8_6 := hc8 (w5.heap.size) 0 (by first | omega | (simp; done) | (simp; omega))
  have kc8_7 := hc8 (w5.heap.size) 1 (by first | omega | (simp; done) | (simp; omega))
  have kc8_8 := hc8 (w5.heap.size) 2 (by first | omega | (simp; done) | (simp; omega))
  clear hc8
  (try simp [go_sem, *] at kc8_0)
  (try simp [go_sem, *] at kc8_1)
  (try simp [go_sem, *] at kc8_2)
  (try simp [go_sem, *] at kc8_3)
  (try simp [go_sem, *] at kc8_4)
  (try simp [go_sem, *] at kc8_5)
  (try simp [go_sem, *] at kc8_6)
  (try simp [go_sem, *] at kc8_7)
  (try simp [go_sem, *] at kc8_8)
  go_wp2_with fail; refine (HV.out _).mono ?_; rintro e w9 ⟨rfl, hb9⟩; obtain ⟨hc9, hf9⟩ := Gr.cells hb9; have hz9 := Gr.size hb9; (try simp at hz9); (try have hy9_0 : w.heap.size < w9.heap.size := by omega); (try have hy9_1 : w.heap.size + 1 < w9.heap.size := by omega); (try have hy9_2 : w.heap.size + 1 + 1 < w9.heap.size := by omega); (try have hy9_3 : w.heap.size + 1 + 1 + 1 < w9.heap.size := by omega); (try have hy9_4 : w.heap.size + 1 + 1 + 1 + 1 < w9.heap.size := by omega); (try have hy9_5 : w.heap.size + 1 + 1 + 1 + 1 + 1 < w9.heap.size := by omega); (try have hy9_1_0 : w1.heap.size < w9.heap.size := by omega); (try have hy9_1_1 : w1.heap.size + 1 < w9.heap.size := by omega); (try have hy9_2_0 : w2.heap.size < w9.heap.size := by omega); (try have hy9_2_1 : w2.heap.size + 1 < w9.heap.size := by omega); (try have hy9_3_0 : w3.heap.size < w9.heap.size := by omega); (try have hy9_3_1 : w3.heap.size + 1 < w9.heap.size := by omega); (try have hy9_4_0 : w4.heap.size < w9.heap.size := by omega); (try have hy9_4_1 : w4.heap.size + 1 < w9.heap.size := by omega); (try have hy9_5_0 : w5.heap.size < w9.heap.size := by omega); (try have hy9_5_1 : w5.heap.size + 1 < w9.heap.size := by omega); (try have hy9_6_0 : w6.heap.size < w9.heap.size := by omega); (try have hy9_6_1 : w6.heap.size + 1 < w9.heap.size := by omega); (try have hy9_7_0 : w7.heap.size < w9.heap.size := by omega); (try have hy9_7_1 : w7.heap.size + 1 < w9.heap.size := by omega); (try have hy9_8_0 : w8.heap.size < w9.heap.size := by omega); (try have hy9_8_1 : w8.heap.size + 1 < w9.heap.size := by omega)
  have kc9_0 := hc9 (w.heap.size) 0 (by first | omega | (simp; done) | (simp; omega))
  have kc9_1 := hc9 (w.heap.size) 1 (by first | omega | (simp; done) | (simp; omega))
  have kc9_2 := hc9 (w.heap.size) 2 (by first | omega | (simp; done) | (simp; omega))
  have kc9_3 := hc9 (w3.heap.size) 0 (by first | omega | (simp; done) | (simp; omega))
  have kc9_4 := hc9 (w3.heap.size) 1 (by first | omega | (simp; done) | (simp; omega))
  have kc9_5 := hc9 (w3.heap.size) 2 (by first | omega | (simp; done) | (simp; omega))
  have kc9_6 := hc9 (w5.heap.size) 0 (by first | omega | (simp; done) | (simp; omega))
  have kc9_7 := hc9 (w5.heap.size) 1 (by first | omega | (simp; done) | (simp; omega))
  have kc9_8 := hc9 (w5.heap.size) 2 (by first | omega | (simp; done) | (simp; omega))
  clear hc9
  (try simp [go_sem, *] at kc9_0)
  (try simp [go_sem, *] at kc9_1)
  (try simp [go_sem, *] at kc9_2)
  (try simp [go_sem, *] at kc9_3)
  (try simp [go_sem, *] at kc9_4)
  (try simp [go_sem, *] at kc9_5)
  (try simp [go_sem, *] at kc9_6)
  (try simp [go_sem, *] at kc9_7)
  (try simp [go_sem, *] at kc9_8)
  go_wp2
  go_ret
  exact ⟨rfl, (by repeat' (first | (with_reducible exact Gr.refl _) | (with_reducible assumption) | (with_reducible refine Gr.alloc ?_ _) | (with_reducible refine Gr.drew ?_) | (with_reducible refine Gr.drewN ?_ _) | (with_reducible refine Gr.setCell ?_ ?_ _) | (with_reducible refine Gr.trans ?_ (by with_reducible assumption)) | go_size))⟩
set_option maxRecDepth 100000 in
set_option maxHeartbeats 4000000 in
theorem back_110 (y m d t k q r : Int) (s : ByteArray) (w : World) (hs : s.size ≤ 60) (hr : r ≠ 0)
    (HN : ∀ W : World, Calls Tryd.prog 19 #[.agg #[.int .i64 y, .int .i64 m, .int .i64 d]] W fun e w' => e = .returned (.tuple #[.int .i64 k, .int .i64 0]) ∧ Gr W w')
    (HD : ∀ W : World, Calls Tryd.prog 20 #[.int .i64 k] W fun e w' => e = .returned (.tuple #[.agg #[.int .i64 y, .int .i64 m, .int .i64 d], .int .i64 0]) ∧ Gr W w')
    (HP : ∀ W : World, Calls Tryd.prog 32 #[.string s] W fun e w' => e = .returned (.tuple #[.int .i64 q, .int .i64 0]) ∧ Gr W w')
    (HT : ∀ W : World, Gr w W → Calls Tryd.prog 30 #[.int .i64 q] W fun e w' => e = .returned (.tuple #[.string s, .int .i64 0]) ∧ Gr W w')
    (HS : ∀ W : World, Calls Tryd.prog 27 #[.int .i64 t] W fun e w' => e = .returned (.tuple #[.agg #[.int .i64 0, .int .i64 0, .int .i64 0], .int .i64 0, .int .i64 r]) ∧ Gr W w')
    : Calls Tryd.prog 10 #[.agg #[.int .i64 y, .int .i64 m, .int .i64 d], .int .i64 t, .string s] w fun e w' => e = .returned (.bool true) ∧ Gr w w' := by
  have HN := Lib.hid HN
  have HD := Lib.hid HD
  have HP := Lib.hid HP
  have HT := Lib.hid HT
  have HS := Lib.hid HS
  have h1 : decide ((60 : Int) < (s.size : Int)) = false := decide_eq_false (by omega)
  have e1 : (y != y) = false := by simp
  have e2 : (m != m) = false := by simp
  have e3 : (d != d) = false := by simp
  have e5 : (r != 0) = true := bne_iff_ne.2 hr
  clear hr
  go_enter Tryd.func10, Tryd.ntmps10
  
  go_wp2_with fail; refine (awake_any _).mono ?_; rintro e w1 ⟨rfl, hb1⟩; obtain ⟨hc1, hf1⟩ := Gr.cells hb1; have hz1 := Gr.size hb1; (try simp at hz1); (try have hy1_0 : w.heap.size < w1.heap.size := by omega); (try have hy1_1 : w.heap.size + 1 < w1.heap.size := by omega); (try have hy1_2 : w.heap.size + 1 + 1 < w1.heap.size := by omega); (try have hy1_3 : w.heap.size + 1 + 1 + 1 < w1.heap.size := by omega); (try have hy1_4 : w.heap.size + 1 + 1 + 1 + 1 < w1.heap.size := by omega); (try have hy1_5 : w.heap.size + 1 + 1 + 1 + 1 + 1 < w1.heap.size := by omega)
  have kc1_0 := hc1 (w.heap.size) 0 (by first | omega | (simp; done) | (simp; omega))
  have kc1_1 := hc1 (w.heap.size) 1 (by first | omega | (simp; done) | (simp; omega))
  have kc1_2 := hc1 (w.heap.size) 2 (by first | omega | (simp; done) | (simp; omega))
  clear hc1
  (try simp [go_sem, *] at kc1_0)
  (try simp [go_sem, *] at kc1_1)
  (try simp [go_sem, *] at kc1_2)
  go_wp2_with fail; refine (HN.out _).mono ?_; rintro e w2 ⟨rfl, hb2⟩; obtain ⟨hc2, hf2⟩ := Gr.cells hb2; have hz2 := Gr.size hb2; (try simp at hz2); (try have hy2_0 : w.heap.size < w2.heap.size := by omega); (try have hy2_1 : w.heap.size + 1 < w2.heap.size := by omega); (try have hy2_2 : w.heap.size + 1 + 1 < w2.heap.size := by omega); (try have hy2_3 : w.heap.size + 1 + 1 + 1 < w2.heap.size := by omega); (try have hy2_4 : w.heap.size + 1 + 1 + 1 + 1 < w2.heap.size := by omega); (try have hy2_5 : w.heap.size + 1 + 1 + 1 + 1 + 1 < w2.heap.size := by omega); (try have hy2_1_0 : w1.heap.size < w2.heap.size := by omega); (try have hy2_1_1 : w1.heap.size + 1 < w2.heap.size := by omega)
  have kc2_0 := hc2 (w.heap.size) 0 (by first | omega | (simp; done) | (simp; omega))
  have kc2_1 := hc2 (w.heap.size) 1 (by first | omega | (simp; done) | (simp; omega))
  have kc2_2 := hc2 (w.heap.size) 2 (by first | omega | (simp; done) | (simp; omega))
  clear hc2
  (try simp [go_sem, *] at kc2_0)
  (try simp [go_sem, *] at kc2_1)
  (try simp [go_sem, *] at kc2_2)
  go_wp2_with fail; refine (HD.out _).mono ?_; rintro e w3 ⟨rfl, hb3⟩; obtain ⟨hc3, hf3⟩ := Gr.cells hb3; have hz3 := Gr.size hb3; (try simp at hz3); (try have hy3_0 : w.heap.size < w3.heap.size := by omega); (try have hy3_1 : w.heap.size + 1 < w3.heap.size := by omega); (try have hy3_2 : w.heap.size + 1 + 1 < w3.heap.size := by omega); (try have hy3_3 : w.heap.size + 1 + 1 + 1 < w3.heap.size := by omega); (try have hy3_4 : w.heap.size + 1 + 1 + 1 + 1 < w3.heap.size := by omega); (try have hy3_5 : w.heap.size + 1 + 1 + 1 + 1 + 1 < w3.heap.size := by omega); (try have hy3_1_0 : w1.heap.size < w3.heap.size := by omega); (try have hy3_1_1 : w1.heap.size + 1 < w3.heap.size := by omega); (try have hy3_2_0 : w2.heap.size < w3.heap.size := by omega); (try have hy3_2_1 : w2.heap.size + 1 < w3.heap.size := by omega)
  have kc3_0 := hc3 (w.heap.size) 0 (by first | omega | (simp; done) | (simp; omega))
  have kc3_1 := hc3 (w.heap.size) 1 (by first | omega | (simp; done) | (simp; omega))
  have kc3_2 := hc3 (w.heap.size) 2 (by first | omega | (simp; done) | (simp; omega))
  clear hc3
  (try simp [go_sem, *] at kc3_0)
  (try simp [go_sem, *] at kc3_1)
  (try simp [go_sem, *] at kc3_2)
  
  go_wp2_with fail; refine (HP.out _).mono ?_; rintro e w4 ⟨rfl, hb4⟩; obtain ⟨hc4, hf4⟩ := Gr.cells hb4; have hz4 := Gr.size hb4; (try simp at hz4); (try have hy4_0 : w.heap.size < w4.heap.size := by omega); (try have hy4_1 : w.heap.size + 1 < w4.heap.size := by omega); (try have hy4_2 : w.heap.size + 1 + 1 < w4.heap.size := by omega); (try have hy4_3 : w.heap.size + 1 + 1 + 1 < w4.heap.size := by omega); (try have hy4_4 : w.heap.size + 1 + 1 + 1 + 1 < w4.heap.size := by omega); (try have hy4_5 : w.heap.size + 1 + 1 + 1 + 1 + 1 < w4.heap.size := by omega); (try have hy4_1_0 : w1.heap.size < w4.heap.size := by omega); (try have hy4_1_1 : w1.heap.size + 1 < w4.heap.size := by omega); (try have hy4_2_0 : w2.heap.size < w4.heap.size := by omega); (try have hy4_2_1 : w2.heap.size + 1 < w4.heap.size := by omega); (try have hy4_3_0 : w3.heap.size < w4.heap.size := by omega); (try have hy4_3_1 : w3.heap.size + 1 < w4.heap.size := by omega)
  have kc4_0 := hc4 (w.heap.size) 0 (by first | omega | (simp; done) | (simp; omega))
  have kc4_1 := hc4 (w.heap.size) 1 (by first | omega | (simp; done) | (simp; omega))
  have kc4_2 := hc4 (w.heap.size) 2 (by first | omega | (simp; done) | (simp; omega))
  have kc4_3 := hc4 (w3.heap.size) 0 (by first | omega | (simp; done) | (simp; omega))
  have kc4_4 := hc4 (w3.heap.size) 1 (by first | omega | (simp; done) | (simp; omega))
  have kc4_5 := hc4 (w3.heap.size) 2 (by first | omega | (simp; done) | (simp; omega))
  clear hc4
  (try simp [go_sem, *] at kc4_0)
  (try simp [go_sem, *] at kc4_1)
  (try simp [go_sem, *] at kc4_2)
  (try simp [go_sem, *] at kc4_3)
  (try simp [go_sem, *] at kc4_4)
  (try simp [go_sem, *] at kc4_5)
  go_wp2_with fail; refine (HT.out _ (by repeat' (first | (with_reducible exact Gr.refl _) | (with_reducible assumption) | (with_reducible refine Gr.alloc ?_ _) | (with_reducible refine Gr.drew ?_) | (with_reducible refine Gr.drewN ?_ _) | (with_reducible refine Gr.setCell ?_ ?_ _) | (with_reducible refine Gr.trans ?_ (by with_reducible assumption)) | go_size))).mono ?_; rintro e w5 ⟨rfl, hb5⟩; obtain ⟨hc5, hf5⟩ := Gr.cells hb5; have hz5 := Gr.size hb5; (try simp at hz5); (try have hy5_0 : w.heap.size < w5.heap.size := by omega); (try have hy5_1 : w.heap.size + 1 < w5.heap.size := by omega); (try have hy5_2 : w.heap.size + 1 + 1 < w5.heap.size := by omega); (try have hy5_3 : w.heap.size + 1 + 1 + 1 < w5.heap.size := by omega); (try have hy5_4 : w.heap.size + 1 + 1 + 1 + 1 < w5.heap.size := by omega); (try have hy5_5 : w.heap.size + 1 + 1 + 1 + 1 + 1 < w5.heap.size := by omega); (try have hy5_1_0 : w1.heap.size < w5.heap.size := by omega); (try have hy5_1_1 : w1.heap.size + 1 < w5.heap.size := by omega); (try have hy5_2_0 : w2.heap.size < w5.heap.size := by omega); (try have hy5_2_1 : w2.heap.size + 1 < w5.heap.size := by omega); (try have hy5_3_0 : w3.heap.size < w5.heap.size := by omega); (try have hy5_3_1 : w3.heap.size + 1 < w5.heap.size := by omega); (try have hy5_4_0 : w4.heap.size < w5.heap.size := by omega); (try have hy5_4_1 : w4.heap.size + 1 < w5.heap.size := by omega)
  have kc5_0 := hc5 (w.heap.size) 0 (by first | omega | (simp; done) | (simp; omega))
  have kc5_1 := hc5 (w.heap.size) 1 (by first | omega | (simp; done) | (simp; omega))
  have kc5_2 := hc5 (w.heap.size) 2 (by first | omega | (simp; done) | (simp; omega))
  have kc5_3 := hc5 (w3.heap.size) 0 (by first | omega | (simp; done) | (simp; omega))
  have kc5_4 := hc5 (w3.heap.size) 1 (by first | omega | (simp; done) | (simp; omega))
  have kc5_5 := hc5 (w3.heap.size) 2 (by first | omega | (simp; done) | (simp; omega))
  clear hc5
  (try simp [go_sem, *] at kc5_0)
  (try simp [go_sem, *] at kc5_1)
  (try simp [go_sem, *] at kc5_2)
  (try simp [go_sem, *] at kc5_3)
  (try simp [go_sem, *] at kc5_4)
  (try simp [go_sem, *] at kc5_5)
  go_wp2_with fail; refine (HS.out _).mono ?_; rintro e w6 ⟨rfl, hb6⟩; obtain ⟨hc6, hf6⟩ := Gr.cells hb6; have hz6 := Gr.size hb6; (try simp at hz6); (try have hy6_0 : w.heap.size < w6.heap.size := by omega); (try have hy6_1 : w.heap.size + 1 < w6.heap.size := by omega); (try have hy6_2 : w.heap.size + 1 + 1 < w6.heap.size := by omega); (try have hy6_3 : w.heap.size + 1 + 1 + 1 < w6.heap.size := by omega); (try have hy6_4 : w.heap.size + 1 + 1 + 1 + 1 < w6.heap.size := by omega); (try have hy6_5 : w.heap.size + 1 + 1 + 1 + 1 + 1 < w6.heap.size := by omega); (try have hy6_1_0 : w1.heap.size < w6.heap.size := by omega); (try have hy6_1_1 : w1.heap.size + 1 < w6.heap.size := by omega); (try have hy6_2_0 : w2.heap.size < w6.heap.size := by omega); (try have hy6_2_1 : w2.heap.size + 1 < w6.heap.size := by omega); (try have hy6_3_0 : w3.heap.size < w6.heap.size := by omega); (try have hy6_3_1 : w3.heap.size + 1 < w6.heap.size := by omega); (try have hy6_4_0 : w4.heap.size < w6.heap.size := by omega); (try have hy6_4_1 : w4.heap.size + 1 < w6.heap.size := by omega); (try have hy6_5_0 : w5.heap.size < w6.heap.size := by omega); (try have hy6_5_1 : w5.heap.size + 1 < w6.heap.size := by omega)
  have kc6_0 := hc6 (w.heap.size) 0 (by first | omega | (simp; done) | (simp; omega))
  have kc6_1 := hc6 (w.heap.size) 1 (by first | omega | (simp; done) | (simp; omega))
  have kc6_2 := hc6 (w.heap.size) 2 (by first | omega | (simp; done) | (simp; omega))
  have kc6_3 := hc6 (w3.heap.size) 0 (by first | omega | (simp; done) | (simp; omega))
  have kc6_4 := hc6 (w3.heap.size) 1 (by first | omega | (simp; done) | (simp; omega))
  have kc6_5 := hc6 (w3.heap.size) 2 (by first | omega | (simp; done) | (simp; omega))
  clear hc6
  (try simp [go_sem, *] at kc6_0)
  (try simp [go_sem, *] at kc6_1)
  (try simp [go_sem, *] at kc6_2)
  (try simp [go_sem, *] at kc6_3)
  (try simp [go_sem, *] at kc6_4)
  (try simp [go_sem, *] at kc6_5)
  go_wp2
  go_ret
  exact ⟨rfl, (by repeat' (first | (with_reducible exact Gr.refl _) | (with_reducible assumption) | (with_reducible refine Gr.alloc ?_ _) | (with_reducible refine Gr.drew ?_) | (with_reducible refine Gr.drewN ?_ _) | (with_reducible refine Gr.setCell ?_ ?_ _) | (with_reducible refine Gr.trans ?_ (by with_reducible assumption)) | go_size))⟩
set_option maxRecDepth 100000 in
set_option maxHeartbeats 4000000 in
theorem back_111 (y m d t k q y1 m1 d1 u : Int) (L : List UInt8) (s : ByteArray) (w : World) (hs : s.size ≤ 60) (u0 : 0 ≤ u) (u1 : u < 86400) (hL : L.length = 19)
    (HN : ∀ W : World, Calls Tryd.prog 19 #[.agg #[.int .i64 y, .int .i64 m, .int .i64 d]] W fun e w' => e = .returned (.tuple #[.int .i64 k, .int .i64 0]) ∧ Gr W w')
    (HD : ∀ W : World, Calls Tryd.prog 20 #[.int .i64 k] W fun e w' => e = .returned (.tuple #[.agg #[.int .i64 y, .int .i64 m, .int .i64 d], .int .i64 0]) ∧ Gr W w')
    (HP : ∀ W : World, Calls Tryd.prog 32 #[.string s] W fun e w' => e = .returned (.tuple #[.int .i64 q, .int .i64 0]) ∧ Gr W w')
    (HT : ∀ W : World, Gr w W → Calls Tryd.prog 30 #[.int .i64 q] W fun e w' => e = .returned (.tuple #[.string s, .int .i64 0]) ∧ Gr W w')
    (HS : ∀ W : World, Calls Tryd.prog 27 #[.int .i64 t] W fun e w' => e = .returned (.tuple #[.agg #[.int .i64 y1, .int .i64 m1, .int .i64 d1], .int .i64 u, .int .i64 0]) ∧ Gr W w')
    (HA : ∀ W : World, Calls Tryd.prog 26 #[.agg #[.int .i64 y1, .int .i64 m1, .int .i64 d1], .int .i64 u] W fun e w' => e = .returned (.tuple #[.int .i64 t, .int .i64 0]) ∧ Gr W w')
    (HX : ∀ W : World, Gr w W → Calls Tryd.prog 30 #[.int .i64 t] W fun e w' => e = .returned (.tuple #[.string ⟨L.toArray⟩, .int .i64 0]) ∧ Gr W w')
    (HB : ∀ W : World, Calls Tryd.prog 32 #[.string ⟨L.toArray⟩] W fun e w' => e = .returned (.tuple #[.int .i64 t, .int .i64 0]) ∧ Gr W w')
    (HV : ∀ W : World, Calls Tryd.prog 22 #[.agg #[.int .i64 y1, .int .i64 m1, .int .i64 d1]] W fun e w' => e = .returned (.bool true) ∧ Gr W w')
    : Calls Tryd.prog 10 #[.agg #[.int .i64 y, .int .i64 m, .int .i64 d], .int .i64 t, .string s] w fun e w' => e = .returned (.bool true) ∧ Gr w w' := by
  have HN := Lib.hid HN
  have HD := Lib.hid HD
  have HP := Lib.hid HP
  have HT := Lib.hid HT
  have HS := Lib.hid HS
  have HA := Lib.hid HA
  have HX := Lib.hid HX
  have HB := Lib.hid HB
  have HV := Lib.hid HV
  have h1 : decide ((60 : Int) < (s.size : Int)) = false := decide_eq_false (by omega)
  have e1 : (y != y) = false := by simp
  have e2 : (m != m) = false := by simp
  have e3 : (d != d) = false := by simp
  have e5 : (t == t) = true := by simp
  have x0 : decide (0 ≤ u) = true := decide_eq_true u0
  have x1 : decide (u < 86400) = true := decide_eq_true u1
  go_enter Tryd.func10, Tryd.ntmps10
  
  go_wp2_with fail; refine (awake_any _).mono ?_; rintro e w1 ⟨rfl, hb1⟩; obtain ⟨hc1, hf1⟩ := Gr.cells hb1; have hz1 := Gr.size hb1; (try simp at hz1); (try have hy1_0 : w.heap.size < w1.heap.size := by omega); (try have hy1_1 : w.heap.size + 1 < w1.heap.size := by omega); (try have hy1_2 : w.heap.size + 1 + 1 < w1.heap.size := by omega); (try have hy1_3 : w.heap.size + 1 + 1 + 1 < w1.heap.size := by omega); (try have hy1_4 : w.heap.size + 1 + 1 + 1 + 1 < w1.heap.size := by omega); (try have hy1_5 : w.heap.size + 1 + 1 + 1 + 1 + 1 < w1.heap.size := by omega)
  have kc1_0 := hc1 (w.heap.size) 0 (by first | omega | (simp; done) | (simp; omega))
  have kc1_1 := hc1 (w.heap.size) 1 (by first | omega | (simp; done) | (simp; omega))
  have kc1_2 := hc1 (w.heap.size) 2 (by first | omega | (simp; done) | (simp; omega))
  clear hc1
  (try simp [go_sem, *] at kc1_0)
  (try simp [go_sem, *] at kc1_1)
  (try simp [go_sem, *] at kc1_2)
  go_wp2_with fail; refine (HN.out _).mono ?_; rintro e w2 ⟨rfl, hb2⟩; obtain ⟨hc2, hf2⟩ := Gr.cells hb2; have hz2 := Gr.size hb2; (try simp at hz2); (try have hy2_0 : w.heap.size < w2.heap.size := by omega); (try have hy2_1 : w.heap.size + 1 < w2.heap.size := by omega); (try have hy2_2 : w.heap.size + 1 + 1 < w2.heap.size := by omega); (try have hy2_3 : w.heap.size + 1 + 1 + 1 < w2.heap.size := by omega); (try have hy2_4 : w.heap.size + 1 + 1 + 1 + 1 < w2.heap.size := by omega); (try have hy2_5 : w.heap.size + 1 + 1 + 1 + 1 + 1 < w2.heap.size := by omega); (try have hy2_1_0 : w1.heap.size < w2.heap.size := by omega); (try have hy2_1_1 : w1.heap.size + 1 < w2.heap.size := by omega)
  have kc2_0 := hc2 (w.heap.size) 0 (by first | omega | (simp; done) | (simp; omega))
  have kc2_1 := hc2 (w.heap.size) 1 (by first | omega | (simp; done) | (simp; omega))
  have kc2_2 := hc2 (w.heap.size) 2 (by first | omega | (simp; done) | (simp; omega))
  clear hc2
  (try simp [go_sem, *] at kc2_0)
  (try simp [go_sem, *] at kc2_1)
  (try simp [go_sem, *] at kc2_2)
  go_wp2_with fail; refine (HD.out _).mono ?_; rintro e w3 ⟨rfl, hb3⟩; obtain ⟨hc3, hf3⟩ := Gr.cells hb3; have hz3 := Gr.size hb3; (try simp at hz3); (try have hy3_0 : w.heap.size < w3.heap.size := by omega); (try have hy3_1 : w.heap.size + 1 < w3.heap.size := by omega); (try have hy3_2 : w.heap.size + 1 + 1 < w3.heap.size := by omega); (try have hy3_3 : w.heap.size + 1 + 1 + 1 < w3.heap.size := by omega); (try have hy3_4 : w.heap.size + 1 + 1 + 1 + 1 < w3.heap.size := by omega); (try have hy3_5 : w.heap.size + 1 + 1 + 1 + 1 + 1 < w3.heap.size := by omega); (try have hy3_1_0 : w1.heap.size < w3.heap.size := by omega); (try have hy3_1_1 : w1.heap.size + 1 < w3.heap.size := by omega); (try have hy3_2_0 : w2.heap.size < w3.heap.size := by omega); (try have hy3_2_1 : w2.heap.size + 1 < w3.heap.size := by omega)
  have kc3_0 := hc3 (w.heap.size) 0 (by first | omega | (simp; done) | (simp; omega))
  have kc3_1 := hc3 (w.heap.size) 1 (by first | omega | (simp; done) | (simp; omega))
  have kc3_2 := hc3 (w.heap.size) 2 (by first | omega | (simp; done) | (simp; omega))
  clear hc3
  (try simp [go_sem, *] at kc3_0)
  (try simp [go_sem, *] at kc3_1)
  (try simp [go_sem, *] at kc3_2)
  
  go_wp2_with fail; refine (HP.out _).mono ?_; rintro e w4 ⟨rfl, hb4⟩; obtain ⟨hc4, hf4⟩ := Gr.cells hb4; have hz4 := Gr.size hb4; (try simp at hz4); (try have hy4_0 : w.heap.size < w4.heap.size := by omega); (try have hy4_1 : w.heap.size + 1 < w4.heap.size := by omega); (try have hy4_2 : w.heap.size + 1 + 1 < w4.heap.size := by omega); (try have hy4_3 : w.heap.size + 1 + 1 + 1 < w4.heap.size := by omega); (try have hy4_4 : w.heap.size + 1 + 1 + 1 + 1 < w4.heap.size := by omega); (try have hy4_5 : w.heap.size + 1 + 1 + 1 + 1 + 1 < w4.heap.size := by omega); (try have hy4_1_0 : w1.heap.size < w4.heap.size := by omega); (try have hy4_1_1 : w1.heap.size + 1 < w4.heap.size := by omega); (try have hy4_2_0 : w2.heap.size < w4.heap.size := by omega); (try have hy4_2_1 : w2.heap.size + 1 < w4.heap.size := by omega); (try have hy4_3_0 : w3.heap.size < w4.heap.size := by omega); (try have hy4_3_1 : w3.heap.size + 1 < w4.heap.size := by omega)
  have kc4_0 := hc4 (w.heap.size) 0 (by first | omega | (simp; done) | (simp; omega))
  have kc4_1 := hc4 (w.heap.size) 1 (by first | omega | (simp; done) | (simp; omega))
  have kc4_2 := hc4 (w.heap.size) 2 (by first | omega | (simp; done) | (simp; omega))
  have kc4_3 := hc4 (w3.heap.size) 0 (by first | omega | (simp; done) | (simp; omega))
  have kc4_4 := hc4 (w3.heap.size) 1 (by first | omega | (simp; done) | (simp; omega))
  have kc4_5 := hc4 (w3.heap.size) 2 (by first | omega | (simp; done) | (simp; omega))
  clear hc4
  (try simp [go_sem, *] at kc4_0)
  (try simp [go_sem, *] at kc4_1)
  (try simp [go_sem, *] at kc4_2)
  (try simp [go_sem, *] at kc4_3)
  (try simp [go_sem, *] at kc4_4)
  (try simp [go_sem, *] at kc4_5)
  go_wp2_with fail; refine (HT.out _ (by repeat' (first | (with_reducible exact Gr.refl _) | (with_reducible assumption) | (with_reducible refine Gr.alloc ?_ _) | (with_reducible refine Gr.drew ?_) | (with_reducible refine Gr.drewN ?_ _) | (with_reducible refine Gr.setCell ?_ ?_ _) | (with_reducible refine Gr.trans ?_ (by with_reducible assumption)) | go_size))).mono ?_; rintro e w5 ⟨rfl, hb5⟩; obtain ⟨hc5, hf5⟩ := Gr.cells hb5; have hz5 := Gr.size hb5; (try simp at hz5); (try have hy5_0 : w.heap.size < w5.heap.size := by omega); (try have hy5_1 : w.heap.size + 1 < w5.heap.size := by omega); (try have hy5_2 : w.heap.size + 1 + 1 < w5.heap.size := by omega); (try have hy5_3 : w.heap.size + 1 + 1 + 1 < w5.heap.size := by omega); (try have hy5_4 : w.heap.size + 1 + 1 + 1 + 1 < w5.heap.size := by omega); (try have hy5_5 : w.heap.size + 1 + 1 + 1 + 1 + 1 < w5.heap.size := by omega); (try have hy5_1_0 : w1.heap.size < w5.heap.size := by omega); (try have hy5_1_1 : w1.heap.size + 1 < w5.heap.size := by omega); (try have hy5_2_0 : w2.heap.size < w5.heap.size := by omega); (try have hy5_2_1 : w2.heap.size + 1 < w5.heap.size := by omega); (try have hy5_3_0 : w3.heap.size < w5.heap.size := by omega); (try have hy5_3_1 : w3.heap.size + 1 < w5.heap.size := by omega); (try have hy5_4_0 : w4.heap.size < w5.heap.size := by omega); (try have hy5_4_1 : w4.heap.size + 1 < w5.heap.size := by omega)
  have kc5_0 := hc5 (w.heap.size) 0 (by first | omega | (simp; done) | (simp; omega))
  have kc5_1 := hc5 (w.heap.size) 1 (by first | omega | (simp; done) | (simp; omega))
  have kc5_2 := hc5 (w.heap.size) 2 (by first | omega | (simp; done) | (simp; omega))
  have kc5_3 := hc5 (w3.heap.size) 0 (by first | omega | (simp; done) | (simp; omega))
  have kc5_4 := hc5 (w3.heap.size) 1 (by first | omega | (simp; done) | (simp; omega))
  have kc5_5 := hc5 (w3.heap.size) 2 (by first | omega | (simp; done) | (simp; omega))
  clear hc5
  (try simp [go_sem, *] at kc5_0)
  (try simp [go_sem, *] at kc5_1)
  (try simp [go_sem, *] at kc5_2)
  (try simp [go_sem, *] at kc5_3)
  (try simp [go_sem, *] at kc5_4)
  (try simp [go_sem, *] at kc5_5)
  go_wp2_with fail; refine (HS.out _).mono ?_; rintro e w6 ⟨rfl, hb6⟩; obtain ⟨hc6, hf6⟩ := Gr.cells hb6; have hz6 := Gr.size hb6; (try simp at hz6); (try have hy6_0 : w.heap.size < w6.heap.size := by omega); (try have hy6_1 : w.heap.size + 1 < w6.heap.size := by omega); (try have hy6_2 : w.heap.size + 1 + 1 < w6.heap.size := by omega); (try have hy6_3 : w.heap.size + 1 + 1 + 1 < w6.heap.size := by omega); (try have hy6_4 : w.heap.size + 1 + 1 + 1 + 1 < w6.heap.size := by omega); (try have hy6_5 : w.heap.size + 1 + 1 + 1 + 1 + 1 < w6.heap.size := by omega); (try have hy6_1_0 : w1.heap.size < w6.heap.size := by omega); (try have hy6_1_1 : w1.heap.size + 1 < w6.heap.size := by omega); (try have hy6_2_0 : w2.heap.size < w6.heap.size := by omega); (try have hy6_2_1 : w2.heap.size + 1 < w6.heap.size := by omega); (try have hy6_3_0 : w3.heap.size < w6.heap.size := by omega); (try have hy6_3_1 : w3.heap.size + 1 < w6.heap.size := by omega); (try have hy6_4_0 : w4.heap.size < w6.heap.size := by omega); (try have hy6_4_1 : w4.heap.size + 1 < w6.heap.size := by omega); (try have hy6_5_0 : w5.heap.size < w6.heap.size := by omega); (try have hy6_5_1 : w5.heap.size + 1 < w6.heap.size := by omega)
  have kc6_0 := hc6 (w.heap.size) 0 (by first | omega | (simp; done) | (simp; omega))
  have kc6_1 := hc6 (w.heap.size) 1 (by first | omega | (simp; done) | (simp; omega))
  have kc6_2 := hc6 (w.heap.size) 2 (by first | omega | (simp; done) | (simp; omega))
  have kc6_3 := hc6 (w3.heap.size) 0 (by first | omega | (simp; done) | (simp; omega))
  have kc6_4 := hc6 (w3.heap.size) 1 (by first | omega | (simp; done) | (simp; omega))
  have kc6_5 := hc6 (w3.heap.size) 2 (by first | omega | (simp; done) | (simp; omega))
  clear hc6
  (try simp [go_sem, *] at kc6_0)
  (try simp [go_sem, *] at kc6_1)
  (try simp [go_sem, *] at kc6_2)
  (try simp [go_sem, *] at kc6_3)
  (try simp [go_sem, *] at kc6_4)
  (try simp [go_sem, *] at kc6_5)
  
  go_wp2_with fail; refine (HA.out _).mono ?_; rintro e w7 ⟨rfl, hb7⟩; obtain ⟨hc7, hf7⟩ := Gr.cells hb7; have hz7 := Gr.size hb7; (try simp at hz7); (try have hy7_0 : w.heap.size < w7.heap.size := by omega); (try have hy7_1 : w.heap.size + 1 < w7.heap.size := by omega); (try have hy7_2 : w.heap.size + 1 + 1 < w7.heap.size := by omega); (try have hy7_3 : w.heap.size + 1 + 1 + 1 < w7.heap.size := by omega); (try have hy7_4 : w.heap.size + 1 + 1 + 1 + 1 < w7.heap.size := by omega); (try have hy7_5 : w.heap.size + 1 + 1 + 1 + 1 + 1 < w7.heap.size := by omega); (try have hy7_1_0 : w1.heap.size < w7.heap.size := by omega); (try have hy7_1_1 : w1.heap.size + 1 < w7.heap.size := by omega); (try have hy7_2_0 : w2.heap.size < w7.heap.size := by omega); (try have hy7_2_1 : w2.heap.size + 1 < w7.heap.size := by omega); (try have hy7_3_0 : w3.heap.size < w7.heap.size := by omega); (try have hy7_3_1 : w3.heap.size + 1 < w7.heap.size := by omega); (try have hy7_4_0 : w4.heap.size < w7.heap.size := by omega); (try have hy7_4_1 : w4.heap.size + 1 < w7.heap.size := by omega); (try have hy7_5_0 : w5.heap.size < w7.heap.size := by omega); (try have hy7_5_1 : w5.heap.size + 1 < w7.heap.size := by omega); (try have hy7_6_0 : w6.heap.size < w7.heap.size := by omega); (try have hy7_6_1 : w6.heap.size + 1 < w7.heap.size := by omega)
  have kc7_0 := hc7 (w.heap.size) 0 (by first | omega | (simp; done) | (simp; omega))
  have kc7_1 := hc7 (w.heap.size) 1 (by first | omega | (simp; done) | (simp; omega))
  have kc7_2 := hc7 (w.heap.size) 2 (by first | omega | (simp; done) | (simp; omega))
  have kc7_3 := hc7 (w3.heap.size) 0 (by first | omega | (simp; done) | (simp; omega))
  have kc7_4 := hc7 (w3.heap.size) 1 (by first | omega | (simp; done) | (simp; omega))
  have kc7_5 := hc7 (w3.heap.size) 2 (by first | omega | (simp; done) | (simp; omega))
  have kc7_6 := hc7 (w6.heap.size) 0 (by first | omega | (simp; done) | (simp; omega))
  have kc7_7 := hc7 (w6.heap.size) 1 (by first | omega | (simp; done) | (simp; omega))
  have kc7_8 := hc7 (w6.heap.size) 2 (by first | omega | (simp; done) | (simp; omega))
  clear hc7
  (try simp [go_sem, *] at kc7_0)
  (try simp [go_sem, *] at kc7_1)
  (try simp [go_sem, *] at kc7_2)
  (try simp [go_sem, *] at kc7_3)
  (try simp [go_sem, *] at kc7_4)
  (try simp [go_sem, *] at kc7_5)
  (try simp [go_sem, *] at kc7_6)
  (try simp [go_sem, *] at kc7_7)
  (try simp [go_sem, *] at kc7_8)
  go_wp2_with fail; refine (HX.out _ (by repeat' (first | (with_reducible exact Gr.refl _) | (with_reducible assumption) | (with_reducible refine Gr.alloc ?_ _) | (with_reducible refine Gr.drew ?_) | (with_reducible refine Gr.drewN ?_ _) | (with_reducible refine Gr.setCell ?_ ?_ _) | (with_reducible refine Gr.trans ?_ (by with_reducible assumption)) | go_size))).mono ?_; rintro e w8 ⟨rfl, hb8⟩; obtain ⟨hc8, hf8⟩ := Gr.cells hb8; have hz8 := Gr.size hb8; (try simp at hz8); (try have hy8_0 : w.heap.size < w8.heap.size := by omega); (try have hy8_1 : w.heap.size + 1 < w8.heap.size := by omega); (try have hy8_2 : w.heap.size + 1 + 1 < w8.heap.size := by omega); (try have hy8_3 : w.heap.size + 1 + 1 + 1 < w8.heap.size := by omega); (try have hy8_4 : w.heap.size + 1 + 1 + 1 + 1 < w8.heap.size := by omega); (try have hy8_5 : w.heap.size + 1 + 1 + 1 + 1 + 1 < w8.heap.size := by omega); (try have hy8_1_0 : w1.heap.size < w8.heap.size := by omega); (try have hy8_1_1 : w1.heap.size + 1 < w8.heap.size := by omega); (try have hy8_2_0 : w2.heap.size < w8.heap.size := by omega); (try have hy8_2_1 : w2.heap.size + 1 < w8.heap.size := by omega); (try have hy8_3_0 : w3.heap.size < w8.heap.size := by omega); (try have hy8_3_1 : w3.heap.size + 1 < w8.heap.size := by omega); (try have hy8_4_0 : w4.heap.size < w8.heap.size := by omega); (try have hy8_4_1 : w4.heap.size + 1 < w8.heap.size := by omega); (try have hy8_5_0 : w5.heap.size < w8.heap.size := by omega); (try have hy8_5_1 : w5.heap.size + 1 < w8.heap.size := by omega); (try have hy8_6_0 : w6.heap.size < w8.heap.size := by omega); (try have hy8_6_1 : w6.heap.size + 1 < w8.heap.size := by omega); (try have hy8_7_0 : w7.heap.size < w8.heap.size := by omega); (try have hy8_7_1 : w7.heap.size + 1 < w8.heap.size := by omega)
  have kc8_0 := hc8 (w.heap.size) 0 (by first | omega | (simp; done) | (simp; omega))
  have kc8_1 := hc8 (w.heap.size) 1 (by first | omega | (simp; done) | (simp; omega))
  have kc8_2 := hc8 (w.heap.size) 2 (by first | omega | (simp; done) | (simp; omega))
  have kc8_3 := hc8 (w3.heap.size) 0 (by first | omega | (simp; done) | (simp; omega))
  have kc8_4 := hc8 (w3.heap.size) 1 (by first | omega | (simp; done) | (simp; omega))
  have kc8_5 := hc8 (w3.heap.size) 2 (by first | omega | (simp; done) | (simp; omega))
  have kc8_6 := hc8 (w6.heap.size) 0 (by first | omega | (simp; done) | (simp; omega))
  have kc8_7 := hc8 (w6.heap.size) 1 (by first | omega | (simp; done) | (simp; omega))
  have kc8_8 := hc8 (w6.heap.size) 2 (by first | omega | (simp; done) | (simp; omega))
  clear hc8
  (try simp [go_sem, *] at kc8_0)
  (try simp [go_sem, *] at kc8_1)
  (try simp [go_sem, *] at kc8_2)
  (try simp [go_sem, *] at kc8_3)
  (try simp [go_sem, *] at kc8_4)
  (try simp [go_sem, *] at kc8_5)
  (try simp [go_sem, *] at kc8_6)
  (try simp [go_sem, *] at kc8_7)
  (try simp [go_sem, *] at kc8_8)
  go_wp2_with fail; refine (HB.out _).mono ?_; rintro e w9 ⟨rfl, hb9⟩; obtain ⟨hc9, hf9⟩ := Gr.cells hb9; have hz9 := Gr.size hb9; (try simp at hz9); (try have hy9_0 : w.heap.size < w9.heap.size := by omega); (try have hy9_1 : w.heap.size + 1 < w9.heap.size := by omega); (try have hy9_2 : w.heap.size + 1 + 1 < w9.heap.size := by omega); (try have hy9_3 : w.heap.size + 1 + 1 + 1 < w9.heap.size := by omega); (try have hy9_4 : w.heap.size + 1 + 1 + 1 + 1 < w9.heap.size := by omega); (try have hy9_5 : w.heap.size + 1 + 1 + 1 + 1 + 1 < w9.heap.size := by omega); (try have hy9_1_0 : w1.heap.size < w9.heap.size := by omega); (try have hy9_1_1 : w1.heap.size + 1 < w9.heap.size := by omega); (try have hy9_2_0 : w2.heap.size < w9.heap.size := by omega); (try have hy9_2_1 : w2.heap.size + 1 < w9.heap.size := by omega); (try have hy9_3_0 : w3.heap.size < w9.heap.size := by omega); (try have hy9_3_1 : w3.heap.size + 1 < w9.heap.size := by omega); (try have hy9_4_0 : w4.heap.size < w9.heap.size := by omega); (try have hy9_4_1 : w4.heap.size + 1 < w9.heap.size := by omega); (try have hy9_5_0 : w5.heap.size < w9.heap.size := by omega); (try have hy9_5_1 : w5.heap.size + 1 < w9.heap.size := by omega); (try have hy9_6_0 : w6.heap.size < w9.heap.size := by omega); (try have hy9_6_1 : w6.heap.size + 1 < w9.heap.size := by omega); (try have hy9_7_0 : w7.heap.size < w9.heap.size := by omega); (try have hy9_7_1 : w7.heap.size + 1 < w9.heap.size := by omega); (try have hy9_8_0 : w8.heap.size < w9.heap.size := by omega); (try have hy9_8_1 : w8.heap.size + 1 < w9.heap.size := by omega)
  have kc9_0 := hc9 (w.heap.size) 0 (by first | omega | (simp; done) | (simp; omega))
  have kc9_1 := hc9 (w.heap.size) 1 (by first | omega | (simp; done) | (simp; omega))
  have kc9_2 := hc9 (w.heap.size) 2 (by first | omega | (simp; done) | (simp; omega))
  have kc9_3 := hc9 (w3.heap.size) 0 (by first | omega | (simp; done) | (simp; omega))
  have kc9_4 := hc9 (w3.heap.size) 1 (by first | omega | (simp; done) | (simp; omega))
  have kc9_5 := hc9 (w3.heap.size) 2 (by first | omega | (simp; done) | (simp; omega))
  have kc9_6 := hc9 (w6.heap.size) 0 (by first | omega | (simp; done) | (simp; omega))
  have kc9_7 := hc9 (w6.heap.size) 1 (by first | omega | (simp; done) | (simp; omega))
  have kc9_8 := hc9 (w6.heap.size) 2 (by first | omega | (simp; done) | (simp; omega))
  clear hc9
  (try simp [go_sem, *] at kc9_0)
  (try simp [go_sem, *] at kc9_1)
  (try simp [go_sem, *] at kc9_2)
  (try simp [go_sem, *] at kc9_3)
  (try simp [go_sem, *] at kc9_4)
  (try simp [go_sem, *] at kc9_5)
  (try simp [go_sem, *] at kc9_6)
  (try simp [go_sem, *] at kc9_7)
  (try simp [go_sem, *] at kc9_8)
  go_wp2_with fail; refine (HV.out _).mono ?_; rintro e w10 ⟨rfl, hb10⟩; obtain ⟨hc10, hf10⟩ := Gr.cells hb10; have hz10 := Gr.size hb10; (try simp at hz10); (try have hy10_0 : w.heap.size < w10.heap.size := by omega); (try have hy10_1 : w.heap.size + 1 < w10.heap.size := by omega); (try have hy10_2 : w.heap.size + 1 + 1 < w10.heap.size := by omega); (try have hy10_3 : w.heap.size + 1 + 1 + 1 < w10.heap.size := by omega); (try have hy10_4 : w.heap.size + 1 + 1 + 1 + 1 < w10.heap.size := by omega); (try have hy10_5 : w.heap.size + 1 + 1 + 1 + 1 + 1 < w10.heap.size := by omega); (try have hy10_1_0 : w1.heap.size < w10.heap.size := by omega); (try have hy10_1_1 : w1.heap.size + 1 < w10.heap.size := by omega); (try have hy10_2_0 : w2.heap.size < w10.heap.size := by omega); (try have hy10_2_1 : w2.heap.size + 1 < w10.heap.size := by omega); (try have hy10_3_0 : w3.heap.size < w10.heap.size := by omega); (try have hy10_3_1 : w3.heap.size + 1 < w10.heap.size := by omega); (try have hy10_4_0 : w4.heap.size < w10.heap.size := by omega); (try have hy10_4_1 : w4.heap.size + 1 < w10.heap.size := by omega); (try have hy10_5_0 : w5.heap.size < w10.heap.size := by omega); (try have hy10_5_1 : w5.heap.size + 1 < w10.heap.size := by omega); (try have hy10_6_0 : w6.heap.size < w10.heap.size := by omega); (try have hy10_6_1 : w6.heap.size + 1 < w10.heap.size := by omega); (try have hy10_7_0 : w7.heap.size < w10.heap.size := by omega); (try have hy10_7_1 : w7.heap.size + 1 < w10.heap.size := by omega); (try have hy10_8_0 : w8.heap.size < w10.heap.size := by omega); (try have hy10_8_1 : w8.heap.size + 1 < w10.heap.size := by omega); (try have hy10_9_0 : w9.heap.size < w10.heap.size := by omega); (try have hy10_9_1 : w9.heap.size + 1 < w10.heap.size := by omega)
  have kc10_0 := hc10 (w.heap.size) 0 (by first | omega | (simp; done) | (simp; omega))
  have kc10_1 := hc10 (w.heap.size) 1 (by first | omega | (simp; done) | (simp; omega))
  have kc10_2 := hc10 (w.heap.size) 2 (by first | omega | (simp; done) | (simp; omega))
  have kc10_3 := hc10 (w3.heap.size) 0 (by first | omega | (simp; done) | (simp; omega))
  have kc10_4 := hc10 (w3.heap.size) 1 (by first | omega | (simp; done) | (simp; omega))
  have kc10_5 := hc10 (w3.heap.size) 2 (by first | omega | (simp; done) | (simp; omega))
  have kc10_6 := hc10 (w6.heap.size) 0 (by first | omega | (simp; done) | (simp; omega))
  have kc10_7 := hc10 (w6.heap.size) 1 (by first | omega | (simp; done) | (simp; omega))
  have kc10_8 := hc10 (w6.heap.size) 2 (by first | omega | (simp; done) | (simp; omega))
  clear hc10
  (try simp [go_sem, *] at kc10_0)
  (try simp [go_sem, *] at kc10_1)
  (try simp [go_sem, *] at kc10_2)
  (try simp [go_sem, *] at kc10_3)
  (try simp [go_sem, *] at kc10_4)
  (try simp [go_sem, *] at kc10_5)
  (try simp [go_sem, *] at kc10_6)
  (try simp [go_sem, *] at kc10_7)
  (try simp [go_sem, *] at kc10_8)
  go_wp2
  go_ret
  exact ⟨rfl, (by repeat' (first | (with_reducible exact Gr.refl _) | (with_reducible assumption) | (with_reducible refine Gr.alloc ?_ _) | (with_reducible refine Gr.drew ?_) | (with_reducible refine Gr.drewN ?_ _) | (with_reducible refine Gr.setCell ?_ ?_ _) | (with_reducible refine Gr.trans ?_ (by with_reducible assumption)) | go_size))⟩
theorem back_long (y m d t : Int) (s : ByteArray) (w : World) (hs : 60 < s.size) (hm : s.size ≤ 9223372036854775807) :
    Calls Tryd.prog 10 #[.agg #[.int .i64 y, .int .i64 m, .int .i64 d], .int .i64 t, .string s] w fun e w' => e = .returned (.bool true) ∧ Gr w w' := by
  have h1 : decide ((60 : Int) < (s.size : Int)) = true := decide_eq_true (by omega)
  go_enter Tryd.func10, Tryd.ntmps10
  
  go_wp2_with fail; refine (awake_any _).mono ?_; rintro e w1 ⟨rfl, hb1⟩; obtain ⟨hc1, hf1⟩ := Gr.cells hb1; have hz1 := Gr.size hb1; (try simp at hz1); (try have hy1_0 : w.heap.size < w1.heap.size := by omega); (try have hy1_1 : w.heap.size + 1 < w1.heap.size := by omega); (try have hy1_2 : w.heap.size + 1 + 1 < w1.heap.size := by omega); (try have hy1_3 : w.heap.size + 1 + 1 + 1 < w1.heap.size := by omega); (try have hy1_4 : w.heap.size + 1 + 1 + 1 + 1 < w1.heap.size := by omega); (try have hy1_5 : w.heap.size + 1 + 1 + 1 + 1 + 1 < w1.heap.size := by omega)
  have kc1_0 := hc1 (w.heap.size) 0 (by first | omega | (simp; done) | (simp; omega))
  have kc1_1 := hc1 (w.heap.size) 1 (by first | omega | (simp; done) | (simp; omega))
  have kc1_2 := hc1 (w.heap.size) 2 (by first | omega | (simp; done) | (simp; omega))
  clear hc1
  (try simp [go_sem, *] at kc1_0)
  (try simp [go_sem, *] at kc1_1)
  (try simp [go_sem, *] at kc1_2)
  go_wp2
  go_ret
  exact ⟨rfl, (by repeat' (first | (with_reducible exact Gr.refl _) | (with_reducible assumption) | (with_reducible refine Gr.alloc ?_ _) | (with_reducible refine Gr.drew ?_) | (with_reducible refine Gr.drewN ?_ _) | (with_reducible refine Gr.setCell ?_ ?_ _) | (with_reducible refine Gr.trans ?_ (by with_reducible assumption)) | go_size))⟩
theorem parse_back (s : ByteArray) (hm : s.size ≤ 9223372036854775807) (w : World) (ht : Tab w) :
    (∃ q g : Int, g ≠ 0 ∧ ∀ W : World, Calls Tryd.prog 32 #[.string s] W fun e w' => e = .returned (.tuple #[.int .i64 q, .int .i64 g]) ∧ Gr W w') ∨
    (∃ q : Int, (∀ W : World, Calls Tryd.prog 32 #[.string s] W fun e w' => e = .returned (.tuple #[.int .i64 q, .int .i64 0]) ∧ Gr W w') ∧
      ∀ W : World, Gr w W → Calls Tryd.prog 30 #[.int .i64 q] W fun e w' => e = .returned (.tuple #[.string s, .int .i64 0]) ∧ Gr W w') := by
  by_cases hs : s.size = 19
  · rcases Ck.run_parts s.data.toList with ⟨hsep, y, m, d, h, i, c, g1, g2, g3, g4, g5, g6, hr⟩ | ⟨hr, -⟩
    · have h0 := (Ck.seg_bd _ _ g4).1
      have i0 := (Ck.seg_bd _ _ g5).1
      have c0 := (Ck.seg_bd _ _ g6).1
      have HP := fun W => parse_six s W hs hr h0 i0 c0
      by_cases hall : Ck.vld y m d = true ∧ h ≤ 23 ∧ i ≤ 59 ∧ c ≤ 59
      · have HQ : ∀ W : World, Calls Tryd.prog 32 #[.string s] W fun e w' => e = .returned (.tuple #[.int .i64 (Ck.atQ (Ck.num y m d * 86400 + (h * 3600 + i * 60 + c))), .int .i64 (Ck.atE (Ck.num y m d * 86400 + (h * 3600 + i * 60 + c)))]) ∧ Gr W w' := fun W => (HP W).mono fun e w' ⟨h1, h2⟩ => by
          rw [if_pos hall] at h1; exact ⟨h1, h2⟩
        obtain ⟨hv, h23, h59, h60⟩ := hall
        cases hi : Ck.inst (Ck.num y m d * 86400 + (h * 3600 + i * 60 + c))
        · obtain ⟨a1, a2⟩ := Ck.at_no hi
          rw [a1, a2] at HQ
          exact Or.inl ⟨_, _, by decide, HQ⟩
        · obtain ⟨a1, a2⟩ := Ck.at_yes hi
          rw [a1, a2] at HQ
          refine Or.inr ⟨_, HQ, fun W hg => ?_⟩
          have hn : Ck.num y m d = (Ck.num y m d * 86400 + (h * 3600 + i * 60 + c)) / 86400 := by omega
          have HT := text_any _ y m d W hi hv hn (ht.gr hg)
          have e : (Ck.num y m d * 86400 + (h * 3600 + i * 60 + c)) - (Ck.num y m d * 86400 + (h * 3600 + i * 60 + c)) / 86400 * 86400 = h * 3600 + i * 60 + c := by omega
          rw [e, ← Ck.txt_of_parts (by rw [Array.length_toList]; exact hs) hsep g1 g2 g3 g4 g5 g6 hv h23 h59 h60] at HT
          exact HT
      · exact Or.inl ⟨0, 7, by decide, fun W => (HP W).mono fun e w' ⟨h1, h2⟩ => by rw [if_neg hall] at h1; exact ⟨h1, h2⟩⟩
    · exact Or.inl ⟨0, 7, by decide, fun W => parse_size s W hm (Or.inr ⟨hs, hr⟩)⟩
  · exact Or.inl ⟨0, 7, by decide, fun W => parse_size s W hm (Or.inl hs)⟩
theorem parse_txt (t y m d : Int) (hi : Ck.inst t = true) (hv : Ck.vld y m d = true) (hn : Ck.num y m d = t / 86400) :
    ∀ W : World, Calls Tryd.prog 32 #[.string ⟨(Ck.txt y m d (t - t / 86400 * 86400)).toArray⟩] W fun e w' => e = .returned (.tuple #[.int .i64 t, .int .i64 0]) ∧ Gr W w' := by
  obtain ⟨u0, u1⟩ := Ck.split_secs t
  generalize hu : t - t / 86400 * 86400 = u at *
  have hsz : (⟨(Ck.txt y m d u).toArray⟩ : ByteArray).size = 19 := by
    show (Ck.txt y m d u).toArray.size = 19
    rw [List.size_toArray]; exact Ck.txt_len hv u0 u1
  obtain ⟨p0, p1, p2, p3, p4, p5, p6⟩ := Ck.parts_of_txt (sl := (⟨(Ck.txt y m d u).toArray⟩ : ByteArray).data.toList) hv u0 u1 rfl
  rcases Ck.run_parts (⟨(Ck.txt y m d u).toArray⟩ : ByteArray).data.toList with ⟨-, y', m', d', h', i', c', g1, g2, g3, g4, g5, g6, hr⟩ | ⟨-, hbad⟩
  · rw [p1] at g1; rw [p2] at g2; rw [p3] at g3; rw [p4] at g4; rw [p5] at g5; rw [p6] at g6
    cases g1; cases g2; cases g3; cases g4; cases g5; cases g6
    intro W
    refine (parse_six _ W hsz hr (by omega) (by omega) (by omega)).mono ?_
    rintro e w' ⟨h1, h2⟩
    rw [if_pos ⟨hv, by omega, by omega, by omega⟩] at h1
    have e1 : Ck.num y m d * 86400 + (u / 3600 * 3600 + u / 60 % 60 * 60 + u % 60) = t := by omega
    obtain ⟨a1, a2⟩ := Ck.at_yes hi
    rw [e1, a1, a2] at h1
    exact ⟨h1, h2⟩
  · rcases hbad with hb | hb | hb | hb | hb | hb | hb
    · exact absurd p0 hb
    · rw [hb] at p1; cases p1
    · rw [hb] at p2; cases p2
    · rw [hb] at p3; cases p3
    · rw [hb] at p4; cases p4
    · rw [hb] at p5; cases p5
    · rw [hb] at p6; cases p6
theorem back_any (y m d t : Int) (s : ByteArray) (w : World) (hm : s.size ≤ 9223372036854775807) (ht : Tab w) :
    Calls Tryd.prog 10 #[.agg #[.int .i64 y, .int .i64 m, .int .i64 d], .int .i64 t, .string s] w fun e w' => e = .returned (.bool true) ∧ Gr w w' := by
  by_cases hs : 60 < s.size
  · exact back_long y m d t s w hs hm
  have hs : s.size ≤ 60 := by omega
  have hS : (∃ r : Int, r ≠ 0 ∧ ∀ W : World, Calls Tryd.prog 27 #[.int .i64 t] W fun e w' => e = .returned (.tuple #[.agg #[.int .i64 0, .int .i64 0, .int .i64 0], .int .i64 0, .int .i64 r]) ∧ Gr W w') ∨
      ∃ y1 m1 d1 : Int, Ck.inst t = true ∧ Ck.vld y1 m1 d1 = true ∧ Ck.num y1 m1 d1 = t / 86400 := by
    cases hi : Ck.inst t
    · exact Or.inl ⟨2, by decide, fun W => split_bad t W hi⟩
    · by_cases hd : -730119 ≤ t / 86400 ∧ t / 86400 ≤ 2921939
      · obtain ⟨y', m', d', hv, hn⟩ := Ck.exists_date (t / 86400) hd.1 hd.2
        exact Or.inr ⟨y', m', d', rfl, hv, hn⟩
      · exact Or.inl ⟨20, by decide, fun W => split_none t W hi (by omega)⟩
  have hP := parse_back s hm w ht
  rcases hS with ⟨r, hr, HS⟩ | ⟨y1, m1, d1, hi, hv1, hn1⟩
  · cases hv : Ck.vld y m d
    · have HN := fun W => number_bad y m d W hv
      rcases hP with ⟨q, g, hg, HP⟩ | ⟨q, HP, HT⟩
      · exact back_000 y m d t q g r s w hs hg hr HN HP HS
      · exact back_010 y m d t q r s w hs hr HN HP HT HS
    · have HN := fun W => number_any y m d W hv
      have HD := fun W => dateof_any (Ck.num y m d) y m d W hv rfl
      rcases hP with ⟨q, g, hg, HP⟩ | ⟨q, HP, HT⟩
      · exact back_100 y m d t _ q g r s w hs hg hr HN HD HP HS
      · exact back_110 y m d t _ q r s w hs hr HN HD HP HT HS
  · obtain ⟨u0, u1⟩ := Ck.split_secs t
    have HS := fun W => split_any t y1 m1 d1 W hi hv1 hn1
    have HA := fun W => at_any y1 m1 d1 (t - t / 86400 * 86400) W hv1 u0 u1
    have e1 : Ck.num y1 m1 d1 * 86400 + (t - t / 86400 * 86400) = t := by omega
    obtain ⟨a1, a2⟩ := Ck.at_yes hi
    rw [e1, a1, a2] at HA
    have HX := fun W (hg : Gr w W) => text_any t y1 m1 d1 W hi hv1 hn1 (ht.gr hg)
    have HB := parse_txt t y1 m1 d1 hi hv1 hn1
    have HV := fun W => valid_any y1 m1 d1 W
    rw [hv1] at HV
    have hL := Ck.txt_len hv1 u0 u1
    cases hv : Ck.vld y m d
    · have HN := fun W => number_bad y m d W hv
      rcases hP with ⟨q, g, hg, HP⟩ | ⟨q, HP, HT⟩
      · exact back_001 y m d t q g y1 m1 d1 _ _ s w hs hg u0 u1 hL HN HP HS HA HX HB HV
      · exact back_011 y m d t q y1 m1 d1 _ _ s w hs u0 u1 hL HN HP HT HS HA HX HB HV
    · have HN := fun W => number_any y m d W hv
      have HD := fun W => dateof_any (Ck.num y m d) y m d W hv rfl
      rcases hP with ⟨q, g, hg, HP⟩ | ⟨q, HP, HT⟩
      · exact back_101 y m d t _ q g y1 m1 d1 _ _ s w hs hg u0 u1 hL HN HD HP HS HA HX HB HV
      · exact back_111 y m d t _ q y1 m1 d1 _ _ s w hs u0 u1 hL HN HD HP HT HS HA HX HB HV
end Go.Proofs.YtlcbjkkcfenlmaaDoor

