import Derived.Test.YtlcbjkkcfenlmaaDoorCkWalkJ
set_option linter.unusedVariables false
set_option linter.unusedSimpArgs false
namespace Go.Proofs.YtlcbjkkcfenlmaaDoor
open Go.RowKit
set_option maxHeartbeats 2000000 in
theorem instants_cut (y m d s t q e' y' m' d' u g : Int) (w : World)
    (HA : ∀ W : World, Calls Tryd.prog 26 #[.agg #[.int .i64 y, .int .i64 m, .int .i64 d], .int .i64 s] W fun e w' => e = .returned (.tuple #[.int .i64 q, .int .i64 e']) ∧ Gr W w')
    (HB : ∀ W : World, Calls Tryd.prog 28 #[.agg #[.int .i64 y, .int .i64 m, .int .i64 d], .int .i64 s] W fun e w' => e = .returned (.tuple #[.int .i64 q, .int .i64 e']) ∧ Gr W w')
    (HC : ∀ W : World, Calls Tryd.prog 27 #[.int .i64 t] W fun e w' => e = .returned (.tuple #[.agg #[.int .i64 y', .int .i64 m', .int .i64 d'], .int .i64 u, .int .i64 g]) ∧ Gr W w')
    (HD : ∀ W : World, Calls Tryd.prog 29 #[.int .i64 t] W fun e w' => e = .returned (.tuple #[.agg #[.int .i64 y', .int .i64 m', .int .i64 d'], .int .i64 u, .int .i64 g]) ∧ Gr W w') :
    Calls Tryd.prog 8 #[.agg #[.int .i64 y, .int .i64 m, .int .i64 d], .int .i64 s, .int .i64 t] w fun e w' => e = .returned (.bool true) ∧ Gr w w' := by
  have HA := Lib.hid HA; have HB := Lib.hid HB; have HC := Lib.hid HC; have HD := Lib.hid HD
  have e1 : (q == q) = true := by simp
  have e2 : (e' == e') = true := by simp
  have e3 : (y' == y') = true := by simp
  have e4 : (m' == m') = true := by simp
  have e5 : (d' == d') = true := by simp
  have e6 : (u == u) = true := by simp
  have e7 : (g == g) = true := by simp
  go_enter Tryd.func8, Tryd.ntmps8
  
  go_wp2_with fail; refine (awake_any _).mono ?_; rintro e w1 ⟨rfl, hb1⟩; obtain ⟨hc1, hf1⟩ := Gr.cells hb1; have hz1 := Gr.size hb1; (try simp at hz1); (try have hy1_0 : w.heap.size < w1.heap.size := by omega); (try have hy1_1 : w.heap.size + 1 < w1.heap.size := by omega); (try have hy1_2 : w.heap.size + 1 + 1 < w1.heap.size := by omega); (try have hy1_3 : w.heap.size + 1 + 1 + 1 < w1.heap.size := by omega); (try have hy1_4 : w.heap.size + 1 + 1 + 1 + 1 < w1.heap.size := by omega); (try have hy1_5 : w.heap.size + 1 + 1 + 1 + 1 + 1 < w1.heap.size := by omega)
  have kc1_0 := hc1 (w.heap.size) 0 (by first | omega | (simp; done) | (simp; omega))
  have kc1_1 := hc1 (w.heap.size) 1 (by first | omega | (simp; done) | (simp; omega))
  have kc1_2 := hc1 (w.heap.size) 2 (by first | omega | (simp; done) | (simp; omega))
  clear hc1
  (try simp [go_sem, *] at kc1_0)
  (try simp [go_sem, *] at kc1_1)
  (try simp [go_sem, *] at kc1_2)
  go_wp2_with fail; refine (HA.out _).mono ?_; rintro e w2 ⟨rfl, hb2⟩; obtain ⟨hc2, hf2⟩ := Gr.cells hb2; have hz2 := Gr.size hb2; (try simp at hz2); (try have hy2_0 : w.heap.size < w2.heap.size := by omega); (try have hy2_1 : w.heap.size + 1 < w2.heap.size := by omega); (try have hy2_2 : w.heap.size + 1 + 1 < w2.heap.size := by omega); (try have hy2_3 : w.heap.size + 1 + 1 + 1 < w2.heap.size := by omega); (try have hy2_4 : w.heap.size + 1 + 1 + 1 + 1 < w2.heap.size := by omega); (try have hy2_5 : w.heap.size + 1 + 1 + 1 + 1 + 1 < w2.heap.size := by omega); (try have hy2_1_0 : w1.heap.size < w2.heap.size := by omega); (try have hy2_1_1 : w1.heap.size + 1 < w2.heap.size := by omega)
  have kc2_0 := hc2 (w.heap.size) 0 (by first | omega | (simp; done) | (simp; omega))
  have kc2_1 := hc2 (w.heap.size) 1 (by first | omega | (simp; done) | (simp; omega))
  have kc2_2 := hc2 (w.heap.size) 2 (by first | omega | (simp; done) | (simp; omega))
  clear hc2
  (try simp [go_sem, *] at kc2_0)
  (try simp [go_sem, *] at kc2_1)
  (try simp [go_sem, *] at kc2_2)
  go_wp2_with fail; refine (HC.out _).mono ?_; rintro e w3 ⟨rfl, hb3⟩; obtain ⟨hc3, hf3⟩ := Gr.cells hb3; have hz3 := Gr.size hb3; (try simp at hz3); (try have hy3_0 : w.heap.size < w3.heap.size := by omega); (try have hy3_1 : w.heap.size + 1 < w3.heap.size := by omega); (try have hy3_2 : w.heap.size + 1 + 1 < w3.heap.size := by omega); (try have hy3_3 : w.heap.size + 1 + 1 + 1 < w3.heap.size := by omega); (try have hy3_4 : w.heap.size + 1 + 1 + 1 + 1 < w3.heap.size := by omega); (try have hy3_5 : w.heap.size + 1 + 1 + 1 + 1 + 1 < w3.heap.size := by omega); (try have hy3_1_0 : w1.heap.size < w3.heap.size := by omega); (try have hy3_1_1 : w1.heap.size + 1 < w3.heap.size := by omega); (try have hy3_2_0 : w2.heap.size < w3.heap.size := by omega); (try have hy3_2_1 : w2.heap.size + 1 < w3.heap.size := by omega)
  have kc3_0 := hc3 (w.heap.size) 0 (by first | omega | (simp; done) | (simp; omega))
  have kc3_1 := hc3 (w.heap.size) 1 (by first | omega | (simp; done) | (simp; omega))
  have kc3_2 := hc3 (w.heap.size) 2 (by first | omega | (simp; done) | (simp; omega))
  clear hc3
  (try simp [go_sem, *] at kc3_0)
  (try simp [go_sem, *] at kc3_1)
  (try simp [go_sem, *] at kc3_2)
  
  go_wp2_with fail; refine (HB.out _).mono ?_; rintro e w4 ⟨rfl, hb4⟩; obtain ⟨hc4, hf4⟩ := Gr.cells hb4; have hz4 := Gr.size hb4; (try simp at hz4); (try have hy4_0 : w.heap.size < w4.heap.size := by omega); (try have hy4_1 : w.heap.size + 1 < w4.heap.size := by omega); (try have hy4_2 : w.heap.size + 1 + 1 < w4.heap.size := by omega); (try have hy4_3 : w.heap.size + 1 + 1 + 1 < w4.heap.size := by omega); (try have hy4_4 : w.heap.size + 1 + 1 + 1 + 1 < w4.heap.size := by omega); (try have hy4_5 : w.heap.size + 1 + 1 + 1 + 1 + 1 < w4.heap.size := by omega); (try have hy4_1_0 : w1.heap.size < w4.heap.size := by omega); (try have hy4_1_1 : w1.heap.size + 1 < w4.heap.size := by omega); (try have hy4_2_0 : w2.heap.size < w4.heap.size := by omega); (try have hy4_2_1 : w2.heap.size + 1 < w4.heap.size := by omega); (try have hy4_3_0 : w3.heap.size < w4.heap.size := by omega); (try have hy4_3_1 : w3.heap.size + 1 < w4.heap.size := by omega)
  have kc4_0 := hc4 (w.heap.size) 0 (by first | omega | (simp; done) | (simp; omega))
  have kc4_1 := hc4 (w.heap.size) 1 (by first | omega | (simp; done) | (simp; omega))
  have kc4_2 := hc4 (w.heap.size) 2 (by first | omega | (simp; done) | (simp; omega))
  have kc4_3 := hc4 (w3.heap.size) 0 (by first | omega | (simp; done) | (simp; omega))
  have kc4_4 := hc4 (w3.heap.size) 1 (by first | omega | (simp; done) | (simp; omega))
  have kc4_5 := hc4 (w3.heap.size) 2 (by first | omega | (simp; done) | (simp; omega))
  clear hc4
  (try simp [go_sem, *] at kc4_0)
  (try simp [go_sem, *] at kc4_1)
  (try simp [go_sem, *] at kc4_2)
  (try simp [go_sem, *] at kc4_3)
  (try simp [go_sem, *] at kc4_4)
  (try simp [go_sem, *] at kc4_5)
  go_wp2_with fail; refine (HD.out _).mono ?_; rintro e w5 ⟨rfl, hb5⟩; obtain ⟨hc5, hf5⟩ := Gr.cells hb5; have hz5 := Gr.size hb5; (try simp at hz5); (try have hy5_0 : w.heap.size < w5.heap.size := by omega); (try have hy5_1 : w.heap.size + 1 < w5.heap.size := by omega); (try have hy5_2 : w.heap.size + 1 + 1 < w5.heap.size := by omega); (try have hy5_3 : w.heap.size + 1 + 1 + 1 < w5.heap.size := by omega); (try have hy5_4 : w.heap.size + 1 + 1 + 1 + 1 < w5.heap.size := by omega); (try have hy5_5 : w.heap.size + 1 + 1 + 1 + 1 + 1 < w5.heap.size := by omega); (try have hy5_1_0 : w1.heap.size < w5.heap.size := by omega); (try have hy5_1_1 : w1.heap.size + 1 < w5.heap.size := by omega); (try have hy5_2_0 : w2.heap.size < w5.heap.size := by omega); (try have hy5_2_1 : w2.heap.size + 1 < w5.heap.size := by omega); (try have hy5_3_0 : w3.heap.size < w5.heap.size := by omega); (try have hy5_3_1 : w3.heap.size + 1 < w5.heap.size := by omega); (try have hy5_4_0 : w4.heap.size < w5.heap.size := by omega); (try have hy5_4_1 : w4.heap.size + 1 < w5.heap.size := by omega)
  have kc5_0 := hc5 (w.heap.size) 0 (by first | omega | (simp; done) | (simp; omega))
  have kc5_1 := hc5 (w.heap.size) 1 (by first | omega | (simp; done) | (simp; omega))
  have kc5_2 := hc5 (w.heap.size) 2 (by first | omega | (simp; done) | (simp; omega))
  have kc5_3 := hc5 (w3.heap.size) 0 (by first | omega | (simp; done) | (simp; omega))
  have kc5_4 := hc5 (w3.heap.size) 1 (by first | omega | (simp; done) | (simp; omega))
  have kc5_5 := hc5 (w3.heap.size) 2 (by first | omega | (simp; done) | (simp; omega))
  clear hc5
  (try simp [go_sem, *] at kc5_0)
  (try simp [go_sem, *] at kc5_1)
  (try simp [go_sem, *] at kc5_2)
  (try simp [go_sem, *] at kc5_3)
  (try simp [go_sem, *] at kc5_4)
  (try simp [go_sem, *] at kc5_5)
  go_wp2
  go_ret
  exact ⟨rfl, (by repeat' (first | (with_reducible exact Gr.refl _) | (with_reducible assumption) | (with_reducible refine Gr.alloc ?_ _) | (with_reducible refine Gr.drew ?_) | (with_reducible refine Gr.drewN ?_ _) | (with_reducible refine Gr.setCell ?_ ?_ _) | (with_reducible refine Gr.trans ?_ (by with_reducible assumption)) | go_size))⟩
theorem instants_any (y m d s t : Int) (w : World) :
    Calls Tryd.prog 8 #[.agg #[.int .i64 y, .int .i64 m, .int .i64 d], .int .i64 s, .int .i64 t] w fun e w' => e = .returned (.bool true) ∧ Gr w w' := by
  have hA : ∃ q e', (∀ W : World, Calls Tryd.prog 26 #[.agg #[.int .i64 y, .int .i64 m, .int .i64 d], .int .i64 s] W fun e w' => e = .returned (.tuple #[.int .i64 q, .int .i64 e']) ∧ Gr W w') ∧
      (∀ W : World, Calls Tryd.prog 28 #[.agg #[.int .i64 y, .int .i64 m, .int .i64 d], .int .i64 s] W fun e w' => e = .returned (.tuple #[.int .i64 q, .int .i64 e']) ∧ Gr W w') := by
    cases hv : Ck.vld y m d
    · exact ⟨0, 1, fun W => at_arg y m d s W hv, fun W => rat_arg y m d s W hv⟩
    · by_cases hs : 0 ≤ s ∧ s < 86400
      · exact ⟨_, _, fun W => at_any y m d s W hv hs.1 hs.2, fun W => rat_any y m d s W hv hs.1 hs.2⟩
      · exact ⟨0, 2, fun W => at_range y m d s W hv (by omega), fun W => rat_range y m d s W hv (by omega)⟩
  have hB : ∃ y' m' d' u g, (∀ W : World, Calls Tryd.prog 27 #[.int .i64 t] W fun e w' => e = .returned (.tuple #[.agg #[.int .i64 y', .int .i64 m', .int .i64 d'], .int .i64 u, .int .i64 g]) ∧ Gr W w') ∧
      (∀ W : World, Calls Tryd.prog 29 #[.int .i64 t] W fun e w' => e = .returned (.tuple #[.agg #[.int .i64 y', .int .i64 m', .int .i64 d'], .int .i64 u, .int .i64 g]) ∧ Gr W w') := by
    cases hi : Ck.inst t
    · exact ⟨0, 0, 0, 0, 2, fun W => split_bad t W hi, fun W => rsplit_bad t W hi⟩
    · by_cases hd : -730119 ≤ t / 86400 ∧ t / 86400 ≤ 2921939
      · obtain ⟨y', m', d', hv, hn⟩ := Ck.exists_date (t / 86400) hd.1 hd.2
        refine ⟨y', m', d', _, _, fun W => split_any t y' m' d' W hi hv hn, fun W => rsplit_any t y' m' d' W hi ?_ hv hn⟩
        unfold Ck.dated; simp only [Bool.and_eq_true, decide_eq_true_eq]; exact hd
      · refine ⟨0, 0, 0, 0, 20, fun W => split_none t W hi (by omega), fun W => rsplit_none t W hi ?_⟩
        unfold Ck.dated; simp only [Bool.and_eq_false_iff, decide_eq_false_iff_not]; omega
  obtain ⟨q, e', HA, HB⟩ := hA
  obtain ⟨y', m', d', u, g, HC, HD⟩ := hB
  exact instants_cut y m d s t q e' y' m' d' u g w HA HB HC HD
end Go.Proofs.YtlcbjkkcfenlmaaDoor
