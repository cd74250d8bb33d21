import Derived.Test.YtlcbjkkcfenlmaaDoorCkWalkJ
set_option linter.unusedVariables false
set_option linter.unusedSimpArgs false
namespace Go.Proofs.YtlcbjkkcfenlmaaDoor
open Go.RowKit
set_option maxHeartbeats 2000000 in
theorem dates_no (y m d n : Int) (w : World) (hv : Ck.vld y m d = false) (hn : n < -730119 ∨ 2921940 ≤ n) (hd : Ck.dated n = false) :
    Calls Tryd.prog 6 #[.agg #[.int .i64 y, .int .i64 m, .int .i64 d], .int .i64 n] w fun e w' => e = .returned (.bool true) ∧ Gr w w' := by
  have HN := Lib.hid (fun W => number_bad y m d W hv)
  have HD := Lib.hid (fun W => dateof_bad n W hn)
  have hva := fun W => valid_any y m d W
  have hvb := fun W => rvalid_any y m d W
  have hda := fun W => rdated_any n W
  rw [hv] at hva hvb
  rw [hd] at hda
  have HVA := Lib.hid hva; have HVB := Lib.hid hvb; have HDA := Lib.hid hda
  clear hva hvb hda hv hd hn
  go_enter Tryd.func6, Tryd.ntmps6
  
  go_wp2_with fail; refine (awake_any _).mono ?_; rintro e w1 ⟨rfl, hb1⟩; obtain ⟨hc1, hf1⟩ := Gr.cells hb1; have hz1 := Gr.size hb1; (try simp at hz1); (try have hy1_0 : w.heap.size < w1.heap.size := by omega); (try have hy1_1 : w.heap.size + 1 < w1.heap.size := by omega); (try have hy1_2 : w.heap.size + 1 + 1 < w1.heap.size := by omega); (try have hy1_3 : w.heap.size + 1 + 1 + 1 < w1.heap.size := by omega); (try have hy1_4 : w.heap.size + 1 + 1 + 1 + 1 < w1.heap.size := by omega); (try have hy1_5 : w.heap.size + 1 + 1 + 1 + 1 + 1 < w1.heap.size := by omega)
  have kc1_0 := hc1 (w.heap.size) 0 (by first | omega | (simp; done) | (simp; omega))
  have kc1_1 := hc1 (w.heap.size) 1 (by first | omega | (simp; done) | (simp; omega))
  have kc1_2 := hc1 (w.heap.size) 2 (by first | omega | (simp; done) | (simp; omega))
  clear hc1
  (try simp [go_sem, *] at kc1_0)
  (try simp [go_sem, *] at kc1_1)
  (try simp [go_sem, *] at kc1_2)
  go_wp2_with fail; refine (HN.out _).mono ?_; rintro e w2 ⟨rfl, hb2⟩; obtain ⟨hc2, hf2⟩ := Gr.cells hb2; have hz2 := Gr.size hb2; (try simp at hz2); (try have hy2_0 : w.heap.size < w2.heap.size := by omega); (try have hy2_1 : w.heap.size + 1 < w2.heap.size := by omega); (try have hy2_2 : w.heap.size + 1 + 1 < w2.heap.size := by omega); (try have hy2_3 : w.heap.size + 1 + 1 + 1 < w2.heap.size := by omega); (try have hy2_4 : w.heap.size + 1 + 1 + 1 + 1 < w2.heap.size := by omega); (try have hy2_5 : w.heap.size + 1 + 1 + 1 + 1 + 1 < w2.heap.size := by omega); (try have hy2_1_0 : w1.heap.size < w2.heap.size := by omega); (try have hy2_1_1 : w1.heap.size + 1 < w2.heap.size := by omega)
  have kc2_0 := hc2 (w.heap.size) 0 (by first | omega | (simp; done) | (simp; omega))
  have kc2_1 := hc2 (w.heap.size) 1 (by first | omega | (simp; done) | (simp; omega))
  have kc2_2 := hc2 (w.heap.size) 2 (by first | omega | (simp; done) | (simp; omega))
  clear hc2
  (try simp [go_sem, *] at kc2_0)
  (try simp [go_sem, *] at kc2_1)
  (try simp [go_sem, *] at kc2_2)
  go_wp2_with fail; refine (HD.out _).mono ?_; rintro e w3 ⟨rfl, hb3⟩; obtain ⟨hc3, hf3⟩ := Gr.cells hb3; have hz3 := Gr.size hb3; (try simp at hz3); (try have hy3_0 : w.heap.size < w3.heap.size := by omega); (try have hy3_1 : w.heap.size + 1 < w3.heap.size := by omega); (try have hy3_2 : w.heap.size + 1 + 1 < w3.heap.size := by omega); (try have hy3_3 : w.heap.size + 1 + 1 + 1 < w3.heap.size := by omega); (try have hy3_4 : w.heap.size + 1 + 1 + 1 + 1 < w3.heap.size := by omega); (try have hy3_5 : w.heap.size + 1 + 1 + 1 + 1 + 1 < w3.heap.size := by omega); (try have hy3_1_0 : w1.heap.size < w3.heap.size := by omega); (try have hy3_1_1 : w1.heap.size + 1 < w3.heap.size := by omega); (try have hy3_2_0 : w2.heap.size < w3.heap.size := by omega); (try have hy3_2_1 : w2.heap.size + 1 < w3.heap.size := by omega)
  have kc3_0 := hc3 (w.heap.size) 0 (by first | omega | (simp; done) | (simp; omega))
  have kc3_1 := hc3 (w.heap.size) 1 (by first | omega | (simp; done) | (simp; omega))
  have kc3_2 := hc3 (w.heap.size) 2 (by first | omega | (simp; done) | (simp; omega))
  clear hc3
  (try simp [go_sem, *] at kc3_0)
  (try simp [go_sem, *] at kc3_1)
  (try simp [go_sem, *] at kc3_2)
  
  go_wp2_with fail; refine (HVB.out _).mono ?_; rintro e w4 ⟨rfl, hb4⟩; obtain ⟨hc4, hf4⟩ := Gr.cells hb4; have hz4 := Gr.size hb4; (try simp at hz4); (try have hy4_0 : w.heap.size < w4.heap.size := by omega); (try have hy4_1 : w.heap.size + 1 < w4.heap.size := by omega); (try have hy4_2 : w.heap.size + 1 + 1 < w4.heap.size := by omega); (try have hy4_3 : w.heap.size + 1 + 1 + 1 < w4.heap.size := by omega); (try have hy4_4 : w.heap.size + 1 + 1 + 1 + 1 < w4.heap.size := by omega); (try have hy4_5 : w.heap.size + 1 + 1 + 1 + 1 + 1 < w4.heap.size := by omega); (try have hy4_1_0 : w1.heap.size < w4.heap.size := by omega); (try have hy4_1_1 : w1.heap.size + 1 < w4.heap.size := by omega); (try have hy4_2_0 : w2.heap.size < w4.heap.size := by omega); (try have hy4_2_1 : w2.heap.size + 1 < w4.heap.size := by omega); (try have hy4_3_0 : w3.heap.size < w4.heap.size := by omega); (try have hy4_3_1 : w3.heap.size + 1 < w4.heap.size := by omega)
  have kc4_0 := hc4 (w.heap.size) 0 (by first | omega | (simp; done) | (simp; omega))
  have kc4_1 := hc4 (w.heap.size) 1 (by first | omega | (simp; done) | (simp; omega))
  have kc4_2 := hc4 (w.heap.size) 2 (by first | omega | (simp; done) | (simp; omega))
  have kc4_3 := hc4 (w3.heap.size) 0 (by first | omega | (simp; done) | (simp; omega))
  have kc4_4 := hc4 (w3.heap.size) 1 (by first | omega | (simp; done) | (simp; omega))
  have kc4_5 := hc4 (w3.heap.size) 2 (by first | omega | (simp; done) | (simp; omega))
  clear hc4
  (try simp [go_sem, *] at kc4_0)
  (try simp [go_sem, *] at kc4_1)
  (try simp [go_sem, *] at kc4_2)
  (try simp [go_sem, *] at kc4_3)
  (try simp [go_sem, *] at kc4_4)
  (try simp [go_sem, *] at kc4_5)
  go_wp2_with fail; refine (HVA.out _).mono ?_; rintro e w5 ⟨rfl, hb5⟩; obtain ⟨hc5, hf5⟩ := Gr.cells hb5; have hz5 := Gr.size hb5; (try simp at hz5); (try have hy5_0 : w.heap.size < w5.heap.size := by omega); (try have hy5_1 : w.heap.size + 1 < w5.heap.size := by omega); (try have hy5_2 : w.heap.size + 1 + 1 < w5.heap.size := by omega); (try have hy5_3 : w.heap.size + 1 + 1 + 1 < w5.heap.size := by omega); (try have hy5_4 : w.heap.size + 1 + 1 + 1 + 1 < w5.heap.size := by omega); (try have hy5_5 : w.heap.size + 1 + 1 + 1 + 1 + 1 < w5.heap.size := by omega); (try have hy5_1_0 : w1.heap.size < w5.heap.size := by omega); (try have hy5_1_1 : w1.heap.size + 1 < w5.heap.size := by omega); (try have hy5_2_0 : w2.heap.size < w5.heap.size := by omega); (try have hy5_2_1 : w2.heap.size + 1 < w5.heap.size := by omega); (try have hy5_3_0 : w3.heap.size < w5.heap.size := by omega); (try have hy5_3_1 : w3.heap.size + 1 < w5.heap.size := by omega); (try have hy5_4_0 : w4.heap.size < w5.heap.size := by omega); (try have hy5_4_1 : w4.heap.size + 1 < w5.heap.size := by omega)
  have kc5_0 := hc5 (w.heap.size) 0 (by first | omega | (simp; done) | (simp; omega))
  have kc5_1 := hc5 (w.heap.size) 1 (by first | omega | (simp; done) | (simp; omega))
  have kc5_2 := hc5 (w.heap.size) 2 (by first | omega | (simp; done) | (simp; omega))
  have kc5_3 := hc5 (w3.heap.size) 0 (by first | omega | (simp; done) | (simp; omega))
  have kc5_4 := hc5 (w3.heap.size) 1 (by first | omega | (simp; done) | (simp; omega))
  have kc5_5 := hc5 (w3.heap.size) 2 (by first | omega | (simp; done) | (simp; omega))
  clear hc5
  (try simp [go_sem, *] at kc5_0)
  (try simp [go_sem, *] at kc5_1)
  (try simp [go_sem, *] at kc5_2)
  (try simp [go_sem, *] at kc5_3)
  (try simp [go_sem, *] at kc5_4)
  (try simp [go_sem, *] at kc5_5)
  go_wp2_with fail; refine (HDA.out _).mono ?_; rintro e w6 ⟨rfl, hb6⟩; obtain ⟨hc6, hf6⟩ := Gr.cells hb6; have hz6 := Gr.size hb6; (try simp at hz6); (try have hy6_0 : w.heap.size < w6.heap.size := by omega); (try have hy6_1 : w.heap.size + 1 < w6.heap.size := by omega); (try have hy6_2 : w.heap.size + 1 + 1 < w6.heap.size := by omega); (try have hy6_3 : w.heap.size + 1 + 1 + 1 < w6.heap.size := by omega); (try have hy6_4 : w.heap.size + 1 + 1 + 1 + 1 < w6.heap.size := by omega); (try have hy6_5 : w.heap.size + 1 + 1 + 1 + 1 + 1 < w6.heap.size := by omega); (try have hy6_1_0 : w1.heap.size < w6.heap.size := by omega); (try have hy6_1_1 : w1.heap.size + 1 < w6.heap.size := by omega); (try have hy6_2_0 : w2.heap.size < w6.heap.size := by omega); (try have hy6_2_1 : w2.heap.size + 1 < w6.heap.size := by omega); (try have hy6_3_0 : w3.heap.size < w6.heap.size := by omega); (try have hy6_3_1 : w3.heap.size + 1 < w6.heap.size := by omega); (try have hy6_4_0 : w4.heap.size < w6.heap.size := by omega); (try have hy6_4_1 : w4.heap.size + 1 < w6.heap.size := by omega); (try have hy6_5_0 : w5.heap.size < w6.heap.size := by omega); (try have hy6_5_1 : w5.heap.size + 1 < w6.heap.size := by omega)
  have kc6_0 := hc6 (w.heap.size) 0 (by first | omega | (simp; done) | (simp; omega))
  have kc6_1 := hc6 (w.heap.size) 1 (by first | omega | (simp; done) | (simp; omega))
  have kc6_2 := hc6 (w.heap.size) 2 (by first | omega | (simp; done) | (simp; omega))
  have kc6_3 := hc6 (w3.heap.size) 0 (by first | omega | (simp; done) | (simp; omega))
  have kc6_4 := hc6 (w3.heap.size) 1 (by first | omega | (simp; done) | (simp; omega))
  have kc6_5 := hc6 (w3.heap.size) 2 (by first | omega | (simp; done) | (simp; omega))
  clear hc6
  (try simp [go_sem, *] at kc6_0)
  (try simp [go_sem, *] at kc6_1)
  (try simp [go_sem, *] at kc6_2)
  (try simp [go_sem, *] at kc6_3)
  (try simp [go_sem, *] at kc6_4)
  (try simp [go_sem, *] at kc6_5)
  go_wp2
  go_ret
  exact ⟨rfl, (by repeat' (first | (with_reducible exact Gr.refl _) | (with_reducible assumption) | (with_reducible refine Gr.alloc ?_ _) | (with_reducible refine Gr.drew ?_) | (with_reducible refine Gr.drewN ?_ _) | (with_reducible refine Gr.setCell ?_ ?_ _) | (with_reducible refine Gr.trans ?_ (by with_reducible assumption)) | go_size))⟩
set_option maxHeartbeats 2000000 in
theorem dates_nd (y m d n y' m' d' : Int) (w : World) (hv : Ck.vld y m d = false) (hv' : Ck.vld y' m' d' = true) (hn : Ck.num y' m' d' = n) (hd : Ck.dated n = true) :
    Calls Tryd.prog 6 #[.agg #[.int .i64 y, .int .i64 m, .int .i64 d], .int .i64 n] w fun e w' => e = .returned (.bool true) ∧ Gr w w' := by
  have HN := Lib.hid (fun W => number_bad y m d W hv)
  have HD := Lib.hid (fun W => dateof_any n y' m' d' W hv' hn)
  have HE := Lib.hid (fun W => rdateof_any n y' m' d' W hv' hn)
  have hva := fun W => valid_any y m d W
  have hvb := fun W => rvalid_any y m d W
  have hda := fun W => rdated_any n W
  rw [hv] at hva hvb
  rw [hd] at hda
  have HVA := Lib.hid hva; have HVB := Lib.hid hvb; have HDA := Lib.hid hda
  clear hva hvb hda hv hd hn hv'
  have e1 : (y' == y') = true := by simp
  have e2 : (m' == m') = true := by simp
  have e3 : (d' == d') = true := by simp
  go_enter Tryd.func6, Tryd.ntmps6
  
  go_wp2_with fail; refine (awake_any _).mono ?_; rintro e w1 ⟨rfl, hb1⟩; obtain ⟨hc1, hf1⟩ := Gr.cells hb1; have hz1 := Gr.size hb1; (try simp at hz1); (try have hy1_0 : w.heap.size < w1.heap.size := by omega); (try have hy1_1 : w.heap.size + 1 < w1.heap.size := by omega); (try have hy1_2 : w.heap.size + 1 + 1 < w1.heap.size := by omega); (try have hy1_3 : w.heap.size + 1 + 1 + 1 < w1.heap.size := by omega); (try have hy1_4 : w.heap.size + 1 + 1 + 1 + 1 < w1.heap.size := by omega); (try have hy1_5 : w.heap.size + 1 + 1 + 1 + 1 + 1 < w1.heap.size := by omega)
  have kc1_0 := hc1 (w.heap.size) 0 (by first | omega | (simp; done) | (simp; omega))
  have kc1_1 := hc1 (w.heap.size) 1 (by first | omega | (simp; done) | (simp; omega))
  have kc1_2 := hc1 (w.heap.size) 2 (by first | omega | (simp; done) | (simp; omega))
  clear hc1
  (try simp [go_sem, *] at kc1_0)
  (try simp [go_sem, *] at kc1_1)
  (try simp [go_sem, *] at kc1_2)
  go_wp2_with fail; refine (HN.out _).mono ?_; rintro e w2 ⟨rfl, hb2⟩; obtain ⟨hc2, hf2⟩ := Gr.cells hb2; have hz2 := Gr.size hb2; (try simp at hz2); (try have hy2_0 : w.heap.size < w2.heap.size := by omega); (try have hy2_1 : w.heap.size + 1 < w2.heap.size := by omega); (try have hy2_2 : w.heap.size + 1 + 1 < w2.heap.size := by omega); (try have hy2_3 : w.heap.size + 1 + 1 + 1 < w2.heap.size := by omega); (try have hy2_4 : w.heap.size + 1 + 1 + 1 + 1 < w2.heap.size := by omega); (try have hy2_5 : w.heap.size + 1 + 1 + 1 + 1 + 1 < w2.heap.size := by omega); (try have hy2_1_0 : w1.heap.size < w2.heap.size := by omega); (try have hy2_1_1 : w1.heap.size + 1 < w2.heap.size := by omega)
  have kc2_0 := hc2 (w.heap.size) 0 (by first | omega | (simp; done) | (simp; omega))
  have kc2_1 := hc2 (w.heap.size) 1 (by first | omega | (simp; done) | (simp; omega))
  have kc2_2 := hc2 (w.heap.size) 2 (by first | omega | (simp; done) | (simp; omega))
  clear hc2
  (try simp [go_sem, *] at kc2_0)
  (try simp [go_sem, *] at kc2_1)
  (try simp [go_sem, *] at kc2_2)
  go_wp2_with fail; refine (HD.out _).mono ?_; rintro e w3 ⟨rfl, hb3⟩; obtain ⟨hc3, hf3⟩ := Gr.cells hb3; have hz3 := Gr.size hb3; (try simp at hz3); (try have hy3_0 : w.heap.size < w3.heap.size := by omega); (try have hy3_1 : w.heap.size + 1 < w3.heap.size := by omega); (try have hy3_2 : w.heap.size + 1 + 1 < w3.heap.size := by omega); (try have hy3_3 : w.heap.size + 1 + 1 + 1 < w3.heap.size := by omega); (try have hy3_4 : w.heap.size + 1 + 1 + 1 + 1 < w3.heap.size := by omega); (try have hy3_5 : w.heap.size + 1 + 1 + 1 + 1 + 1 < w3.heap.size := by omega); (try have hy3_1_0 : w1.heap.size < w3.heap.size := by omega); (try have hy3_1_1 : w1.heap.size + 1 < w3.heap.size := by omega); (try have hy3_2_0 : w2.heap.size < w3.heap.size := by omega); (try have hy3_2_1 : w2.heap.size + 1 < w3.heap.size := by omega)
  have kc3_0 := hc3 (w.heap.size) 0 (by first | omega | (simp; done) | (simp; omega))
  have kc3_1 := hc3 (w.heap.size) 1 (by first | omega | (simp; done) | (simp; omega))
  have kc3_2 := hc3 (w.heap.size) 2 (by first | omega | (simp; done) | (simp; omega))
  clear hc3
  (try simp [go_sem, *] at kc3_0)
  (try simp [go_sem, *] at kc3_1)
  (try simp [go_sem, *] at kc3_2)
  
  go_wp2_with fail; refine (HVB.out _).mono ?_; rintro e w4 ⟨rfl, hb4⟩; obtain ⟨hc4, hf4⟩ := Gr.cells hb4; have hz4 := Gr.size hb4; (try simp at hz4); (try have hy4_0 : w.heap.size < w4.heap.size := by omega); (try have hy4_1 : w.heap.size + 1 < w4.heap.size := by omega); (try have hy4_2 : w.heap.size + 1 + 1 < w4.heap.size := by omega); (try have hy4_3 : w.heap.size + 1 + 1 + 1 < w4.heap.size := by omega); (try have hy4_4 : w.heap.size + 1 + 1 + 1 + 1 < w4.heap.size := by omega); (try have hy4_5 : w.heap.size + 1 + 1 + 1 + 1 + 1 < w4.heap.size := by omega); (try have hy4_1_0 : w1.heap.size < w4.heap.size := by omega); (try have hy4_1_1 : w1.heap.size + 1 < w4.heap.size := by omega); (try have hy4_2_0 : w2.heap.size < w4.heap.size := by omega); (try have hy4_2_1 : w2.heap.size + 1 < w4.heap.size := by omega); (try have hy4_3_0 : w3.heap.size < w4.heap.size := by omega); (try have hy4_3_1 : w3.heap.size + 1 < w4.heap.size := by omega)
  have kc4_0 := hc4 (w.heap.size) 0 (by first | omega | (simp; done) | (simp; omega))
  have kc4_1 := hc4 (w.heap.size) 1 (by first | omega | (simp; done) | (simp; omega))
  have kc4_2 := hc4 (w.heap.size) 2 (by first | omega | (simp; done) | (simp; omega))
  have kc4_3 := hc4 (w3.heap.size) 0 (by first | omega | (simp; done) | (simp; omega))
  have kc4_4 := hc4 (w3.heap.size) 1 (by first | omega | (simp; done) | (simp; omega))
  have kc4_5 := hc4 (w3.heap.size) 2 (by first | omega | (simp; done) | (simp; omega))
  clear hc4
  (try simp [go_sem, *] at kc4_0)
  (try simp [go_sem, *] at kc4_1)
  (try simp [go_sem, *] at kc4_2)
  (try simp [go_sem, *] at kc4_3)
  (try simp [go_sem, *] at kc4_4)
  (try simp [go_sem, *] at kc4_5)
  go_wp2_with fail; refine (HVA.out _).mono ?_; rintro e w5 ⟨rfl, hb5⟩; obtain ⟨hc5, hf5⟩ := Gr.cells hb5; have hz5 := Gr.size hb5; (try simp at hz5); (try have hy5_0 : w.heap.size < w5.heap.size := by omega); (try have hy5_1 : w.heap.size + 1 < w5.heap.size := by omega); (try have hy5_2 : w.heap.size + 1 + 1 < w5.heap.size := by omega); (try have hy5_3 : w.heap.size + 1 + 1 + 1 < w5.heap.size := by omega); (try have hy5_4 : w.heap.size + 1 + 1 + 1 + 1 < w5.heap.size := by omega); (try have hy5_5 : w.heap.size + 1 + 1 + 1 + 1 + 1 < w5.heap.size := by omega); (try have hy5_1_0 : w1.heap.size < w5.heap.size := by omega); (try have hy5_1_1 : w1.heap.size + 1 < w5.heap.size := by omega); (try have hy5_2_0 : w2.heap.size < w5.heap.size := by omega); (try have hy5_2_1 : w2.heap.size + 1 < w5.heap.size := by omega); (try have hy5_3_0 : w3.heap.size < w5.heap.size := by omega); (try have hy5_3_1 : w3.heap.size + 1 < w5.heap.size := by omega); (try have hy5_4_0 : w4.heap.size < w5.heap.size := by omega); (try have hy5_4_1 : w4.heap.size + 1 < w5.heap.size := by omega)
  have kc5_0 := hc5 (w.heap.size) 0 (by first | omega | (simp; done) | (simp; omega))
  have kc5_1 := hc5 (w.heap.size) 1 (by first | omega | (simp; done) | (simp; omega))
  have kc5_2 := hc5 (w.heap.size) 2 (by first | omega | (simp; done) | (simp; omega))
  have kc5_3 := hc5 (w3.heap.size) 0 (by first | omega | (simp; done) | (simp; omega))
  have kc5_4 := hc5 (w3.heap.size) 1 (by first | omega | (simp; done) | (simp; omega))
  have kc5_5 := hc5 (w3.heap.size) 2 (by first | omega | (simp; done) | (simp; omega))
  clear hc5
  (try simp [go_sem, *] at kc5_0)
  (try simp [go_sem, *] at kc5_1)
  (try simp [go_sem, *] at kc5_2)
  (try simp [go_sem, *] at kc5_3)
  (try simp [go_sem, *] at kc5_4)
  (try simp [go_sem, *] at kc5_5)
  go_wp2_with fail; refine (HDA.out _).mono ?_; rintro e w6 ⟨rfl, hb6⟩; obtain ⟨hc6, hf6⟩ := Gr.cells hb6; have hz6 := Gr.size hb6; (try simp at hz6); (try have hy6_0 : w.heap.size < w6.heap.size := by omega); (try have hy6_1 : w.heap.size + 1 < w6.heap.size := by omega); (try have hy6_2 : w.heap.size + 1 + 1 < w6.heap.size := by omega); (try have hy6_3 : w.heap.size + 1 + 1 + 1 < w6.heap.size := by omega); (try have hy6_4 : w.heap.size + 1 + 1 + 1 + 1 < w6.heap.size := by omega); (try have hy6_5 : w.heap.size + 1 + 1 + 1 + 1 + 1 < w6.heap.size := by omega); (try have hy6_1_0 : w1.heap.size < w6.heap.size := by omega); (try have hy6_1_1 : w1.heap.size + 1 < w6.heap.size := by omega); (try have hy6_2_0 : w2.heap.size < w6.heap.size := by omega); (try have hy6_2_1 : w2.heap.size + 1 < w6.heap.size := by omega); (try have hy6_3_0 : w3.heap.size < w6.heap.size := by omega); (try have hy6_3_1 : w3.heap.size + 1 < w6.heap.size := by omega); (try have hy6_4_0 : w4.heap.size < w6.heap.size := by omega); (try have hy6_4_1 : w4.heap.size + 1 < w6.heap.size := by omega); (try have hy6_5_0 : w5.heap.size < w6.heap.size := by omega); (try have hy6_5_1 : w5.heap.size + 1 < w6.heap.size := by omega)
  have kc6_0 := hc6 (w.heap.size) 0 (by first | omega | (simp; done) | (simp; omega))
  have kc6_1 := hc6 (w.heap.size) 1 (by first | omega | (simp; done) | (simp; omega))
  have kc6_2 := hc6 (w.heap.size) 2 (by first | omega | (simp; done) | (simp; omega))
  have kc6_3 := hc6 (w3.heap.size) 0 (by first | omega | (simp; done) | (simp; omega))
  have kc6_4 := hc6 (w3.heap.size) 1 (by first | omega | (simp; done) | (simp; omega))
  have kc6_5 := hc6 (w3.heap.size) 2 (by first | omega | (simp; done) | (simp; omega))
  clear hc6
  (try simp [go_sem, *] at kc6_0)
  (try simp [go_sem, *] at kc6_1)
  (try simp [go_sem, *] at kc6_2)
  (try simp [go_sem, *] at kc6_3)
  (try simp [go_sem, *] at kc6_4)
  (try simp [go_sem, *] at kc6_5)
  go_wp2_with fail
  refine name_world ?_; intro W20 hW20
  have g20 : Gr w W20 := by rw [hW20]; exact (by repeat' (first | (with_reducible exact Gr.refl _) | (with_reducible assumption) | (with_reducible refine Gr.alloc ?_ _) | (with_reducible refine Gr.drew ?_) | (with_reducible refine Gr.drewN ?_ _) | (with_reducible refine Gr.setCell ?_ ?_ _) | (with_reducible refine Gr.trans ?_ (by with_reducible assumption)) | go_size))
  have k20_0 : ∀ w', Gr W20 w' → w'.cell? ⟨w.heap.size, 0, none⟩ = some (.int .i64 y) := fun w' hgW => by first | exact (Gr.at hgW (by rw [hW20]; simp [go_sem, *]))
  have k20_1 : ∀ w', Gr W20 w' → w'.cell? ⟨w.heap.size, 1, none⟩ = some (.int .i64 m) := fun w' hgW => by first | exact (Gr.at hgW (by rw [hW20]; simp [go_sem, *]))
  have k20_2 : ∀ w', Gr W20 w' → w'.cell? ⟨w.heap.size, 2, none⟩ = some (.int .i64 d) := fun w' hgW => by first | exact (Gr.at hgW (by rw [hW20]; simp [go_sem, *]))
  have k20_3 : ∀ w', Gr W20 w' → w'.cell? ⟨w3.heap.size, 0, none⟩ = some (.int .i64 y') := fun w' hgW => by first | exact (Gr.at hgW (by rw [hW20]; simp [go_sem, *]))
  have k20_4 : ∀ w', Gr W20 w' → w'.cell? ⟨w3.heap.size, 1, none⟩ = some (.int .i64 m') := fun w' hgW => by first | exact (Gr.at hgW (by rw [hW20]; simp [go_sem, *]))
  have k20_5 : ∀ w', Gr W20 w' → w'.cell? ⟨w3.heap.size, 2, none⟩ = some (.int .i64 d') := fun w' hgW => by first | exact (Gr.at hgW (by rw [hW20]; simp [go_sem, *]))
  clear hW20
  have zW20 := Gr.size g20
  go_region_held3 (fun w' => Gr W20 w') (repeat' (first | (with_reducible exact Gr.refl _) | (with_reducible assumption) | (with_reducible refine Gr.alloc ?_ _) | (with_reducible refine Gr.drew ?_) | (with_reducible refine Gr.drewN ?_ _) | (with_reducible refine Gr.setCell ?_ ?_ _) | (with_reducible refine Gr.trans ?_ (by with_reducible assumption)) | go_size)) (first | (go_at_call 25; refine (HE.out _).mono ?_; rintro e w21 ⟨rfl, hb21⟩; have q21 : Gr W20 w21 := (by repeat' (first | (with_reducible exact Gr.refl _) | (with_reducible assumption) | (with_reducible refine Gr.alloc ?_ _) | (with_reducible refine Gr.drew ?_) | (with_reducible refine Gr.drewN ?_ _) | (with_reducible refine Gr.setCell ?_ ?_ _) | (with_reducible refine Gr.trans ?_ (by with_reducible assumption)) | go_size)); have z21 := Gr.size q21; obtain ⟨hc21, hf21⟩ := Gr.cells hb21; have hz21 := Gr.size hb21; (try simp at hz21); (try have hy21_0 : w.heap.size < w21.heap.size := by omega); (try have hy21_1 : w.heap.size + 1 < w21.heap.size := by omega); (try have hy21_2 : w.heap.size + 1 + 1 < w21.heap.size := by omega); (try have hy21_3 : w.heap.size + 1 + 1 + 1 < w21.heap.size := by omega); (try have hy21_4 : w.heap.size + 1 + 1 + 1 + 1 < w21.heap.size := by omega); (try have hy21_5 : w.heap.size + 1 + 1 + 1 + 1 + 1 < w21.heap.size := by omega); (try have hy21_W20_0 : W20.heap.size < w21.heap.size := by omega); (try have hy21_W20_1 : W20.heap.size + 1 < w21.heap.size := by omega); (try have hy21_1_0 : w1.heap.size < w21.heap.size := by omega); (try have hy21_1_1 : w1.heap.size + 1 < w21.heap.size := by omega); (try have hy21_2_0 : w2.heap.size < w21.heap.size := by omega); (try have hy21_2_1 : w2.heap.size + 1 < w21.heap.size := by omega); (try have hy21_3_0 : w3.heap.size < w21.heap.size := by omega); (try have hy21_3_1 : w3.heap.size + 1 < w21.heap.size := by omega); (try have hy21_4_0 : w4.heap.size < w21.heap.size := by omega); (try have hy21_4_1 : w4.heap.size + 1 < w21.heap.size := by omega); (try have hy21_5_0 : w5.heap.size < w21.heap.size := by omega); (try have hy21_5_1 : w5.heap.size + 1 < w21.heap.size := by omega); (try have hy21_6_0 : w6.heap.size < w21.heap.size := by omega); (try have hy21_6_1 : w6.heap.size + 1 < w21.heap.size := by omega); (try have hy21_7_0 : w7.heap.size < w21.heap.size := by omega); (try have hy21_7_1 : w7.heap.size + 1 < w21.heap.size := by omega); (try have hy21_8_0 : w8.heap.size < w21.heap.size := by omega); (try have hy21_8_1 : w8.heap.size + 1 < w21.heap.size := by omega); (try have hy21_9_0 : w9.heap.size < w21.heap.size := by omega); (try have hy21_9_1 : w9.heap.size + 1 < w21.heap.size := by omega); (try have hy21_10_0 : w10.heap.size < w21.heap.size := by omega); (try have hy21_10_1 : w10.heap.size + 1 < w21.heap.size := by omega); (try have hy21_11_0 : w11.heap.size < w21.heap.size := by omega); (try have hy21_11_1 : w11.heap.size + 1 < w21.heap.size := by omega); (try have hy21_12_0 : w12.heap.size < w21.heap.size := by omega); (try have hy21_12_1 : w12.heap.size + 1 < w21.heap.size := by omega); (try have hy21_13_0 : w13.heap.size < w21.heap.size := by omega); (try have hy21_13_1 : w13.heap.size + 1 < w21.heap.size := by omega); (try have hy21_14_0 : w14.heap.size < w21.heap.size := by omega); (try have hy21_14_1 : w14.heap.size + 1 < w21.heap.size := by omega); (try have hy21_15_0 : w15.heap.size < w21.heap.size := by omega); (try have hy21_15_1 : w15.heap.size + 1 < w21.heap.size := by omega); (try have hy21_16_0 : w16.heap.size < w21.heap.size := by omega); (try have hy21_16_1 : w16.heap.size + 1 < w21.heap.size := by omega); (try have hy21_17_0 : w17.heap.size < w21.heap.size := by omega); (try have hy21_17_1 : w17.heap.size + 1 < w21.heap.size := by omega); (try have hy21_18_0 : w18.heap.size < w21.heap.size := by omega); (try have hy21_18_1 : w18.heap.size + 1 < w21.heap.size := by omega); (try have hy21_19_0 : w19.heap.size < w21.heap.size := by omega); (try have hy21_19_1 : w19.heap.size + 1 < w21.heap.size := by omega); (try have hy21_20_0 : w20.heap.size < w21.heap.size := by omega); (try have hy21_20_1 : w20.heap.size + 1 < w21.heap.size := by omega)))
  all_goals
    go_wp2
    go_ret
    exact ⟨rfl, (by repeat' (first | (with_reducible exact Gr.refl _) | (with_reducible assumption) | (with_reducible refine Gr.alloc ?_ _) | (with_reducible refine Gr.drew ?_) | (with_reducible refine Gr.drewN ?_ _) | (with_reducible refine Gr.setCell ?_ ?_ _) | (with_reducible refine Gr.trans ?_ (by with_reducible assumption)) | go_size))⟩
set_option maxHeartbeats 2000000 in
theorem dates_vo (y m d n : Int) (w : World) (hv : Ck.vld y m d = true) (hn : n < -730119 ∨ 2921940 ≤ n) (hd : Ck.dated n = false) :
    Calls Tryd.prog 6 #[.agg #[.int .i64 y, .int .i64 m, .int .i64 d], .int .i64 n] w fun e w' => e = .returned (.bool true) ∧ Gr w w' := by
  have HN := Lib.hid (fun W => number_any y m d W hv)
  have HR := Lib.hid (fun W => rnumber_any y m d W hv)
  have HD := Lib.hid (fun W => dateof_bad n W hn)
  have hva := fun W => valid_any y m d W
  have hvb := fun W => rvalid_any y m d W
  have hda := fun W => rdated_any n W
  rw [hv] at hva hvb
  rw [hd] at hda
  have HVA := Lib.hid hva; have HVB := Lib.hid hvb; have HDA := Lib.hid hda
  clear hva hvb hda hv hd hn
  generalize Ck.num y m d = k at *
  have e0 : (k != k) = false := by simp
  go_enter Tryd.func6, Tryd.ntmps6
  
  go_wp2_with fail; refine (awake_any _).mono ?_; rintro e w1 ⟨rfl, hb1⟩; obtain ⟨hc1, hf1⟩ := Gr.cells hb1; have hz1 := Gr.size hb1; (try simp at hz1); (try have hy1_0 : w.heap.size < w1.heap.size := by omega); (try have hy1_1 : w.heap.size + 1 < w1.heap.size := by omega); (try have hy1_2 : w.heap.size + 1 + 1 < w1.heap.size := by omega); (try have hy1_3 : w.heap.size + 1 + 1 + 1 < w1.heap.size := by omega); (try have hy1_4 : w.heap.size + 1 + 1 + 1 + 1 < w1.heap.size := by omega); (try have hy1_5 : w.heap.size + 1 + 1 + 1 + 1 + 1 < w1.heap.size := by omega)
  have kc1_0 := hc1 (w.heap.size) 0 (by first | omega | (simp; done) | (simp; omega))
  have kc1_1 := hc1 (w.heap.size) 1 (by first | omega | (simp; done) | (simp; omega))
  have kc1_2 := hc1 (w.heap.size) 2 (by first | omega | (simp; done) | (simp; omega))
  clear hc1
  (try simp [go_sem, *] at kc1_0)
  (try simp [go_sem, *] at kc1_1)
  (try simp [go_sem, *] at kc1_2)
  go_wp2_with fail; refine (HN.out _).mono ?_; rintro e w2 ⟨rfl, hb2⟩; obtain ⟨hc2, hf2⟩ := Gr.cells hb2; have hz2 := Gr.size hb2; (try simp at hz2); (try have hy2_0 : w.heap.size < w2.heap.size := by omega); (try have hy2_1 : w.heap.size + 1 < w2.heap.size := by omega); (try have hy2_2 : w.heap.size + 1 + 1 < w2.heap.size := by omega); (try have hy2_3 : w.heap.size + 1 + 1 + 1 < w2.heap.size := by omega); (try have hy2_4 : w.heap.size + 1 + 1 + 1 + 1 < w2.heap.size := by omega); (try have hy2_5 : w.heap.size + 1 + 1 + 1 + 1 + 1 < w2.heap.size := by omega); (try have hy2_1_0 : w1.heap.size < w2.heap.size := by omega); (try have hy2_1_1 : w1.heap.size + 1 < w2.heap.size := by omega)
  have kc2_0 := hc2 (w.heap.size) 0 (by first | omega | (simp; done) | (simp; omega))
  have kc2_1 := hc2 (w.heap.size) 1 (by first | omega | (simp; done) | (simp; omega))
  have kc2_2 := hc2 (w.heap.size) 2 (by first | omega | (simp; done) | (simp; omega))
  clear hc2
  (try simp [go_sem, *] at kc2_0)
  (try simp [go_sem, *] at kc2_1)
  (try simp [go_sem, *] at kc2_2)
  go_wp2_with fail; refine (HD.out _).mono ?_; rintro e w3 ⟨rfl, hb3⟩; obtain ⟨hc3, hf3⟩ := Gr.cells hb3; have hz3 := Gr.size hb3; (try simp at hz3); (try have hy3_0 : w.heap.size < w3.heap.size := by omega); (try have hy3_1 : w.heap.size + 1 < w3.heap.size := by omega); (try have hy3_2 : w.heap.size + 1 + 1 < w3.heap.size := by omega); (try have hy3_3 : w.heap.size + 1 + 1 + 1 < w3.heap.size := by omega); (try have hy3_4 : w.heap.size + 1 + 1 + 1 + 1 < w3.heap.size := by omega); (try have hy3_5 : w.heap.size + 1 + 1 + 1 + 1 + 1 < w3.heap.size := by omega); (try have hy3_1_0 : w1.heap.size < w3.heap.size := by omega); (try have hy3_1_1 : w1.heap.size + 1 < w3.heap.size := by omega); (try have hy3_2_0 : w2.heap.size < w3.heap.size := by omega); (try have hy3_2_1 : w2.heap.size + 1 < w3.heap.size := by omega)
  have kc3_0 := hc3 (w.heap.size) 0 (by first | omega | (simp; done) | (simp; omega))
  have kc3_1 := hc3 (w.heap.size) 1 (by first | omega | (simp; done) | (simp; omega))
  have kc3_2 := hc3 (w.heap.size) 2 (by first | omega | (simp; done) | (simp; omega))
  clear hc3
  (try simp [go_sem, *] at kc3_0)
  (try simp [go_sem, *] at kc3_1)
  (try simp [go_sem, *] at kc3_2)
  
  go_wp2_with fail; refine (HVB.out _).mono ?_; rintro e w4 ⟨rfl, hb4⟩; obtain ⟨hc4, hf4⟩ := Gr.cells hb4; have hz4 := Gr.size hb4; (try simp at hz4); (try have hy4_0 : w.heap.size < w4.heap.size := by omega); (try have hy4_1 : w.heap.size + 1 < w4.heap.size := by omega); (try have hy4_2 : w.heap.size + 1 + 1 < w4.heap.size := by omega); (try have hy4_3 : w.heap.size + 1 + 1 + 1 < w4.heap.size := by omega); (try have hy4_4 : w.heap.size + 1 + 1 + 1 + 1 < w4.heap.size := by omega); (try have hy4_5 : w.heap.size + 1 + 1 + 1 + 1 + 1 < w4.heap.size := by omega); (try have hy4_1_0 : w1.heap.size < w4.heap.size := by omega); (try have hy4_1_1 : w1.heap.size + 1 < w4.heap.size := by omega); (try have hy4_2_0 : w2.heap.size < w4.heap.size := by omega); (try have hy4_2_1 : w2.heap.size + 1 < w4.heap.size := by omega); (try have hy4_3_0 : w3.heap.size < w4.heap.size := by omega); (try have hy4_3_1 : w3.heap.size + 1 < w4.heap.size := by omega)
  have kc4_0 := hc4 (w.heap.size) 0 (by first | omega | (simp; done) | (simp; omega))
  have kc4_1 := hc4 (w.heap.size) 1 (by first | omega | (simp; done) | (simp; omega))
  have kc4_2 := hc4 (w.heap.size) 2 (by first | omega | (simp; done) | (simp; omega))
  have kc4_3 := hc4 (w3.heap.size) 0 (by first | omega | (simp; done) | (simp; omega))
  have kc4_4 := hc4 (w3.heap.size) 1 (by first | omega | (simp; done) | (simp; omega))
  have kc4_5 := hc4 (w3.heap.size) 2 (by first | omega | (simp; done) | (simp; omega))
  clear hc4
  (try simp [go_sem, *] at kc4_0)
  (try simp [go_sem, *] at kc4_1)
  (try simp [go_sem, *] at kc4_2)
  (try simp [go_sem, *] at kc4_3)
  (try simp [go_sem, *] at kc4_4)
  (try simp [go_sem, *] at kc4_5)
  go_wp2_with fail; refine (HVA.out _).mono ?_; rintro e w5 ⟨rfl, hb5⟩; obtain ⟨hc5, hf5⟩ := Gr.cells hb5; have hz5 := Gr.size hb5; (try simp at hz5); (try have hy5_0 : w.heap.size < w5.heap.size := by omega); (try have hy5_1 : w.heap.size + 1 < w5.heap.size := by omega); (try have hy5_2 : w.heap.size + 1 + 1 < w5.heap.size := by omega); (try have hy5_3 : w.heap.size + 1 + 1 + 1 < w5.heap.size := by omega); (try have hy5_4 : w.heap.size + 1 + 1 + 1 + 1 < w5.heap.size := by omega); (try have hy5_5 : w.heap.size + 1 + 1 + 1 + 1 + 1 < w5.heap.size := by omega); (try have hy5_1_0 : w1.heap.size < w5.heap.size := by omega); (try have hy5_1_1 : w1.heap.size + 1 < w5.heap.size := by omega); (try have hy5_2_0 : w2.heap.size < w5.heap.size := by omega); (try have hy5_2_1 : w2.heap.size + 1 < w5.heap.size := by omega); (try have hy5_3_0 : w3.heap.size < w5.heap.size := by omega); (try have hy5_3_1 : w3.heap.size + 1 < w5.heap.size := by omega); (try have hy5_4_0 : w4.heap.size < w5.heap.size := by omega); (try have hy5_4_1 : w4.heap.size + 1 < w5.heap.size := by omega)
  have kc5_0 := hc5 (w.heap.size) 0 (by first | omega | (simp; done) | (simp; omega))
  have kc5_1 := hc5 (w.heap.size) 1 (by first | omega | (simp; done) | (simp; omega))
  have kc5_2 := hc5 (w.heap.size) 2 (by first | omega | (simp; done) | (simp; omega))
  have kc5_3 := hc5 (w3.heap.size) 0 (by first | omega | (simp; done) | (simp; omega))
  have kc5_4 := hc5 (w3.heap.size) 1 (by first | omega | (simp; done) | (simp; omega))
  have kc5_5 := hc5 (w3.heap.size) 2 (by first | omega | (simp; done) | (simp; omega))
  clear hc5
  (try simp [go_sem, *] at kc5_0)
  (try simp [go_sem, *] at kc5_1)
  (try simp [go_sem, *] at kc5_2)
  (try simp [go_sem, *] at kc5_3)
  (try simp [go_sem, *] at kc5_4)
  (try simp [go_sem, *] at kc5_5)
  go_wp2_with fail; refine (HR.out _).mono ?_; rintro e w6 ⟨rfl, hb6⟩; obtain ⟨hc6, hf6⟩ := Gr.cells hb6; have hz6 := Gr.size hb6; (try simp at hz6); (try have hy6_0 : w.heap.size < w6.heap.size := by omega); (try have hy6_1 : w.heap.size + 1 < w6.heap.size := by omega); (try have hy6_2 : w.heap.size + 1 + 1 < w6.heap.size := by omega); (try have hy6_3 : w.heap.size + 1 + 1 + 1 < w6.heap.size := by omega); (try have hy6_4 : w.heap.size + 1 + 1 + 1 + 1 < w6.heap.size := by omega); (try have hy6_5 : w.heap.size + 1 + 1 + 1 + 1 + 1 < w6.heap.size := by omega); (try have hy6_1_0 : w1.heap.size < w6.heap.size := by omega); (try have hy6_1_1 : w1.heap.size + 1 < w6.heap.size := by omega); (try have hy6_2_0 : w2.heap.size < w6.heap.size := by omega); (try have hy6_2_1 : w2.heap.size + 1 < w6.heap.size := by omega); (try have hy6_3_0 : w3.heap.size < w6.heap.size := by omega); (try have hy6_3_1 : w3.heap.size + 1 < w6.heap.size := by omega); (try have hy6_4_0 : w4.heap.size < w6.heap.size := by omega); (try have hy6_4_1 : w4.heap.size + 1 < w6.heap.size := by omega); (try have hy6_5_0 : w5.heap.size < w6.heap.size := by omega); (try have hy6_5_1 : w5.heap.size + 1 < w6.heap.size := by omega)
  have kc6_0 := hc6 (w.heap.size) 0 (by first | omega | (simp; done) | (simp; omega))
  have kc6_1 := hc6 (w.heap.size) 1 (by first | omega | (simp; done) | (simp; omega))
  have kc6_2 := hc6 (w.heap.size) 2 (by first | omega | (simp; done) | (simp; omega))
  have kc6_3 := hc6 (w3.heap.size) 0 (by first | omega | (simp; done) | (simp; omega))
  have kc6_4 := hc6 (w3.heap.size) 1 (by first | omega | (simp; done) | (simp; omega))
  have kc6_5 := hc6 (w3.heap.size) 2 (by first | omega | (simp; done) | (simp; omega))
  clear hc6
  (try simp [go_sem, *] at kc6_0)
  (try simp [go_sem, *] at kc6_1)
  (try simp [go_sem, *] at kc6_2)
  (try simp [go_sem, *] at kc6_3)
  (try simp [go_sem, *] at kc6_4)
  (try simp [go_sem, *] at kc6_5)
  go_wp2_with fail; refine (HDA.out _).mono ?_; rintro e w7 ⟨rfl, hb7⟩; obtain ⟨hc7, hf7⟩ := Gr.cells hb7; have hz7 := Gr.size hb7; (try simp at hz7); (try have hy7_0 : w.heap.size < w7.heap.size := by omega); (try have hy7_1 : w.heap.size + 1 < w7.heap.size := by omega); (try have hy7_2 : w.heap.size + 1 + 1 < w7.heap.size := by omega); (try have hy7_3 : w.heap.size + 1 + 1 + 1 < w7.heap.size := by omega); (try have hy7_4 : w.heap.size + 1 + 1 + 1 + 1 < w7.heap.size := by omega); (try have hy7_5 : w.heap.size + 1 + 1 + 1 + 1 + 1 < w7.heap.size := by omega); (try have hy7_1_0 : w1.heap.size < w7.heap.size := by omega); (try have hy7_1_1 : w1.heap.size + 1 < w7.heap.size := by omega); (try have hy7_2_0 : w2.heap.size < w7.heap.size := by omega); (try have hy7_2_1 : w2.heap.size + 1 < w7.heap.size := by omega); (try have hy7_3_0 : w3.heap.size < w7.heap.size := by omega); (try have hy7_3_1 : w3.heap.size + 1 < w7.heap.size := by omega); (try have hy7_4_0 : w4.heap.size < w7.heap.size := by omega); (try have hy7_4_1 : w4.heap.size + 1 < w7.heap.size := by omega); (try have hy7_5_0 : w5.heap.size < w7.heap.size := by omega); (try have hy7_5_1 : w5.heap.size + 1 < w7.heap.size := by omega); (try have hy7_6_0 : w6.heap.size < w7.heap.size := by omega); (try have hy7_6_1 : w6.heap.size + 1 < w7.heap.size := by omega)
  have kc7_0 := hc7 (w.heap.size) 0 (by first | omega | (simp; done) | (simp; omega))
  have kc7_1 := hc7 (w.heap.size) 1 (by first | omega | (simp; done) | (simp; omega))
  have kc7_2 := hc7 (w.heap.size) 2 (by first | omega | (simp; done) | (simp; omega))
  have kc7_3 := hc7 (w3.heap.size) 0 (by first | omega | (simp; done) | (simp; omega))
  have kc7_4 := hc7 (w3.heap.size) 1 (by first | omega | (simp; done) | (simp; omega))
  have kc7_5 := hc7 (w3.heap.size) 2 (by first | omega | (simp; done) | (simp; omega))
  clear hc7
  (try simp [go_sem, *] at kc7_0)
  (try simp [go_sem, *] at kc7_1)
  (try simp [go_sem, *] at kc7_2)
  (try simp [go_sem, *] at kc7_3)
  (try simp [go_sem, *] at kc7_4)
  (try simp [go_sem, *] at kc7_5)
  go_wp2
  go_ret
  exact ⟨rfl, (by repeat' (first | (with_reducible exact Gr.refl _) | (with_reducible assumption) | (with_reducible refine Gr.alloc ?_ _) | (with_reducible refine Gr.drew ?_) | (with_reducible refine Gr.drewN ?_ _) | (with_reducible refine Gr.setCell ?_ ?_ _) | (with_reducible refine Gr.trans ?_ (by with_reducible assumption)) | go_size))⟩
set_option maxHeartbeats 2000000 in
theorem dates_vd (y m d n y' m' d' : Int) (w : World) (hv : Ck.vld y m d = true) (hv' : Ck.vld y' m' d' = true) (hn : Ck.num y' m' d' = n) (hd : Ck.dated n = true) :
    Calls Tryd.prog 6 #[.agg #[.int .i64 y, .int .i64 m, .int .i64 d], .int .i64 n] w fun e w' => e = .returned (.bool true) ∧ Gr w w' := by
  have HN := Lib.hid (fun W => number_any y m d W hv)
  have HR := Lib.hid (fun W => rnumber_any y m d W hv)
  have HD := Lib.hid (fun W => dateof_any n y' m' d' W hv' hn)
  have HE := Lib.hid (fun W => rdateof_any n y' m' d' W hv' hn)
  have hva := fun W => valid_any y m d W
  have hvb := fun W => rvalid_any y m d W
  have hda := fun W => rdated_any n W
  rw [hv] at hva hvb
  rw [hd] at hda
  have HVA := Lib.hid hva; have HVB := Lib.hid hvb; have HDA := Lib.hid hda
  clear hva hvb hda hv hd hn hv'
  generalize Ck.num y m d = k at *
  have e0 : (k != k) = false := by simp
  have e1 : (y' == y') = true := by simp
  have e2 : (m' == m') = true := by simp
  have e3 : (d' == d') = true := by simp
  go_enter Tryd.func6, Tryd.ntmps6
  
  go_wp2_with fail; refine (awake_any _).mono ?_; rintro e w1 ⟨rfl, hb1⟩; obtain ⟨hc1, hf1⟩ := Gr.cells hb1; have hz1 := Gr.size hb1; (try simp at hz1); (try have hy1_0 : w.heap.size < w1.heap.size := by omega); (try have hy1_1 : w.heap.size + 1 < w1.heap.size := by omega); (try have hy1_2 : w.heap.size + 1 + 1 < w1.heap.size := by omega); (try have hy1_3 : w.heap.size + 1 + 1 + 1 < w1.heap.size := by omega); (try have hy1_4 : w.heap.size + 1 + 1 + 1 + 1 < w1.heap.size := by omega); (try have hy1_5 : w.heap.size + 1 + 1 + 1 + 1 + 1 < w1.heap.size := by omega)
  have kc1_0 := hc1 (w.heap.size) 0 (by first | omega | (simp; done) | (simp; omega))
  have kc1_1 := hc1 (w.heap.size) 1 (by first | omega | (simp; done) | (simp; omega))
  have kc1_2 := hc1 (w.heap.size) 2 (by first | omega | (simp; done) | (simp; omega))
  clear hc1
  (try simp [go_sem, *] at kc1_0)
  (try simp [go_sem, *] at kc1_1)
  (try simp [go_sem, *] at kc1_2)
  go_wp2_with fail; refine (HN.out _).mono ?_; rintro e w2 ⟨rfl, hb2⟩; obtain ⟨hc2, hf2⟩ := Gr.cells hb2; have hz2 := Gr.size hb2; (try simp at hz2); (try have hy2_0 : w.heap.size < w2.heap.size := by omega); (try have hy2_1 : w.heap.size + 1 < w2.heap.size := by omega); (try have hy2_2 : w.heap.size + 1 + 1 < w2.heap.size := by omega); (try have hy2_3 : w.heap.size + 1 + 1 + 1 < w2.heap.size := by omega); (try have hy2_4 : w.heap.size + 1 + 1 + 1 + 1 < w2.heap.size := by omega); (try have hy2_5 : w.heap.size + 1 + 1 + 1 + 1 + 1 < w2.heap.size := by omega); (try have hy2_1_0 : w1.heap.size < w2.heap.size := by omega); (try have hy2_1_1 : w1.heap.size + 1 < w2.heap.size := by omega)
  have kc2_0 := hc2 (w.heap.size) 0 (by first | omega | (simp; done) | (simp; omega))
  have kc2_1 := hc2 (w.heap.size) 1 (by first | omega | (simp; done) | (simp; omega))
  have kc2_2 := hc2 (w.heap.size) 2 (by first | omega | (simp; done) | (simp; omega))
  clear hc2
  (try simp [go_sem, *] at kc2_0)
  (try simp [go_sem, *] at kc2_1)
  (try simp [go_sem, *] at kc2_2)
  go_wp2_with fail; refine (HD.out _).mono ?_; rintro e w3 ⟨rfl, hb3⟩; obtain ⟨hc3, hf3⟩ := Gr.cells hb3; have hz3 := Gr.size hb3; (try simp at hz3); (try have hy3_0 : w.heap.size < w3.heap.size := by omega); (try have hy3_1 : w.heap.size + 1 < w3.heap.size := by omega); (try have hy3_2 : w.heap.size + 1 + 1 < w3.heap.size := by omega); (try have hy3_3 : w.heap.size + 1 + 1 + 1 < w3.heap.size := by omega); (try have hy3_4 : w.heap.size + 1 + 1 + 1 + 1 < w3.heap.size := by omega); (try have hy3_5 : w.heap.size + 1 + 1 + 1 + 1 + 1 < w3.heap.size := by omega); (try have hy3_1_0 : w1.heap.size < w3.heap.size := by omega); (try have hy3_1_1 : w1.heap.size + 1 < w3.heap.size := by omega); (try have hy3_2_0 : w2.heap.size < w3.heap.size := by omega); (try have hy3_2_1 : w2.heap.size + 1 < w3.heap.size := by omega)
  have kc3_0 := hc3 (w.heap.size) 0 (by first | omega | (simp; done) | (simp; omega))
  have kc3_1 := hc3 (w.heap.size) 1 (by first | omega | (simp; done) | (simp; omega))
  have kc3_2 := hc3 (w.heap.size) 2 (by first | omega | (simp; done) | (simp; omega))
  clear hc3
  (try simp [go_sem, *] at kc3_0)
  (try simp [go_sem, *] at kc3_1)
  (try simp [go_sem, *] at kc3_2)
  
  go_wp2_with fail; refine (HVB.out _).mono ?_; rintro e w4 ⟨rfl, hb4⟩; obtain ⟨hc4, hf4⟩ := Gr.cells hb4; have hz4 := Gr.size hb4; (try simp at hz4); (try have hy4_0 : w.heap.size < w4.heap.size := by omega); (try have hy4_1 : w.heap.size + 1 < w4.heap.size := by omega); (try have hy4_2 : w.heap.size + 1 + 1 < w4.heap.size := by omega); (try have hy4_3 : w.heap.size + 1 + 1 + 1 < w4.heap.size := by omega); (try have hy4_4 : w.heap.size + 1 + 1 + 1 + 1 < w4.heap.size := by omega); (try have hy4_5 : w.heap.size + 1 + 1 + 1 + 1 + 1 < w4.heap.size := by omega); (try have hy4_1_0 : w1.heap.size < w4.heap.size := by omega); (try have hy4_1_1 : w1.heap.size + 1 < w4.heap.size := by omega); (try have hy4_2_0 : w2.heap.size < w4.heap.size := by omega); (try have hy4_2_1 : w2.heap.size + 1 < w4.heap.size := by omega); (try have hy4_3_0 : w3.heap.size < w4.heap.size := by omega); (try have hy4_3_1 : w3.heap.size + 1 < w4.heap.size := by omega)
  have kc4_0 := hc4 (w.heap.size) 0 (by first | omega | (simp; done) | (simp; omega))
  have kc4_1 := hc4 (w.heap.size) 1 (by first | omega | (simp; done) | (simp; omega))
  have kc4_2 := hc4 (w.heap.size) 2 (by first | omega | (simp; done) | (simp; omega))
  have kc4_3 := hc4 (w3.heap.size) 0 (by first | omega | (simp; done) | (simp; omega))
  have kc4_4 := hc4 (w3.heap.size) 1 (by first | omega | (simp; done) | (simp; omega))
  have kc4_5 := hc4 (w3.heap.size) 2 (by first | omega | (simp; done) | (simp; omega))
  clear hc4
  (try simp [go_sem, *] at kc4_0)
  (try simp [go_sem, *] at kc4_1)
  (try simp [go_sem, *] at kc4_2)
  (try simp [go_sem, *] at kc4_3)
  (try simp [go_sem, *] at kc4_4)
  (try simp [go_sem, *] at kc4_5)
  go_wp2_with fail; refine (HVA.out _).mono ?_; rintro e w5 ⟨rfl, hb5⟩; obtain ⟨hc5, hf5⟩ := Gr.cells hb5; have hz5 := Gr.size hb5; (try simp at hz5); (try have hy5_0 : w.heap.size < w5.heap.size := by omega); (try have hy5_1 : w.heap.size + 1 < w5.heap.size := by omega); (try have hy5_2 : w.heap.size + 1 + 1 < w5.heap.size := by omega); (try have hy5_3 : w.heap.size + 1 + 1 + 1 < w5.heap.size := by omega); (try have hy5_4 : w.heap.size + 1 + 1 + 1 + 1 < w5.heap.size := by omega); (try have hy5_5 : w.heap.size + 1 + 1 + 1 + 1 + 1 < w5.heap.size := by omega); (try have hy5_1_0 : w1.heap.size < w5.heap.size := by omega); (try have hy5_1_1 : w1.heap.size + 1 < w5.heap.size := by omega); (try have hy5_2_0 : w2.heap.size < w5.heap.size := by omega); (try have hy5_2_1 : w2.heap.size + 1 < w5.heap.size := by omega); (try have hy5_3_0 : w3.heap.size < w5.heap.size := by omega); (try have hy5_3_1 : w3.heap.size + 1 < w5.heap.size := by omega); (try have hy5_4_0 : w4.heap.size < w5.heap.size := by omega); (try have hy5_4_1 : w4.heap.size + 1 < w5.heap.size := by omega)
  have kc5_0 := hc5 (w.heap.size) 0 (by first | omega | (simp; done) | (simp; omega))
  have kc5_1 := hc5 (w.heap.size) 1 (by first | omega | (simp; done) | (simp; omega))
  have kc5_2 := hc5 (w.heap.size) 2 (by first | omega | (simp; done) | (simp; omega))
  have kc5_3 := hc5 (w3.heap.size) 0 (by first | omega | (simp; done) | (simp; omega))
  have kc5_4 := hc5 (w3.heap.size) 1 (by first | omega | (simp; done) | (simp; omega))
  have kc5_5 := hc5 (w3.heap.size) 2 (by first | omega | (simp; done) | (simp; omega))
  clear hc5
  (try simp [go_sem, *] at kc5_0)
  (try simp [go_sem, *] at kc5_1)
  (try simp [go_sem, *] at kc5_2)
  (try simp [go_sem, *] at kc5_3)
  (try simp [go_sem, *] at kc5_4)
  (try simp [go_sem, *] at kc5_5)
  go_wp2_with fail; refine (HR.out _).mono ?_; rintro e w6 ⟨rfl, hb6⟩; obtain ⟨hc6, hf6⟩ := Gr.cells hb6; have hz6 := Gr.size hb6; (try simp at hz6); (try have hy6_0 : w.heap.size < w6.heap.size := by omega); (try have hy6_1 : w.heap.size + 1 < w6.heap.size := by omega); (try have hy6_2 : w.heap.size + 1 + 1 < w6.heap.size := by omega); (try have hy6_3 : w.heap.size + 1 + 1 + 1 < w6.heap.size := by omega); (try have hy6_4 : w.heap.size + 1 + 1 + 1 + 1 < w6.heap.size := by omega); (try have hy6_5 : w.heap.size + 1 + 1 + 1 + 1 + 1 < w6.heap.size := by omega); (try have hy6_1_0 : w1.heap.size < w6.heap.size := by omega); (try have hy6_1_1 : w1.heap.size + 1 < w6.heap.size := by omega); (try have hy6_2_0 : w2.heap.size < w6.heap.size := by omega); (try have hy6_2_1 : w2.heap.size + 1 < w6.heap.size := by omega); (try have hy6_3_0 : w3.heap.size < w6.heap.size := by omega); (try have hy6_3_1 : w3.heap.size + 1 < w6.heap.size := by omega); (try have hy6_4_0 : w4.heap.size < w6.heap.size := by omega); (try have hy6_4_1 : w4.heap.size + 1 < w6.heap.size := by omega); (try have hy6_5_0 : w5.heap.size < w6.heap.size := by omega); (try have hy6_5_1 : w5.heap.size + 1 < w6.heap.size := by omega)
  have kc6_0 := hc6 (w.heap.size) 0 (by first | omega | (simp; done) | (simp; omega))
  have kc6_1 := hc6 (w.heap.size) 1 (by first | omega | (simp; done) | (simp; omega))
  have kc6_2 := hc6 (w.heap.size) 2 (by first | omega | (simp; done) | (simp; omega))
  have kc6_3 := hc6 (w3.heap.size) 0 (by first | omega | (simp; done) | (simp; omega))
  have kc6_4 := hc6 (w3.heap.size) 1 (by first | omega | (simp; done) | (simp; omega))
  have kc6_5 := hc6 (w3.heap.size) 2 (by first | omega | (simp; done) | (simp; omega))
  clear hc6
  (try simp [go_sem, *] at kc6_0)
  (try simp [go_sem, *] at kc6_1)
  (try simp [go_sem, *] at kc6_2)
  (try simp [go_sem, *] at kc6_3)
  (try simp [go_sem, *] at kc6_4)
  (try simp [go_sem, *] at kc6_5)
  go_wp2_with fail; refine (HDA.out _).mono ?_; rintro e w7 ⟨rfl, hb7⟩; obtain ⟨hc7, hf7⟩ := Gr.cells hb7; have hz7 := Gr.size hb7; (try simp at hz7); (try have hy7_0 : w.heap.size < w7.heap.size := by omega); (try have hy7_1 : w.heap.size + 1 < w7.heap.size := by omega); (try have hy7_2 : w.heap.size + 1 + 1 < w7.heap.size := by omega); (try have hy7_3 : w.heap.size + 1 + 1 + 1 < w7.heap.size := by omega); (try have hy7_4 : w.heap.size + 1 + 1 + 1 + 1 < w7.heap.size := by omega); (try have hy7_5 : w.heap.size + 1 + 1 + 1 + 1 + 1 < w7.heap.size := by omega); (try have hy7_1_0 : w1.heap.size < w7.heap.size := by omega); (try have hy7_1_1 : w1.heap.size + 1 < w7.heap.size := by omega); (try have hy7_2_0 : w2.heap.size < w7.heap.size := by omega); (try have hy7_2_1 : w2.heap.size + 1 < w7.heap.size := by omega); (try have hy7_3_0 : w3.heap.size < w7.heap.size := by omega); (try have hy7_3_1 : w3.heap.size + 1 < w7.heap.size := by omega); (try have hy7_4_0 : w4.heap.size < w7.heap.size := by omega); (try have hy7_4_1 : w4.heap.size + 1 < w7.heap.size := by omega); (try have hy7_5_0 : w5.heap.size < w7.heap.size := by omega); (try have hy7_5_1 : w5.heap.size + 1 < w7.heap.size := by omega); (try have hy7_6_0 : w6.heap.size < w7.heap.size := by omega); (try have hy7_6_1 : w6.heap.size + 1 < w7.heap.size := by omega)
  have kc7_0 := hc7 (w.heap.size) 0 (by first | omega | (simp; done) | (simp; omega))
  have kc7_1 := hc7 (w.heap.size) 1 (by first | omega | (simp; done) | (simp; omega))
  have kc7_2 := hc7 (w.heap.size) 2 (by first | omega | (simp; done) | (simp; omega))
  have kc7_3 := hc7 (w3.heap.size) 0 (by first | omega | (simp; done) | (simp; omega))
  have kc7_4 := hc7 (w3.heap.size) 1 (by first | omega | (simp; done) | (simp; omega))
  have kc7_5 := hc7 (w3.heap.size) 2 (by first | omega | (simp; done) | (simp; omega))
  clear hc7
  (try simp [go_sem, *] at kc7_0)
  (try simp [go_sem, *] at kc7_1)
  (try simp [go_sem, *] at kc7_2)
  (try simp [go_sem, *] at kc7_3)
  (try simp [go_sem, *] at kc7_4)
  (try simp [go_sem, *] at kc7_5)
  go_wp2_with fail
  refine name_world ?_; intro W20 hW20
  have g20 : Gr w W20 := by rw [hW20]; exact (by repeat' (first | (with_reducible exact Gr.refl _) | (with_reducible assumption) | (with_reducible refine Gr.alloc ?_ _) | (with_reducible refine Gr.drew ?_) | (with_reducible refine Gr.drewN ?_ _) | (with_reducible refine Gr.setCell ?_ ?_ _) | (with_reducible refine Gr.trans ?_ (by with_reducible assumption)) | go_size))
  have k20_0 : ∀ w', Gr W20 w' → w'.cell? ⟨w.heap.size, 0, none⟩ = some (.int .i64 y) := fun w' hgW => by first | exact (Gr.at hgW (by rw [hW20]; simp [go_sem, *]))
  have k20_1 : ∀ w', Gr W20 w' → w'.cell? ⟨w.heap.size, 1, none⟩ = some (.int .i64 m) := fun w' hgW => by first | exact (Gr.at hgW (by rw [hW20]; simp [go_sem, *]))
  have k20_2 : ∀ w', Gr W20 w' → w'.cell? ⟨w.heap.size, 2, none⟩ = some (.int .i64 d) := fun w' hgW => by first | exact (Gr.at hgW (by rw [hW20]; simp [go_sem, *]))
  have k20_3 : ∀ w', Gr W20 w' → w'.cell? ⟨w3.heap.size, 0, none⟩ = some (.int .i64 y') := fun w' hgW => by first | exact (Gr.at hgW (by rw [hW20]; simp [go_sem, *]))
  have k20_4 : ∀ w', Gr W20 w' → w'.cell? ⟨w3.heap.size, 1, none⟩ = some (.int .i64 m') := fun w' hgW => by first | exact (Gr.at hgW (by rw [hW20]; simp [go_sem, *]))
  have k20_5 : ∀ w', Gr W20 w' → w'.cell? ⟨w3.heap.size, 2, none⟩ = some (.int .i64 d') := fun w' hgW => by first | exact (Gr.at hgW (by rw [hW20]; simp [go_sem, *]))
  clear hW20
  have zW20 := Gr.size g20
  go_region_held3 (fun w' => Gr W20 w') (repeat' (first | (with_reducible exact Gr.refl _) | (with_reducible assumption) | (with_reducible refine Gr.alloc ?_ _) | (with_reducible refine Gr.drew ?_) | (with_reducible refine Gr.drewN ?_ _) | (with_reducible refine Gr.setCell ?_ ?_ _) | (with_reducible refine Gr.trans ?_ (by with_reducible assumption)) | go_size)) (first | (go_at_call 25; refine (HE.out _).mono ?_; rintro e w21 ⟨rfl, hb21⟩; have q21 : Gr W20 w21 := (by repeat' (first | (with_reducible exact Gr.refl _) | (with_reducible assumption) | (with_reducible refine Gr.alloc ?_ _) | (with_reducible refine Gr.drew ?_) | (with_reducible refine Gr.drewN ?_ _) | (with_reducible refine Gr.setCell ?_ ?_ _) | (with_reducible refine Gr.trans ?_ (by with_reducible assumption)) | go_size)); have z21 := Gr.size q21; obtain ⟨hc21, hf21⟩ := Gr.cells hb21; have hz21 := Gr.size hb21; (try simp at hz21); (try have hy21_0 : w.heap.size < w21.heap.size := by omega); (try have hy21_1 : w.heap.size + 1 < w21.heap.size := by omega); (try have hy21_2 : w.heap.size + 1 + 1 < w21.heap.size := by omega); (try have hy21_3 : w.heap.size + 1 + 1 + 1 < w21.heap.size := by omega); (try have hy21_4 : w.heap.size + 1 + 1 + 1 + 1 < w21.heap.size := by omega); (try have hy21_5 : w.heap.size + 1 + 1 + 1 + 1 + 1 < w21.heap.size := by omega); (try have hy21_W20_0 : W20.heap.size < w21.heap.size := by omega); (try have hy21_W20_1 : W20.heap.size + 1 < w21.heap.size := by omega); (try have hy21_1_0 : w1.heap.size < w21.heap.size := by omega); (try have hy21_1_1 : w1.heap.size + 1 < w21.heap.size := by omega); (try have hy21_2_0 : w2.heap.size < w21.heap.size := by omega); (try have hy21_2_1 : w2.heap.size + 1 < w21.heap.size := by omega); (try have hy21_3_0 : w3.heap.size < w21.heap.size := by omega); (try have hy21_3_1 : w3.heap.size + 1 < w21.heap.size := by omega); (try have hy21_4_0 : w4.heap.size < w21.heap.size := by omega); (try have hy21_4_1 : w4.heap.size + 1 < w21.heap.size := by omega); (try have hy21_5_0 : w5.heap.size < w21.heap.size := by omega); (try have hy21_5_1 : w5.heap.size + 1 < w21.heap.size := by omega); (try have hy21_6_0 : w6.heap.size < w21.heap.size := by omega); (try have hy21_6_1 : w6.heap.size + 1 < w21.heap.size := by omega); (try have hy21_7_0 : w7.heap.size < w21.heap.size := by omega); (try have hy21_7_1 : w7.heap.size + 1 < w21.heap.size := by omega); (try have hy21_8_0 : w8.heap.size < w21.heap.size := by omega); (try have hy21_8_1 : w8.heap.size + 1 < w21.heap.size := by omega); (try have hy21_9_0 : w9.heap.size < w21.heap.size := by omega); (try have hy21_9_1 : w9.heap.size + 1 < w21.heap.size := by omega); (try have hy21_10_0 : w10.heap.size < w21.heap.size := by omega); (try have hy21_10_1 : w10.heap.size + 1 < w21.heap.size := by omega); (try have hy21_11_0 : w11.heap.size < w21.heap.size := by omega); (try have hy21_11_1 : w11.heap.size + 1 < w21.heap.size := by omega); (try have hy21_12_0 : w12.heap.size < w21.heap.size := by omega); (try have hy21_12_1 : w12.heap.size + 1 < w21.heap.size := by omega); (try have hy21_13_0 : w13.heap.size < w21.heap.size := by omega); (try have hy21_13_1 : w13.heap.size + 1 < w21.heap.size := by omega); (try have hy21_14_0 : w14.heap.size < w21.heap.size := by omega); (try have hy21_14_1 : w14.heap.size + 1 < w21.heap.size := by omega); (try have hy21_15_0 : w15.heap.size < w21.heap.size := by omega); (try have hy21_15_1 : w15.heap.size + 1 < w21.heap.size := by omega); (try have hy21_16_0 : w16.heap.size < w21.heap.size := by omega); (try have hy21_16_1 : w16.heap.size + 1 < w21.heap.size := by omega); (try have hy21_17_0 : w17.heap.size < w21.heap.size := by omega); (try have hy21_17_1 : w17.heap.size + 1 < w21.heap.size := by omega); (try have hy21_18_0 : w18.heap.size < w21.heap.size := by omega); (try have hy21_18_1 : w18.heap.size + 1 < w21.heap.size := by omega); (try have hy21_19_0 : w19.heap.size < w21.heap.size := by omega); (try have hy21_19_1 : w19.heap.size + 1 < w21.heap.size := by omega); (try have hy21_20_0 : w20.heap.size < w21.heap.size := by omega); (try have hy21_20_1 : w20.heap.size + 1 < w21.heap.size := by omega)))
  all_goals
    go_wp2
    go_ret
    exact ⟨rfl, (by repeat' (first | (with_reducible exact Gr.refl _) | (with_reducible assumption) | (with_reducible refine Gr.alloc ?_ _) | (with_reducible refine Gr.drew ?_) | (with_reducible refine Gr.drewN ?_ _) | (with_reducible refine Gr.setCell ?_ ?_ _) | (with_reducible refine Gr.trans ?_ (by with_reducible assumption)) | go_size))⟩
theorem dates_any (y m d n : Int) (w : World) :
    Calls Tryd.prog 6 #[.agg #[.int .i64 y, .int .i64 m, .int .i64 d], .int .i64 n] w fun e w' => e = .returned (.bool true) ∧ Gr w w' := by
  by_cases hd : -730119 ≤ n ∧ n ≤ 2921939
  · obtain ⟨y', m', d', hv', hn⟩ := Ck.exists_date n hd.1 hd.2
    have hD : Ck.dated n = true := by unfold Ck.dated; simp only [Bool.and_eq_true, decide_eq_true_eq]; exact hd
    cases hv : Ck.vld y m d
    · exact dates_nd y m d n y' m' d' w hv hv' hn hD
    · exact dates_vd y m d n y' m' d' w hv hv' hn hD
  · have hD : Ck.dated n = false := by unfold Ck.dated; simp only [Bool.and_eq_false_iff, decide_eq_false_iff_not]; omega
    cases hv : Ck.vld y m d
    · exact dates_no y m d n w hv (by omega) hD
    · exact dates_vo y m d n w hv (by omega) hD
end Go.Proofs.YtlcbjkkcfenlmaaDoor
