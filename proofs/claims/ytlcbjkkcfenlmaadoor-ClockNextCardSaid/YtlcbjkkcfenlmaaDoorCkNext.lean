import Derived.Test.YtlcbjkkcfenlmaaDoorCkWalkJ
set_option linter.unusedVariables false
set_option linter.unusedSimpArgs false
namespace Go.Proofs.YtlcbjkkcfenlmaaDoor
open Go.RowKit
namespace Ck
theorem mlen_cycle (y m : Int) : mlen (y + 400) m = mlen y m := by unfold mlen; rw [lp_cycle]
theorem cum_cycle (y m : Int) : cum (y + 400) m = cum y m := by unfold cum; rw [lp_cycle]
theorem vld_cycle {y m d : Int} (h : vld y m d = true) (hy : y ≤ 9599) : vld (y + 400) m d = true := by
  obtain ⟨a, b, c, d, e, f⟩ := (vld_iff y m _).1 h
  exact (vld_iff _ _ _).2 ⟨by omega, by omega, c, d, e, by rw [mlen_cycle]; exact f⟩
theorem num_cycle (y m d : Int) : num (y + 400) m d = num y m d + 146097 := by unfold num; rw [bef_cycle, cum_cycle]; omega
/-- The next date. -/
theorem next_day {y m d : Int} (h : vld y m (d + 1) = true) : num y m (d + 1) = num y m d + 1 := by unfold num; omega
theorem next_month {y m d : Int} (h : vld y m d = true) (h1 : vld y m (d + 1) = false) (hm : m ≤ 11) : vld y (m + 1) 1 = true ∧ num y (m + 1) 1 = num y m d + 1 := by
  obtain ⟨a, b, c, _, e, f⟩ := (vld_iff y m _).1 h
  have g := vld_no h1
  have s := cum_succ y m c (by omega)
  have l := mlen_bd y (m + 1)
  exact ⟨(vld_iff _ _ _).2 ⟨a, b, by omega, by omega, by omega, by omega⟩, by unfold num; omega⟩
theorem next_month_no {y m d : Int} (h : vld y m d = true) (hm : 11 < m) : vld y (m + 1) 1 = false := by
  cases k : vld y (m + 1) 1
  · rfl
  · obtain ⟨_, _, _, x, _⟩ := (vld_iff y _ _).1 k; omega
theorem next_year {y m d : Int} (h : vld y m d = true) (h1 : vld y m (d + 1) = false) (hm : 11 < m) (hl : ¬ (y = 9999 ∧ m = 12 ∧ d = 31)) : vld (y + 1) 1 1 = true ∧ num (y + 1) 1 1 = num y m d + 1 := by
  obtain ⟨a, b, c, c', e, f⟩ := (vld_iff y m _).1 h
  have g := vld_no h1
  obtain rfl : m = 12 := by omega
  have s := cum_succ y 12 (by omega) (by omega)
  have t := cum_end y
  have u := bef_succ y
  have v : mlen y 12 = 31 := by simp [mlen, tab]
  have hd : d = 31 := by omega
  have hy : y ≠ 9999 := fun hy => hl ⟨hy, rfl, hd⟩
  have w : cum (y + 1) 1 = 0 := rfl
  have x : mlen (y + 1) 1 = 31 := by simp [mlen, tab]
  exact ⟨(vld_iff _ _ _).2 ⟨by omega, by omega, by omega, by omega, by omega, by omega⟩, by unfold num; rw [w]; simp at s; omega⟩
theorem last_num : num 9999 12 31 = 2921939 := num_hi
end Ck
set_option maxHeartbeats 1000000 in
theorem next_bad (y m d : Int) (w : World) (hv : Ck.vld y m d = false) :
    Calls Tryd.prog 7 #[.agg #[.int .i64 y, .int .i64 m, .int .i64 d]] w fun e w' => e = .returned (.bool true) ∧ Gr w w' := by
  have HN := Lib.hid (fun W => number_bad y m d W hv)
  have HV := Lib.hid (fun W => valid_any y m d W)
  rw [hv] at HV
  clear hv
  go_enter Tryd.func7, Tryd.ntmps7
  
  go_wp2_with fail; refine (awake_any _).mono ?_; rintro e w1 ⟨rfl, hb1⟩; obtain ⟨hc1, hf1⟩ := Gr.cells hb1; have hz1 := Gr.size hb1; (try simp at hz1); (try have hy1_0 : w.heap.size < w1.heap.size := by omega); (try have hy1_1 : w.heap.size + 1 < w1.heap.size := by omega); (try have hy1_2 : w.heap.size + 1 + 1 < w1.heap.size := by omega); (try have hy1_3 : w.heap.size + 1 + 1 + 1 < w1.heap.size := by omega); (try have hy1_4 : w.heap.size + 1 + 1 + 1 + 1 < w1.heap.size := by omega); (try have hy1_5 : w.heap.size + 1 + 1 + 1 + 1 + 1 < w1.heap.size := by omega)
  have kc1_0 := hc1 (w.heap.size) 0 (by first | omega | (simp; done) | (simp; omega))
  have kc1_1 := hc1 (w.heap.size) 1 (by first | omega | (simp; done) | (simp; omega))
  have kc1_2 := hc1 (w.heap.size) 2 (by first | omega | (simp; done) | (simp; omega))
  clear hc1
  (try simp [go_sem, *] at kc1_0)
  (try simp [go_sem, *] at kc1_1)
  (try simp [go_sem, *] at kc1_2)
  go_wp2_with fail; refine (HN.out _).mono ?_; rintro e w2 ⟨rfl, hb2⟩; obtain ⟨hc2, hf2⟩ := Gr.cells hb2; have hz2 := Gr.size hb2; (try simp at hz2); (try have hy2_0 : w.heap.size < w2.heap.size := by omega); (try have hy2_1 : w.heap.size + 1 < w2.heap.size := by omega); (try have hy2_2 : w.heap.size + 1 + 1 < w2.heap.size := by omega); (try have hy2_3 : w.heap.size + 1 + 1 + 1 < w2.heap.size := by omega); (try have hy2_4 : w.heap.size + 1 + 1 + 1 + 1 < w2.heap.size := by omega); (try have hy2_5 : w.heap.size + 1 + 1 + 1 + 1 + 1 < w2.heap.size := by omega); (try have hy2_1_0 : w1.heap.size < w2.heap.size := by omega); (try have hy2_1_1 : w1.heap.size + 1 < w2.heap.size := by omega)
  have kc2_0 := hc2 (w.heap.size) 0 (by first | omega | (simp; done) | (simp; omega))
  have kc2_1 := hc2 (w.heap.size) 1 (by first | omega | (simp; done) | (simp; omega))
  have kc2_2 := hc2 (w.heap.size) 2 (by first | omega | (simp; done) | (simp; omega))
  clear hc2
  (try simp [go_sem, *] at kc2_0)
  (try simp [go_sem, *] at kc2_1)
  (try simp [go_sem, *] at kc2_2)
  go_wp2_with fail; refine (HV.out _).mono ?_; rintro e w3 ⟨rfl, hb3⟩; obtain ⟨hc3, hf3⟩ := Gr.cells hb3; have hz3 := Gr.size hb3; (try simp at hz3); (try have hy3_0 : w.heap.size < w3.heap.size := by omega); (try have hy3_1 : w.heap.size + 1 < w3.heap.size := by omega); (try have hy3_2 : w.heap.size + 1 + 1 < w3.heap.size := by omega); (try have hy3_3 : w.heap.size + 1 + 1 + 1 < w3.heap.size := by omega); (try have hy3_4 : w.heap.size + 1 + 1 + 1 + 1 < w3.heap.size := by omega); (try have hy3_5 : w.heap.size + 1 + 1 + 1 + 1 + 1 < w3.heap.size := by omega); (try have hy3_1_0 : w1.heap.size < w3.heap.size := by omega); (try have hy3_1_1 : w1.heap.size + 1 < w3.heap.size := by omega); (try have hy3_2_0 : w2.heap.size < w3.heap.size := by omega); (try have hy3_2_1 : w2.heap.size + 1 < w3.heap.size := by omega)
  have kc3_0 := hc3 (w.heap.size) 0 (by first | omega | (simp; done) | (simp; omega))
  have kc3_1 := hc3 (w.heap.size) 1 (by first | omega | (simp; done) | (simp; omega))
  have kc3_2 := hc3 (w.heap.size) 2 (by first | omega | (simp; done) | (simp; omega))
  clear hc3
  (try simp [go_sem, *] at kc3_0)
  (try simp [go_sem, *] at kc3_1)
  (try simp [go_sem, *] at kc3_2)
  go_wp2
  go_ret
  exact ⟨rfl, (by repeat' (first | (with_reducible exact Gr.refl _) | (with_reducible assumption) | (with_reducible refine Gr.alloc ?_ _) | (with_reducible refine Gr.drew ?_) | (with_reducible refine Gr.drewN ?_ _) | (with_reducible refine Gr.setCell ?_ ?_ _) | (with_reducible refine Gr.trans ?_ (by with_reducible assumption)) | go_size))⟩
set_option maxRecDepth 100000 in
set_option maxHeartbeats 4000000 in
theorem next_e_day (y m d : Int) (w : World) (hv : Ck.vld y m d = true) (hy : y ≤ 9599) (hl : ¬ (y = 9999 ∧ m = 12 ∧ d = 31)) (h1 : Ck.vld y m (d + 1) = true) :
    Calls Tryd.prog 7 #[.agg #[.int .i64 y, .int .i64 m, .int .i64 d]] w fun e w' => e = .returned (.bool true) ∧ Gr w w' := by
  obtain ⟨v1, v2, v3, v4, v5, v6⟩ := (Ck.vld_iff y m d).1 hv
  obtain ⟨b0, b1⟩ := Ck.num_bd hv
  have ml := Ck.mlen_bd y m
  have d31 : d ≤ 31 := by omega
  have HN := Lib.hid (fun W => number_any y m d W hv)
  have hn4 := fun W => number_any (y + 400) m d W (Ck.vld_cycle hv hy)
  rw [Ck.num_cycle] at hn4
  have HN4 := Lib.hid hn4; clear hn4
  have HD := Lib.hid (fun W => dateof_any (Ck.num y m d + 1) y m (d + 1) W h1 (Ck.next_day h1))
  have hva := fun W => valid_any y m (d + 1) W
  rw [h1] at hva
  have HVA := Lib.hid hva; clear hva
  clear hv v6
  have hy' : decide (y ≤ 9599) = true := decide_eq_true hy
  generalize Ck.num y m d = k at *
  have e0 : (k + 146097 != k + 146097) = false := by simp
  go_enter Tryd.func7, Tryd.ntmps7
  
  go_wp2_with fail; refine (awake_any _).mono ?_; rintro e w1 ⟨rfl, hb1⟩; obtain ⟨hc1, hf1⟩ := Gr.cells hb1; have hz1 := Gr.size hb1; (try simp at hz1); (try have hy1_0 : w.heap.size < w1.heap.size := by omega); (try have hy1_1 : w.heap.size + 1 < w1.heap.size := by omega); (try have hy1_2 : w.heap.size + 1 + 1 < w1.heap.size := by omega); (try have hy1_3 : w.heap.size + 1 + 1 + 1 < w1.heap.size := by omega); (try have hy1_4 : w.heap.size + 1 + 1 + 1 + 1 < w1.heap.size := by omega); (try have hy1_5 : w.heap.size + 1 + 1 + 1 + 1 + 1 < w1.heap.size := by omega)
  have kc1_0 := hc1 (w.heap.size) 0 (by first | omega | (simp; done) | (simp; omega))
  have kc1_1 := hc1 (w.heap.size) 1 (by first | omega | (simp; done) | (simp; omega))
  have kc1_2 := hc1 (w.heap.size) 2 (by first | omega | (simp; done) | (simp; omega))
  clear hc1
  (try simp [go_sem, *] at kc1_0)
  (try simp [go_sem, *] at kc1_1)
  (try simp [go_sem, *] at kc1_2)
  go_wp2_with fail; refine (HN.out _).mono ?_; rintro e w2 ⟨rfl, hb2⟩; obtain ⟨hc2, hf2⟩ := Gr.cells hb2; have hz2 := Gr.size hb2; (try simp at hz2); (try have hy2_0 : w.heap.size < w2.heap.size := by omega); (try have hy2_1 : w.heap.size + 1 < w2.heap.size := by omega); (try have hy2_2 : w.heap.size + 1 + 1 < w2.heap.size := by omega); (try have hy2_3 : w.heap.size + 1 + 1 + 1 < w2.heap.size := by omega); (try have hy2_4 : w.heap.size + 1 + 1 + 1 + 1 < w2.heap.size := by omega); (try have hy2_5 : w.heap.size + 1 + 1 + 1 + 1 + 1 < w2.heap.size := by omega); (try have hy2_1_0 : w1.heap.size < w2.heap.size := by omega); (try have hy2_1_1 : w1.heap.size + 1 < w2.heap.size := by omega)
  have kc2_0 := hc2 (w.heap.size) 0 (by first | omega | (simp; done) | (simp; omega))
  have kc2_1 := hc2 (w.heap.size) 1 (by first | omega | (simp; done) | (simp; omega))
  have kc2_2 := hc2 (w.heap.size) 2 (by first | omega | (simp; done) | (simp; omega))
  clear hc2
  (try simp [go_sem, *] at kc2_0)
  (try simp [go_sem, *] at kc2_1)
  (try simp [go_sem, *] at kc2_2)
  go_wp2_with fail; refine (HN4.out _).mono ?_; rintro e w3 ⟨rfl, hb3⟩; obtain ⟨hc3, hf3⟩ := Gr.cells hb3; have hz3 := Gr.size hb3; (try simp at hz3); (try have hy3_0 : w.heap.size < w3.heap.size := by omega); (try have hy3_1 : w.heap.size + 1 < w3.heap.size := by omega); (try have hy3_2 : w.heap.size + 1 + 1 < w3.heap.size := by omega); (try have hy3_3 : w.heap.size + 1 + 1 + 1 < w3.heap.size := by omega); (try have hy3_4 : w.heap.size + 1 + 1 + 1 + 1 < w3.heap.size := by omega); (try have hy3_5 : w.heap.size + 1 + 1 + 1 + 1 + 1 < w3.heap.size := by omega); (try have hy3_1_0 : w1.heap.size < w3.heap.size := by omega); (try have hy3_1_1 : w1.heap.size + 1 < w3.heap.size := by omega); (try have hy3_2_0 : w2.heap.size < w3.heap.size := by omega); (try have hy3_2_1 : w2.heap.size + 1 < w3.heap.size := by omega)
  have kc3_0 := hc3 (w.heap.size) 0 (by first | omega | (simp; done) | (simp; omega))
  have kc3_1 := hc3 (w.heap.size) 1 (by first | omega | (simp; done) | (simp; omega))
  have kc3_2 := hc3 (w.heap.size) 2 (by first | omega | (simp; done) | (simp; omega))
  clear hc3
  (try simp [go_sem, *] at kc3_0)
  (try simp [go_sem, *] at kc3_1)
  (try simp [go_sem, *] at kc3_2)
  go_wp2_with fail; refine (HD.out _).mono ?_; rintro e w4 ⟨rfl, hb4⟩; obtain ⟨hc4, hf4⟩ := Gr.cells hb4; have hz4 := Gr.size hb4; (try simp at hz4); (try have hy4_0 : w.heap.size < w4.heap.size := by omega); (try have hy4_1 : w.heap.size + 1 < w4.heap.size := by omega); (try have hy4_2 : w.heap.size + 1 + 1 < w4.heap.size := by omega); (try have hy4_3 : w.heap.size + 1 + 1 + 1 < w4.heap.size := by omega); (try have hy4_4 : w.heap.size + 1 + 1 + 1 + 1 < w4.heap.size := by omega); (try have hy4_5 : w.heap.size + 1 + 1 + 1 + 1 + 1 < w4.heap.size := by omega); (try have hy4_1_0 : w1.heap.size < w4.heap.size := by omega); (try have hy4_1_1 : w1.heap.size + 1 < w4.heap.size := by omega); (try have hy4_2_0 : w2.heap.size < w4.heap.size := by omega); (try have hy4_2_1 : w2.heap.size + 1 < w4.heap.size := by omega); (try have hy4_3_0 : w3.heap.size < w4.heap.size := by omega); (try have hy4_3_1 : w3.heap.size + 1 < w4.heap.size := by omega)
  have kc4_0 := hc4 (w.heap.size) 0 (by first | omega | (simp; done) | (simp; omega))
  have kc4_1 := hc4 (w.heap.size) 1 (by first | omega | (simp; done) | (simp; omega))
  have kc4_2 := hc4 (w.heap.size) 2 (by first | omega | (simp; done) | (simp; omega))
  clear hc4
  (try simp [go_sem, *] at kc4_0)
  (try simp [go_sem, *] at kc4_1)
  (try simp [go_sem, *] at kc4_2)
  
  
  go_wp2_with fail; refine (HVA.out _).mono ?_; rintro e w5 ⟨rfl, hb5⟩; obtain ⟨hc5, hf5⟩ := Gr.cells hb5; have hz5 := Gr.size hb5; (try simp at hz5); (try have hy5_0 : w.heap.size < w5.heap.size := by omega); (try have hy5_1 : w.heap.size + 1 < w5.heap.size := by omega); (try have hy5_2 : w.heap.size + 1 + 1 < w5.heap.size := by omega); (try have hy5_3 : w.heap.size + 1 + 1 + 1 < w5.heap.size := by omega); (try have hy5_4 : w.heap.size + 1 + 1 + 1 + 1 < w5.heap.size := by omega); (try have hy5_5 : w.heap.size + 1 + 1 + 1 + 1 + 1 < w5.heap.size := by omega); (try have hy5_1_0 : w1.heap.size < w5.heap.size := by omega); (try have hy5_1_1 : w1.heap.size + 1 < w5.heap.size := by omega); (try have hy5_2_0 : w2.heap.size < w5.heap.size := by omega); (try have hy5_2_1 : w2.heap.size + 1 < w5.heap.size := by omega); (try have hy5_3_0 : w3.heap.size < w5.heap.size := by omega); (try have hy5_3_1 : w3.heap.size + 1 < w5.heap.size := by omega); (try have hy5_4_0 : w4.heap.size < w5.heap.size := by omega); (try have hy5_4_1 : w4.heap.size + 1 < w5.heap.size := by omega)
  have kc5_0 := hc5 (w.heap.size) 0 (by first | omega | (simp; done) | (simp; omega))
  have kc5_1 := hc5 (w.heap.size) 1 (by first | omega | (simp; done) | (simp; omega))
  have kc5_2 := hc5 (w.heap.size) 2 (by first | omega | (simp; done) | (simp; omega))
  have kc5_3 := hc5 (w4.heap.size) 0 (by first | omega | (simp; done) | (simp; omega))
  have kc5_4 := hc5 (w4.heap.size) 1 (by first | omega | (simp; done) | (simp; omega))
  have kc5_5 := hc5 (w4.heap.size) 2 (by first | omega | (simp; done) | (simp; omega))
  have kc5_6 := hc5 (w4.heap.size + 1) 0 (by first | omega | (simp; done) | (simp; omega))
  have kc5_7 := hc5 (w4.heap.size + 1) 1 (by first | omega | (simp; done) | (simp; omega))
  have kc5_8 := hc5 (w4.heap.size + 1) 2 (by first | omega | (simp; done) | (simp; omega))
  clear hc5
  (try simp [go_sem, *] at kc5_0)
  (try simp [go_sem, *] at kc5_1)
  (try simp [go_sem, *] at kc5_2)
  (try simp [go_sem, *] at kc5_3)
  (try simp [go_sem, *] at kc5_4)
  (try simp [go_sem, *] at kc5_5)
  (try simp [go_sem, *] at kc5_6)
  (try simp [go_sem, *] at kc5_7)
  (try simp [go_sem, *] at kc5_8)
  go_wp2_with fail; refine (HVA.out _).mono ?_; rintro e w6 ⟨rfl, hb6⟩; obtain ⟨hc6, hf6⟩ := Gr.cells hb6; have hz6 := Gr.size hb6; (try simp at hz6); (try have hy6_0 : w.heap.size < w6.heap.size := by omega); (try have hy6_1 : w.heap.size + 1 < w6.heap.size := by omega); (try have hy6_2 : w.heap.size + 1 + 1 < w6.heap.size := by omega); (try have hy6_3 : w.heap.size + 1 + 1 + 1 < w6.heap.size := by omega); (try have hy6_4 : w.heap.size + 1 + 1 + 1 + 1 < w6.heap.size := by omega); (try have hy6_5 : w.heap.size + 1 + 1 + 1 + 1 + 1 < w6.heap.size := by omega); (try have hy6_1_0 : w1.heap.size < w6.heap.size := by omega); (try have hy6_1_1 : w1.heap.size + 1 < w6.heap.size := by omega); (try have hy6_2_0 : w2.heap.size < w6.heap.size := by omega); (try have hy6_2_1 : w2.heap.size + 1 < w6.heap.size := by omega); (try have hy6_3_0 : w3.heap.size < w6.heap.size := by omega); (try have hy6_3_1 : w3.heap.size + 1 < w6.heap.size := by omega); (try have hy6_4_0 : w4.heap.size < w6.heap.size := by omega); (try have hy6_4_1 : w4.heap.size + 1 < w6.heap.size := by omega); (try have hy6_5_0 : w5.heap.size < w6.heap.size := by omega); (try have hy6_5_1 : w5.heap.size + 1 < w6.heap.size := by omega)
  have kc6_0 := hc6 (w.heap.size) 0 (by first | omega | (simp; done) | (simp; omega))
  have kc6_1 := hc6 (w.heap.size) 1 (by first | omega | (simp; done) | (simp; omega))
  have kc6_2 := hc6 (w.heap.size) 2 (by first | omega | (simp; done) | (simp; omega))
  have kc6_3 := hc6 (w4.heap.size) 0 (by first | omega | (simp; done) | (simp; omega))
  have kc6_4 := hc6 (w4.heap.size) 1 (by first | omega | (simp; done) | (simp; omega))
  have kc6_5 := hc6 (w4.heap.size) 2 (by first | omega | (simp; done) | (simp; omega))
  have kc6_6 := hc6 (w4.heap.size + 1) 0 (by first | omega | (simp; done) | (simp; omega))
  have kc6_7 := hc6 (w4.heap.size + 1) 1 (by first | omega | (simp; done) | (simp; omega))
  have kc6_8 := hc6 (w4.heap.size + 1) 2 (by first | omega | (simp; done) | (simp; omega))
  clear hc6
  (try simp [go_sem, *] at kc6_0)
  (try simp [go_sem, *] at kc6_1)
  (try simp [go_sem, *] at kc6_2)
  (try simp [go_sem, *] at kc6_3)
  (try simp [go_sem, *] at kc6_4)
  (try simp [go_sem, *] at kc6_5)
  (try simp [go_sem, *] at kc6_6)
  (try simp [go_sem, *] at kc6_7)
  (try simp [go_sem, *] at kc6_8)
  go_wp2
  go_ret
  exact ⟨rfl, (by repeat' (first | (with_reducible exact Gr.refl _) | (with_reducible assumption) | (with_reducible refine Gr.alloc ?_ _) | (with_reducible refine Gr.drew ?_) | (with_reducible refine Gr.drewN ?_ _) | (with_reducible refine Gr.setCell ?_ ?_ _) | (with_reducible refine Gr.trans ?_ (by with_reducible assumption)) | go_size))⟩
set_option maxRecDepth 100000 in
set_option maxHeartbeats 4000000 in
theorem next_e_month (y m d : Int) (w : World) (hv : Ck.vld y m d = true) (hy : y ≤ 9599) (hl : ¬ (y = 9999 ∧ m = 12 ∧ d = 31)) (h1 : Ck.vld y m (d + 1) = false) (hm : m ≤ 11) :
    Calls Tryd.prog 7 #[.agg #[.int .i64 y, .int .i64 m, .int .i64 d]] w fun e w' => e = .returned (.bool true) ∧ Gr w w' := by
  obtain ⟨v1, v2, v3, v4, v5, v6⟩ := (Ck.vld_iff y m d).1 hv
  obtain ⟨b0, b1⟩ := Ck.num_bd hv
  have ml := Ck.mlen_bd y m
  have d31 : d ≤ 31 := by omega
  have HN := Lib.hid (fun W => number_any y m d W hv)
  have hn4 := fun W => number_any (y + 400) m d W (Ck.vld_cycle hv hy)
  rw [Ck.num_cycle] at hn4
  have HN4 := Lib.hid hn4; clear hn4
  obtain ⟨h2, h3⟩ := Ck.next_month hv h1 hm
  have HD := Lib.hid (fun W => dateof_any (Ck.num y m d + 1) y (m + 1) 1 W h2 h3)
  have hva := fun W => valid_any y m (d + 1) W
  rw [h1] at hva
  have hvb := fun W => valid_any y (m + 1) 1 W
  rw [h2] at hvb
  have HVA := Lib.hid hva; have HVB := Lib.hid hvb; clear hva hvb h2 h3
  clear hv v6
  have hy' : decide (y ≤ 9599) = true := decide_eq_true hy
  generalize Ck.num y m d = k at *
  have e0 : (k + 146097 != k + 146097) = false := by simp
  go_enter Tryd.func7, Tryd.ntmps7
  
  go_wp2_with fail; refine (awake_any _).mono ?_; rintro e w1 ⟨rfl, hb1⟩; obtain ⟨hc1, hf1⟩ := Gr.cells hb1; have hz1 := Gr.size hb1; (try simp at hz1); (try have hy1_0 : w.heap.size < w1.heap.size := by omega); (try have hy1_1 : w.heap.size + 1 < w1.heap.size := by omega); (try have hy1_2 : w.heap.size + 1 + 1 < w1.heap.size := by omega); (try have hy1_3 : w.heap.size + 1 + 1 + 1 < w1.heap.size := by omega); (try have hy1_4 : w.heap.size + 1 + 1 + 1 + 1 < w1.heap.size := by omega); (try have hy1_5 : w.heap.size + 1 + 1 + 1 + 1 + 1 < w1.heap.size := by omega)
  have kc1_0 := hc1 (w.heap.size) 0 (by first | omega | (simp; done) | (simp; omega))
  have kc1_1 := hc1 (w.heap.size) 1 (by first | omega | (simp; done) | (simp; omega))
  have kc1_2 := hc1 (w.heap.size) 2 (by first | omega | (simp; done) | (simp; omega))
  clear hc1
  (try simp [go_sem, *] at kc1_0)
  (try simp [go_sem, *] at kc1_1)
  (try simp [go_sem, *] at kc1_2)
  go_wp2_with fail; refine (HN.out _).mono ?_; rintro e w2 ⟨rfl, hb2⟩; obtain ⟨hc2, hf2⟩ := Gr.cells hb2; have hz2 := Gr.size hb2; (try simp at hz2); (try have hy2_0 : w.heap.size < w2.heap.size := by omega); (try have hy2_1 : w.heap.size + 1 < w2.heap.size := by omega); (try have hy2_2 : w.heap.size + 1 + 1 < w2.heap.size := by omega); (try have hy2_3 : w.heap.size + 1 + 1 + 1 < w2.heap.size := by omega); (try have hy2_4 : w.heap.size + 1 + 1 + 1 + 1 < w2.heap.size := by omega); (try have hy2_5 : w.heap.size + 1 + 1 + 1 + 1 + 1 < w2.heap.size := by omega); (try have hy2_1_0 : w1.heap.size < w2.heap.size := by omega); (try have hy2_1_1 : w1.heap.size + 1 < w2.heap.size := by omega)
  have kc2_0 := hc2 (w.heap.size) 0 (by first | omega | (simp; done) | (simp; omega))
  have kc2_1 := hc2 (w.heap.size) 1 (by first | omega | (simp; done) | (simp; omega))
  have kc2_2 := hc2 (w.heap.size) 2 (by first | omega | (simp; done) | (simp; omega))
  clear hc2
  (try simp [go_sem, *] at kc2_0)
  (try simp [go_sem, *] at kc2_1)
  (try simp [go_sem, *] at kc2_2)
  go_wp2_with fail; refine (HN4.out _).mono ?_; rintro e w3 ⟨rfl, hb3⟩; obtain ⟨hc3, hf3⟩ := Gr.cells hb3; have hz3 := Gr.size hb3; (try simp at hz3); (try have hy3_0 : w.heap.size < w3.heap.size := by omega); (try have hy3_1 : w.heap.size + 1 < w3.heap.size := by omega); (try have hy3_2 : w.heap.size + 1 + 1 < w3.heap.size := by omega); (try have hy3_3 : w.heap.size + 1 + 1 + 1 < w3.heap.size := by omega); (try have hy3_4 : w.heap.size + 1 + 1 + 1 + 1 < w3.heap.size := by omega); (try have hy3_5 : w.heap.size + 1 + 1 + 1 + 1 + 1 < w3.heap.size := by omega); (try have hy3_1_0 : w1.heap.size < w3.heap.size := by omega); (try have hy3_1_1 : w1.heap.size + 1 < w3.heap.size := by omega); (try have hy3_2_0 : w2.heap.size < w3.heap.size := by omega); (try have hy3_2_1 : w2.heap.size + 1 < w3.heap.size := by omega)
  have kc3_0 := hc3 (w.heap.size) 0 (by first | omega | (simp; done) | (simp; omega))
  have kc3_1 := hc3 (w.heap.size) 1 (by first | omega | (simp; done) | (simp; omega))
  have kc3_2 := hc3 (w.heap.size) 2 (by first | omega | (simp; done) | (simp; omega))
  clear hc3
  (try simp [go_sem, *] at kc3_0)
  (try simp [go_sem, *] at kc3_1)
  (try simp [go_sem, *] at kc3_2)
  go_wp2_with fail; refine (HD.out _).mono ?_; rintro e w4 ⟨rfl, hb4⟩; obtain ⟨hc4, hf4⟩ := Gr.cells hb4; have hz4 := Gr.size hb4; (try simp at hz4); (try have hy4_0 : w.heap.size < w4.heap.size := by omega); (try have hy4_1 : w.heap.size + 1 < w4.heap.size := by omega); (try have hy4_2 : w.heap.size + 1 + 1 < w4.heap.size := by omega); (try have hy4_3 : w.heap.size + 1 + 1 + 1 < w4.heap.size := by omega); (try have hy4_4 : w.heap.size + 1 + 1 + 1 + 1 < w4.heap.size := by omega); (try have hy4_5 : w.heap.size + 1 + 1 + 1 + 1 + 1 < w4.heap.size := by omega); (try have hy4_1_0 : w1.heap.size < w4.heap.size := by omega); (try have hy4_1_1 : w1.heap.size + 1 < w4.heap.size := by omega); (try have hy4_2_0 : w2.heap.size < w4.heap.size := by omega); (try have hy4_2_1 : w2.heap.size + 1 < w4.heap.size := by omega); (try have hy4_3_0 : w3.heap.size < w4.heap.size := by omega); (try have hy4_3_1 : w3.heap.size + 1 < w4.heap.size := by omega)
  have kc4_0 := hc4 (w.heap.size) 0 (by first | omega | (simp; done) | (simp; omega))
  have kc4_1 := hc4 (w.heap.size) 1 (by first | omega | (simp; done) | (simp; omega))
  have kc4_2 := hc4 (w.heap.size) 2 (by first | omega | (simp; done) | (simp; omega))
  clear hc4
  (try simp [go_sem, *] at kc4_0)
  (try simp [go_sem, *] at kc4_1)
  (try simp [go_sem, *] at kc4_2)
  
  
  go_wp2_with fail; refine (HVA.out _).mono ?_; rintro e w5 ⟨rfl, hb5⟩; obtain ⟨hc5, hf5⟩ := Gr.cells hb5; have hz5 := Gr.size hb5; (try simp at hz5); (try have hy5_0 : w.heap.size < w5.heap.size := by omega); (try have hy5_1 : w.heap.size + 1 < w5.heap.size := by omega); (try have hy5_2 : w.heap.size + 1 + 1 < w5.heap.size := by omega); (try have hy5_3 : w.heap.size + 1 + 1 + 1 < w5.heap.size := by omega); (try have hy5_4 : w.heap.size + 1 + 1 + 1 + 1 < w5.heap.size := by omega); (try have hy5_5 : w.heap.size + 1 + 1 + 1 + 1 + 1 < w5.heap.size := by omega); (try have hy5_1_0 : w1.heap.size < w5.heap.size := by omega); (try have hy5_1_1 : w1.heap.size + 1 < w5.heap.size := by omega); (try have hy5_2_0 : w2.heap.size < w5.heap.size := by omega); (try have hy5_2_1 : w2.heap.size + 1 < w5.heap.size := by omega); (try have hy5_3_0 : w3.heap.size < w5.heap.size := by omega); (try have hy5_3_1 : w3.heap.size + 1 < w5.heap.size := by omega); (try have hy5_4_0 : w4.heap.size < w5.heap.size := by omega); (try have hy5_4_1 : w4.heap.size + 1 < w5.heap.size := by omega)
  have kc5_0 := hc5 (w.heap.size) 0 (by first | omega | (simp; done) | (simp; omega))
  have kc5_1 := hc5 (w.heap.size) 1 (by first | omega | (simp; done) | (simp; omega))
  have kc5_2 := hc5 (w.heap.size) 2 (by first | omega | (simp; done) | (simp; omega))
  have kc5_3 := hc5 (w4.heap.size) 0 (by first | omega | (simp; done) | (simp; omega))
  have kc5_4 := hc5 (w4.heap.size) 1 (by first | omega | (simp; done) | (simp; omega))
  have kc5_5 := hc5 (w4.heap.size) 2 (by first | omega | (simp; done) | (simp; omega))
  have kc5_6 := hc5 (w4.heap.size + 1) 0 (by first | omega | (simp; done) | (simp; omega))
  have kc5_7 := hc5 (w4.heap.size + 1) 1 (by first | omega | (simp; done) | (simp; omega))
  have kc5_8 := hc5 (w4.heap.size + 1) 2 (by first | omega | (simp; done) | (simp; omega))
  clear hc5
  (try simp [go_sem, *] at kc5_0)
  (try simp [go_sem, *] at kc5_1)
  (try simp [go_sem, *] at kc5_2)
  (try simp [go_sem, *] at kc5_3)
  (try simp [go_sem, *] at kc5_4)
  (try simp [go_sem, *] at kc5_5)
  (try simp [go_sem, *] at kc5_6)
  (try simp [go_sem, *] at kc5_7)
  (try simp [go_sem, *] at kc5_8)
  
  
  go_wp2_with fail; refine (HVB.out _).mono ?_; rintro e w6 ⟨rfl, hb6⟩; obtain ⟨hc6, hf6⟩ := Gr.cells hb6; have hz6 := Gr.size hb6; (try simp at hz6); (try have hy6_0 : w.heap.size < w6.heap.size := by omega); (try have hy6_1 : w.heap.size + 1 < w6.heap.size := by omega); (try have hy6_2 : w.heap.size + 1 + 1 < w6.heap.size := by omega); (try have hy6_3 : w.heap.size + 1 + 1 + 1 < w6.heap.size := by omega); (try have hy6_4 : w.heap.size + 1 + 1 + 1 + 1 < w6.heap.size := by omega); (try have hy6_5 : w.heap.size + 1 + 1 + 1 + 1 + 1 < w6.heap.size := by omega); (try have hy6_1_0 : w1.heap.size < w6.heap.size := by omega); (try have hy6_1_1 : w1.heap.size + 1 < w6.heap.size := by omega); (try have hy6_2_0 : w2.heap.size < w6.heap.size := by omega); (try have hy6_2_1 : w2.heap.size + 1 < w6.heap.size := by omega); (try have hy6_3_0 : w3.heap.size < w6.heap.size := by omega); (try have hy6_3_1 : w3.heap.size + 1 < w6.heap.size := by omega); (try have hy6_4_0 : w4.heap.size < w6.heap.size := by omega); (try have hy6_4_1 : w4.heap.size + 1 < w6.heap.size := by omega); (try have hy6_5_0 : w5.heap.size < w6.heap.size := by omega); (try have hy6_5_1 : w5.heap.size + 1 < w6.heap.size := by omega)
  have kc6_0 := hc6 (w.heap.size) 0 (by first | omega | (simp; done) | (simp; omega))
  have kc6_1 := hc6 (w.heap.size) 1 (by first | omega | (simp; done) | (simp; omega))
  have kc6_2 := hc6 (w.heap.size) 2 (by first | omega | (simp; done) | (simp; omega))
  have kc6_3 := hc6 (w4.heap.size) 0 (by first | omega | (simp; done) | (simp; omega))
  have kc6_4 := hc6 (w4.heap.size) 1 (by first | omega | (simp; done) | (simp; omega))
  have kc6_5 := hc6 (w4.heap.size) 2 (by first | omega | (simp; done) | (simp; omega))
  have kc6_6 := hc6 (w4.heap.size + 1) 0 (by first | omega | (simp; done) | (simp; omega))
  have kc6_7 := hc6 (w4.heap.size + 1) 1 (by first | omega | (simp; done) | (simp; omega))
  have kc6_8 := hc6 (w4.heap.size + 1) 2 (by first | omega | (simp; done) | (simp; omega))
  clear hc6
  (try simp [go_sem, *] at kc6_0)
  (try simp [go_sem, *] at kc6_1)
  (try simp [go_sem, *] at kc6_2)
  (try simp [go_sem, *] at kc6_3)
  (try simp [go_sem, *] at kc6_4)
  (try simp [go_sem, *] at kc6_5)
  (try simp [go_sem, *] at kc6_6)
  (try simp [go_sem, *] at kc6_7)
  (try simp [go_sem, *] at kc6_8)
  go_wp2
  go_ret
  exact ⟨rfl, (by repeat' (first | (with_reducible exact Gr.refl _) | (with_reducible assumption) | (with_reducible refine Gr.alloc ?_ _) | (with_reducible refine Gr.drew ?_) | (with_reducible refine Gr.drewN ?_ _) | (with_reducible refine Gr.setCell ?_ ?_ _) | (with_reducible refine Gr.trans ?_ (by with_reducible assumption)) | go_size))⟩
set_option maxRecDepth 100000 in
set_option maxHeartbeats 4000000 in
theorem next_e_year (y m d : Int) (w : World) (hv : Ck.vld y m d = true) (hy : y ≤ 9599) (hl : ¬ (y = 9999 ∧ m = 12 ∧ d = 31)) (h1 : Ck.vld y m (d + 1) = false) (hm : 11 < m) :
    Calls Tryd.prog 7 #[.agg #[.int .i64 y, .int .i64 m, .int .i64 d]] w fun e w' => e = .returned (.bool true) ∧ Gr w w' := by
  obtain ⟨v1, v2, v3, v4, v5, v6⟩ := (Ck.vld_iff y m d).1 hv
  obtain ⟨b0, b1⟩ := Ck.num_bd hv
  have ml := Ck.mlen_bd y m
  have d31 : d ≤ 31 := by omega
  have HN := Lib.hid (fun W => number_any y m d W hv)
  have hn4 := fun W => number_any (y + 400) m d W (Ck.vld_cycle hv hy)
  rw [Ck.num_cycle] at hn4
  have HN4 := Lib.hid hn4; clear hn4
  obtain ⟨h2, h3⟩ := Ck.next_year hv h1 hm hl
  have HD := Lib.hid (fun W => dateof_any (Ck.num y m d + 1) (y + 1) 1 1 W h2 h3)
  have hva := fun W => valid_any y m (d + 1) W
  rw [h1] at hva
  have hvb := fun W => valid_any y (m + 1) 1 W
  rw [Ck.next_month_no hv hm] at hvb
  have HVA := Lib.hid hva; have HVB := Lib.hid hvb; clear hva hvb h2 h3
  clear hv v6
  have hy' : decide (y ≤ 9599) = true := decide_eq_true hy
  generalize Ck.num y m d = k at *
  have e0 : (k + 146097 != k + 146097) = false := by simp
  go_enter Tryd.func7, Tryd.ntmps7
  
  go_wp2_with fail; refine (awake_any _).mono ?_; rintro e w1 ⟨rfl, hb1⟩; obtain ⟨hc1, hf1⟩ := Gr.cells hb1; have hz1 := Gr.size hb1; (try simp at hz1); (try have hy1_0 : w.heap.size < w1.heap.size := by omega); (try have hy1_1 : w.heap.size + 1 < w1.heap.size := by omega); (try have hy1_2 : w.heap.size + 1 + 1 < w1.heap.size := by omega); (try have hy1_3 : w.heap.size + 1 + 1 + 1 < w1.heap.size := by omega); (try have hy1_4 : w.heap.size + 1 + 1 + 1 + 1 < w1.heap.size := by omega); (try have hy1_5 : w.heap.size + 1 + 1 + 1 + 1 + 1 < w1.heap.size := by omega)
  have kc1_0 := hc1 (w.heap.size) 0 (by first | omega | (simp; done) | (simp; omega))
  have kc1_1 := hc1 (w.heap.size) 1 (by first | omega | (simp; done) | (simp; omega))
  have kc1_2 := hc1 (w.heap.size) 2 (by first | omega | (simp; done) | (simp; omega))
  clear hc1
  (try simp [go_sem, *] at kc1_0)
  (try simp [go_sem, *] at kc1_1)
  (try simp [go_sem, *] at kc1_2)
  go_wp2_with fail; refine (HN.out _).mono ?_; rintro e w2 ⟨rfl, hb2⟩; obtain ⟨hc2, hf2⟩ := Gr.cells hb2; have hz2 := Gr.size hb2; (try simp at hz2); (try have hy2_0 : w.heap.size < w2.heap.size := by omega); (try have hy2_1 : w.heap.size + 1 < w2.heap.size := by omega); (try have hy2_2 : w.heap.size + 1 + 1 < w2.heap.size := by omega); (try have hy2_3 : w.heap.size + 1 + 1 + 1 < w2.heap.size := by omega); (try have hy2_4 : w.heap.size + 1 + 1 + 1 + 1 < w2.heap.size := by omega); (try have hy2_5 : w.heap.size + 1 + 1 + 1 + 1 + 1 < w2.heap.size := by omega); (try have hy2_1_0 : w1.heap.size < w2.heap.size := by omega); (try have hy2_1_1 : w1.heap.size + 1 < w2.heap.size := by omega)
  have kc2_0 := hc2 (w.heap.size) 0 (by first | omega | (simp; done) | (simp; omega))
  have kc2_1 := hc2 (w.heap.size) 1 (by first | omega | (simp; done) | (simp; omega))
  have kc2_2 := hc2 (w.heap.size) 2 (by first | omega | (simp; done) | (simp; omega))
  clear hc2
  (try simp [go_sem, *] at kc2_0)
  (try simp [go_sem, *] at kc2_1)
  (try simp [go_sem, *] at kc2_2)
  go_wp2_with fail; refine (HN4.out _).mono ?_; rintro e w3 ⟨rfl, hb3⟩; obtain ⟨hc3, hf3⟩ := Gr.cells hb3; have hz3 := Gr.size hb3; (try simp at hz3); (try have hy3_0 : w.heap.size < w3.heap.size := by omega); (try have hy3_1 : w.heap.size + 1 < w3.heap.size := by omega); (try have hy3_2 : w.heap.size + 1 + 1 < w3.heap.size := by omega); (try have hy3_3 : w.heap.size + 1 + 1 + 1 < w3.heap.size := by omega); (try have hy3_4 : w.heap.size + 1 + 1 + 1 + 1 < w3.heap.size := by omega); (try have hy3_5 : w.heap.size + 1 + 1 + 1 + 1 + 1 < w3.heap.size := by omega); (try have hy3_1_0 : w1.heap.size < w3.heap.size := by omega); (try have hy3_1_1 : w1.heap.size + 1 < w3.heap.size := by omega); (try have hy3_2_0 : w2.heap.size < w3.heap.size := by omega); (try have hy3_2_1 : w2.heap.size + 1 < w3.heap.size := by omega)
  have kc3_0 := hc3 (w.heap.size) 0 (by first | omega | (simp; done) | (simp; omega))
  have kc3_1 := hc3 (w.heap.size) 1 (by first | omega | (simp; done) | (simp; omega))
  have kc3_2 := hc3 (w.heap.size) 2 (by first | omega | (simp; done) | (simp; omega))
  clear hc3
  (try simp [go_sem, *] at kc3_0)
  (try simp [go_sem, *] at kc3_1)
  (try simp [go_sem, *] at kc3_2)
  go_wp2_with fail; refine (HD.out _).mono ?_; rintro e w4 ⟨rfl, hb4⟩; obtain ⟨hc4, hf4⟩ := Gr.cells hb4; have hz4 := Gr.size hb4; (try simp at hz4); (try have hy4_0 : w.heap.size < w4.heap.size := by omega); (try have hy4_1 : w.heap.size + 1 < w4.heap.size := by omega); (try have hy4_2 : w.heap.size + 1 + 1 < w4.heap.size := by omega); (try have hy4_3 : w.heap.size + 1 + 1 + 1 < w4.heap.size := by omega); (try have hy4_4 : w.heap.size + 1 + 1 + 1 + 1 < w4.heap.size := by omega); (try have hy4_5 : w.heap.size + 1 + 1 + 1 + 1 + 1 < w4.heap.size := by omega); (try have hy4_1_0 : w1.heap.size < w4.heap.size := by omega); (try have hy4_1_1 : w1.heap.size + 1 < w4.heap.size := by omega); (try have hy4_2_0 : w2.heap.size < w4.heap.size := by omega); (try have hy4_2_1 : w2.heap.size + 1 < w4.heap.size := by omega); (try have hy4_3_0 : w3.heap.size < w4.heap.size := by omega); (try have hy4_3_1 : w3.heap.size + 1 < w4.heap.size := by omega)
  have kc4_0 := hc4 (w.heap.size) 0 (by first | omega | (simp; done) | (simp; omega))
  have kc4_1 := hc4 (w.heap.size) 1 (by first | omega | (simp; done) | (simp; omega))
  have kc4_2 := hc4 (w.heap.size) 2 (by first | omega | (simp; done) | (simp; omega))
  clear hc4
  (try simp [go_sem, *] at kc4_0)
  (try simp [go_sem, *] at kc4_1)
  (try simp [go_sem, *] at kc4_2)
  
  
  go_wp2_with fail; refine (HVA.out _).mono ?_; rintro e w5 ⟨rfl, hb5⟩; obtain ⟨hc5, hf5⟩ := Gr.cells hb5; have hz5 := Gr.size hb5; (try simp at hz5); (try have hy5_0 : w.heap.size < w5.heap.size := by omega); (try have hy5_1 : w.heap.size + 1 < w5.heap.size := by omega); (try have hy5_2 : w.heap.size + 1 + 1 < w5.heap.size := by omega); (try have hy5_3 : w.heap.size + 1 + 1 + 1 < w5.heap.size := by omega); (try have hy5_4 : w.heap.size + 1 + 1 + 1 + 1 < w5.heap.size := by omega); (try have hy5_5 : w.heap.size + 1 + 1 + 1 + 1 + 1 < w5.heap.size := by omega); (try have hy5_1_0 : w1.heap.size < w5.heap.size := by omega); (try have hy5_1_1 : w1.heap.size + 1 < w5.heap.size := by omega); (try have hy5_2_0 : w2.heap.size < w5.heap.size := by omega); (try have hy5_2_1 : w2.heap.size + 1 < w5.heap.size := by omega); (try have hy5_3_0 : w3.heap.size < w5.heap.size := by omega); (try have hy5_3_1 : w3.heap.size + 1 < w5.heap.size := by omega); (try have hy5_4_0 : w4.heap.size < w5.heap.size := by omega); (try have hy5_4_1 : w4.heap.size + 1 < w5.heap.size := by omega)
  have kc5_0 := hc5 (w.heap.size) 0 (by first | omega | (simp; done) | (simp; omega))
  have kc5_1 := hc5 (w.heap.size) 1 (by first | omega | (simp; done) | (simp; omega))
  have kc5_2 := hc5 (w.heap.size) 2 (by first | omega | (simp; done) | (simp; omega))
  have kc5_3 := hc5 (w4.heap.size) 0 (by first | omega | (simp; done) | (simp; omega))
  have kc5_4 := hc5 (w4.heap.size) 1 (by first | omega | (simp; done) | (simp; omega))
  have kc5_5 := hc5 (w4.heap.size) 2 (by first | omega | (simp; done) | (simp; omega))
  have kc5_6 := hc5 (w4.heap.size + 1) 0 (by first | omega | (simp; done) | (simp; omega))
  have kc5_7 := hc5 (w4.heap.size + 1) 1 (by first | omega | (simp; done) | (simp; omega))
  have kc5_8 := hc5 (w4.heap.size + 1) 2 (by first | omega | (simp; done) | (simp; omega))
  clear hc5
  (try simp [go_sem, *] at kc5_0)
  (try simp [go_sem, *] at kc5_1)
  (try simp [go_sem, *] at kc5_2)
  (try simp [go_sem, *] at kc5_3)
  (try simp [go_sem, *] at kc5_4)
  (try simp [go_sem, *] at kc5_5)
  (try simp [go_sem, *] at kc5_6)
  (try simp [go_sem, *] at kc5_7)
  (try simp [go_sem, *] at kc5_8)
  have kf5_0 := hf5 (w4.heap.size + 1) 0 (by first | omega | (simp; done) | (simp; omega))
  have kf5_1 := hf5 (w4.heap.size + 1) 1 (by first | omega | (simp; done) | (simp; omega))
  have kf5_2 := hf5 (w4.heap.size + 1) 2 (by first | omega | (simp; done) | (simp; omega))
  clear hf5
  (try simp [go_sem, *] at kf5_0)
  (try simp [go_sem, *] at kf5_1)
  (try simp [go_sem, *] at kf5_2)
  
  
  go_wp2_with fail; refine (HVB.out _).mono ?_; rintro e w6 ⟨rfl, hb6⟩; obtain ⟨hc6, hf6⟩ := Gr.cells hb6; have hz6 := Gr.size hb6; (try simp at hz6); (try have hy6_0 : w.heap.size < w6.heap.size := by omega); (try have hy6_1 : w.heap.size + 1 < w6.heap.size := by omega); (try have hy6_2 : w.heap.size + 1 + 1 < w6.heap.size := by omega); (try have hy6_3 : w.heap.size + 1 + 1 + 1 < w6.heap.size := by omega); (try have hy6_4 : w.heap.size + 1 + 1 + 1 + 1 < w6.heap.size := by omega); (try have hy6_5 : w.heap.size + 1 + 1 + 1 + 1 + 1 < w6.heap.size := by omega); (try have hy6_1_0 : w1.heap.size < w6.heap.size := by omega); (try have hy6_1_1 : w1.heap.size + 1 < w6.heap.size := by omega); (try have hy6_2_0 : w2.heap.size < w6.heap.size := by omega); (try have hy6_2_1 : w2.heap.size + 1 < w6.heap.size := by omega); (try have hy6_3_0 : w3.heap.size < w6.heap.size := by omega); (try have hy6_3_1 : w3.heap.size + 1 < w6.heap.size := by omega); (try have hy6_4_0 : w4.heap.size < w6.heap.size := by omega); (try have hy6_4_1 : w4.heap.size + 1 < w6.heap.size := by omega); (try have hy6_5_0 : w5.heap.size < w6.heap.size := by omega); (try have hy6_5_1 : w5.heap.size + 1 < w6.heap.size := by omega)
  have kc6_0 := hc6 (w.heap.size) 0 (by first | omega | (simp; done) | (simp; omega))
  have kc6_1 := hc6 (w.heap.size) 1 (by first | omega | (simp; done) | (simp; omega))
  have kc6_2 := hc6 (w.heap.size) 2 (by first | omega | (simp; done) | (simp; omega))
  have kc6_3 := hc6 (w4.heap.size) 0 (by first | omega | (simp; done) | (simp; omega))
  have kc6_4 := hc6 (w4.heap.size) 1 (by first | omega | (simp; done) | (simp; omega))
  have kc6_5 := hc6 (w4.heap.size) 2 (by first | omega | (simp; done) | (simp; omega))
  have kc6_6 := hc6 (w4.heap.size + 1) 0 (by first | omega | (simp; done) | (simp; omega))
  have kc6_7 := hc6 (w4.heap.size + 1) 1 (by first | omega | (simp; done) | (simp; omega))
  have kc6_8 := hc6 (w4.heap.size + 1) 2 (by first | omega | (simp; done) | (simp; omega))
  clear hc6
  (try simp [go_sem, *] at kc6_0)
  (try simp [go_sem, *] at kc6_1)
  (try simp [go_sem, *] at kc6_2)
  (try simp [go_sem, *] at kc6_3)
  (try simp [go_sem, *] at kc6_4)
  (try simp [go_sem, *] at kc6_5)
  (try simp [go_sem, *] at kc6_6)
  (try simp [go_sem, *] at kc6_7)
  (try simp [go_sem, *] at kc6_8)
  have kf6_0 := hf6 (w4.heap.size + 1) 0 (by first | omega | (simp; done) | (simp; omega))
  have kf6_1 := hf6 (w4.heap.size + 1) 1 (by first | omega | (simp; done) | (simp; omega))
  have kf6_2 := hf6 (w4.heap.size + 1) 2 (by first | omega | (simp; done) | (simp; omega))
  clear hf6
  (try simp [go_sem, *] at kf6_0)
  (try simp [go_sem, *] at kf6_1)
  (try simp [go_sem, *] at kf6_2)
  go_wp2
  go_ret
  exact ⟨rfl, (by repeat' (first | (with_reducible exact Gr.refl _) | (with_reducible assumption) | (with_reducible refine Gr.alloc ?_ _) | (with_reducible refine Gr.drew ?_) | (with_reducible refine Gr.drewN ?_ _) | (with_reducible refine Gr.setCell ?_ ?_ _) | (with_reducible refine Gr.trans ?_ (by with_reducible assumption)) | go_size))⟩
set_option maxRecDepth 100000 in
set_option maxHeartbeats 4000000 in
theorem next_l_day (y m d : Int) (w : World) (hv : Ck.vld y m d = true) (hy : ¬ y ≤ 9599) (hl : ¬ (y = 9999 ∧ m = 12 ∧ d = 31)) (h1 : Ck.vld y m (d + 1) = true) :
    Calls Tryd.prog 7 #[.agg #[.int .i64 y, .int .i64 m, .int .i64 d]] w fun e w' => e = .returned (.bool true) ∧ Gr w w' := by
  obtain ⟨v1, v2, v3, v4, v5, v6⟩ := (Ck.vld_iff y m d).1 hv
  obtain ⟨b0, b1⟩ := Ck.num_bd hv
  have ml := Ck.mlen_bd y m
  have d30 : d ≤ 30 := by obtain ⟨_, _, _, _, _, v7⟩ := (Ck.vld_iff y m (d + 1)).1 h1; omega
  have HN := Lib.hid (fun W => number_any y m d W hv)
  have HD := Lib.hid (fun W => dateof_any (Ck.num y m d + 1) y m (d + 1) W h1 (Ck.next_day h1))
  have hva := fun W => valid_any y m (d + 1) W
  rw [h1] at hva
  have HVA := Lib.hid hva; clear hva
  clear hv v6
  have hy' : decide (y ≤ 9599) = false := decide_eq_false hy
  generalize Ck.num y m d = k at *
  go_enter Tryd.func7, Tryd.ntmps7
  
  go_wp2_with fail; refine (awake_any _).mono ?_; rintro e w1 ⟨rfl, hb1⟩; obtain ⟨hc1, hf1⟩ := Gr.cells hb1; have hz1 := Gr.size hb1; (try simp at hz1); (try have hy1_0 : w.heap.size < w1.heap.size := by omega); (try have hy1_1 : w.heap.size + 1 < w1.heap.size := by omega); (try have hy1_2 : w.heap.size + 1 + 1 < w1.heap.size := by omega); (try have hy1_3 : w.heap.size + 1 + 1 + 1 < w1.heap.size := by omega); (try have hy1_4 : w.heap.size + 1 + 1 + 1 + 1 < w1.heap.size := by omega); (try have hy1_5 : w.heap.size + 1 + 1 + 1 + 1 + 1 < w1.heap.size := by omega)
  have kc1_0 := hc1 (w.heap.size) 0 (by first | omega | (simp; done) | (simp; omega))
  have kc1_1 := hc1 (w.heap.size) 1 (by first | omega | (simp; done) | (simp; omega))
  have kc1_2 := hc1 (w.heap.size) 2 (by first | omega | (simp; done) | (simp; omega))
  clear hc1
  (try simp [go_sem, *] at kc1_0)
  (try simp [go_sem, *] at kc1_1)
  (try simp [go_sem, *] at kc1_2)
  go_wp2_with fail; refine (HN.out _).mono ?_; rintro e w2 ⟨rfl, hb2⟩; obtain ⟨hc2, hf2⟩ := Gr.cells hb2; have hz2 := Gr.size hb2; (try simp at hz2); (try have hy2_0 : w.heap.size < w2.heap.size := by omega); (try have hy2_1 : w.heap.size + 1 < w2.heap.size := by omega); (try have hy2_2 : w.heap.size + 1 + 1 < w2.heap.size := by omega); (try have hy2_3 : w.heap.size + 1 + 1 + 1 < w2.heap.size := by omega); (try have hy2_4 : w.heap.size + 1 + 1 + 1 + 1 < w2.heap.size := by omega); (try have hy2_5 : w.heap.size + 1 + 1 + 1 + 1 + 1 < w2.heap.size := by omega); (try have hy2_1_0 : w1.heap.size < w2.heap.size := by omega); (try have hy2_1_1 : w1.heap.size + 1 < w2.heap.size := by omega)
  have kc2_0 := hc2 (w.heap.size) 0 (by first | omega | (simp; done) | (simp; omega))
  have kc2_1 := hc2 (w.heap.size) 1 (by first | omega | (simp; done) | (simp; omega))
  have kc2_2 := hc2 (w.heap.size) 2 (by first | omega | (simp; done) | (simp; omega))
  clear hc2
  (try simp [go_sem, *] at kc2_0)
  (try simp [go_sem, *] at kc2_1)
  (try simp [go_sem, *] at kc2_2)
  go_wp2_with fail; refine (HD.out _).mono ?_; rintro e w3 ⟨rfl, hb3⟩; obtain ⟨hc3, hf3⟩ := Gr.cells hb3; have hz3 := Gr.size hb3; (try simp at hz3); (try have hy3_0 : w.heap.size < w3.heap.size := by omega); (try have hy3_1 : w.heap.size + 1 < w3.heap.size := by omega); (try have hy3_2 : w.heap.size + 1 + 1 < w3.heap.size := by omega); (try have hy3_3 : w.heap.size + 1 + 1 + 1 < w3.heap.size := by omega); (try have hy3_4 : w.heap.size + 1 + 1 + 1 + 1 < w3.heap.size := by omega); (try have hy3_5 : w.heap.size + 1 + 1 + 1 + 1 + 1 < w3.heap.size := by omega); (try have hy3_1_0 : w1.heap.size < w3.heap.size := by omega); (try have hy3_1_1 : w1.heap.size + 1 < w3.heap.size := by omega); (try have hy3_2_0 : w2.heap.size < w3.heap.size := by omega); (try have hy3_2_1 : w2.heap.size + 1 < w3.heap.size := by omega)
  have kc3_0 := hc3 (w.heap.size) 0 (by first | omega | (simp; done) | (simp; omega))
  have kc3_1 := hc3 (w.heap.size) 1 (by first | omega | (simp; done) | (simp; omega))
  have kc3_2 := hc3 (w.heap.size) 2 (by first | omega | (simp; done) | (simp; omega))
  clear hc3
  (try simp [go_sem, *] at kc3_0)
  (try simp [go_sem, *] at kc3_1)
  (try simp [go_sem, *] at kc3_2)
  
  
  go_wp2_with fail; refine (HVA.out _).mono ?_; rintro e w4 ⟨rfl, hb4⟩; obtain ⟨hc4, hf4⟩ := Gr.cells hb4; have hz4 := Gr.size hb4; (try simp at hz4); (try have hy4_0 : w.heap.size < w4.heap.size := by omega); (try have hy4_1 : w.heap.size + 1 < w4.heap.size := by omega); (try have hy4_2 : w.heap.size + 1 + 1 < w4.heap.size := by omega); (try have hy4_3 : w.heap.size + 1 + 1 + 1 < w4.heap.size := by omega); (try have hy4_4 : w.heap.size + 1 + 1 + 1 + 1 < w4.heap.size := by omega); (try have hy4_5 : w.heap.size + 1 + 1 + 1 + 1 + 1 < w4.heap.size := by omega); (try have hy4_1_0 : w1.heap.size < w4.heap.size := by omega); (try have hy4_1_1 : w1.heap.size + 1 < w4.heap.size := by omega); (try have hy4_2_0 : w2.heap.size < w4.heap.size := by omega); (try have hy4_2_1 : w2.heap.size + 1 < w4.heap.size := by omega); (try have hy4_3_0 : w3.heap.size < w4.heap.size := by omega); (try have hy4_3_1 : w3.heap.size + 1 < w4.heap.size := by omega)
  have kc4_0 := hc4 (w.heap.size) 0 (by first | omega | (simp; done) | (simp; omega))
  have kc4_1 := hc4 (w.heap.size) 1 (by first | omega | (simp; done) | (simp; omega))
  have kc4_2 := hc4 (w.heap.size) 2 (by first | omega | (simp; done) | (simp; omega))
  have kc4_3 := hc4 (w3.heap.size) 0 (by first | omega | (simp; done) | (simp; omega))
  have kc4_4 := hc4 (w3.heap.size) 1 (by first | omega | (simp; done) | (simp; omega))
  have kc4_5 := hc4 (w3.heap.size) 2 (by first | omega | (simp; done) | (simp; omega))
  have kc4_6 := hc4 (w3.heap.size + 1) 0 (by first | omega | (simp; done) | (simp; omega))
  have kc4_7 := hc4 (w3.heap.size + 1) 1 (by first | omega | (simp; done) | (simp; omega))
  have kc4_8 := hc4 (w3.heap.size + 1) 2 (by first | omega | (simp; done) | (simp; omega))
  clear hc4
  (try simp [go_sem, *] at kc4_0)
  (try simp [go_sem, *] at kc4_1)
  (try simp [go_sem, *] at kc4_2)
  (try simp [go_sem, *] at kc4_3)
  (try simp [go_sem, *] at kc4_4)
  (try simp [go_sem, *] at kc4_5)
  (try simp [go_sem, *] at kc4_6)
  (try simp [go_sem, *] at kc4_7)
  (try simp [go_sem, *] at kc4_8)
  go_wp2_with fail; refine (HVA.out _).mono ?_; rintro e w5 ⟨rfl, hb5⟩; obtain ⟨hc5, hf5⟩ := Gr.cells hb5; have hz5 := Gr.size hb5; (try simp at hz5); (try have hy5_0 : w.heap.size < w5.heap.size := by omega); (try have hy5_1 : w.heap.size + 1 < w5.heap.size := by omega); (try have hy5_2 : w.heap.size + 1 + 1 < w5.heap.size := by omega); (try have hy5_3 : w.heap.size + 1 + 1 + 1 < w5.heap.size := by omega); (try have hy5_4 : w.heap.size + 1 + 1 + 1 + 1 < w5.heap.size := by omega); (try have hy5_5 : w.heap.size + 1 + 1 + 1 + 1 + 1 < w5.heap.size := by omega); (try have hy5_1_0 : w1.heap.size < w5.heap.size := by omega); (try have hy5_1_1 : w1.heap.size + 1 < w5.heap.size := by omega); (try have hy5_2_0 : w2.heap.size < w5.heap.size := by omega); (try have hy5_2_1 : w2.heap.size + 1 < w5.heap.size := by omega); (try have hy5_3_0 : w3.heap.size < w5.heap.size := by omega); (try have hy5_3_1 : w3.heap.size + 1 < w5.heap.size := by omega); (try have hy5_4_0 : w4.heap.size < w5.heap.size := by omega); (try have hy5_4_1 : w4.heap.size + 1 < w5.heap.size := by omega)
  have kc5_0 := hc5 (w.heap.size) 0 (by first | omega | (simp; done) | (simp; omega))
  have kc5_1 := hc5 (w.heap.size) 1 (by first | omega | (simp; done) | (simp; omega))
  have kc5_2 := hc5 (w.heap.size) 2 (by first | omega | (simp; done) | (simp; omega))
  have kc5_3 := hc5 (w3.heap.size) 0 (by first | omega | (simp; done) | (simp; omega))
  have kc5_4 := hc5 (w3.heap.size) 1 (by first | omega | (simp; done) | (simp; omega))
  have kc5_5 := hc5 (w3.heap.size) 2 (by first | omega | (simp; done) | (simp; omega))
  have kc5_6 := hc5 (w3.heap.size + 1) 0 (by first | omega | (simp; done) | (simp; omega))
  have kc5_7 := hc5 (w3.heap.size + 1) 1 (by first | omega | (simp; done) | (simp; omega))
  have kc5_8 := hc5 (w3.heap.size + 1) 2 (by first | omega | (simp; done) | (simp; omega))
  clear hc5
  (try simp [go_sem, *] at kc5_0)
  (try simp [go_sem, *] at kc5_1)
  (try simp [go_sem, *] at kc5_2)
  (try simp [go_sem, *] at kc5_3)
  (try simp [go_sem, *] at kc5_4)
  (try simp [go_sem, *] at kc5_5)
  (try simp [go_sem, *] at kc5_6)
  (try simp [go_sem, *] at kc5_7)
  (try simp [go_sem, *] at kc5_8)
  go_wp2
  go_ret
  exact ⟨rfl, (by repeat' (first | (with_reducible exact Gr.refl _) | (with_reducible assumption) | (with_reducible refine Gr.alloc ?_ _) | (with_reducible refine Gr.drew ?_) | (with_reducible refine Gr.drewN ?_ _) | (with_reducible refine Gr.setCell ?_ ?_ _) | (with_reducible refine Gr.trans ?_ (by with_reducible assumption)) | go_size))⟩
set_option maxRecDepth 100000 in
set_option maxHeartbeats 4000000 in
theorem next_l_month (y m d : Int) (w : World) (hv : Ck.vld y m d = true) (hy : ¬ y ≤ 9599) (hl : ¬ (y = 9999 ∧ m = 12 ∧ d = 31)) (h1 : Ck.vld y m (d + 1) = false) (hm : m ≤ 11) :
    Calls Tryd.prog 7 #[.agg #[.int .i64 y, .int .i64 m, .int .i64 d]] w fun e w' => e = .returned (.bool true) ∧ Gr w w' := by
  obtain ⟨v1, v2, v3, v4, v5, v6⟩ := (Ck.vld_iff y m d).1 hv
  obtain ⟨b0, b1⟩ := Ck.num_bd hv
  have ml := Ck.mlen_bd y m
  have d31 : d ≤ 31 := by omega
  have HN := Lib.hid (fun W => number_any y m d W hv)
  obtain ⟨h2, h3⟩ := Ck.next_month hv h1 hm
  have HD := Lib.hid (fun W => dateof_any (Ck.num y m d + 1) y (m + 1) 1 W h2 h3)
  have hva := fun W => valid_any y m (d + 1) W
  rw [h1] at hva
  have hvb := fun W => valid_any y (m + 1) 1 W
  rw [h2] at hvb
  have HVA := Lib.hid hva; have HVB := Lib.hid hvb; clear hva hvb h2 h3
  clear hv v6
  have hy' : decide (y ≤ 9599) = false := decide_eq_false hy
  generalize Ck.num y m d = k at *
  go_enter Tryd.func7, Tryd.ntmps7
  
  go_wp2_with fail; refine (awake_any _).mono ?_; rintro e w1 ⟨rfl, hb1⟩; obtain ⟨hc1, hf1⟩ := Gr.cells hb1; have hz1 := Gr.size hb1; (try simp at hz1); (try have hy1_0 : w.heap.size < w1.heap.size := by omega); (try have hy1_1 : w.heap.size + 1 < w1.heap.size := by omega); (try have hy1_2 : w.heap.size + 1 + 1 < w1.heap.size := by omega); (try have hy1_3 : w.heap.size + 1 + 1 + 1 < w1.heap.size := by omega); (try have hy1_4 : w.heap.size + 1 + 1 + 1 + 1 < w1.heap.size := by omega); (try have hy1_5 : w.heap.size + 1 + 1 + 1 + 1 + 1 < w1.heap.size := by omega)
  have kc1_0 := hc1 (w.heap.size) 0 (by first | omega | (simp; done) | (simp; omega))
  have kc1_1 := hc1 (w.heap.size) 1 (by first | omega | (simp; done) | (simp; omega))
  have kc1_2 := hc1 (w.heap.size) 2 (by first | omega | (simp; done) | (simp; omega))
  clear hc1
  (try simp [go_sem, *] at kc1_0)
  (try simp [go_sem, *] at kc1_1)
  (try simp [go_sem, *] at kc1_2)
  go_wp2_with fail; refine (HN.out _).mono ?_; rintro e w2 ⟨rfl, hb2⟩; obtain ⟨hc2, hf2⟩ := Gr.cells hb2; have hz2 := Gr.size hb2; (try simp at hz2); (try have hy2_0 : w.heap.size < w2.heap.size := by omega); (try have hy2_1 : w.heap.size + 1 < w2.heap.size := by omega); (try have hy2_2 : w.heap.size + 1 + 1 < w2.heap.size := by omega); (try have hy2_3 : w.heap.size + 1 + 1 + 1 < w2.heap.size := by omega); (try have hy2_4 : w.heap.size + 1 + 1 + 1 + 1 < w2.heap.size := by omega); (try have hy2_5 : w.heap.size + 1 + 1 + 1 + 1 + 1 < w2.heap.size := by omega); (try have hy2_1_0 : w1.heap.size < w2.heap.size := by omega); (try have hy2_1_1 : w1.heap.size + 1 < w2.heap.size := by omega)
  have kc2_0 := hc2 (w.heap.size) 0 (by first | omega | (simp; done) | (simp; omega))
  have kc2_1 := hc2 (w.heap.size) 1 (by first | omega | (simp; done) | (simp; omega))
  have kc2_2 := hc2 (w.heap.size) 2 (by first | omega | (simp; done) | (simp; omega))
  clear hc2
  (try simp [go_sem, *] at kc2_0)
  (try simp [go_sem, *] at kc2_1)
  (try simp [go_sem, *] at kc2_2)
  go_wp2_with fail; refine (HD.out _).mono ?_; rintro e w3 ⟨rfl, hb3⟩; obtain ⟨hc3, hf3⟩ := Gr.cells hb3; have hz3 := Gr.size hb3; (try simp at hz3); (try have hy3_0 : w.heap.size < w3.heap.size := by omega); (try have hy3_1 : w.heap.size + 1 < w3.heap.size := by omega); (try have hy3_2 : w.heap.size + 1 + 1 < w3.heap.size := by omega); (try have hy3_3 : w.heap.size + 1 + 1 + 1 < w3.heap.size := by omega); (try have hy3_4 : w.heap.size + 1 + 1 + 1 + 1 < w3.heap.size := by omega); (try have hy3_5 : w.heap.size + 1 + 1 + 1 + 1 + 1 < w3.heap.size := by omega); (try have hy3_1_0 : w1.heap.size < w3.heap.size := by omega); (try have hy3_1_1 : w1.heap.size + 1 < w3.heap.size := by omega); (try have hy3_2_0 : w2.heap.size < w3.heap.size := by omega); (try have hy3_2_1 : w2.heap.size + 1 < w3.heap.size := by omega)
  have kc3_0 := hc3 (w.heap.size) 0 (by first | omega | (simp; done) | (simp; omega))
  have kc3_1 := hc3 (w.heap.size) 1 (by first | omega | (simp; done) | (simp; omega))
  have kc3_2 := hc3 (w.heap.size) 2 (by first | omega | (simp; done) | (simp; omega))
  clear hc3
  (try simp [go_sem, *] at kc3_0)
  (try simp [go_sem, *] at kc3_1)
  (try simp [go_sem, *] at kc3_2)
  
  
  go_wp2_with fail; refine (HVA.out _).mono ?_; rintro e w4 ⟨rfl, hb4⟩; obtain ⟨hc4, hf4⟩ := Gr.cells hb4; have hz4 := Gr.size hb4; (try simp at hz4); (try have hy4_0 : w.heap.size < w4.heap.size := by omega); (try have hy4_1 : w.heap.size + 1 < w4.heap.size := by omega); (try have hy4_2 : w.heap.size + 1 + 1 < w4.heap.size := by omega); (try have hy4_3 : w.heap.size + 1 + 1 + 1 < w4.heap.size := by omega); (try have hy4_4 : w.heap.size + 1 + 1 + 1 + 1 < w4.heap.size := by omega); (try have hy4_5 : w.heap.size + 1 + 1 + 1 + 1 + 1 < w4.heap.size := by omega); (try have hy4_1_0 : w1.heap.size < w4.heap.size := by omega); (try have hy4_1_1 : w1.heap.size + 1 < w4.heap.size := by omega); (try have hy4_2_0 : w2.heap.size < w4.heap.size := by omega); (try have hy4_2_1 : w2.heap.size + 1 < w4.heap.size := by omega); (try have hy4_3_0 : w3.heap.size < w4.heap.size := by omega); (try have hy4_3_1 : w3.heap.size + 1 < w4.heap.size := by omega)
  have kc4_0 := hc4 (w.heap.size) 0 (by first | omega | (simp; done) | (simp; omega))
  have kc4_1 := hc4 (w.heap.size) 1 (by first | omega | (simp; done) | (simp; omega))
  have kc4_2 := hc4 (w.heap.size) 2 (by first | omega | (simp; done) | (simp; omega))
  have kc4_3 := hc4 (w3.heap.size) 0 (by first | omega | (simp; done) | (simp; omega))
  have kc4_4 := hc4 (w3.heap.size) 1 (by first | omega | (simp; done) | (simp; omega))
  have kc4_5 := hc4 (w3.heap.size) 2 (by first | omega | (simp; done) | (simp; omega))
  have kc4_6 := hc4 (w3.heap.size + 1) 0 (by first | omega | (simp; done) | (simp; omega))
  have kc4_7 := hc4 (w3.heap.size + 1) 1 (by first | omega | (simp; done) | (simp; omega))
  have kc4_8 := hc4 (w3.heap.size + 1) 2 (by first | omega | (simp; done) | (simp; omega))
  clear hc4
  (try simp [go_sem, *] at kc4_0)
  (try simp [go_sem, *] at kc4_1)
  (try simp [go_sem, *] at kc4_2)
  (try simp [go_sem, *] at kc4_3)
  (try simp [go_sem, *] at kc4_4)
  (try simp [go_sem, *] at kc4_5)
  (try simp [go_sem, *] at kc4_6)
  (try simp [go_sem, *] at kc4_7)
  (try simp [go_sem, *] at kc4_8)
  
  
  go_wp2_with fail; refine (HVB.out _).mono ?_; rintro e w5 ⟨rfl, hb5⟩; obtain ⟨hc5, hf5⟩ := Gr.cells hb5; have hz5 := Gr.size hb5; (try simp at hz5); (try have hy5_0 : w.heap.size < w5.heap.size := by omega); (try have hy5_1 : w.heap.size + 1 < w5.heap.size := by omega); (try have hy5_2 : w.heap.size + 1 + 1 < w5.heap.size := by omega); (try have hy5_3 : w.heap.size + 1 + 1 + 1 < w5.heap.size := by omega); (try have hy5_4 : w.heap.size + 1 + 1 + 1 + 1 < w5.heap.size := by omega); (try have hy5_5 : w.heap.size + 1 + 1 + 1 + 1 + 1 < w5.heap.size := by omega); (try have hy5_1_0 : w1.heap.size < w5.heap.size := by omega); (try have hy5_1_1 : w1.heap.size + 1 < w5.heap.size := by omega); (try have hy5_2_0 : w2.heap.size < w5.heap.size := by omega); (try have hy5_2_1 : w2.heap.size + 1 < w5.heap.size := by omega); (try have hy5_3_0 : w3.heap.size < w5.heap.size := by omega); (try have hy5_3_1 : w3.heap.size + 1 < w5.heap.size := by omega); (try have hy5_4_0 : w4.heap.size < w5.heap.size := by omega); (try have hy5_4_1 : w4.heap.size + 1 < w5.heap.size := by omega)
  have kc5_0 := hc5 (w.heap.size) 0 (by first | omega | (simp; done) | (simp; omega))
  have kc5_1 := hc5 (w.heap.size) 1 (by first | omega | (simp; done) | (simp; omega))
  have kc5_2 := hc5 (w.heap.size) 2 (by first | omega | (simp; done) | (simp; omega))
  have kc5_3 := hc5 (w3.heap.size) 0 (by first | omega | (simp; done) | (simp; omega))
  have kc5_4 := hc5 (w3.heap.size) 1 (by first | omega | (simp; done) | (simp; omega))
  have kc5_5 := hc5 (w3.heap.size) 2 (by first | omega | (simp; done) | (simp; omega))
  have kc5_6 := hc5 (w3.heap.size + 1) 0 (by first | omega | (simp; done) | (simp; omega))
  have kc5_7 := hc5 (w3.heap.size + 1) 1 (by first | omega | (simp; done) | (simp; omega))
  have kc5_8 := hc5 (w3.heap.size + 1) 2 (by first | omega | (simp; done) | (simp; omega))
  clear hc5
  (try simp [go_sem, *] at kc5_0)
  (try simp [go_sem, *] at kc5_1)
  (try simp [go_sem, *] at kc5_2)
  (try simp [go_sem, *] at kc5_3)
  (try simp [go_sem, *] at kc5_4)
  (try simp [go_sem, *] at kc5_5)
  (try simp [go_sem, *] at kc5_6)
  (try simp [go_sem, *] at kc5_7)
  (try simp [go_sem, *] at kc5_8)
  go_wp2
  go_ret
  exact ⟨rfl, (by repeat' (first | (with_reducible exact Gr.refl _) | (with_reducible assumption) | (with_reducible refine Gr.alloc ?_ _) | (with_reducible refine Gr.drew ?_) | (with_reducible refine Gr.drewN ?_ _) | (with_reducible refine Gr.setCell ?_ ?_ _) | (with_reducible refine Gr.trans ?_ (by with_reducible assumption)) | go_size))⟩
set_option maxRecDepth 100000 in
set_option maxHeartbeats 4000000 in
theorem next_l_year (y m d : Int) (w : World) (hv : Ck.vld y m d = true) (hy : ¬ y ≤ 9599) (hl : ¬ (y = 9999 ∧ m = 12 ∧ d = 31)) (h1 : Ck.vld y m (d + 1) = false) (hm : 11 < m) :
    Calls Tryd.prog 7 #[.agg #[.int .i64 y, .int .i64 m, .int .i64 d]] w fun e w' => e = .returned (.bool true) ∧ Gr w w' := by
  obtain ⟨v1, v2, v3, v4, v5, v6⟩ := (Ck.vld_iff y m d).1 hv
  obtain ⟨b0, b1⟩ := Ck.num_bd hv
  have ml := Ck.mlen_bd y m
  have d31 : d ≤ 31 := by omega
  have HN := Lib.hid (fun W => number_any y m d W hv)
  obtain ⟨h2, h3⟩ := Ck.next_year hv h1 hm hl
  have y98 : y ≤ 9998 := by obtain ⟨_, v7, _, _, _, _⟩ := (Ck.vld_iff (y + 1) 1 1).1 h2; omega
  have HD := Lib.hid (fun W => dateof_any (Ck.num y m d + 1) (y + 1) 1 1 W h2 h3)
  have hva := fun W => valid_any y m (d + 1) W
  rw [h1] at hva
  have hvb := fun W => valid_any y (m + 1) 1 W
  rw [Ck.next_month_no hv hm] at hvb
  have HVA := Lib.hid hva; have HVB := Lib.hid hvb; clear hva hvb h2 h3
  clear hv v6
  have hy' : decide (y ≤ 9599) = false := decide_eq_false hy
  generalize Ck.num y m d = k at *
  go_enter Tryd.func7, Tryd.ntmps7
  
  go_wp2_with fail; refine (awake_any _).mono ?_; rintro e w1 ⟨rfl, hb1⟩; obtain ⟨hc1, hf1⟩ := Gr.cells hb1; have hz1 := Gr.size hb1; (try simp at hz1); (try have hy1_0 : w.heap.size < w1.heap.size := by omega); (try have hy1_1 : w.heap.size + 1 < w1.heap.size := by omega); (try have hy1_2 : w.heap.size + 1 + 1 < w1.heap.size := by omega); (try have hy1_3 : w.heap.size + 1 + 1 + 1 < w1.heap.size := by omega); (try have hy1_4 : w.heap.size + 1 + 1 + 1 + 1 < w1.heap.size := by omega); (try have hy1_5 : w.heap.size + 1 + 1 + 1 + 1 + 1 < w1.heap.size := by omega)
  have kc1_0 := hc1 (w.heap.size) 0 (by first | omega | (simp; done) | (simp; omega))
  have kc1_1 := hc1 (w.heap.size) 1 (by first | omega | (simp; done) | (simp; omega))
  have kc1_2 := hc1 (w.heap.size) 2 (by first | omega | (simp; done) | (simp; omega))
  clear hc1
  (try simp [go_sem, *] at kc1_0)
  (try simp [go_sem, *] at kc1_1)
  (try simp [go_sem, *] at kc1_2)
  go_wp2_with fail; refine (HN.out _).mono ?_; rintro e w2 ⟨rfl, hb2⟩; obtain ⟨hc2, hf2⟩ := Gr.cells hb2; have hz2 := Gr.size hb2; (try simp at hz2); (try have hy2_0 : w.heap.size < w2.heap.size := by omega); (try have hy2_1 : w.heap.size + 1 < w2.heap.size := by omega); (try have hy2_2 : w.heap.size + 1 + 1 < w2.heap.size := by omega); (try have hy2_3 : w.heap.size + 1 + 1 + 1 < w2.heap.size := by omega); (try have hy2_4 : w.heap.size + 1 + 1 + 1 + 1 < w2.heap.size := by omega); (try have hy2_5 : w.heap.size + 1 + 1 + 1 + 1 + 1 < w2.heap.size := by omega); (try have hy2_1_0 : w1.heap.size < w2.heap.size := by omega); (try have hy2_1_1 : w1.heap.size + 1 < w2.heap.size := by omega)
  have kc2_0 := hc2 (w.heap.size) 0 (by first | omega | (simp; done) | (simp; omega))
  have kc2_1 := hc2 (w.heap.size) 1 (by first | omega | (simp; done) | (simp; omega))
  have kc2_2 := hc2 (w.heap.size) 2 (by first | omega | (simp; done) | (simp; omega))
  clear hc2
  (try simp [go_sem, *] at kc2_0)
  (try simp [go_sem, *] at kc2_1)
  (try simp [go_sem, *] at kc2_2)
  go_wp2_with fail; refine (HD.out _).mono ?_; rintro e w3 ⟨rfl, hb3⟩; obtain ⟨hc3, hf3⟩ := Gr.cells hb3; have hz3 := Gr.size hb3; (try simp at hz3); (try have hy3_0 : w.heap.size < w3.heap.size := by omega); (try have hy3_1 : w.heap.size + 1 < w3.heap.size := by omega); (try have hy3_2 : w.heap.size + 1 + 1 < w3.heap.size := by omega); (try have hy3_3 : w.heap.size + 1 + 1 + 1 < w3.heap.size := by omega); (try have hy3_4 : w.heap.size + 1 + 1 + 1 + 1 < w3.heap.size := by omega); (try have hy3_5 : w.heap.size + 1 + 1 + 1 + 1 + 1 < w3.heap.size := by omega); (try have hy3_1_0 : w1.heap.size < w3.heap.size := by omega); (try have hy3_1_1 : w1.heap.size + 1 < w3.heap.size := by omega); (try have hy3_2_0 : w2.heap.size < w3.heap.size := by omega); (try have hy3_2_1 : w2.heap.size + 1 < w3.heap.size := by omega)
  have kc3_0 := hc3 (w.heap.size) 0 (by first | omega | (simp; done) | (simp; omega))
  have kc3_1 := hc3 (w.heap.size) 1 (by first | omega | (simp; done) | (simp; omega))
  have kc3_2 := hc3 (w.heap.size) 2 (by first | omega | (simp; done) | (simp; omega))
  clear hc3
  (try simp [go_sem, *] at kc3_0)
  (try simp [go_sem, *] at kc3_1)
  (try simp [go_sem, *] at kc3_2)
  
  
  go_wp2_with fail; refine (HVA.out _).mono ?_; rintro e w4 ⟨rfl, hb4⟩; obtain ⟨hc4, hf4⟩ := Gr.cells hb4; have hz4 := Gr.size hb4; (try simp at hz4); (try have hy4_0 : w.heap.size < w4.heap.size := by omega); (try have hy4_1 : w.heap.size + 1 < w4.heap.size := by omega); (try have hy4_2 : w.heap.size + 1 + 1 < w4.heap.size := by omega); (try have hy4_3 : w.heap.size + 1 + 1 + 1 < w4.heap.size := by omega); (try have hy4_4 : w.heap.size + 1 + 1 + 1 + 1 < w4.heap.size := by omega); (try have hy4_5 : w.heap.size + 1 + 1 + 1 + 1 + 1 < w4.heap.size := by omega); (try have hy4_1_0 : w1.heap.size < w4.heap.size := by omega); (try have hy4_1_1 : w1.heap.size + 1 < w4.heap.size := by omega); (try have hy4_2_0 : w2.heap.size < w4.heap.size := by omega); (try have hy4_2_1 : w2.heap.size + 1 < w4.heap.size := by omega); (try have hy4_3_0 : w3.heap.size < w4.heap.size := by omega); (try have hy4_3_1 : w3.heap.size + 1 < w4.heap.size := by omega)
  have kc4_0 := hc4 (w.heap.size) 0 (by first | omega | (simp; done) | (simp; omega))
  have kc4_1 := hc4 (w.heap.size) 1 (by first | omega | (simp; done) | (simp; omega))
  have kc4_2 := hc4 (w.heap.size) 2 (by first | omega | (simp; done) | (simp; omega))
  have kc4_3 := hc4 (w3.heap.size) 0 (by first | omega | (simp; done) | (simp; omega))
  have kc4_4 := hc4 (w3.heap.size) 1 (by first | omega | (simp; done) | (simp; omega))
  have kc4_5 := hc4 (w3.heap.size) 2 (by first | omega | (simp; done) | (simp; omega))
  have kc4_6 := hc4 (w3.heap.size + 1) 0 (by first | omega | (simp; done) | (simp; omega))
  have kc4_7 := hc4 (w3.heap.size + 1) 1 (by first | omega | (simp; done) | (simp; omega))
  have kc4_8 := hc4 (w3.heap.size + 1) 2 (by first | omega | (simp; done) | (simp; omega))
  clear hc4
  (try simp [go_sem, *] at kc4_0)
  (try simp [go_sem, *] at kc4_1)
  (try simp [go_sem, *] at kc4_2)
  (try simp [go_sem, *] at kc4_3)
  (try simp [go_sem, *] at kc4_4)
  (try simp [go_sem, *] at kc4_5)
  (try simp [go_sem, *] at kc4_6)
  (try simp [go_sem, *] at kc4_7)
  (try simp [go_sem, *] at kc4_8)
  have kf4_0 := hf4 (w3.heap.size + 1) 0 (by first | omega | (simp; done) | (simp; omega))
  have kf4_1 := hf4 (w3.heap.size + 1) 1 (by first | omega | (simp; done) | (simp; omega))
  have kf4_2 := hf4 (w3.heap.size + 1) 2 (by first | omega | (simp; done) | (simp; omega))
  clear hf4
  (try simp [go_sem, *] at kf4_0)
  (try simp [go_sem, *] at kf4_1)
  (try simp [go_sem, *] at kf4_2)
  
  
  go_wp2_with fail; refine (HVB.out _).mono ?_; rintro e w5 ⟨rfl, hb5⟩; obtain ⟨hc5, hf5⟩ := Gr.cells hb5; have hz5 := Gr.size hb5; (try simp at hz5); (try have hy5_0 : w.heap.size < w5.heap.size := by omega); (try have hy5_1 : w.heap.size + 1 < w5.heap.size := by omega); (try have hy5_2 : w.heap.size + 1 + 1 < w5.heap.size := by omega); (try have hy5_3 : w.heap.size + 1 + 1 + 1 < w5.heap.size := by omega); (try have hy5_4 : w.heap.size + 1 + 1 + 1 + 1 < w5.heap.size := by omega); (try have hy5_5 : w.heap.size + 1 + 1 + 1 + 1 + 1 < w5.heap.size := by omega); (try have hy5_1_0 : w1.heap.size < w5.heap.size := by omega); (try have hy5_1_1 : w1.heap.size + 1 < w5.heap.size := by omega); (try have hy5_2_0 : w2.heap.size < w5.heap.size := by omega); (try have hy5_2_1 : w2.heap.size + 1 < w5.heap.size := by omega); (try have hy5_3_0 : w3.heap.size < w5.heap.size := by omega); (try have hy5_3_1 : w3.heap.size + 1 < w5.heap.size := by omega); (try have hy5_4_0 : w4.heap.size < w5.heap.size := by omega); (try have hy5_4_1 : w4.heap.size + 1 < w5.heap.size := by omega)
  have kc5_0 := hc5 (w.heap.size) 0 (by first | omega | (simp; done) | (simp; omega))
  have kc5_1 := hc5 (w.heap.size) 1 (by first | omega | (simp; done) | (simp; omega))
  have kc5_2 := hc5 (w.heap.size) 2 (by first | omega | (simp; done) | (simp; omega))
  have kc5_3 := hc5 (w3.heap.size) 0 (by first | omega | (simp; done) | (simp; omega))
  have kc5_4 := hc5 (w3.heap.size) 1 (by first | omega | (simp; done) | (simp; omega))
  have kc5_5 := hc5 (w3.heap.size) 2 (by first | omega | (simp; done) | (simp; omega))
  have kc5_6 := hc5 (w3.heap.size + 1) 0 (by first | omega | (simp; done) | (simp; omega))
  have kc5_7 := hc5 (w3.heap.size + 1) 1 (by first | omega | (simp; done) | (simp; omega))
  have kc5_8 := hc5 (w3.heap.size + 1) 2 (by first | omega | (simp; done) | (simp; omega))
  clear hc5
  (try simp [go_sem, *] at kc5_0)
  (try simp [go_sem, *] at kc5_1)
  (try simp [go_sem, *] at kc5_2)
  (try simp [go_sem, *] at kc5_3)
  (try simp [go_sem, *] at kc5_4)
  (try simp [go_sem, *] at kc5_5)
  (try simp [go_sem, *] at kc5_6)
  (try simp [go_sem, *] at kc5_7)
  (try simp [go_sem, *] at kc5_8)
  have kf5_0 := hf5 (w3.heap.size + 1) 0 (by first | omega | (simp; done) | (simp; omega))
  have kf5_1 := hf5 (w3.heap.size + 1) 1 (by first | omega | (simp; done) | (simp; omega))
  have kf5_2 := hf5 (w3.heap.size + 1) 2 (by first | omega | (simp; done) | (simp; omega))
  clear hf5
  (try simp [go_sem, *] at kf5_0)
  (try simp [go_sem, *] at kf5_1)
  (try simp [go_sem, *] at kf5_2)
  go_wp2
  go_ret
  exact ⟨rfl, (by repeat' (first | (with_reducible exact Gr.refl _) | (with_reducible assumption) | (with_reducible refine Gr.alloc ?_ _) | (with_reducible refine Gr.drew ?_) | (with_reducible refine Gr.drewN ?_ _) | (with_reducible refine Gr.setCell ?_ ?_ _) | (with_reducible refine Gr.trans ?_ (by with_reducible assumption)) | go_size))⟩
set_option maxRecDepth 100000 in
set_option maxHeartbeats 4000000 in
theorem next_l_last (y m d : Int) (w : World) (hv : Ck.vld y m d = true) (hy : ¬ y ≤ 9599) (hl : y = 9999 ∧ m = 12 ∧ d = 31) :
    Calls Tryd.prog 7 #[.agg #[.int .i64 y, .int .i64 m, .int .i64 d]] w fun e w' => e = .returned (.bool true) ∧ Gr w w' := by
  obtain ⟨v1, v2, v3, v4, v5, v6⟩ := (Ck.vld_iff y m d).1 hv
  obtain ⟨b0, b1⟩ := Ck.num_bd hv
  have ml := Ck.mlen_bd y m
  have d31 : d ≤ 31 := by omega
  have HN := Lib.hid (fun W => number_any y m d W hv)
  have hlast : Ck.num y m d = 2921939 := by obtain ⟨rfl, rfl, rfl⟩ := hl; exact Ck.last_num
  have HD := Lib.hid (fun W => dateof_bad (Ck.num y m d + 1) W (by omega))
  clear hv v6 hlast
  have hy' : decide (y ≤ 9599) = false := decide_eq_false hy
  generalize Ck.num y m d = k at *
  obtain ⟨rfl, rfl, rfl⟩ := hl
  go_enter Tryd.func7, Tryd.ntmps7
  
  go_wp2_with fail; refine (awake_any _).mono ?_; rintro e w1 ⟨rfl, hb1⟩; obtain ⟨hc1, hf1⟩ := Gr.cells hb1; have hz1 := Gr.size hb1; (try simp at hz1); (try have hy1_0 : w.heap.size < w1.heap.size := by omega); (try have hy1_1 : w.heap.size + 1 < w1.heap.size := by omega); (try have hy1_2 : w.heap.size + 1 + 1 < w1.heap.size := by omega); (try have hy1_3 : w.heap.size + 1 + 1 + 1 < w1.heap.size := by omega); (try have hy1_4 : w.heap.size + 1 + 1 + 1 + 1 < w1.heap.size := by omega); (try have hy1_5 : w.heap.size + 1 + 1 + 1 + 1 + 1 < w1.heap.size := by omega)
  have kc1_0 := hc1 (w.heap.size) 0 (by first | omega | (simp; done) | (simp; omega))
  have kc1_1 := hc1 (w.heap.size) 1 (by first | omega | (simp; done) | (simp; omega))
  have kc1_2 := hc1 (w.heap.size) 2 (by first | omega | (simp; done) | (simp; omega))
  clear hc1
  (try simp [go_sem, *] at kc1_0)
  (try simp [go_sem, *] at kc1_1)
  (try simp [go_sem, *] at kc1_2)
  go_wp2_with fail; refine (HN.out _).mono ?_; rintro e w2 ⟨rfl, hb2⟩; obtain ⟨hc2, hf2⟩ := Gr.cells hb2; have hz2 := Gr.size hb2; (try simp at hz2); (try have hy2_0 : w.heap.size < w2.heap.size := by omega); (try have hy2_1 : w.heap.size + 1 < w2.heap.size := by omega); (try have hy2_2 : w.heap.size + 1 + 1 < w2.heap.size := by omega); (try have hy2_3 : w.heap.size + 1 + 1 + 1 < w2.heap.size := by omega); (try have hy2_4 : w.heap.size + 1 + 1 + 1 + 1 < w2.heap.size := by omega); (try have hy2_5 : w.heap.size + 1 + 1 + 1 + 1 + 1 < w2.heap.size := by omega); (try have hy2_1_0 : w1.heap.size < w2.heap.size := by omega); (try have hy2_1_1 : w1.heap.size + 1 < w2.heap.size := by omega)
  have kc2_0 := hc2 (w.heap.size) 0 (by first | omega | (simp; done) | (simp; omega))
  have kc2_1 := hc2 (w.heap.size) 1 (by first | omega | (simp; done) | (simp; omega))
  have kc2_2 := hc2 (w.heap.size) 2 (by first | omega | (simp; done) | (simp; omega))
  clear hc2
  (try simp [go_sem, *] at kc2_0)
  (try simp [go_sem, *] at kc2_1)
  (try simp [go_sem, *] at kc2_2)
  go_wp2_with fail; refine (HD.out _).mono ?_; rintro e w3 ⟨rfl, hb3⟩; obtain ⟨hc3, hf3⟩ := Gr.cells hb3; have hz3 := Gr.size hb3; (try simp at hz3); (try have hy3_0 : w.heap.size < w3.heap.size := by omega); (try have hy3_1 : w.heap.size + 1 < w3.heap.size := by omega); (try have hy3_2 : w.heap.size + 1 + 1 < w3.heap.size := by omega); (try have hy3_3 : w.heap.size + 1 + 1 + 1 < w3.heap.size := by omega); (try have hy3_4 : w.heap.size + 1 + 1 + 1 + 1 < w3.heap.size := by omega); (try have hy3_5 : w.heap.size + 1 + 1 + 1 + 1 + 1 < w3.heap.size := by omega); (try have hy3_1_0 : w1.heap.size < w3.heap.size := by omega); (try have hy3_1_1 : w1.heap.size + 1 < w3.heap.size := by omega); (try have hy3_2_0 : w2.heap.size < w3.heap.size := by omega); (try have hy3_2_1 : w2.heap.size + 1 < w3.heap.size := by omega)
  have kc3_0 := hc3 (w.heap.size) 0 (by first | omega | (simp; done) | (simp; omega))
  have kc3_1 := hc3 (w.heap.size) 1 (by first | omega | (simp; done) | (simp; omega))
  have kc3_2 := hc3 (w.heap.size) 2 (by first | omega | (simp; done) | (simp; omega))
  clear hc3
  (try simp [go_sem, *] at kc3_0)
  (try simp [go_sem, *] at kc3_1)
  (try simp [go_sem, *] at kc3_2)
  go_wp2
  go_ret
  exact ⟨rfl, (by repeat' (first | (with_reducible exact Gr.refl _) | (with_reducible assumption) | (with_reducible refine Gr.alloc ?_ _) | (with_reducible refine Gr.drew ?_) | (with_reducible refine Gr.drewN ?_ _) | (with_reducible refine Gr.setCell ?_ ?_ _) | (with_reducible refine Gr.trans ?_ (by with_reducible assumption)) | go_size))⟩
theorem next_any (y m d : Int) (w : World) :
    Calls Tryd.prog 7 #[.agg #[.int .i64 y, .int .i64 m, .int .i64 d]] w fun e w' => e = .returned (.bool true) ∧ Gr w w' := by
  cases hv : Ck.vld y m d
  · exact next_bad y m d w hv
  · by_cases hl : y = 9999 ∧ m = 12 ∧ d = 31
    · exact next_l_last y m d w hv (by omega) hl
    · by_cases hy : y ≤ 9599
      · cases h1 : Ck.vld y m (d + 1)
        · by_cases hm : m ≤ 11
          · exact next_e_month y m d w hv hy hl h1 hm
          · exact next_e_year y m d w hv hy hl h1 (by omega)
        · exact next_e_day y m d w hv hy hl h1
      · cases h1 : Ck.vld y m (d + 1)
        · by_cases hm : m ≤ 11
          · exact next_l_month y m d w hv hy hl h1 hm
          · exact next_l_year y m d w hv hy hl h1 (by omega)
        · exact next_l_day y m d w hv hy hl h1
end Go.Proofs.YtlcbjkkcfenlmaaDoor
