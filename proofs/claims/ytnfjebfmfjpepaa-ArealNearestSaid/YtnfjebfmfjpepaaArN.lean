/-
  Law 22: ArealNearest. (Printed by mkn.py.)
-/
import Derived.Test.YtnfjebfmfjpepaaArI
import Derived.Test.YtnfjebfmfjpepaaArM
set_option linter.unusedVariables false
set_option linter.unusedSimpArgs false
namespace Go.Proofs.Ytnfjebfmfjpepaa
open Go.RowKit
attribute [local go_sem ↓] Go.wp_at_zero Go.wp_at_succ
theorem nil_sl {w : World} : Ba.SlI.At w ⟨none, 0, 0, 0, 0, fun _ => 0⟩ := ⟨fun h => absurd h (by simp), Nat.le_refl _, by simp, fun i hi => absurd hi (by simp)⟩
theorem eq_nil (w : World) : Calls Try.prog 15 #[.slice none 0 0, .slice none 0 0] w fun e w' => e = .returned (.bool true) ∧ Gr w w' := equal_any ⟨none, 0, 0, 0, 0, fun _ => 0⟩ ⟨none, 0, 0, 0, 0, fun _ => 0⟩ w nil_sl nil_sl
set_option maxRecDepth 100000 in
set_option maxHeartbeats 4000000 in
theorem nearest_far (G : Ba.SlGauge) (px py : Int) (w : World) (h : G.At w) (hm0 : Ba.manB G = true) : Calls Try.prog 3 #[.slice G.A G.n G.c, .agg #[.int .i64 px, .int .i64 py]] w fun e w' => e = .returned (.bool true) ∧ Gr w w' := by
  have HM := Lib.hid (fun W (hh : Gr w W) => many_any G W (h.gr hh))
  rw [hm0] at HM
  have hm := Nat.le_trans h.hc h.hb
  clear h hm0
  generalize G.A = A at *; generalize G.n = n at *; generalize G.c = c at *
  go_enter Try.func3, Try.ntmps3
  go_wp2_with fail
  (first | refine name_world ?_ | refine (show (∀ W, W = _ → Calls _ _ _ W _) → Calls _ _ _ _ _ from fun h => h _ rfl) ?_); intro W1 hW1
  have g1 : Gr w W1 := by rw [hW1]; exact gr_auto
  have k1_0 : W1.cell? ⟨w.heap.size, 0, none⟩ = some (.int .i64 px) := by rw [hW1]; first | (simp [go_sem, *]; done) | (refine Gr.at ?_ (by assumption); exact gr_auto)
  have b1_0 : w.heap.size < W1.heap.size := World.block_lt_of_cell? _ _ k1_0
  have k1_1 : W1.cell? ⟨w.heap.size, 1, none⟩ = some (.int .i64 py) := by rw [hW1]; first | (simp [go_sem, *]; done) | (refine Gr.at ?_ (by assumption); exact gr_auto)
  clear hW1
  refine (awake_any _).mono ?_
  rintro e w2 ⟨rfl, hb2⟩
  have g2 := g1.trans hb2
  have d0 := Gr.at hb2 k1_0; have d1 := Gr.at hb2 k1_1
  clear k1_0 k1_1
  go_wp2_with fail
  refine (HM.out _ g2).mono ?_
  rintro e w3 ⟨rfl, hb3⟩
  have g3 := g2.trans hb3
  replace d0 := Gr.at hb3 d0; replace d1 := Gr.at hb3 d1
  clear HM
  go_wp2_with fail
  go_ret
  exact ⟨rfl, g3⟩

set_option maxRecDepth 100000 in
set_option maxHeartbeats 4000000 in
theorem nearest_no (G : Ba.SlGauge) (px py : Int) (w : World) (h : G.At w) (hm0 : Ba.manB G = false) (he : Ba.neE G px py ≠ 0) : Calls Try.prog 3 #[.slice G.A G.n G.c, .agg #[.int .i64 px, .int .i64 py]] w fun e w' => e = .returned (.bool true) ∧ Gr w w' := by
  have HM := Lib.hid (fun W (hh : Gr w W) => many_any G W (h.gr hh))
  rw [hm0] at HM
  have hm := Nat.le_trans h.hc h.hb
  have HV := Lib.hid (fun W (hh : Gr w W) => gvals_any G W (h.gr hh))
  have HRV := Lib.hid (fun W (hh : Gr w W) => rgvals_any G W (h.gr hh))
  have HN := Lib.hid (fun W (hh : Gr w W) => ne_no G px py W (h.gr hh) he)
  have HI := Lib.hid (fun W (hh : Gr w W) => inv_no G px py W (h.gr hh) he)
  have HRI := Lib.hid (fun W (hh : Gr w W) => rinv_no G px py W (h.gr hh) he)
  have HP := Lib.hid (fun W (_ : Gr w W) => rpvalid_any px py W)
  have HQ := Lib.hid (fun W (_ : Gr w W) => eq_nil W)
  unfold Ba.neE at he
  clear hm0 h
  cases t0 : Ba.gasB G
  · rw [t0] at HV HRV
    clear he t0 HP
    generalize G.A = A at *; generalize G.n = n at *; generalize G.c = c at *
    go_enter Try.func3, Try.ntmps3
    go_wp2_with fail
    (first | refine name_world ?_ | refine (show (∀ W, W = _ → Calls _ _ _ W _) → Calls _ _ _ _ _ from fun h => h _ rfl) ?_); intro W1 hW1
    have g1 : Gr w W1 := by rw [hW1]; exact gr_auto
    have k1_0 : W1.cell? ⟨w.heap.size, 0, none⟩ = some (.int .i64 px) := by rw [hW1]; first | (simp [go_sem, *]; done) | (refine Gr.at ?_ (by assumption); exact gr_auto)
    have b1_0 : w.heap.size < W1.heap.size := World.block_lt_of_cell? _ _ k1_0
    have k1_1 : W1.cell? ⟨w.heap.size, 1, none⟩ = some (.int .i64 py) := by rw [hW1]; first | (simp [go_sem, *]; done) | (refine Gr.at ?_ (by assumption); exact gr_auto)
    clear hW1
    refine (awake_any _).mono ?_
    rintro e w2 ⟨rfl, hb2⟩
    have g2 := g1.trans hb2
    have d0 := Gr.at hb2 k1_0; have d1 := Gr.at hb2 k1_1
    clear k1_0 k1_1
    go_wp2_with fail
    refine (HM.out _ g2).mono ?_
    rintro e w3 ⟨rfl, hb3⟩
    have g3 := g2.trans hb3
    replace d0 := Gr.at hb3 d0; replace d1 := Gr.at hb3 d1
    clear HM
    go_wp2_with fail
    refine (HRV.out _ g3).mono ?_
    rintro e w4 ⟨rfl, hb4⟩
    have g4 := g3.trans hb4
    replace d0 := Gr.at hb4 d0; replace d1 := Gr.at hb4 d1
    clear HRV
    go_wp2_with fail
    refine (HN.out _ g4).mono ?_
    rintro e w5 ⟨rfl, hb5⟩
    have g5 := g4.trans hb5
    replace d0 := Gr.at hb5 d0; replace d1 := Gr.at hb5 d1
    clear HN
    go_wp2_with fail
    refine (HI.out _ g5).mono ?_
    rintro e w6 ⟨rfl, hb6⟩
    have g6 := g5.trans hb6
    replace d0 := Gr.at hb6 d0; replace d1 := Gr.at hb6 d1
    clear HI
    go_wp2_with fail
    refine (HRI.out _ g6).mono ?_
    rintro e w7 ⟨rfl, hb7⟩
    have g7 := g6.trans hb7
    replace d0 := Gr.at hb7 d0; replace d1 := Gr.at hb7 d1
    clear HRI
    go_wp2_with fail
    refine (HV.out _ g7).mono ?_
    rintro e w8 ⟨rfl, hb8⟩
    have g8 := g7.trans hb8
    replace d0 := Gr.at hb8 d0; replace d1 := Gr.at hb8 d1
    clear HV
    go_wp2_with fail
    refine (HQ.out _ g8).mono ?_
    rintro e w9 ⟨rfl, hb9⟩
    have g9 := g8.trans hb9
    replace d0 := Gr.at hb9 d0; replace d1 := Gr.at hb9 d1
    clear HQ
    go_wp2_with fail
    go_ret
    exact ⟨rfl, g9⟩
  · have t1 : Ba.ptB px py = false := by
      cases t1 : Ba.ptB px py
      · rfl
      · rw [t0, t1] at he; exact absurd rfl he
    rw [t0] at HV HRV
    rw [t1] at HP
    clear he t0 t1
    generalize G.A = A at *; generalize G.n = n at *; generalize G.c = c at *
    go_enter Try.func3, Try.ntmps3
    go_wp2_with fail
    (first | refine name_world ?_ | refine (show (∀ W, W = _ → Calls _ _ _ W _) → Calls _ _ _ _ _ from fun h => h _ rfl) ?_); intro W1 hW1
    have g1 : Gr w W1 := by rw [hW1]; exact gr_auto
    have k1_0 : W1.cell? ⟨w.heap.size, 0, none⟩ = some (.int .i64 px) := by rw [hW1]; first | (simp [go_sem, *]; done) | (refine Gr.at ?_ (by assumption); exact gr_auto)
    have b1_0 : w.heap.size < W1.heap.size := World.block_lt_of_cell? _ _ k1_0
    have k1_1 : W1.cell? ⟨w.heap.size, 1, none⟩ = some (.int .i64 py) := by rw [hW1]; first | (simp [go_sem, *]; done) | (refine Gr.at ?_ (by assumption); exact gr_auto)
    clear hW1
    refine (awake_any _).mono ?_
    rintro e w2 ⟨rfl, hb2⟩
    have g2 := g1.trans hb2
    have d0 := Gr.at hb2 k1_0; have d1 := Gr.at hb2 k1_1
    clear k1_0 k1_1
    go_wp2_with fail
    refine (HM.out _ g2).mono ?_
    rintro e w3 ⟨rfl, hb3⟩
    have g3 := g2.trans hb3
    replace d0 := Gr.at hb3 d0; replace d1 := Gr.at hb3 d1
    clear HM
    go_wp2_with fail
    refine (HRV.out _ g3).mono ?_
    rintro e w4 ⟨rfl, hb4⟩
    have g4 := g3.trans hb4
    replace d0 := Gr.at hb4 d0; replace d1 := Gr.at hb4 d1
    clear HRV
    go_wp2_with fail
    refine (HN.out _ g4).mono ?_
    rintro e w5 ⟨rfl, hb5⟩
    have g5 := g4.trans hb5
    replace d0 := Gr.at hb5 d0; replace d1 := Gr.at hb5 d1
    clear HN
    go_wp2_with fail
    refine (HI.out _ g5).mono ?_
    rintro e w6 ⟨rfl, hb6⟩
    have g6 := g5.trans hb6
    replace d0 := Gr.at hb6 d0; replace d1 := Gr.at hb6 d1
    clear HI
    go_wp2_with fail
    refine (HRI.out _ g6).mono ?_
    rintro e w7 ⟨rfl, hb7⟩
    have g7 := g6.trans hb7
    replace d0 := Gr.at hb7 d0; replace d1 := Gr.at hb7 d1
    clear HRI
    go_wp2_with fail
    refine (HV.out _ g7).mono ?_
    rintro e w8 ⟨rfl, hb8⟩
    have g8 := g7.trans hb8
    replace d0 := Gr.at hb8 d0; replace d1 := Gr.at hb8 d1
    clear HV
    go_wp2_with fail
    refine (HQ.out _ g8).mono ?_
    rintro e w9 ⟨rfl, hb9⟩
    have g9 := g8.trans hb9
    replace d0 := Gr.at hb9 d0; replace d1 := Gr.at hb9 d1
    clear HQ
    go_wp2_with fail
    refine (HP.out _ g9).mono ?_
    rintro e w10 ⟨rfl, hb10⟩
    have g10 := g9.trans hb10
    replace d0 := Gr.at hb10 d0; replace d1 := Gr.at hb10 d1
    clear HP
    go_wp2_with fail
    go_ret
    exact ⟨rfl, g10⟩

set_option maxRecDepth 100000 in
set_option maxHeartbeats 4000000 in
theorem nearest_ok (G : Ba.SlGauge) (px py : Int) (w : World) (h : G.At w) (hm0 : Ba.manB G = false) (hv : Ba.gasB G = true) (hp : Ba.ptB px py = true) : Calls Try.prog 3 #[.slice G.A G.n G.c, .agg #[.int .i64 px, .int .i64 py]] w fun e w' => e = .returned (.bool true) ∧ Gr w w' := by
  have HM := Lib.hid (fun W (hh : Gr w W) => many_any G W (h.gr hh))
  rw [hm0] at HM
  have hm := Nat.le_trans h.hc h.hb
  have HV := Lib.hid (fun W (hh : Gr w W) => gvals_any G W (h.gr hh))
  have HRV := Lib.hid (fun W (hh : Gr w W) => rgvals_any G W (h.gr hh))
  have HN := Lib.hid (fun W (hh : Gr w W) => ne_ok G px py W (h.gr hh) hv hp)
  have HI := Lib.hid (fun W (hh : Gr w W) => inv_any G px py W (h.gr hh) hv hp)
  have HRI := Lib.hid (fun W (hh : Gr w W) => rinv_any G px py W (h.gr hh) hv hp)
  have HP := Lib.hid (fun W (_ : Gr w W) => rpvalid_any px py W)
  have HRN := Lib.hid (fun W (hh : Gr w W) => rne_any G px py W (h.gr hh) hv hp)
  unfold RetInv at HI HRI
  rw [hv] at HV HRV
  rw [hp] at HP
  clear hm0 h hv hp
  generalize Ba.nst G px py G.n = ns at *
  generalize Ba.ivX G px py = iv at *
  generalize G.A = A at *; generalize G.n = n at *; generalize G.c = c at *
  go_enter Try.func3, Try.ntmps3
  go_wp2_with fail
  (first | refine name_world ?_ | refine (show (∀ W, W = _ → Calls _ _ _ W _) → Calls _ _ _ _ _ from fun h => h _ rfl) ?_); intro W1 hW1
  have g1 : Gr w W1 := by rw [hW1]; exact gr_auto
  have k1_0 : W1.cell? ⟨w.heap.size, 0, none⟩ = some (.int .i64 px) := by rw [hW1]; first | (simp [go_sem, *]; done) | (refine Gr.at ?_ (by assumption); exact gr_auto)
  have b1_0 : w.heap.size < W1.heap.size := World.block_lt_of_cell? _ _ k1_0
  have k1_1 : W1.cell? ⟨w.heap.size, 1, none⟩ = some (.int .i64 py) := by rw [hW1]; first | (simp [go_sem, *]; done) | (refine Gr.at ?_ (by assumption); exact gr_auto)
  clear hW1
  refine (awake_any _).mono ?_
  rintro e w2 ⟨rfl, hb2⟩
  have g2 := g1.trans hb2
  have d0 := Gr.at hb2 k1_0; have d1 := Gr.at hb2 k1_1
  clear k1_0 k1_1
  go_wp2_with fail
  refine (HM.out _ g2).mono ?_
  rintro e w3 ⟨rfl, hb3⟩
  have g3 := g2.trans hb3
  replace d0 := Gr.at hb3 d0; replace d1 := Gr.at hb3 d1
  clear HM
  go_wp2_with fail
  refine (HRV.out _ g3).mono ?_
  rintro e w4 ⟨rfl, hb4⟩
  have g4 := g3.trans hb4
  replace d0 := Gr.at hb4 d0; replace d1 := Gr.at hb4 d1
  clear HRV
  go_wp2_with fail
  refine (HN.out _ g4).mono ?_
  rintro e w5 ⟨rfl, hb5⟩
  have g5 := g4.trans hb5
  replace d0 := Gr.at hb5 d0; replace d1 := Gr.at hb5 d1
  clear HN
  go_wp2_with fail
  refine (HI.out _ g5).mono ?_
  rintro e w6 ⟨r, rfl, r1, r2, r3, hb6⟩
  replace r1 := Lib.hid r1; replace r2 := Lib.hid r2; replace r3 := Lib.hid r3
  have g6 := g5.trans hb6
  replace d0 := Gr.at hb6 d0; replace d1 := Gr.at hb6 d1
  clear HI
  go_wp2_with fail
  refine (HRI.out _ g6).mono ?_
  rintro e w7 ⟨q, rfl, q1, q2, q3, hb7⟩
  replace q1 := Lib.hid q1; replace q2 := Lib.hid q2; replace q3 := Lib.hid q3
  have g7 := g6.trans hb7
  replace d0 := Gr.at hb7 d0; replace d1 := Gr.at hb7 d1
  clear HRI
  go_wp2_with fail
  refine (HV.out _ g7).mono ?_
  rintro e w8 ⟨rfl, hb8⟩
  have g8 := g7.trans hb8
  replace d0 := Gr.at hb8 d0; replace d1 := Gr.at hb8 d1
  clear HV
  go_wp2_with fail
  have HQ := Lib.hid (fun W (hh : Gr w8 W) => show Calls Try.prog 15 #[.slice r.A r.n r.c, .slice q.A q.n q.c] W fun e w' => e = .returned (.bool true) ∧ Gr W w' from by
    have z := equal_any r q W (r1.out.gr (hb7.trans (hb8.trans hh))) (q1.out.gr (hb8.trans hh))
    rw [Ba.eqI_of (a := r) (b := q) (r2.out.trans q2.out.symm) fun i hi => (r3.out i (by rw [← r2.out]; exact hi)).trans (q3.out i (by rw [← r2.out]; exact hi)).symm] at z
    exact z)
  refine (HQ.out _ (Gr.refl _)).mono ?_
  rintro e w9 ⟨rfl, hb9⟩
  have g9 := g8.trans hb9
  replace d0 := Gr.at hb9 d0; replace d1 := Gr.at hb9 d1
  clear HQ
  go_wp2_with fail
  refine (HP.out _ g9).mono ?_
  rintro e w10 ⟨rfl, hb10⟩
  have g10 := g9.trans hb10
  replace d0 := Gr.at hb10 d0; replace d1 := Gr.at hb10 d1
  clear HP
  go_wp2_with fail
  refine (HRN.out _ g10).mono ?_
  rintro e w11 ⟨rfl, hb11⟩
  have g11 := g10.trans hb11
  replace d0 := Gr.at hb11 d0; replace d1 := Gr.at hb11 d1
  clear HRN
  go_wp2_with fail
  go_ret
  exact ⟨rfl, g11⟩

theorem nearest_law (G : Ba.SlGauge) (px py : Int) (w : World) (h : G.At w) (_ : Ba.i64 px) (_ : Ba.i64 py) : Calls Try.prog 3 #[.slice G.A G.n G.c, .agg #[.int .i64 px, .int .i64 py]] w fun e w' => e = .returned (.bool true) ∧ Gr w w' := by
  cases hm0 : Ba.manB G
  · by_cases he : Ba.neE G px py = 0
    · have e := he
      unfold Ba.neE at e
      cases t0 : Ba.gasB G
      · rw [t0] at e; simp at e
      · cases t1 : Ba.ptB px py
        · rw [t0, t1] at e; simp at e
        · exact nearest_ok G px py w h hm0 t0 t1
    · exact nearest_no G px py w h hm0 he
  · exact nearest_far G px py w h hm0
end Go.Proofs.Ytnfjebfmfjpepaa
