/-
  BalanceCloses: the law. (Printed by mkclosesl.py.)
-/
import Derived.Test.YthkmgnaeponfcaaBaCloses
set_option linter.unusedVariables false
set_option linter.unusedSimpArgs false
namespace Go.Proofs.Ythkmgnaeponfcaa
open Go.RowKit
attribute [local go_sem ↓] Go.wp_at_zero Go.wp_at_succ

set_option maxRecDepth 100000 in
set_option maxHeartbeats 8000000 in
theorem closes_0 (A A2 VA1 PA1 SA1 OA1 VA2 PA2 SA2 OA2 GA IA : Option Addr) (n c n2 c2 vn1 vc1 pn1 pc1 sn1 sc1 on1 oc1 vn2 vc2 pn2 pc2 sn2 sc2 on2 oc2 gn gc m ic : Nat) (inn out : Int) (w : World) (ch lo : Int) (HA : Hid (∀ W, Gr w W → Calls Try.prog 8 #[] W fun e w' => e = .returned (.bool true) ∧ Gr W w')) (HL : Hid (∀ W, Gr w W → Calls Try.prog 9 #[.agg #[.slice A n c, .slice A2 n2 c2, .slice VA1 vn1 vc1, .slice PA1 pn1 pc1, .slice SA1 sn1 sc1, .slice OA1 on1 oc1, .slice VA2 vn2 vc2, .slice PA2 pn2 pc2, .slice SA2 sn2 sc2, .slice OA2 on2 oc2, .slice IA m ic, .int .i64 inn, .int .i64 out, .slice GA gn gc]] W fun e w' => e = .returned (.bool true) ∧ Gr W w')) : Calls Try.prog 4 #[.agg #[.slice A n c, .slice A2 n2 c2, .slice VA1 vn1 vc1, .slice PA1 pn1 pc1, .slice SA1 sn1 sc1, .slice OA1 on1 oc1, .slice VA2 vn2 vc2, .slice PA2 pn2 pc2, .slice SA2 sn2 sc2, .slice OA2 on2 oc2, .slice IA m ic, .int .i64 inn, .int .i64 out, .slice GA gn gc], .int .u16 ch, .int .u8 lo] w (fun e w' => e = .returned (.bool true) ∧ Gr w w') := by
  go_enter Try.func4, Try.ntmps4
  go_wp2_with fail
  (first | refine name_world ?_ | refine (show (∀ W, W = _ → Calls _ _ _ W _) → Calls _ _ _ _ _ from fun h => h _ rfl) ?_); intro W1 hW1
  have g1 : Gr w W1 := by rw [hW1]; exact gr_auto
  have k1_0 : W1.cell? ⟨w.heap.size, 0, none⟩ = some (.slice A n c) := by rw [hW1]; first | (simp [go_sem, *]; done) | (refine Gr.at ?_ (by assumption); exact gr_auto)
  have b1_0 : w.heap.size < W1.heap.size := World.block_lt_of_cell? _ _ k1_0
  have k1_1 : W1.cell? ⟨w.heap.size, 1, none⟩ = some (.slice A2 n2 c2) := by rw [hW1]; first | (simp [go_sem, *]; done) | (refine Gr.at ?_ (by assumption); exact gr_auto)
  have k1_2 : W1.cell? ⟨w.heap.size, 2, none⟩ = some (.slice VA1 vn1 vc1) := by rw [hW1]; first | (simp [go_sem, *]; done) | (refine Gr.at ?_ (by assumption); exact gr_auto)
  have k1_3 : W1.cell? ⟨w.heap.size, 3, none⟩ = some (.slice PA1 pn1 pc1) := by rw [hW1]; first | (simp [go_sem, *]; done) | (refine Gr.at ?_ (by assumption); exact gr_auto)
  have k1_4 : W1.cell? ⟨w.heap.size, 4, none⟩ = some (.slice SA1 sn1 sc1) := by rw [hW1]; first | (simp [go_sem, *]; done) | (refine Gr.at ?_ (by assumption); exact gr_auto)
  have k1_5 : W1.cell? ⟨w.heap.size, 5, none⟩ = some (.slice OA1 on1 oc1) := by rw [hW1]; first | (simp [go_sem, *]; done) | (refine Gr.at ?_ (by assumption); exact gr_auto)
  have k1_6 : W1.cell? ⟨w.heap.size, 6, none⟩ = some (.slice VA2 vn2 vc2) := by rw [hW1]; first | (simp [go_sem, *]; done) | (refine Gr.at ?_ (by assumption); exact gr_auto)
  have k1_7 : W1.cell? ⟨w.heap.size, 7, none⟩ = some (.slice PA2 pn2 pc2) := by rw [hW1]; first | (simp [go_sem, *]; done) | (refine Gr.at ?_ (by assumption); exact gr_auto)
  have k1_8 : W1.cell? ⟨w.heap.size, 8, none⟩ = some (.slice SA2 sn2 sc2) := by rw [hW1]; first | (simp [go_sem, *]; done) | (refine Gr.at ?_ (by assumption); exact gr_auto)
  have k1_9 : W1.cell? ⟨w.heap.size, 9, none⟩ = some (.slice OA2 on2 oc2) := by rw [hW1]; first | (simp [go_sem, *]; done) | (refine Gr.at ?_ (by assumption); exact gr_auto)
  have k1_10 : W1.cell? ⟨w.heap.size, 10, none⟩ = some (.slice IA m ic) := by rw [hW1]; first | (simp [go_sem, *]; done) | (refine Gr.at ?_ (by assumption); exact gr_auto)
  have k1_11 : W1.cell? ⟨w.heap.size, 11, none⟩ = some (.int .i64 inn) := by rw [hW1]; first | (simp [go_sem, *]; done) | (refine Gr.at ?_ (by assumption); exact gr_auto)
  have k1_12 : W1.cell? ⟨w.heap.size, 12, none⟩ = some (.int .i64 out) := by rw [hW1]; first | (simp [go_sem, *]; done) | (refine Gr.at ?_ (by assumption); exact gr_auto)
  have k1_13 : W1.cell? ⟨w.heap.size, 13, none⟩ = some (.slice GA gn gc) := by rw [hW1]; first | (simp [go_sem, *]; done) | (refine Gr.at ?_ (by assumption); exact gr_auto)
  clear hW1
  refine (HA.out _ g1).mono ?_
  rintro e w2 ⟨rfl, hb2⟩
  have g2 := g1.trans hb2
  have k1_0 := Gr.at (w1 := w2) gr_auto k1_0; have k1_1 := Gr.at (w1 := w2) gr_auto k1_1; have k1_2 := Gr.at (w1 := w2) gr_auto k1_2; have k1_3 := Gr.at (w1 := w2) gr_auto k1_3; have k1_4 := Gr.at (w1 := w2) gr_auto k1_4; have k1_5 := Gr.at (w1 := w2) gr_auto k1_5; have k1_6 := Gr.at (w1 := w2) gr_auto k1_6; have k1_7 := Gr.at (w1 := w2) gr_auto k1_7; have k1_8 := Gr.at (w1 := w2) gr_auto k1_8; have k1_9 := Gr.at (w1 := w2) gr_auto k1_9; have k1_10 := Gr.at (w1 := w2) gr_auto k1_10; have k1_11 := Gr.at (w1 := w2) gr_auto k1_11; have k1_12 := Gr.at (w1 := w2) gr_auto k1_12; have k1_13 := Gr.at (w1 := w2) gr_auto k1_13
  go_wp2_with fail
  refine (HL.out _ g2).mono ?_
  rintro e w3 ⟨rfl, hb3⟩
  have g3 := g2.trans hb3
  have k1_0 := Gr.at (w1 := w3) gr_auto k1_0; have k1_1 := Gr.at (w1 := w3) gr_auto k1_1; have k1_2 := Gr.at (w1 := w3) gr_auto k1_2; have k1_3 := Gr.at (w1 := w3) gr_auto k1_3; have k1_4 := Gr.at (w1 := w3) gr_auto k1_4; have k1_5 := Gr.at (w1 := w3) gr_auto k1_5; have k1_6 := Gr.at (w1 := w3) gr_auto k1_6; have k1_7 := Gr.at (w1 := w3) gr_auto k1_7; have k1_8 := Gr.at (w1 := w3) gr_auto k1_8; have k1_9 := Gr.at (w1 := w3) gr_auto k1_9; have k1_10 := Gr.at (w1 := w3) gr_auto k1_10; have k1_11 := Gr.at (w1 := w3) gr_auto k1_11; have k1_12 := Gr.at (w1 := w3) gr_auto k1_12; have k1_13 := Gr.at (w1 := w3) gr_auto k1_13
  go_wp2_with fail
  go_ret
  exact ⟨rfl, gr_auto⟩

set_option maxRecDepth 100000 in
set_option maxHeartbeats 8000000 in
theorem closes_1 (A A2 VA1 PA1 SA1 OA1 VA2 PA2 SA2 OA2 GA IA : Option Addr) (n c n2 c2 vn1 vc1 pn1 pc1 sn1 sc1 on1 oc1 vn2 vc2 pn2 pc2 sn2 sc2 on2 oc2 gn gc m ic : Nat) (inn out : Int) (w : World) (ch lo ec : Int) (hec : ec ≠ 0) (HA : Hid (∀ W, Gr w W → Calls Try.prog 8 #[] W fun e w' => e = .returned (.bool true) ∧ Gr W w')) (HL : Hid (∀ W, Gr w W → Calls Try.prog 9 #[.agg #[.slice A n c, .slice A2 n2 c2, .slice VA1 vn1 vc1, .slice PA1 pn1 pc1, .slice SA1 sn1 sc1, .slice OA1 on1 oc1, .slice VA2 vn2 vc2, .slice PA2 pn2 pc2, .slice SA2 sn2 sc2, .slice OA2 on2 oc2, .slice IA m ic, .int .i64 inn, .int .i64 out, .slice GA gn gc]] W fun e w' => e = .returned (.bool false) ∧ Gr W w')) (HG : Hid (∀ W, Gr w W → Calls Try.prog 14 #[.agg #[.slice A n c, .slice A2 n2 c2], .agg #[.slice VA1 vn1 vc1, .slice PA1 pn1 pc1, .slice SA1 sn1 sc1, .slice OA1 on1 oc1], .agg #[.slice VA2 vn2 vc2, .slice PA2 pn2 pc2, .slice SA2 sn2 sc2, .slice OA2 on2 oc2], .slice IA m ic, .agg #[.int .i64 inn, .int .i64 out, .slice GA gn gc]] W fun e w' => e = .returned (.int .i64 ec) ∧ Gr W w')) : Calls Try.prog 4 #[.agg #[.slice A n c, .slice A2 n2 c2, .slice VA1 vn1 vc1, .slice PA1 pn1 pc1, .slice SA1 sn1 sc1, .slice OA1 on1 oc1, .slice VA2 vn2 vc2, .slice PA2 pn2 pc2, .slice SA2 sn2 sc2, .slice OA2 on2 oc2, .slice IA m ic, .int .i64 inn, .int .i64 out, .slice GA gn gc], .int .u16 ch, .int .u8 lo] w (fun e w' => e = .returned (.bool true) ∧ Gr w w') := by
  have t0 : (ec != 0) = true := Ba.bne_of' hec
  clear hec
  go_enter Try.func4, Try.ntmps4
  go_wp2_with fail
  (first | refine name_world ?_ | refine (show (∀ W, W = _ → Calls _ _ _ W _) → Calls _ _ _ _ _ from fun h => h _ rfl) ?_); intro W1 hW1
  have g1 : Gr w W1 := by rw [hW1]; exact gr_auto
  have k1_0 : W1.cell? ⟨w.heap.size, 0, none⟩ = some (.slice A n c) := by rw [hW1]; first | (simp [go_sem, *]; done) | (refine Gr.at ?_ (by assumption); exact gr_auto)
  have b1_0 : w.heap.size < W1.heap.size := World.block_lt_of_cell? _ _ k1_0
  have k1_1 : W1.cell? ⟨w.heap.size, 1, none⟩ = some (.slice A2 n2 c2) := by rw [hW1]; first | (simp [go_sem, *]; done) | (refine Gr.at ?_ (by assumption); exact gr_auto)
  have k1_2 : W1.cell? ⟨w.heap.size, 2, none⟩ = some (.slice VA1 vn1 vc1) := by rw [hW1]; first | (simp [go_sem, *]; done) | (refine Gr.at ?_ (by assumption); exact gr_auto)
  have k1_3 : W1.cell? ⟨w.heap.size, 3, none⟩ = some (.slice PA1 pn1 pc1) := by rw [hW1]; first | (simp [go_sem, *]; done) | (refine Gr.at ?_ (by assumption); exact gr_auto)
  have k1_4 : W1.cell? ⟨w.heap.size, 4, none⟩ = some (.slice SA1 sn1 sc1) := by rw [hW1]; first | (simp [go_sem, *]; done) | (refine Gr.at ?_ (by assumption); exact gr_auto)
  have k1_5 : W1.cell? ⟨w.heap.size, 5, none⟩ = some (.slice OA1 on1 oc1) := by rw [hW1]; first | (simp [go_sem, *]; done) | (refine Gr.at ?_ (by assumption); exact gr_auto)
  have k1_6 : W1.cell? ⟨w.heap.size, 6, none⟩ = some (.slice VA2 vn2 vc2) := by rw [hW1]; first | (simp [go_sem, *]; done) | (refine Gr.at ?_ (by assumption); exact gr_auto)
  have k1_7 : W1.cell? ⟨w.heap.size, 7, none⟩ = some (.slice PA2 pn2 pc2) := by rw [hW1]; first | (simp [go_sem, *]; done) | (refine Gr.at ?_ (by assumption); exact gr_auto)
  have k1_8 : W1.cell? ⟨w.heap.size, 8, none⟩ = some (.slice SA2 sn2 sc2) := by rw [hW1]; first | (simp [go_sem, *]; done) | (refine Gr.at ?_ (by assumption); exact gr_auto)
  have k1_9 : W1.cell? ⟨w.heap.size, 9, none⟩ = some (.slice OA2 on2 oc2) := by rw [hW1]; first | (simp [go_sem, *]; done) | (refine Gr.at ?_ (by assumption); exact gr_auto)
  have k1_10 : W1.cell? ⟨w.heap.size, 10, none⟩ = some (.slice IA m ic) := by rw [hW1]; first | (simp [go_sem, *]; done) | (refine Gr.at ?_ (by assumption); exact gr_auto)
  have k1_11 : W1.cell? ⟨w.heap.size, 11, none⟩ = some (.int .i64 inn) := by rw [hW1]; first | (simp [go_sem, *]; done) | (refine Gr.at ?_ (by assumption); exact gr_auto)
  have k1_12 : W1.cell? ⟨w.heap.size, 12, none⟩ = some (.int .i64 out) := by rw [hW1]; first | (simp [go_sem, *]; done) | (refine Gr.at ?_ (by assumption); exact gr_auto)
  have k1_13 : W1.cell? ⟨w.heap.size, 13, none⟩ = some (.slice GA gn gc) := by rw [hW1]; first | (simp [go_sem, *]; done) | (refine Gr.at ?_ (by assumption); exact gr_auto)
  clear hW1
  refine (HA.out _ g1).mono ?_
  rintro e w2 ⟨rfl, hb2⟩
  have g2 := g1.trans hb2
  have k1_0 := Gr.at (w1 := w2) gr_auto k1_0; have k1_1 := Gr.at (w1 := w2) gr_auto k1_1; have k1_2 := Gr.at (w1 := w2) gr_auto k1_2; have k1_3 := Gr.at (w1 := w2) gr_auto k1_3; have k1_4 := Gr.at (w1 := w2) gr_auto k1_4; have k1_5 := Gr.at (w1 := w2) gr_auto k1_5; have k1_6 := Gr.at (w1 := w2) gr_auto k1_6; have k1_7 := Gr.at (w1 := w2) gr_auto k1_7; have k1_8 := Gr.at (w1 := w2) gr_auto k1_8; have k1_9 := Gr.at (w1 := w2) gr_auto k1_9; have k1_10 := Gr.at (w1 := w2) gr_auto k1_10; have k1_11 := Gr.at (w1 := w2) gr_auto k1_11; have k1_12 := Gr.at (w1 := w2) gr_auto k1_12; have k1_13 := Gr.at (w1 := w2) gr_auto k1_13
  go_wp2_with fail
  refine (HL.out _ g2).mono ?_
  rintro e w3 ⟨rfl, hb3⟩
  have g3 := g2.trans hb3
  have k1_0 := Gr.at (w1 := w3) gr_auto k1_0; have k1_1 := Gr.at (w1 := w3) gr_auto k1_1; have k1_2 := Gr.at (w1 := w3) gr_auto k1_2; have k1_3 := Gr.at (w1 := w3) gr_auto k1_3; have k1_4 := Gr.at (w1 := w3) gr_auto k1_4; have k1_5 := Gr.at (w1 := w3) gr_auto k1_5; have k1_6 := Gr.at (w1 := w3) gr_auto k1_6; have k1_7 := Gr.at (w1 := w3) gr_auto k1_7; have k1_8 := Gr.at (w1 := w3) gr_auto k1_8; have k1_9 := Gr.at (w1 := w3) gr_auto k1_9; have k1_10 := Gr.at (w1 := w3) gr_auto k1_10; have k1_11 := Gr.at (w1 := w3) gr_auto k1_11; have k1_12 := Gr.at (w1 := w3) gr_auto k1_12; have k1_13 := Gr.at (w1 := w3) gr_auto k1_13
  go_wp2_with fail
  refine (HG.out _ g3).mono ?_
  rintro e w4 ⟨rfl, hb4⟩
  have g4 := g3.trans hb4
  have k1_0 := Gr.at (w1 := w4) gr_auto k1_0; have k1_1 := Gr.at (w1 := w4) gr_auto k1_1; have k1_2 := Gr.at (w1 := w4) gr_auto k1_2; have k1_3 := Gr.at (w1 := w4) gr_auto k1_3; have k1_4 := Gr.at (w1 := w4) gr_auto k1_4; have k1_5 := Gr.at (w1 := w4) gr_auto k1_5; have k1_6 := Gr.at (w1 := w4) gr_auto k1_6; have k1_7 := Gr.at (w1 := w4) gr_auto k1_7; have k1_8 := Gr.at (w1 := w4) gr_auto k1_8; have k1_9 := Gr.at (w1 := w4) gr_auto k1_9; have k1_10 := Gr.at (w1 := w4) gr_auto k1_10; have k1_11 := Gr.at (w1 := w4) gr_auto k1_11; have k1_12 := Gr.at (w1 := w4) gr_auto k1_12; have k1_13 := Gr.at (w1 := w4) gr_auto k1_13
  go_wp2_with fail
  go_ret
  exact ⟨rfl, gr_auto⟩

set_option maxRecDepth 100000 in
set_option maxHeartbeats 8000000 in
theorem closes_n (A A2 VA1 PA1 SA1 OA1 VA2 PA2 SA2 OA2 GA IA : Option Addr) (n c n2 c2 vn1 vc1 pn1 pc1 sn1 sc1 on1 oc1 vn2 vc2 pn2 pc2 sn2 sc2 on2 oc2 gn gc m ic : Nat) (inn out : Int) (w : World) (ch lo : Int) (hn : n = 0) (HA : Hid (∀ W, Gr w W → Calls Try.prog 8 #[] W fun e w' => e = .returned (.bool true) ∧ Gr W w')) (HL : Hid (∀ W, Gr w W → Calls Try.prog 9 #[.agg #[.slice A n c, .slice A2 n2 c2, .slice VA1 vn1 vc1, .slice PA1 pn1 pc1, .slice SA1 sn1 sc1, .slice OA1 on1 oc1, .slice VA2 vn2 vc2, .slice PA2 pn2 pc2, .slice SA2 sn2 sc2, .slice OA2 on2 oc2, .slice IA m ic, .int .i64 inn, .int .i64 out, .slice GA gn gc]] W fun e w' => e = .returned (.bool false) ∧ Gr W w')) (HG : Hid (∀ W, Gr w W → Calls Try.prog 14 #[.agg #[.slice A n c, .slice A2 n2 c2], .agg #[.slice VA1 vn1 vc1, .slice PA1 pn1 pc1, .slice SA1 sn1 sc1, .slice OA1 on1 oc1], .agg #[.slice VA2 vn2 vc2, .slice PA2 pn2 pc2, .slice SA2 sn2 sc2, .slice OA2 on2 oc2], .slice IA m ic, .agg #[.int .i64 inn, .int .i64 out, .slice GA gn gc]] W fun e w' => e = .returned (.int .i64 0) ∧ Gr W w')) : Calls Try.prog 4 #[.agg #[.slice A n c, .slice A2 n2 c2, .slice VA1 vn1 vc1, .slice PA1 pn1 pc1, .slice SA1 sn1 sc1, .slice OA1 on1 oc1, .slice VA2 vn2 vc2, .slice PA2 pn2 pc2, .slice SA2 sn2 sc2, .slice OA2 on2 oc2, .slice IA m ic, .int .i64 inn, .int .i64 out, .slice GA gn gc], .int .u16 ch, .int .u8 lo] w (fun e w' => e = .returned (.bool true) ∧ Gr w w') := by
  subst hn
  go_enter Try.func4, Try.ntmps4
  go_wp2_with fail
  (first | refine name_world ?_ | refine (show (∀ W, W = _ → Calls _ _ _ W _) → Calls _ _ _ _ _ from fun h => h _ rfl) ?_); intro W1 hW1
  have g1 : Gr w W1 := by rw [hW1]; exact gr_auto
  have k1_0 : W1.cell? ⟨w.heap.size, 0, none⟩ = some (.slice A 0 c) := by rw [hW1]; first | (simp [go_sem, *]; done) | (refine Gr.at ?_ (by assumption); exact gr_auto)
  have b1_0 : w.heap.size < W1.heap.size := World.block_lt_of_cell? _ _ k1_0
  have k1_1 : W1.cell? ⟨w.heap.size, 1, none⟩ = some (.slice A2 n2 c2) := by rw [hW1]; first | (simp [go_sem, *]; done) | (refine Gr.at ?_ (by assumption); exact gr_auto)
  have k1_2 : W1.cell? ⟨w.heap.size, 2, none⟩ = some (.slice VA1 vn1 vc1) := by rw [hW1]; first | (simp [go_sem, *]; done) | (refine Gr.at ?_ (by assumption); exact gr_auto)
  have k1_3 : W1.cell? ⟨w.heap.size, 3, none⟩ = some (.slice PA1 pn1 pc1) := by rw [hW1]; first | (simp [go_sem, *]; done) | (refine Gr.at ?_ (by assumption); exact gr_auto)
  have k1_4 : W1.cell? ⟨w.heap.size, 4, none⟩ = some (.slice SA1 sn1 sc1) := by rw [hW1]; first | (simp [go_sem, *]; done) | (refine Gr.at ?_ (by assumption); exact gr_auto)
  have k1_5 : W1.cell? ⟨w.heap.size, 5, none⟩ = some (.slice OA1 on1 oc1) := by rw [hW1]; first | (simp [go_sem, *]; done) | (refine Gr.at ?_ (by assumption); exact gr_auto)
  have k1_6 : W1.cell? ⟨w.heap.size, 6, none⟩ = some (.slice VA2 vn2 vc2) := by rw [hW1]; first | (simp [go_sem, *]; done) | (refine Gr.at ?_ (by assumption); exact gr_auto)
  have k1_7 : W1.cell? ⟨w.heap.size, 7, none⟩ = some (.slice PA2 pn2 pc2) := by rw [hW1]; first | (simp [go_sem, *]; done) | (refine Gr.at ?_ (by assumption); exact gr_auto)
  have k1_8 : W1.cell? ⟨w.heap.size, 8, none⟩ = some (.slice SA2 sn2 sc2) := by rw [hW1]; first | (simp [go_sem, *]; done) | (refine Gr.at ?_ (by assumption); exact gr_auto)
  have k1_9 : W1.cell? ⟨w.heap.size, 9, none⟩ = some (.slice OA2 on2 oc2) := by rw [hW1]; first | (simp [go_sem, *]; done) | (refine Gr.at ?_ (by assumption); exact gr_auto)
  have k1_10 : W1.cell? ⟨w.heap.size, 10, none⟩ = some (.slice IA m ic) := by rw [hW1]; first | (simp [go_sem, *]; done) | (refine Gr.at ?_ (by assumption); exact gr_auto)
  have k1_11 : W1.cell? ⟨w.heap.size, 11, none⟩ = some (.int .i64 inn) := by rw [hW1]; first | (simp [go_sem, *]; done) | (refine Gr.at ?_ (by assumption); exact gr_auto)
  have k1_12 : W1.cell? ⟨w.heap.size, 12, none⟩ = some (.int .i64 out) := by rw [hW1]; first | (simp [go_sem, *]; done) | (refine Gr.at ?_ (by assumption); exact gr_auto)
  have k1_13 : W1.cell? ⟨w.heap.size, 13, none⟩ = some (.slice GA gn gc) := by rw [hW1]; first | (simp [go_sem, *]; done) | (refine Gr.at ?_ (by assumption); exact gr_auto)
  clear hW1
  refine (HA.out _ g1).mono ?_
  rintro e w2 ⟨rfl, hb2⟩
  have g2 := g1.trans hb2
  have k1_0 := Gr.at (w1 := w2) gr_auto k1_0; have k1_1 := Gr.at (w1 := w2) gr_auto k1_1; have k1_2 := Gr.at (w1 := w2) gr_auto k1_2; have k1_3 := Gr.at (w1 := w2) gr_auto k1_3; have k1_4 := Gr.at (w1 := w2) gr_auto k1_4; have k1_5 := Gr.at (w1 := w2) gr_auto k1_5; have k1_6 := Gr.at (w1 := w2) gr_auto k1_6; have k1_7 := Gr.at (w1 := w2) gr_auto k1_7; have k1_8 := Gr.at (w1 := w2) gr_auto k1_8; have k1_9 := Gr.at (w1 := w2) gr_auto k1_9; have k1_10 := Gr.at (w1 := w2) gr_auto k1_10; have k1_11 := Gr.at (w1 := w2) gr_auto k1_11; have k1_12 := Gr.at (w1 := w2) gr_auto k1_12; have k1_13 := Gr.at (w1 := w2) gr_auto k1_13
  go_wp2_with fail
  refine (HL.out _ g2).mono ?_
  rintro e w3 ⟨rfl, hb3⟩
  have g3 := g2.trans hb3
  have k1_0 := Gr.at (w1 := w3) gr_auto k1_0; have k1_1 := Gr.at (w1 := w3) gr_auto k1_1; have k1_2 := Gr.at (w1 := w3) gr_auto k1_2; have k1_3 := Gr.at (w1 := w3) gr_auto k1_3; have k1_4 := Gr.at (w1 := w3) gr_auto k1_4; have k1_5 := Gr.at (w1 := w3) gr_auto k1_5; have k1_6 := Gr.at (w1 := w3) gr_auto k1_6; have k1_7 := Gr.at (w1 := w3) gr_auto k1_7; have k1_8 := Gr.at (w1 := w3) gr_auto k1_8; have k1_9 := Gr.at (w1 := w3) gr_auto k1_9; have k1_10 := Gr.at (w1 := w3) gr_auto k1_10; have k1_11 := Gr.at (w1 := w3) gr_auto k1_11; have k1_12 := Gr.at (w1 := w3) gr_auto k1_12; have k1_13 := Gr.at (w1 := w3) gr_auto k1_13
  go_wp2_with fail
  refine (HG.out _ g3).mono ?_
  rintro e w4 ⟨rfl, hb4⟩
  have g4 := g3.trans hb4
  have k1_0 := Gr.at (w1 := w4) gr_auto k1_0; have k1_1 := Gr.at (w1 := w4) gr_auto k1_1; have k1_2 := Gr.at (w1 := w4) gr_auto k1_2; have k1_3 := Gr.at (w1 := w4) gr_auto k1_3; have k1_4 := Gr.at (w1 := w4) gr_auto k1_4; have k1_5 := Gr.at (w1 := w4) gr_auto k1_5; have k1_6 := Gr.at (w1 := w4) gr_auto k1_6; have k1_7 := Gr.at (w1 := w4) gr_auto k1_7; have k1_8 := Gr.at (w1 := w4) gr_auto k1_8; have k1_9 := Gr.at (w1 := w4) gr_auto k1_9; have k1_10 := Gr.at (w1 := w4) gr_auto k1_10; have k1_11 := Gr.at (w1 := w4) gr_auto k1_11; have k1_12 := Gr.at (w1 := w4) gr_auto k1_12; have k1_13 := Gr.at (w1 := w4) gr_auto k1_13
  go_wp2_with fail
  go_ret
  exact ⟨rfl, gr_auto⟩

theorem ret_eq {v v' : Value} (h : v = v') : Ending.returned v = .returned v' := by rw [h]
set_option maxRecDepth 100000 in
set_option maxHeartbeats 2000000 in
theorem closes_law (N : Ba.SlNode) (L : Ba.SlLink) (s1 s2 : Ba.State) (I : Ba.SlI) (g : Ba.Ledger) (ch lo : Int) (w : World) (hN : N.At w) (hL : L.At w) (h1 : s1.Ok w) (h2 : s2.Ok w) (hI : I.At w) (hg : g.Ok w) (hch : 0 ≤ ch ∧ ch ≤ 65535) (hlo : 0 ≤ lo ∧ lo ≤ 255) : Calls Try.prog 4 #[Ba.caseVal N L s1 s2 I g, .int .u16 ch, .int .u8 lo] w (fun e w' => e = .returned (.bool true) ∧ Gr w w') := by
  have HA := Lib.hid (fun W (_ : Gr w W) => awake_any W)
  have HL := Lib.hid (fun W (hh : Gr w W) => large_any N L s1 s2 I g W (hN.gr hh) (hL.gr hh) (h1.gr hh) (h2.gr hh) (hI.gr hh) (hg.gr hh))
  have HG := Lib.hid (fun W (hh : Gr w W) => rgiven_any N L s1 s2 I g W (hN.gr hh) (hL.gr hh) (h1.gr hh) (h2.gr hh) (hI.gr hh) (hg.gr hh))
  cases hq : Ba.largeB N L s1 s2 I g
  rotate_left
  · rw [hq] at HL
    exact closes_0 (N.A) (L.A) (s1.vs.A) (s1.ps.A) (s1.st.A) (s1.on.A) (s2.vs.A) (s2.ps.A) (s2.st.A) (s2.on.A) (g.ps.A) (I.A) (N.n) (N.c) (L.n) (L.c) (s1.vs.n) (s1.vs.c) (s1.ps.n) (s1.ps.c) (s1.st.n) (s1.st.c) (s1.on.n) (s1.on.c) (s2.vs.n) (s2.vs.c) (s2.ps.n) (s2.ps.c) (s2.st.n) (s2.st.c) (s2.on.n) (s2.on.c) (g.ps.n) (g.ps.c) (I.n) (I.c) (g.inn) (g.out) (w) ch lo HA HL
  rw [hq] at HL
  have hz := Ba.large_no hq
  by_cases he : Ba.givE N L s1 s2 I g = 0
  rotate_left
  · exact closes_1 (N.A) (L.A) (s1.vs.A) (s1.ps.A) (s1.st.A) (s1.on.A) (s2.vs.A) (s2.ps.A) (s2.st.A) (s2.on.A) (g.ps.A) (I.A) (N.n) (N.c) (L.n) (L.c) (s1.vs.n) (s1.vs.c) (s1.ps.n) (s1.ps.c) (s1.st.n) (s1.st.c) (s1.on.n) (s1.on.c) (s2.vs.n) (s2.vs.c) (s2.ps.n) (s2.ps.c) (s2.st.n) (s2.st.c) (s2.on.n) (s2.on.c) (g.ps.n) (g.ps.c) (I.n) (I.c) (g.inn) (g.out) (w) ch lo _ he HA HL HG
  rw [he] at HG
  by_cases hn0 : N.n = 0
  · exact closes_n (N.A) (L.A) (s1.vs.A) (s1.ps.A) (s1.st.A) (s1.on.A) (s2.vs.A) (s2.ps.A) (s2.st.A) (s2.on.A) (g.ps.A) (I.A) (N.n) (N.c) (L.n) (L.c) (s1.vs.n) (s1.vs.c) (s1.ps.n) (s1.ps.c) (s1.st.n) (s1.st.c) (s1.on.n) (s1.on.c) (s2.vs.n) (s2.vs.c) (s2.ps.n) (s2.ps.c) (s2.st.n) (s2.st.c) (s2.on.n) (s2.on.c) (g.ps.n) (g.ps.c) (I.n) (I.c) (g.inn) (g.out) (w) ch lo hn0 HA HL HG
  have F := Ba.fine_of he hz.1 hz.2
  obtain ⟨q1, -, q3, q4, q5⟩ := Ba.giv_parts he
  obtain ⟨hv, z1, z2, z3, z4, -⟩ := Ba.vs_parts q1
  have G : Ba.Giv N L s1 I g.ps.X := ⟨q1, hz.1, hz.2, q4, q5, F.bp⟩
  have z5 := F.i; have z6 := F.p
  have eN := hN.hA (by omega); have e1 := h1.1.hA (by omega); have e2 := h1.2.1.hA (by omega); have e5 := hI.hA (by omega)
  have HF : ∀ k, k < L.n → ∀ (t : ByteArray) (j : Nat), Ba.nix N t = (j : Int) → ∀ W, Gr w W → Calls Try.prog 15 #[.agg #[.slice (some ⟨N.b, N.o, none⟩) N.n N.c, .slice L.A L.n L.c], .string t] W fun e w' => e = .returned (.int .i64 (j : Int)) ∧ Gr W w' := fun k hk t j hj W hh => by
    have h := rfindnode_any N L.A L.n L.c t W (hN.gr hh)
    rw [eN, show Ba.fstI (fun i => Ba.eqS (N.D i).nm t) N.n = (j : Int) from hj] at h
    exact h
  have HCP : ∀ W, Gr w W → Calls Try.prog 16 #[.agg #[.slice (some ⟨s1.vs.b, s1.vs.o, none⟩) N.n s1.vs.c, .slice (some ⟨s1.ps.b, s1.ps.o, none⟩) N.n s1.ps.c, .slice s1.st.A L.n s1.st.c, .slice s1.on.A L.n s1.on.c]] W (RetCopy ⟨⟨some ⟨s1.vs.b, s1.vs.o, none⟩, N.n, s1.vs.c, s1.vs.b, s1.vs.o, s1.vs.X⟩, ⟨some ⟨s1.ps.b, s1.ps.o, none⟩, N.n, s1.ps.c, s1.ps.b, s1.ps.o, s1.ps.X⟩, ⟨s1.st.A, L.n, s1.st.c, s1.st.b, s1.st.o, s1.st.X⟩, ⟨s1.on.A, L.n, s1.on.c, s1.on.b, s1.on.o, s1.on.X⟩⟩ W) := fun W hh => by
    have h := copy_any s1 W (h1.gr hh) (by omega) (by omega) (by omega) (by omega)
    rw [← e1, ← e2, ← z1, ← z3]
    rw [show (⟨s1.ps.A, s1.vs.n, s1.ps.c, s1.ps.b, s1.ps.o, s1.ps.X⟩ : Ba.SlI) = s1.ps by rw [z1, ← z2], show (⟨s1.on.A, s1.st.n, s1.on.c, s1.on.b, s1.on.o, s1.on.X⟩ : Ba.SlB) = s1.on by rw [z3, ← z4]]
    rw [show Value.slice s1.ps.A s1.vs.n s1.ps.c = .slice s1.ps.A s1.ps.n s1.ps.c by rw [z1, ← z2], show Value.slice s1.on.A s1.st.n s1.on.c = .slice s1.on.A s1.on.n s1.on.c by rw [z3, ← z4]]
    exact h
  have HCAP : ∀ i, i < N.n → ∀ W, Gr w W → Calls Try.prog 17 #[(N.D i).val] W fun e w' => e = .returned (.int .i64 (Ba.capy (N.D i))) ∧ Gr W w' := fun i hi W hh => rcapacity_any (N.D i) W ((hN.gr hh).hD i hi).2.2.2.2.2.2.2.2 (Ba.net_cap hv hi)
  have HMK : ∀ (s2 : Ba.State) (g2 : Ba.Ledger), s2.vs.n = N.n → s2.ps.n = N.n → s2.st.n = L.n → s2.on.n = L.n → s2.st.X = s1.st.X → s2.on.X = s1.on.X → (∀ i, i < N.n → s2.vs.X i = Ba.volV N L (Ba.volH s1 I) g.ps.X i) → (∀ i, i < N.n → s2.ps.X i = Ba.volP N L (Ba.volH s1 I) g.ps.X i) → (∀ i, i < N.n → Ba.volP N L (Ba.volH s1 I) g.ps.X i ≤ 1125899906842624) → g2.inn = Ba.sumI I.X N.n → g2.out = Ba.gone N L (Ba.volH s1 I) g.ps.X N.n → g2.ps.n = L.n → (∀ k, k < L.n → g2.ps.X k = Ba.passK N L (Ba.volH s1 I) g.ps.X k) → Ba.Mk N L s1 I g.ps.X s2 g2 := fun s2 g2 a1 a2 a3 a4 a5 a6 a7 a8 a9 a10 a11 a12 a13 =>
    ⟨a1, a2, a3, a4, fun k _ => by rw [a5], fun k _ => by rw [a6], a7, a8, a9, a10, a11, a12, a13⟩
  have hSV : s1.val = .agg #[.slice (some ⟨s1.vs.b, s1.vs.o, none⟩) N.n s1.vs.c, .slice (some ⟨s1.ps.b, s1.ps.o, none⟩) N.n s1.ps.c, .slice s1.st.A L.n s1.st.c, .slice s1.on.A L.n s1.on.c] := by
    rw [← e1, ← e2, ← z1, ← z3]
    unfold Ba.State.val
    rw [show s1.ps.n = s1.vs.n by omega, show s1.on.n = s1.st.n by omega]
  have hNV : Ba.netVal N L = .agg #[.slice (some ⟨N.b, N.o, none⟩) N.n N.c, .slice L.A L.n L.c] := by rw [← eN]; rfl
  have hIV : Value.slice I.A I.n I.c = .slice (some ⟨I.b, I.o, none⟩) N.n I.c := by rw [e5, z5]
  have hGV : g.val = .agg #[.int .i64 g.inn, .int .i64 g.out, .slice g.ps.A L.n g.ps.c] := by rw [← z6]; rfl
  have hCV : Ba.caseVal N L s1 s2 I g = .agg #[.slice (some ⟨N.b, N.o, none⟩) N.n N.c, .slice L.A L.n L.c, .slice (some ⟨s1.vs.b, s1.vs.o, none⟩) N.n s1.vs.c, .slice (some ⟨s1.ps.b, s1.ps.o, none⟩) N.n s1.ps.c, .slice s1.st.A L.n s1.st.c, .slice s1.on.A L.n s1.on.c, .slice s2.vs.A s2.vs.n s2.vs.c, .slice s2.ps.A s2.ps.n s2.ps.c, .slice s2.st.A s2.st.n s2.st.c, .slice s2.on.A s2.on.n s2.on.c, .slice (some ⟨I.b, I.o, none⟩) N.n I.c, .int .i64 g.inn, .int .i64 g.out, .slice g.ps.A L.n g.ps.c] := by
    unfold Ba.caseVal
    rw [eN, e1, e2, z1, z2, z3, z4, hIV, z6]
  rw [hCV] at HL ⊢
  rw [hNV, hSV, hIV, hGV] at HG
  have he2 : ∀ W, Gr w W → s1.Ok W ∧ N.At W ∧ L.At W ∧ I.At W := fun W hh => ⟨h1.gr hh, hN.gr hh, hL.gr hh, hI.gr hh⟩
  refine closes_2 L.A s1.st.A s1.on.A s2.vs.A s2.ps.A s2.st.A s2.on.A g.ps.A N.b N.o s1.vs.b s1.vs.o s1.ps.b s1.ps.o I.b I.o L.b L.o g.ps.b g.ps.o N.n N.c L.n L.c s1.vs.c s1.ps.c s1.st.c s1.on.c s2.vs.n s2.vs.c s2.ps.n s2.ps.c s2.st.n s2.st.c s2.on.n s2.on.c g.ps.c I.c g.inn g.out ch lo w HA HL HG (by omega) hz.1 hz.2 N.D L.D s1.vs.X s1.ps.X I.X g.ps.X (fun i => Ba.capy (N.D i))
    (Lib.hid fun i hi => ⟨(hN.hD i hi).1, (hN.hD i hi).2.2.2.2.2.2.2.1⟩) (Lib.hid hL.hA) (Lib.hid fun k hk => (hL.hD k hk).1) (Lib.hid fun h => hg.2.2.hA (by omega))
    (Lib.hid fun i hi => (h1.1.hX i (by omega)).1) (Lib.hid fun i hi => (h1.2.1.hX i (by omega)).1) (Lib.hid fun i hi => (hI.hX i (by omega)).1) (Lib.hid fun k hk => (hg.2.2.hX k (by omega)).1)
    (Lib.hid fun i hi => ⟨F.bv1 i hi, F.bp1 i hi, F.bi i hi⟩)
    (Ba.heldK N L (Ba.volH s1 I) g.ps.X) (Ba.passK N L (Ba.volH s1 I) g.ps.X) (Ba.sumI I.X) (Lib.hid fun _ => rfl) (Lib.hid rfl) (Lib.hid fun _ => rfl) (Lib.hid fun i hi => G.ins hi)
    (Ba.fx N L) (Ba.tx N L) (Lib.hid fun k hk => ⟨(Ba.net_ends hv hk).2.1, (Ba.net_ends hv hk).2.2.2⟩) (Lib.hid fun k hk => HF k hk _ _ (Ba.net_ends hv hk).1) (Lib.hid fun k hk => HF k hk _ _ (Ba.net_ends hv hk).2.2.1)
    (Lib.hid fun _ => rfl) (Lib.hid fun _ => rfl) (Lib.hid fun k hk i hi => G.held hk hi) (Lib.hid fun k hk => ⟨G.pass hk, F.bp k hk⟩)
    s1.st.b s1.st.o s1.on.b s1.on.o s1.st.X s1.on.X (Lib.hid HCP)
    (Ba.keptI N L (Ba.volH s1 I) g.ps.X) (Ba.volV N L (Ba.volH s1 I) g.ps.X) (Ba.volP N L (Ba.volH s1 I) g.ps.X) (Ba.gone N L (Ba.volH s1 I) g.ps.X) (Lib.hid fun _ => rfl) (Lib.hid rfl) (Lib.hid fun _ => rfl) (Lib.hid fun i hi => G.outs hi) (Lib.hid fun _ => rfl) (Lib.hid fun _ => rfl)
    (Lib.hid fun i hi => ⟨G.kept hi, ⟨(G.two hi).1.1, (G.two hi).1.2.2⟩, ⟨(G.two hi).2.1, (G.two hi).2.2.1⟩, (G.cap hi).1, (G.cap hi).2.1⟩) (Lib.hid HCAP)
    (shrB ch) (Lib.hid fun _ _ => rfl) hch hlo (Lib.hid fun s3 g2 a1 a2 a3 a4 a5 a6 a7 a8 a9 a10 a11 a12 a13 => ?_)
  have M := HMK s3 g2 a1 a2 a3 a4 a5 a6 a7 a8 a9 a10 a11 a12 a13
  have hgv := G.made M
  have F3 := Ba.fine_of hgv hz.1 hz.2
  refine ⟨fun W hh o3 og => ?_, fun l s W hh o3 og x3 x4 x1 x2 x5 x6 => ?_, fun s4 i0 hi0 hne b1 b2 b3 b4 b5 b6 b7 b8 W hh o3 og => ?_⟩
  · have h := step_any N L s1 s3 I g2 W (hN.gr hh) (hL.gr hh) (h1.gr hh) o3 (hI.gr hh) og hz.1 hz.2
    rw [(G.ok M).1, (G.ok M).2, hgv, hNV, hSV, hIV] at h
    exact h
  · obtain ⟨r1, r2⟩ := Ba.part_named (s1 := s1) (s2 := s3) (I := I) (g := g2) hgv hv (⟨x2, x5, x4, x1⟩ : Ba.Named N l s)
    have h := part_any N L s1 s3 I g2 W (hN.gr hh) (hL.gr hh) (h1.gr hh) o3 (hI.gr hh) og s x3 hz.1 hz.2 x6
    rw [r1, r2, show Ba.resL N L s1 s3 I g2.ps l = 0 from G.res M _, hNV, hSV, hIV] at h
    exact h
  · have hl := G.lose M (s3 := s4) (i0 := i0) hi0 (by rw [M.vx i0 hi0]; exact hne) b1 b2 b3 b4 (fun i hi => by rw [b5 i hi, M.vx i0 hi0, M.vx i hi]) (fun i hi => by rw [b6 i hi, M.px i hi]) (fun k _ => by rw [b7]) (fun k _ => by rw [b8])
    have h := step_any N L s1 s4 I g2 W (hN.gr hh) (hL.gr hh) (h1.gr hh) o3 (hI.gr hh) og hz.1 hz.2
    rw [hl.1, hl.2.1, hl.2.2, hNV, hSV, hIV] at h
    exact h
end Go.Proofs.Ythkmgnaeponfcaa
