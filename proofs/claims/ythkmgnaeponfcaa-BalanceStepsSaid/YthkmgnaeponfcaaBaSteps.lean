/-
  BalanceSteps: it answers true. (Printed by mksteps.py.)
-/
import Derived.Test.YthkmgnaeponfcaaBaAwk
import Derived.Test.YthkmgnaeponfcaaBaStp
set_option linter.unusedVariables false
set_option linter.unusedSimpArgs false
namespace Go.Proofs.Ythkmgnaeponfcaa
open Go.RowKit

set_option maxRecDepth 100000 in
set_option maxHeartbeats 4000000 in
theorem steps_0 (A A2 VA1 PA1 SA1 OA1 VA2 PA2 SA2 OA2 GA IA : Option Addr) (n c n2 c2 vn1 vc1 pn1 pc1 sn1 sc1 on1 oc1 vn2 vc2 pn2 pc2 sn2 sc2 on2 oc2 gn gc m ic : Nat) (inn out : Int) (w : World) (TA : Option Addr) (tn tc : Nat) (HA : Hid (∀ W, Gr w W → Calls Try.prog 8 #[] W fun e w' => e = .returned (.bool true) ∧ Gr W w')) (HL : Hid (∀ W, Gr w W → Calls Try.prog 9 #[.agg #[.slice A n c, .slice A2 n2 c2, .slice VA1 vn1 vc1, .slice PA1 pn1 pc1, .slice SA1 sn1 sc1, .slice OA1 on1 oc1, .slice VA2 vn2 vc2, .slice PA2 pn2 pc2, .slice SA2 sn2 sc2, .slice OA2 on2 oc2, .slice IA m ic, .int .i64 inn, .int .i64 out, .slice GA gn gc]] W fun e w' => e = .returned (.bool true) ∧ Gr W w')) : Calls Try.prog 3 #[.agg #[.slice A n c, .slice A2 n2 c2, .slice VA1 vn1 vc1, .slice PA1 pn1 pc1, .slice SA1 sn1 sc1, .slice OA1 on1 oc1, .slice VA2 vn2 vc2, .slice PA2 pn2 pc2, .slice SA2 sn2 sc2, .slice OA2 on2 oc2, .slice IA m ic, .int .i64 inn, .int .i64 out, .slice GA gn gc], .slice TA tn tc] w fun e w' => e = .returned (.bool true) ∧ Gr w w' := by
  go_enter Try.func3, Try.ntmps3
  go_wp2_with fail
  (first | refine name_world ?_ | refine (show (∀ W, W = _ → Calls _ _ _ W _) → Calls _ _ _ _ _ from fun h => h _ rfl) ?_); intro W1 hW1
  have g1 : Gr w W1 := by rw [hW1]; exact gr_auto
  have k1_0 : W1.cell? ⟨w.heap.size, 0, none⟩ = some (.slice A n c) := by rw [hW1]; first | (simp [go_sem, *]; done) | (refine Gr.at ?_ (by assumption); exact gr_auto)
  have b1_0 : w.heap.size < W1.heap.size := World.block_lt_of_cell? _ _ k1_0
  have k1_1 : W1.cell? ⟨w.heap.size, 1, none⟩ = some (.slice A2 n2 c2) := by rw [hW1]; first | (simp [go_sem, *]; done) | (refine Gr.at ?_ (by assumption); exact gr_auto)
  have k1_2 : W1.cell? ⟨w.heap.size, 2, none⟩ = some (.slice VA1 vn1 vc1) := by rw [hW1]; first | (simp [go_sem, *]; done) | (refine Gr.at ?_ (by assumption); exact gr_auto)
  have k1_3 : W1.cell? ⟨w.heap.size, 3, none⟩ = some (.slice PA1 pn1 pc1) := by rw [hW1]; first | (simp [go_sem, *]; done) | (refine Gr.at ?_ (by assumption); exact gr_auto)
  have k1_4 : W1.cell? ⟨w.heap.size, 4, none⟩ = some (.slice SA1 sn1 sc1) := by rw [hW1]; first | (simp [go_sem, *]; done) | (refine Gr.at ?_ (by assumption); exact gr_auto)
  have k1_5 : W1.cell? ⟨w.heap.size, 5, none⟩ = some (.slice OA1 on1 oc1) := by rw [hW1]; first | (simp [go_sem, *]; done) | (refine Gr.at ?_ (by assumption); exact gr_auto)
  have k1_6 : W1.cell? ⟨w.heap.size, 6, none⟩ = some (.slice VA2 vn2 vc2) := by rw [hW1]; first | (simp [go_sem, *]; done) | (refine Gr.at ?_ (by assumption); exact gr_auto)
  have k1_7 : W1.cell? ⟨w.heap.size, 7, none⟩ = some (.slice PA2 pn2 pc2) := by rw [hW1]; first | (simp [go_sem, *]; done) | (refine Gr.at ?_ (by assumption); exact gr_auto)
  have k1_8 : W1.cell? ⟨w.heap.size, 8, none⟩ = some (.slice SA2 sn2 sc2) := by rw [hW1]; first | (simp [go_sem, *]; done) | (refine Gr.at ?_ (by assumption); exact gr_auto)
  have k1_9 : W1.cell? ⟨w.heap.size, 9, none⟩ = some (.slice OA2 on2 oc2) := by rw [hW1]; first | (simp [go_sem, *]; done) | (refine Gr.at ?_ (by assumption); exact gr_auto)
  have k1_10 : W1.cell? ⟨w.heap.size, 10, none⟩ = some (.slice IA m ic) := by rw [hW1]; first | (simp [go_sem, *]; done) | (refine Gr.at ?_ (by assumption); exact gr_auto)
  have k1_11 : W1.cell? ⟨w.heap.size, 11, none⟩ = some (.int .i64 inn) := by rw [hW1]; first | (simp [go_sem, *]; done) | (refine Gr.at ?_ (by assumption); exact gr_auto)
  have k1_12 : W1.cell? ⟨w.heap.size, 12, none⟩ = some (.int .i64 out) := by rw [hW1]; first | (simp [go_sem, *]; done) | (refine Gr.at ?_ (by assumption); exact gr_auto)
  have k1_13 : W1.cell? ⟨w.heap.size, 13, none⟩ = some (.slice GA gn gc) := by rw [hW1]; first | (simp [go_sem, *]; done) | (refine Gr.at ?_ (by assumption); exact gr_auto)
  clear hW1
  refine (HA.out _ g1).mono ?_
  rintro e w2 ⟨rfl, hb2⟩
  have g2 := g1.trans hb2
  have k1_0 := Gr.at (w1 := w2) gr_auto k1_0; have k1_1 := Gr.at (w1 := w2) gr_auto k1_1; have k1_2 := Gr.at (w1 := w2) gr_auto k1_2; have k1_3 := Gr.at (w1 := w2) gr_auto k1_3; have k1_4 := Gr.at (w1 := w2) gr_auto k1_4; have k1_5 := Gr.at (w1 := w2) gr_auto k1_5; have k1_6 := Gr.at (w1 := w2) gr_auto k1_6; have k1_7 := Gr.at (w1 := w2) gr_auto k1_7; have k1_8 := Gr.at (w1 := w2) gr_auto k1_8; have k1_9 := Gr.at (w1 := w2) gr_auto k1_9; have k1_10 := Gr.at (w1 := w2) gr_auto k1_10; have k1_11 := Gr.at (w1 := w2) gr_auto k1_11; have k1_12 := Gr.at (w1 := w2) gr_auto k1_12; have k1_13 := Gr.at (w1 := w2) gr_auto k1_13
  go_wp2_with fail
  refine (HL.out _ g2).mono ?_
  rintro e w3 ⟨rfl, hb3⟩
  have g3 := g2.trans hb3
  have k1_0 := Gr.at (w1 := w3) gr_auto k1_0; have k1_1 := Gr.at (w1 := w3) gr_auto k1_1; have k1_2 := Gr.at (w1 := w3) gr_auto k1_2; have k1_3 := Gr.at (w1 := w3) gr_auto k1_3; have k1_4 := Gr.at (w1 := w3) gr_auto k1_4; have k1_5 := Gr.at (w1 := w3) gr_auto k1_5; have k1_6 := Gr.at (w1 := w3) gr_auto k1_6; have k1_7 := Gr.at (w1 := w3) gr_auto k1_7; have k1_8 := Gr.at (w1 := w3) gr_auto k1_8; have k1_9 := Gr.at (w1 := w3) gr_auto k1_9; have k1_10 := Gr.at (w1 := w3) gr_auto k1_10; have k1_11 := Gr.at (w1 := w3) gr_auto k1_11; have k1_12 := Gr.at (w1 := w3) gr_auto k1_12; have k1_13 := Gr.at (w1 := w3) gr_auto k1_13
  go_wp2_with fail
  go_ret
  exact ⟨rfl, gr_auto⟩

set_option maxRecDepth 100000 in
set_option maxHeartbeats 4000000 in
theorem steps_1 (A A2 VA1 PA1 SA1 OA1 VA2 PA2 SA2 OA2 GA IA : Option Addr) (n c n2 c2 vn1 vc1 pn1 pc1 sn1 sc1 on1 oc1 vn2 vc2 pn2 pc2 sn2 sc2 on2 oc2 gn gc m ic : Nat) (inn out : Int) (w : World) (TA : Option Addr) (tn tc : Nat) (HA : Hid (∀ W, Gr w W → Calls Try.prog 8 #[] W fun e w' => e = .returned (.bool true) ∧ Gr W w')) (HL : Hid (∀ W, Gr w W → Calls Try.prog 9 #[.agg #[.slice A n c, .slice A2 n2 c2, .slice VA1 vn1 vc1, .slice PA1 pn1 pc1, .slice SA1 sn1 sc1, .slice OA1 on1 oc1, .slice VA2 vn2 vc2, .slice PA2 pn2 pc2, .slice SA2 sn2 sc2, .slice OA2 on2 oc2, .slice IA m ic, .int .i64 inn, .int .i64 out, .slice GA gn gc]] W fun e w' => e = .returned (.bool false) ∧ Gr W w')) (hm : tn ≤ 9223372036854775807) (ht : decide ((20 : Int) < (tn : Int)) = true) : Calls Try.prog 3 #[.agg #[.slice A n c, .slice A2 n2 c2, .slice VA1 vn1 vc1, .slice PA1 pn1 pc1, .slice SA1 sn1 sc1, .slice OA1 on1 oc1, .slice VA2 vn2 vc2, .slice PA2 pn2 pc2, .slice SA2 sn2 sc2, .slice OA2 on2 oc2, .slice IA m ic, .int .i64 inn, .int .i64 out, .slice GA gn gc], .slice TA tn tc] w fun e w' => e = .returned (.bool true) ∧ Gr w w' := by
  go_enter Try.func3, Try.ntmps3
  go_wp2_with fail
  (first | refine name_world ?_ | refine (show (∀ W, W = _ → Calls _ _ _ W _) → Calls _ _ _ _ _ from fun h => h _ rfl) ?_); intro W1 hW1
  have g1 : Gr w W1 := by rw [hW1]; exact gr_auto
  have k1_0 : W1.cell? ⟨w.heap.size, 0, none⟩ = some (.slice A n c) := by rw [hW1]; first | (simp [go_sem, *]; done) | (refine Gr.at ?_ (by assumption); exact gr_auto)
  have b1_0 : w.heap.size < W1.heap.size := World.block_lt_of_cell? _ _ k1_0
  have k1_1 : W1.cell? ⟨w.heap.size, 1, none⟩ = some (.slice A2 n2 c2) := by rw [hW1]; first | (simp [go_sem, *]; done) | (refine Gr.at ?_ (by assumption); exact gr_auto)
  have k1_2 : W1.cell? ⟨w.heap.size, 2, none⟩ = some (.slice VA1 vn1 vc1) := by rw [hW1]; first | (simp [go_sem, *]; done) | (refine Gr.at ?_ (by assumption); exact gr_auto)
  have k1_3 : W1.cell? ⟨w.heap.size, 3, none⟩ = some (.slice PA1 pn1 pc1) := by rw [hW1]; first | (simp [go_sem, *]; done) | (refine Gr.at ?_ (by assumption); exact gr_auto)
  have k1_4 : W1.cell? ⟨w.heap.size, 4, none⟩ = some (.slice SA1 sn1 sc1) := by rw [hW1]; first | (simp [go_sem, *]; done) | (refine Gr.at ?_ (by assumption); exact gr_auto)
  have k1_5 : W1.cell? ⟨w.heap.size, 5, none⟩ = some (.slice OA1 on1 oc1) := by rw [hW1]; first | (simp [go_sem, *]; done) | (refine Gr.at ?_ (by assumption); exact gr_auto)
  have k1_6 : W1.cell? ⟨w.heap.size, 6, none⟩ = some (.slice VA2 vn2 vc2) := by rw [hW1]; first | (simp [go_sem, *]; done) | (refine Gr.at ?_ (by assumption); exact gr_auto)
  have k1_7 : W1.cell? ⟨w.heap.size, 7, none⟩ = some (.slice PA2 pn2 pc2) := by rw [hW1]; first | (simp [go_sem, *]; done) | (refine Gr.at ?_ (by assumption); exact gr_auto)
  have k1_8 : W1.cell? ⟨w.heap.size, 8, none⟩ = some (.slice SA2 sn2 sc2) := by rw [hW1]; first | (simp [go_sem, *]; done) | (refine Gr.at ?_ (by assumption); exact gr_auto)
  have k1_9 : W1.cell? ⟨w.heap.size, 9, none⟩ = some (.slice OA2 on2 oc2) := by rw [hW1]; first | (simp [go_sem, *]; done) | (refine Gr.at ?_ (by assumption); exact gr_auto)
  have k1_10 : W1.cell? ⟨w.heap.size, 10, none⟩ = some (.slice IA m ic) := by rw [hW1]; first | (simp [go_sem, *]; done) | (refine Gr.at ?_ (by assumption); exact gr_auto)
  have k1_11 : W1.cell? ⟨w.heap.size, 11, none⟩ = some (.int .i64 inn) := by rw [hW1]; first | (simp [go_sem, *]; done) | (refine Gr.at ?_ (by assumption); exact gr_auto)
  have k1_12 : W1.cell? ⟨w.heap.size, 12, none⟩ = some (.int .i64 out) := by rw [hW1]; first | (simp [go_sem, *]; done) | (refine Gr.at ?_ (by assumption); exact gr_auto)
  have k1_13 : W1.cell? ⟨w.heap.size, 13, none⟩ = some (.slice GA gn gc) := by rw [hW1]; first | (simp [go_sem, *]; done) | (refine Gr.at ?_ (by assumption); exact gr_auto)
  clear hW1
  refine (HA.out _ g1).mono ?_
  rintro e w2 ⟨rfl, hb2⟩
  have g2 := g1.trans hb2
  have k1_0 := Gr.at (w1 := w2) gr_auto k1_0; have k1_1 := Gr.at (w1 := w2) gr_auto k1_1; have k1_2 := Gr.at (w1 := w2) gr_auto k1_2; have k1_3 := Gr.at (w1 := w2) gr_auto k1_3; have k1_4 := Gr.at (w1 := w2) gr_auto k1_4; have k1_5 := Gr.at (w1 := w2) gr_auto k1_5; have k1_6 := Gr.at (w1 := w2) gr_auto k1_6; have k1_7 := Gr.at (w1 := w2) gr_auto k1_7; have k1_8 := Gr.at (w1 := w2) gr_auto k1_8; have k1_9 := Gr.at (w1 := w2) gr_auto k1_9; have k1_10 := Gr.at (w1 := w2) gr_auto k1_10; have k1_11 := Gr.at (w1 := w2) gr_auto k1_11; have k1_12 := Gr.at (w1 := w2) gr_auto k1_12; have k1_13 := Gr.at (w1 := w2) gr_auto k1_13
  go_wp2_with fail
  refine (HL.out _ g2).mono ?_
  rintro e w3 ⟨rfl, hb3⟩
  have g3 := g2.trans hb3
  have k1_0 := Gr.at (w1 := w3) gr_auto k1_0; have k1_1 := Gr.at (w1 := w3) gr_auto k1_1; have k1_2 := Gr.at (w1 := w3) gr_auto k1_2; have k1_3 := Gr.at (w1 := w3) gr_auto k1_3; have k1_4 := Gr.at (w1 := w3) gr_auto k1_4; have k1_5 := Gr.at (w1 := w3) gr_auto k1_5; have k1_6 := Gr.at (w1 := w3) gr_auto k1_6; have k1_7 := Gr.at (w1 := w3) gr_auto k1_7; have k1_8 := Gr.at (w1 := w3) gr_auto k1_8; have k1_9 := Gr.at (w1 := w3) gr_auto k1_9; have k1_10 := Gr.at (w1 := w3) gr_auto k1_10; have k1_11 := Gr.at (w1 := w3) gr_auto k1_11; have k1_12 := Gr.at (w1 := w3) gr_auto k1_12; have k1_13 := Gr.at (w1 := w3) gr_auto k1_13
  go_wp2_with fail
  go_ret
  exact ⟨rfl, gr_auto⟩

set_option maxRecDepth 100000 in
set_option maxHeartbeats 4000000 in
theorem steps_2 (A A2 VA1 PA1 SA1 OA1 VA2 PA2 SA2 OA2 GA IA : Option Addr) (n c n2 c2 vn1 vc1 pn1 pc1 sn1 sc1 on1 oc1 vn2 vc2 pn2 pc2 sn2 sc2 on2 oc2 gn gc m ic : Nat) (inn out : Int) (w : World) (TA : Option Addr) (tn tc : Nat) (sb : Bool) (sl se pr pe : Int) (HA : Hid (∀ W, Gr w W → Calls Try.prog 8 #[] W fun e w' => e = .returned (.bool true) ∧ Gr W w')) (HL : Hid (∀ W, Gr w W → Calls Try.prog 9 #[.agg #[.slice A n c, .slice A2 n2 c2, .slice VA1 vn1 vc1, .slice PA1 pn1 pc1, .slice SA1 sn1 sc1, .slice OA1 on1 oc1, .slice VA2 vn2 vc2, .slice PA2 pn2 pc2, .slice SA2 sn2 sc2, .slice OA2 on2 oc2, .slice IA m ic, .int .i64 inn, .int .i64 out, .slice GA gn gc]] W fun e w' => e = .returned (.bool false) ∧ Gr W w')) (hm : tn ≤ 9223372036854775807) (ht : decide ((20 : Int) < (tn : Int)) = false) (H1 : Hid (∀ W, Gr w W → Calls Try.prog 10 #[.agg #[.slice A n c, .slice A2 n2 c2], .agg #[.slice VA1 vn1 vc1, .slice PA1 pn1 pc1, .slice SA1 sn1 sc1, .slice OA1 on1 oc1], .agg #[.slice VA2 vn2 vc2, .slice PA2 pn2 pc2, .slice SA2 sn2 sc2, .slice OA2 on2 oc2], .slice IA m ic, .agg #[.int .i64 inn, .int .i64 out, .slice GA gn gc]] W fun e w' => e = .returned (.tuple #[.bool sb, .int .i64 sl, .int .i64 se]) ∧ Gr W w')) (H2 : Hid (∀ W, Gr w W → Calls Try.prog 11 #[.agg #[.slice A n c, .slice A2 n2 c2], .agg #[.slice VA1 vn1 vc1, .slice PA1 pn1 pc1, .slice SA1 sn1 sc1, .slice OA1 on1 oc1], .agg #[.slice VA2 vn2 vc2, .slice PA2 pn2 pc2, .slice SA2 sn2 sc2, .slice OA2 on2 oc2], .slice IA m ic, .agg #[.int .i64 inn, .int .i64 out, .slice GA gn gc]] W fun e w' => e = .returned (.tuple #[.bool sb, .int .i64 sl, .int .i64 se]) ∧ Gr W w')) (H3 : Hid (∀ W, Gr w W → Calls Try.prog 12 #[.agg #[.slice A n c, .slice A2 n2 c2], .slice TA tn tc, .agg #[.slice VA1 vn1 vc1, .slice PA1 pn1 pc1, .slice SA1 sn1 sc1, .slice OA1 on1 oc1], .agg #[.slice VA2 vn2 vc2, .slice PA2 pn2 pc2, .slice SA2 sn2 sc2, .slice OA2 on2 oc2], .slice IA m ic, .agg #[.int .i64 inn, .int .i64 out, .slice GA gn gc]] W fun e w' => e = .returned (.tuple #[.int .i64 pr, .int .i64 pe]) ∧ Gr W w')) (H4 : Hid (∀ W, Gr w W → Calls Try.prog 13 #[.agg #[.slice A n c, .slice A2 n2 c2], .slice TA tn tc, .agg #[.slice VA1 vn1 vc1, .slice PA1 pn1 pc1, .slice SA1 sn1 sc1, .slice OA1 on1 oc1], .agg #[.slice VA2 vn2 vc2, .slice PA2 pn2 pc2, .slice SA2 sn2 sc2, .slice OA2 on2 oc2], .slice IA m ic, .agg #[.int .i64 inn, .int .i64 out, .slice GA gn gc]] W fun e w' => e = .returned (.tuple #[.int .i64 pr, .int .i64 pe]) ∧ Gr W w')) : Calls Try.prog 3 #[.agg #[.slice A n c, .slice A2 n2 c2, .slice VA1 vn1 vc1, .slice PA1 pn1 pc1, .slice SA1 sn1 sc1, .slice OA1 on1 oc1, .slice VA2 vn2 vc2, .slice PA2 pn2 pc2, .slice SA2 sn2 sc2, .slice OA2 on2 oc2, .slice IA m ic, .int .i64 inn, .int .i64 out, .slice GA gn gc], .slice TA tn tc] w fun e w' => e = .returned (.bool true) ∧ Gr w w' := by
  go_enter Try.func3, Try.ntmps3
  go_wp2_with fail
  (first | refine name_world ?_ | refine (show (∀ W, W = _ → Calls _ _ _ W _) → Calls _ _ _ _ _ from fun h => h _ rfl) ?_); intro W1 hW1
  have g1 : Gr w W1 := by rw [hW1]; exact gr_auto
  have k1_0 : W1.cell? ⟨w.heap.size, 0, none⟩ = some (.slice A n c) := by rw [hW1]; first | (simp [go_sem, *]; done) | (refine Gr.at ?_ (by assumption); exact gr_auto)
  have b1_0 : w.heap.size < W1.heap.size := World.block_lt_of_cell? _ _ k1_0
  have k1_1 : W1.cell? ⟨w.heap.size, 1, none⟩ = some (.slice A2 n2 c2) := by rw [hW1]; first | (simp [go_sem, *]; done) | (refine Gr.at ?_ (by assumption); exact gr_auto)
  have k1_2 : W1.cell? ⟨w.heap.size, 2, none⟩ = some (.slice VA1 vn1 vc1) := by rw [hW1]; first | (simp [go_sem, *]; done) | (refine Gr.at ?_ (by assumption); exact gr_auto)
  have k1_3 : W1.cell? ⟨w.heap.size, 3, none⟩ = some (.slice PA1 pn1 pc1) := by rw [hW1]; first | (simp [go_sem, *]; done) | (refine Gr.at ?_ (by assumption); exact gr_auto)
  have k1_4 : W1.cell? ⟨w.heap.size, 4, none⟩ = some (.slice SA1 sn1 sc1) := by rw [hW1]; first | (simp [go_sem, *]; done) | (refine Gr.at ?_ (by assumption); exact gr_auto)
  have k1_5 : W1.cell? ⟨w.heap.size, 5, none⟩ = some (.slice OA1 on1 oc1) := by rw [hW1]; first | (simp [go_sem, *]; done) | (refine Gr.at ?_ (by assumption); exact gr_auto)
  have k1_6 : W1.cell? ⟨w.heap.size, 6, none⟩ = some (.slice VA2 vn2 vc2) := by rw [hW1]; first | (simp [go_sem, *]; done) | (refine Gr.at ?_ (by assumption); exact gr_auto)
  have k1_7 : W1.cell? ⟨w.heap.size, 7, none⟩ = some (.slice PA2 pn2 pc2) := by rw [hW1]; first | (simp [go_sem, *]; done) | (refine Gr.at ?_ (by assumption); exact gr_auto)
  have k1_8 : W1.cell? ⟨w.heap.size, 8, none⟩ = some (.slice SA2 sn2 sc2) := by rw [hW1]; first | (simp [go_sem, *]; done) | (refine Gr.at ?_ (by assumption); exact gr_auto)
  have k1_9 : W1.cell? ⟨w.heap.size, 9, none⟩ = some (.slice OA2 on2 oc2) := by rw [hW1]; first | (simp [go_sem, *]; done) | (refine Gr.at ?_ (by assumption); exact gr_auto)
  have k1_10 : W1.cell? ⟨w.heap.size, 10, none⟩ = some (.slice IA m ic) := by rw [hW1]; first | (simp [go_sem, *]; done) | (refine Gr.at ?_ (by assumption); exact gr_auto)
  have k1_11 : W1.cell? ⟨w.heap.size, 11, none⟩ = some (.int .i64 inn) := by rw [hW1]; first | (simp [go_sem, *]; done) | (refine Gr.at ?_ (by assumption); exact gr_auto)
  have k1_12 : W1.cell? ⟨w.heap.size, 12, none⟩ = some (.int .i64 out) := by rw [hW1]; first | (simp [go_sem, *]; done) | (refine Gr.at ?_ (by assumption); exact gr_auto)
  have k1_13 : W1.cell? ⟨w.heap.size, 13, none⟩ = some (.slice GA gn gc) := by rw [hW1]; first | (simp [go_sem, *]; done) | (refine Gr.at ?_ (by assumption); exact gr_auto)
  clear hW1
  refine (HA.out _ g1).mono ?_
  rintro e w2 ⟨rfl, hb2⟩
  have g2 := g1.trans hb2
  have k1_0 := Gr.at (w1 := w2) gr_auto k1_0; have k1_1 := Gr.at (w1 := w2) gr_auto k1_1; have k1_2 := Gr.at (w1 := w2) gr_auto k1_2; have k1_3 := Gr.at (w1 := w2) gr_auto k1_3; have k1_4 := Gr.at (w1 := w2) gr_auto k1_4; have k1_5 := Gr.at (w1 := w2) gr_auto k1_5; have k1_6 := Gr.at (w1 := w2) gr_auto k1_6; have k1_7 := Gr.at (w1 := w2) gr_auto k1_7; have k1_8 := Gr.at (w1 := w2) gr_auto k1_8; have k1_9 := Gr.at (w1 := w2) gr_auto k1_9; have k1_10 := Gr.at (w1 := w2) gr_auto k1_10; have k1_11 := Gr.at (w1 := w2) gr_auto k1_11; have k1_12 := Gr.at (w1 := w2) gr_auto k1_12; have k1_13 := Gr.at (w1 := w2) gr_auto k1_13
  go_wp2_with fail
  refine (HL.out _ g2).mono ?_
  rintro e w3 ⟨rfl, hb3⟩
  have g3 := g2.trans hb3
  have k1_0 := Gr.at (w1 := w3) gr_auto k1_0; have k1_1 := Gr.at (w1 := w3) gr_auto k1_1; have k1_2 := Gr.at (w1 := w3) gr_auto k1_2; have k1_3 := Gr.at (w1 := w3) gr_auto k1_3; have k1_4 := Gr.at (w1 := w3) gr_auto k1_4; have k1_5 := Gr.at (w1 := w3) gr_auto k1_5; have k1_6 := Gr.at (w1 := w3) gr_auto k1_6; have k1_7 := Gr.at (w1 := w3) gr_auto k1_7; have k1_8 := Gr.at (w1 := w3) gr_auto k1_8; have k1_9 := Gr.at (w1 := w3) gr_auto k1_9; have k1_10 := Gr.at (w1 := w3) gr_auto k1_10; have k1_11 := Gr.at (w1 := w3) gr_auto k1_11; have k1_12 := Gr.at (w1 := w3) gr_auto k1_12; have k1_13 := Gr.at (w1 := w3) gr_auto k1_13
  go_wp2_with fail
  refine (H1.out _ g3).mono ?_
  rintro e w4 ⟨rfl, hb4⟩
  have g4 := g3.trans hb4
  have k1_0 := Gr.at (w1 := w4) gr_auto k1_0; have k1_1 := Gr.at (w1 := w4) gr_auto k1_1; have k1_2 := Gr.at (w1 := w4) gr_auto k1_2; have k1_3 := Gr.at (w1 := w4) gr_auto k1_3; have k1_4 := Gr.at (w1 := w4) gr_auto k1_4; have k1_5 := Gr.at (w1 := w4) gr_auto k1_5; have k1_6 := Gr.at (w1 := w4) gr_auto k1_6; have k1_7 := Gr.at (w1 := w4) gr_auto k1_7; have k1_8 := Gr.at (w1 := w4) gr_auto k1_8; have k1_9 := Gr.at (w1 := w4) gr_auto k1_9; have k1_10 := Gr.at (w1 := w4) gr_auto k1_10; have k1_11 := Gr.at (w1 := w4) gr_auto k1_11; have k1_12 := Gr.at (w1 := w4) gr_auto k1_12; have k1_13 := Gr.at (w1 := w4) gr_auto k1_13
  go_wp2_with fail
  refine (H2.out _ g4).mono ?_
  rintro e w5 ⟨rfl, hb5⟩
  have g5 := g4.trans hb5
  have k1_0 := Gr.at (w1 := w5) gr_auto k1_0; have k1_1 := Gr.at (w1 := w5) gr_auto k1_1; have k1_2 := Gr.at (w1 := w5) gr_auto k1_2; have k1_3 := Gr.at (w1 := w5) gr_auto k1_3; have k1_4 := Gr.at (w1 := w5) gr_auto k1_4; have k1_5 := Gr.at (w1 := w5) gr_auto k1_5; have k1_6 := Gr.at (w1 := w5) gr_auto k1_6; have k1_7 := Gr.at (w1 := w5) gr_auto k1_7; have k1_8 := Gr.at (w1 := w5) gr_auto k1_8; have k1_9 := Gr.at (w1 := w5) gr_auto k1_9; have k1_10 := Gr.at (w1 := w5) gr_auto k1_10; have k1_11 := Gr.at (w1 := w5) gr_auto k1_11; have k1_12 := Gr.at (w1 := w5) gr_auto k1_12; have k1_13 := Gr.at (w1 := w5) gr_auto k1_13
  go_wp2_with fail
  refine (H3.out _ g5).mono ?_
  rintro e w6 ⟨rfl, hb6⟩
  have g6 := g5.trans hb6
  have k1_0 := Gr.at (w1 := w6) gr_auto k1_0; have k1_1 := Gr.at (w1 := w6) gr_auto k1_1; have k1_2 := Gr.at (w1 := w6) gr_auto k1_2; have k1_3 := Gr.at (w1 := w6) gr_auto k1_3; have k1_4 := Gr.at (w1 := w6) gr_auto k1_4; have k1_5 := Gr.at (w1 := w6) gr_auto k1_5; have k1_6 := Gr.at (w1 := w6) gr_auto k1_6; have k1_7 := Gr.at (w1 := w6) gr_auto k1_7; have k1_8 := Gr.at (w1 := w6) gr_auto k1_8; have k1_9 := Gr.at (w1 := w6) gr_auto k1_9; have k1_10 := Gr.at (w1 := w6) gr_auto k1_10; have k1_11 := Gr.at (w1 := w6) gr_auto k1_11; have k1_12 := Gr.at (w1 := w6) gr_auto k1_12; have k1_13 := Gr.at (w1 := w6) gr_auto k1_13
  go_wp2_with fail
  refine (H4.out _ g6).mono ?_
  rintro e w7 ⟨rfl, hb7⟩
  have g7 := g6.trans hb7
  have k1_0 := Gr.at (w1 := w7) gr_auto k1_0; have k1_1 := Gr.at (w1 := w7) gr_auto k1_1; have k1_2 := Gr.at (w1 := w7) gr_auto k1_2; have k1_3 := Gr.at (w1 := w7) gr_auto k1_3; have k1_4 := Gr.at (w1 := w7) gr_auto k1_4; have k1_5 := Gr.at (w1 := w7) gr_auto k1_5; have k1_6 := Gr.at (w1 := w7) gr_auto k1_6; have k1_7 := Gr.at (w1 := w7) gr_auto k1_7; have k1_8 := Gr.at (w1 := w7) gr_auto k1_8; have k1_9 := Gr.at (w1 := w7) gr_auto k1_9; have k1_10 := Gr.at (w1 := w7) gr_auto k1_10; have k1_11 := Gr.at (w1 := w7) gr_auto k1_11; have k1_12 := Gr.at (w1 := w7) gr_auto k1_12; have k1_13 := Gr.at (w1 := w7) gr_auto k1_13
  go_wp2_with fail
  go_ret
  exact ⟨rfl, gr_auto⟩

theorem steps_any (N : Ba.SlNode) (L : Ba.SlLink) (s1 s2 : Ba.State) (I : Ba.SlI) (g : Ba.Ledger) (w : World) (hN : N.At w) (hL : L.At w) (h1 : s1.Ok w) (h2 : s2.Ok w) (hI : I.At w) (hg : g.Ok w) (T : Ba.SlS) (hT : T.At w) : Calls Try.prog 3 #[Ba.caseVal N L s1 s2 I g, .slice T.A T.n T.c] w fun e w' => e = .returned (.bool true) ∧ Gr w w' := by
  have HA := Lib.hid (fun W (_ : Gr w W) => awake_any W)
  have HL := Lib.hid (fun W (hh : Gr w W) => large_any N L s1 s2 I g W (hN.gr hh) (hL.gr hh) (h1.gr hh) (h2.gr hh) (hI.gr hh) (hg.gr hh))
  have hm := Nat.le_trans hT.hc hT.hb
  cases hq : Ba.largeB N L s1 s2 I g
  · rw [hq] at HL
    cases ht : decide ((20 : Int) < (T.n : Int))
    · have hz := Ba.large_no hq
      have hz2 := of_decide_eq_false ht
      have G := fun W (hh : Gr w W) => And.intro (hN.gr hh) (And.intro (hL.gr hh) (And.intro (h1.gr hh) (And.intro (h2.gr hh) (And.intro (hI.gr hh) (hg.gr hh)))))
      exact steps_2 (N.A) (L.A) (s1.vs.A) (s1.ps.A) (s1.st.A) (s1.on.A) (s2.vs.A) (s2.ps.A) (s2.st.A) (s2.on.A) (g.ps.A) (I.A) (N.n) (N.c) (L.n) (L.c) (s1.vs.n) (s1.vs.c) (s1.ps.n) (s1.ps.c) (s1.st.n) (s1.st.c) (s1.on.n) (s1.on.c) (s2.vs.n) (s2.vs.c) (s2.ps.n) (s2.ps.c) (s2.st.n) (s2.st.c) (s2.on.n) (s2.on.c) (g.ps.n) (g.ps.c) (I.n) (I.c) (g.inn) (g.out) (w) T.A T.n T.c _ _ _ _ _ HA HL hm ht
        (Lib.hid (fun W hh => step_any N L s1 s2 I g W (G W hh).1 (G W hh).2.1 (G W hh).2.2.1 (G W hh).2.2.2.1 (G W hh).2.2.2.2.1 (G W hh).2.2.2.2.2 hz.1 hz.2))
        (Lib.hid (fun W hh => rstep_any N L s1 s2 I g W (G W hh).1 (G W hh).2.1 (G W hh).2.2.1 (G W hh).2.2.2.1 (G W hh).2.2.2.2.1 (G W hh).2.2.2.2.2 hz.1 hz.2))
        (Lib.hid (fun W hh => part_any N L s1 s2 I g W (G W hh).1 (G W hh).2.1 (G W hh).2.2.1 (G W hh).2.2.2.1 (G W hh).2.2.2.2.1 (G W hh).2.2.2.2.2 T (hT.gr hh) hz.1 hz.2 (by omega)))
        (Lib.hid (fun W hh => rpart_any N L s1 s2 I g W (G W hh).1 (G W hh).2.1 (G W hh).2.2.1 (G W hh).2.2.2.1 (G W hh).2.2.2.2.1 (G W hh).2.2.2.2.2 T (hT.gr hh) hz.1 hz.2 (by omega)))
    · exact steps_1 (N.A) (L.A) (s1.vs.A) (s1.ps.A) (s1.st.A) (s1.on.A) (s2.vs.A) (s2.ps.A) (s2.st.A) (s2.on.A) (g.ps.A) (I.A) (N.n) (N.c) (L.n) (L.c) (s1.vs.n) (s1.vs.c) (s1.ps.n) (s1.ps.c) (s1.st.n) (s1.st.c) (s1.on.n) (s1.on.c) (s2.vs.n) (s2.vs.c) (s2.ps.n) (s2.ps.c) (s2.st.n) (s2.st.c) (s2.on.n) (s2.on.c) (g.ps.n) (g.ps.c) (I.n) (I.c) (g.inn) (g.out) (w) T.A T.n T.c HA HL hm ht
  · rw [hq] at HL
    exact steps_0 (N.A) (L.A) (s1.vs.A) (s1.ps.A) (s1.st.A) (s1.on.A) (s2.vs.A) (s2.ps.A) (s2.st.A) (s2.on.A) (g.ps.A) (I.A) (N.n) (N.c) (L.n) (L.c) (s1.vs.n) (s1.vs.c) (s1.ps.n) (s1.ps.c) (s1.st.n) (s1.st.c) (s1.on.n) (s1.on.c) (s2.vs.n) (s2.vs.c) (s2.ps.n) (s2.ps.c) (s2.st.n) (s2.st.c) (s2.on.n) (s2.on.c) (g.ps.n) (g.ps.c) (I.n) (I.c) (g.inn) (g.out) (w) T.A T.n T.c HA HL
theorem steps_law (N : Ba.SlNode) (L : Ba.SlLink) (s1 s2 : Ba.State) (I : Ba.SlI) (g : Ba.Ledger) (T : Ba.SlS) (w : World) (hN : N.At w) (hL : L.At w) (h1 : s1.Ok w) (h2 : s2.Ok w) (hI : I.At w) (hg : g.Ok w) (hT : T.At w) : Calls Try.prog 3 #[Ba.caseVal N L s1 s2 I g, .slice T.A T.n T.c] w fun e w' => e = .returned (.bool true) ∧ Gr w w' := steps_any N L s1 s2 I g w hN hL h1 h2 hI hg T hT
end Go.Proofs.Ythkmgnaeponfcaa

