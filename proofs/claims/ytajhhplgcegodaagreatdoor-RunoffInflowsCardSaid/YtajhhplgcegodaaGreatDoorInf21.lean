/-
  Runoff: runoff.right answers Ba.riE. (Printed by mkrd.py.)
-/
import Derived.Test.YtajhhplgcegodaaGreatDoorInf20
import Derived.Test.YtajhhplgcegodaaGreatDoorInf10

set_option linter.unusedVariables false
set_option linter.unusedSimpArgs false
namespace Go.Proofs.YtajhhplgcegodaaGreatDoor
open Go.RowKit
set_option maxRecDepth 100000 in
set_option maxHeartbeats 4000000 in
theorem ri_V (SA FA A PA NA UA DA : Option Addr) (sn sc fn fc n c pn pc nn nc un uc dn dc : Nat) (fr st : Int) (w : World) (l1 : fn ≤ 9223372036854775807) (l2 : n ≤ 9223372036854775807) (l3 : pn ≤ 9223372036854775807) (l4 : nn ≤ 9223372036854775807) (l5 : un ≤ 9223372036854775807)
    (HV : Hid (∀ W, Gr w W → Calls Tryz.prog 32 #[.agg #[.slice SA sn sc, .slice FA fn fc]] W fun e w' => e = .returned (.bool false) ∧ Gr W w')) :
    Calls Tryz.prog 55 #[.agg #[.slice SA sn sc, .slice FA fn fc], .slice A n c, .slice PA pn pc, .slice NA nn nc, .slice UA un uc, .agg #[.int .i64 fr, .int .i64 st, .slice DA dn dc]] w fun e w' => e = .returned (.int .i64 1) ∧ Gr w w' := by
  go_enter Tryz.func55, Tryz.ntmps55
  go_wp2_with fail
  (first | refine name_world ?_ | refine (show (∀ W, W = _ → Calls _ _ _ W _) → Calls _ _ _ _ _ from fun h => h _ rfl) ?_); intro W1 hW1
  have g1 : Gr w W1 := by rw [hW1]; exact gr_auto
  have k1_0 : W1.cell? ⟨w.heap.size, 0, none⟩ = some (.slice SA sn sc) := by rw [hW1]; first | (simp [go_sem, *]; done) | (refine Gr.at ?_ (by assumption); exact gr_auto)
  have b1_0 : w.heap.size < W1.heap.size := World.block_lt_of_cell? _ _ k1_0
  have k1_1 : W1.cell? ⟨w.heap.size, 1, none⟩ = some (.slice FA fn fc) := by rw [hW1]; first | (simp [go_sem, *]; done) | (refine Gr.at ?_ (by assumption); exact gr_auto)
  have k1_2 : W1.cell? ⟨w.heap.size + 1, 0, none⟩ = some (.slice A n c) := by rw [hW1]; first | (simp [go_sem, *]; done) | (refine Gr.at ?_ (by assumption); exact gr_auto)
  have b1_2 : w.heap.size + 1 < W1.heap.size := World.block_lt_of_cell? _ _ k1_2
  have k1_3 : W1.cell? ⟨w.heap.size + 1 + 1, 0, none⟩ = some (.slice NA nn nc) := by rw [hW1]; first | (simp [go_sem, *]; done) | (refine Gr.at ?_ (by assumption); exact gr_auto)
  have b1_3 : w.heap.size + 1 + 1 < W1.heap.size := World.block_lt_of_cell? _ _ k1_3
  have k1_4 : W1.cell? ⟨w.heap.size + 1 + 1 + 1, 0, none⟩ = some (.int .i64 fr) := by rw [hW1]; first | (simp [go_sem, *]; done) | (refine Gr.at ?_ (by assumption); exact gr_auto)
  have b1_4 : w.heap.size + 1 + 1 + 1 < W1.heap.size := World.block_lt_of_cell? _ _ k1_4
  have k1_5 : W1.cell? ⟨w.heap.size + 1 + 1 + 1, 1, none⟩ = some (.int .i64 st) := by rw [hW1]; first | (simp [go_sem, *]; done) | (refine Gr.at ?_ (by assumption); exact gr_auto)
  have k1_6 : W1.cell? ⟨w.heap.size + 1 + 1 + 1, 2, none⟩ = some (.slice DA dn dc) := by rw [hW1]; first | (simp [go_sem, *]; done) | (refine Gr.at ?_ (by assumption); exact gr_auto)
  clear hW1
  refine (HV.out _ g1).mono ?_
  rintro e w2 ⟨rfl, hb2⟩
  have g2 := g1.trans hb2
  have k1_0 := Gr.at (w1 := w2) gr_auto k1_0; have k1_1 := Gr.at (w1 := w2) gr_auto k1_1; have k1_2 := Gr.at (w1 := w2) gr_auto k1_2; have k1_3 := Gr.at (w1 := w2) gr_auto k1_3; have k1_4 := Gr.at (w1 := w2) gr_auto k1_4; have k1_5 := Gr.at (w1 := w2) gr_auto k1_5; have k1_6 := Gr.at (w1 := w2) gr_auto k1_6
  clear HV
  go_wp2_with fail
  go_ret
  exact ⟨rfl, gr_auto⟩
set_option maxRecDepth 100000 in
set_option maxHeartbeats 4000000 in
theorem ri_C (SA FA A PA NA UA DA : Option Addr) (sn sc fn fc n c pn pc nn nc un uc dn dc : Nat) (fr st : Int) (w : World) (l1 : fn ≤ 9223372036854775807) (l2 : n ≤ 9223372036854775807) (l3 : pn ≤ 9223372036854775807) (l4 : nn ≤ 9223372036854775807) (l5 : un ≤ 9223372036854775807)
    (HV : Hid (∀ W, Gr w W → Calls Tryz.prog 32 #[.agg #[.slice SA sn sc, .slice FA fn fc]] W fun e w' => e = .returned (.bool true) ∧ Gr W w'))
    (HC : Hid (∀ W, Gr w W → Calls Tryz.prog 102 #[.slice A n c] W fun e w' => e = .returned (.bool false) ∧ Gr W w')) :
    Calls Tryz.prog 55 #[.agg #[.slice SA sn sc, .slice FA fn fc], .slice A n c, .slice PA pn pc, .slice NA nn nc, .slice UA un uc, .agg #[.int .i64 fr, .int .i64 st, .slice DA dn dc]] w fun e w' => e = .returned (.int .i64 1) ∧ Gr w w' := by
  go_enter Tryz.func55, Tryz.ntmps55
  go_wp2_with fail
  (first | refine name_world ?_ | refine (show (∀ W, W = _ → Calls _ _ _ W _) → Calls _ _ _ _ _ from fun h => h _ rfl) ?_); intro W1 hW1
  have g1 : Gr w W1 := by rw [hW1]; exact gr_auto
  have k1_0 : W1.cell? ⟨w.heap.size, 0, none⟩ = some (.slice SA sn sc) := by rw [hW1]; first | (simp [go_sem, *]; done) | (refine Gr.at ?_ (by assumption); exact gr_auto)
  have b1_0 : w.heap.size < W1.heap.size := World.block_lt_of_cell? _ _ k1_0
  have k1_1 : W1.cell? ⟨w.heap.size, 1, none⟩ = some (.slice FA fn fc) := by rw [hW1]; first | (simp [go_sem, *]; done) | (refine Gr.at ?_ (by assumption); exact gr_auto)
  have k1_2 : W1.cell? ⟨w.heap.size + 1, 0, none⟩ = some (.slice A n c) := by rw [hW1]; first | (simp [go_sem, *]; done) | (refine Gr.at ?_ (by assumption); exact gr_auto)
  have b1_2 : w.heap.size + 1 < W1.heap.size := World.block_lt_of_cell? _ _ k1_2
  have k1_3 : W1.cell? ⟨w.heap.size + 1 + 1, 0, none⟩ = some (.slice NA nn nc) := by rw [hW1]; first | (simp [go_sem, *]; done) | (refine Gr.at ?_ (by assumption); exact gr_auto)
  have b1_3 : w.heap.size + 1 + 1 < W1.heap.size := World.block_lt_of_cell? _ _ k1_3
  have k1_4 : W1.cell? ⟨w.heap.size + 1 + 1 + 1, 0, none⟩ = some (.int .i64 fr) := by rw [hW1]; first | (simp [go_sem, *]; done) | (refine Gr.at ?_ (by assumption); exact gr_auto)
  have b1_4 : w.heap.size + 1 + 1 + 1 < W1.heap.size := World.block_lt_of_cell? _ _ k1_4
  have k1_5 : W1.cell? ⟨w.heap.size + 1 + 1 + 1, 1, none⟩ = some (.int .i64 st) := by rw [hW1]; first | (simp [go_sem, *]; done) | (refine Gr.at ?_ (by assumption); exact gr_auto)
  have k1_6 : W1.cell? ⟨w.heap.size + 1 + 1 + 1, 2, none⟩ = some (.slice DA dn dc) := by rw [hW1]; first | (simp [go_sem, *]; done) | (refine Gr.at ?_ (by assumption); exact gr_auto)
  clear hW1
  refine (HV.out _ g1).mono ?_
  rintro e w2 ⟨rfl, hb2⟩
  have g2 := g1.trans hb2
  have k1_0 := Gr.at (w1 := w2) gr_auto k1_0; have k1_1 := Gr.at (w1 := w2) gr_auto k1_1; have k1_2 := Gr.at (w1 := w2) gr_auto k1_2; have k1_3 := Gr.at (w1 := w2) gr_auto k1_3; have k1_4 := Gr.at (w1 := w2) gr_auto k1_4; have k1_5 := Gr.at (w1 := w2) gr_auto k1_5; have k1_6 := Gr.at (w1 := w2) gr_auto k1_6
  clear HV
  go_wp2_with fail
  refine (HC.out _ g2).mono ?_
  rintro e w3 ⟨rfl, hb3⟩
  have g3 := g2.trans hb3
  have k1_0 := Gr.at (w1 := w3) gr_auto k1_0; have k1_1 := Gr.at (w1 := w3) gr_auto k1_1; have k1_2 := Gr.at (w1 := w3) gr_auto k1_2; have k1_3 := Gr.at (w1 := w3) gr_auto k1_3; have k1_4 := Gr.at (w1 := w3) gr_auto k1_4; have k1_5 := Gr.at (w1 := w3) gr_auto k1_5; have k1_6 := Gr.at (w1 := w3) gr_auto k1_6
  clear HC
  go_wp2_with fail
  go_ret
  exact ⟨rfl, gr_auto⟩
set_option maxRecDepth 100000 in
set_option maxHeartbeats 4000000 in
theorem ri_S (SA FA A PA NA UA DA : Option Addr) (sn sc fn fc n c pn pc nn nc un uc dn dc : Nat) (fr st : Int) (w : World) (l1 : fn ≤ 9223372036854775807) (l2 : n ≤ 9223372036854775807) (l3 : pn ≤ 9223372036854775807) (l4 : nn ≤ 9223372036854775807) (l5 : un ≤ 9223372036854775807)
    (HV : Hid (∀ W, Gr w W → Calls Tryz.prog 32 #[.agg #[.slice SA sn sc, .slice FA fn fc]] W fun e w' => e = .returned (.bool true) ∧ Gr W w'))
    (HC : Hid (∀ W, Gr w W → Calls Tryz.prog 102 #[.slice A n c] W fun e w' => e = .returned (.bool true) ∧ Gr W w'))
    (HS : Hid (∀ W, Gr w W → Calls Tryz.prog 72 #[.agg #[.int .i64 fr, .int .i64 st, .slice DA dn dc]] W fun e w' => e = .returned (.bool false) ∧ Gr W w')) :
    Calls Tryz.prog 55 #[.agg #[.slice SA sn sc, .slice FA fn fc], .slice A n c, .slice PA pn pc, .slice NA nn nc, .slice UA un uc, .agg #[.int .i64 fr, .int .i64 st, .slice DA dn dc]] w fun e w' => e = .returned (.int .i64 1) ∧ Gr w w' := by
  go_enter Tryz.func55, Tryz.ntmps55
  go_wp2_with fail
  (first | refine name_world ?_ | refine (show (∀ W, W = _ → Calls _ _ _ W _) → Calls _ _ _ _ _ from fun h => h _ rfl) ?_); intro W1 hW1
  have g1 : Gr w W1 := by rw [hW1]; exact gr_auto
  have k1_0 : W1.cell? ⟨w.heap.size, 0, none⟩ = some (.slice SA sn sc) := by rw [hW1]; first | (simp [go_sem, *]; done) | (refine Gr.at ?_ (by assumption); exact gr_auto)
  have b1_0 : w.heap.size < W1.heap.size := World.block_lt_of_cell? _ _ k1_0
  have k1_1 : W1.cell? ⟨w.heap.size, 1, none⟩ = some (.slice FA fn fc) := by rw [hW1]; first | (simp [go_sem, *]; done) | (refine Gr.at ?_ (by assumption); exact gr_auto)
  have k1_2 : W1.cell? ⟨w.heap.size + 1, 0, none⟩ = some (.slice A n c) := by rw [hW1]; first | (simp [go_sem, *]; done) | (refine Gr.at ?_ (by assumption); exact gr_auto)
  have b1_2 : w.heap.size + 1 < W1.heap.size := World.block_lt_of_cell? _ _ k1_2
  have k1_3 : W1.cell? ⟨w.heap.size + 1 + 1, 0, none⟩ = some (.slice NA nn nc) := by rw [hW1]; first | (simp [go_sem, *]; done) | (refine Gr.at ?_ (by assumption); exact gr_auto)
  have b1_3 : w.heap.size + 1 + 1 < W1.heap.size := World.block_lt_of_cell? _ _ k1_3
  have k1_4 : W1.cell? ⟨w.heap.size + 1 + 1 + 1, 0, none⟩ = some (.int .i64 fr) := by rw [hW1]; first | (simp [go_sem, *]; done) | (refine Gr.at ?_ (by assumption); exact gr_auto)
  have b1_4 : w.heap.size + 1 + 1 + 1 < W1.heap.size := World.block_lt_of_cell? _ _ k1_4
  have k1_5 : W1.cell? ⟨w.heap.size + 1 + 1 + 1, 1, none⟩ = some (.int .i64 st) := by rw [hW1]; first | (simp [go_sem, *]; done) | (refine Gr.at ?_ (by assumption); exact gr_auto)
  have k1_6 : W1.cell? ⟨w.heap.size + 1 + 1 + 1, 2, none⟩ = some (.slice DA dn dc) := by rw [hW1]; first | (simp [go_sem, *]; done) | (refine Gr.at ?_ (by assumption); exact gr_auto)
  clear hW1
  refine (HV.out _ g1).mono ?_
  rintro e w2 ⟨rfl, hb2⟩
  have g2 := g1.trans hb2
  have k1_0 := Gr.at (w1 := w2) gr_auto k1_0; have k1_1 := Gr.at (w1 := w2) gr_auto k1_1; have k1_2 := Gr.at (w1 := w2) gr_auto k1_2; have k1_3 := Gr.at (w1 := w2) gr_auto k1_3; have k1_4 := Gr.at (w1 := w2) gr_auto k1_4; have k1_5 := Gr.at (w1 := w2) gr_auto k1_5; have k1_6 := Gr.at (w1 := w2) gr_auto k1_6
  clear HV
  go_wp2_with fail
  refine (HC.out _ g2).mono ?_
  rintro e w3 ⟨rfl, hb3⟩
  have g3 := g2.trans hb3
  have k1_0 := Gr.at (w1 := w3) gr_auto k1_0; have k1_1 := Gr.at (w1 := w3) gr_auto k1_1; have k1_2 := Gr.at (w1 := w3) gr_auto k1_2; have k1_3 := Gr.at (w1 := w3) gr_auto k1_3; have k1_4 := Gr.at (w1 := w3) gr_auto k1_4; have k1_5 := Gr.at (w1 := w3) gr_auto k1_5; have k1_6 := Gr.at (w1 := w3) gr_auto k1_6
  clear HC
  go_wp2_with fail
  refine (HS.out _ g3).mono ?_
  rintro e w4 ⟨rfl, hb4⟩
  have g4 := g3.trans hb4
  have k1_0 := Gr.at (w1 := w4) gr_auto k1_0; have k1_1 := Gr.at (w1 := w4) gr_auto k1_1; have k1_2 := Gr.at (w1 := w4) gr_auto k1_2; have k1_3 := Gr.at (w1 := w4) gr_auto k1_3; have k1_4 := Gr.at (w1 := w4) gr_auto k1_4; have k1_5 := Gr.at (w1 := w4) gr_auto k1_5; have k1_6 := Gr.at (w1 := w4) gr_auto k1_6
  clear HS
  go_wp2_with fail
  go_ret
  exact ⟨rfl, gr_auto⟩
set_option maxRecDepth 100000 in
set_option maxHeartbeats 4000000 in
theorem ri_U (SA FA A PA NA UA DA : Option Addr) (sn sc fn fc n c pn pc nn nc un uc dn dc : Nat) (fr st : Int) (w : World) (l1 : fn ≤ 9223372036854775807) (l2 : n ≤ 9223372036854775807) (l3 : pn ≤ 9223372036854775807) (l4 : nn ≤ 9223372036854775807) (l5 : un ≤ 9223372036854775807)
    (HV : Hid (∀ W, Gr w W → Calls Tryz.prog 32 #[.agg #[.slice SA sn sc, .slice FA fn fc]] W fun e w' => e = .returned (.bool true) ∧ Gr W w'))
    (HC : Hid (∀ W, Gr w W → Calls Tryz.prog 102 #[.slice A n c] W fun e w' => e = .returned (.bool true) ∧ Gr W w'))
    (HS : Hid (∀ W, Gr w W → Calls Tryz.prog 72 #[.agg #[.int .i64 fr, .int .i64 st, .slice DA dn dc]] W fun e w' => e = .returned (.bool true) ∧ Gr W w'))
    (HU : Hid (∀ W, Gr w W → Calls Tryz.prog 21 #[.slice UA un uc, .func (.func 100) #[] #[]] W fun e w' => e = .returned (.bool true) ∧ Gr W w')) :
    Calls Tryz.prog 55 #[.agg #[.slice SA sn sc, .slice FA fn fc], .slice A n c, .slice PA pn pc, .slice NA nn nc, .slice UA un uc, .agg #[.int .i64 fr, .int .i64 st, .slice DA dn dc]] w fun e w' => e = .returned (.int .i64 1) ∧ Gr w w' := by
  go_enter Tryz.func55, Tryz.ntmps55
  go_wp2_with fail
  (first | refine name_world ?_ | refine (show (∀ W, W = _ → Calls _ _ _ W _) → Calls _ _ _ _ _ from fun h => h _ rfl) ?_); intro W1 hW1
  have g1 : Gr w W1 := by rw [hW1]; exact gr_auto
  have k1_0 : W1.cell? ⟨w.heap.size, 0, none⟩ = some (.slice SA sn sc) := by rw [hW1]; first | (simp [go_sem, *]; done) | (refine Gr.at ?_ (by assumption); exact gr_auto)
  have b1_0 : w.heap.size < W1.heap.size := World.block_lt_of_cell? _ _ k1_0
  have k1_1 : W1.cell? ⟨w.heap.size, 1, none⟩ = some (.slice FA fn fc) := by rw [hW1]; first | (simp [go_sem, *]; done) | (refine Gr.at ?_ (by assumption); exact gr_auto)
  have k1_2 : W1.cell? ⟨w.heap.size + 1, 0, none⟩ = some (.slice A n c) := by rw [hW1]; first | (simp [go_sem, *]; done) | (refine Gr.at ?_ (by assumption); exact gr_auto)
  have b1_2 : w.heap.size + 1 < W1.heap.size := World.block_lt_of_cell? _ _ k1_2
  have k1_3 : W1.cell? ⟨w.heap.size + 1 + 1, 0, none⟩ = some (.slice NA nn nc) := by rw [hW1]; first | (simp [go_sem, *]; done) | (refine Gr.at ?_ (by assumption); exact gr_auto)
  have b1_3 : w.heap.size + 1 + 1 < W1.heap.size := World.block_lt_of_cell? _ _ k1_3
  have k1_4 : W1.cell? ⟨w.heap.size + 1 + 1 + 1, 0, none⟩ = some (.int .i64 fr) := by rw [hW1]; first | (simp [go_sem, *]; done) | (refine Gr.at ?_ (by assumption); exact gr_auto)
  have b1_4 : w.heap.size + 1 + 1 + 1 < W1.heap.size := World.block_lt_of_cell? _ _ k1_4
  have k1_5 : W1.cell? ⟨w.heap.size + 1 + 1 + 1, 1, none⟩ = some (.int .i64 st) := by rw [hW1]; first | (simp [go_sem, *]; done) | (refine Gr.at ?_ (by assumption); exact gr_auto)
  have k1_6 : W1.cell? ⟨w.heap.size + 1 + 1 + 1, 2, none⟩ = some (.slice DA dn dc) := by rw [hW1]; first | (simp [go_sem, *]; done) | (refine Gr.at ?_ (by assumption); exact gr_auto)
  clear hW1
  refine (HV.out _ g1).mono ?_
  rintro e w2 ⟨rfl, hb2⟩
  have g2 := g1.trans hb2
  have k1_0 := Gr.at (w1 := w2) gr_auto k1_0; have k1_1 := Gr.at (w1 := w2) gr_auto k1_1; have k1_2 := Gr.at (w1 := w2) gr_auto k1_2; have k1_3 := Gr.at (w1 := w2) gr_auto k1_3; have k1_4 := Gr.at (w1 := w2) gr_auto k1_4; have k1_5 := Gr.at (w1 := w2) gr_auto k1_5; have k1_6 := Gr.at (w1 := w2) gr_auto k1_6
  clear HV
  go_wp2_with fail
  refine (HC.out _ g2).mono ?_
  rintro e w3 ⟨rfl, hb3⟩
  have g3 := g2.trans hb3
  have k1_0 := Gr.at (w1 := w3) gr_auto k1_0; have k1_1 := Gr.at (w1 := w3) gr_auto k1_1; have k1_2 := Gr.at (w1 := w3) gr_auto k1_2; have k1_3 := Gr.at (w1 := w3) gr_auto k1_3; have k1_4 := Gr.at (w1 := w3) gr_auto k1_4; have k1_5 := Gr.at (w1 := w3) gr_auto k1_5; have k1_6 := Gr.at (w1 := w3) gr_auto k1_6
  clear HC
  go_wp2_with fail
  refine (HS.out _ g3).mono ?_
  rintro e w4 ⟨rfl, hb4⟩
  have g4 := g3.trans hb4
  have k1_0 := Gr.at (w1 := w4) gr_auto k1_0; have k1_1 := Gr.at (w1 := w4) gr_auto k1_1; have k1_2 := Gr.at (w1 := w4) gr_auto k1_2; have k1_3 := Gr.at (w1 := w4) gr_auto k1_3; have k1_4 := Gr.at (w1 := w4) gr_auto k1_4; have k1_5 := Gr.at (w1 := w4) gr_auto k1_5; have k1_6 := Gr.at (w1 := w4) gr_auto k1_6
  clear HS
  go_wp2_with fail
  refine (HU.out _ g4).mono ?_
  rintro e w5 ⟨rfl, hb5⟩
  have g5 := g4.trans hb5
  have k1_0 := Gr.at (w1 := w5) gr_auto k1_0; have k1_1 := Gr.at (w1 := w5) gr_auto k1_1; have k1_2 := Gr.at (w1 := w5) gr_auto k1_2; have k1_3 := Gr.at (w1 := w5) gr_auto k1_3; have k1_4 := Gr.at (w1 := w5) gr_auto k1_4; have k1_5 := Gr.at (w1 := w5) gr_auto k1_5; have k1_6 := Gr.at (w1 := w5) gr_auto k1_6
  clear HU
  go_wp2_with fail
  go_ret
  exact ⟨rfl, gr_auto⟩
set_option maxRecDepth 100000 in
set_option maxHeartbeats 4000000 in
theorem ri_N (SA FA A PA NA UA DA : Option Addr) (sn sc fn fc n c pn pc nn nc un uc dn dc : Nat) (fr st : Int) (w : World) (l1 : fn ≤ 9223372036854775807) (l2 : n ≤ 9223372036854775807) (l3 : pn ≤ 9223372036854775807) (l4 : nn ≤ 9223372036854775807) (l5 : un ≤ 9223372036854775807)
    (HV : Hid (∀ W, Gr w W → Calls Tryz.prog 32 #[.agg #[.slice SA sn sc, .slice FA fn fc]] W fun e w' => e = .returned (.bool true) ∧ Gr W w'))
    (HC : Hid (∀ W, Gr w W → Calls Tryz.prog 102 #[.slice A n c] W fun e w' => e = .returned (.bool true) ∧ Gr W w'))
    (HS : Hid (∀ W, Gr w W → Calls Tryz.prog 72 #[.agg #[.int .i64 fr, .int .i64 st, .slice DA dn dc]] W fun e w' => e = .returned (.bool true) ∧ Gr W w'))
    (HU : Hid (∀ W, Gr w W → Calls Tryz.prog 21 #[.slice UA un uc, .func (.func 100) #[] #[]] W fun e w' => e = .returned (.bool false) ∧ Gr W w'))
    (HN : Hid (∀ W, Gr w W → Calls Tryz.prog 19 #[.slice NA nn nc, .func (.func 101) #[] #[]] W fun e w' => e = .returned (.bool true) ∧ Gr W w')) :
    Calls Tryz.prog 55 #[.agg #[.slice SA sn sc, .slice FA fn fc], .slice A n c, .slice PA pn pc, .slice NA nn nc, .slice UA un uc, .agg #[.int .i64 fr, .int .i64 st, .slice DA dn dc]] w fun e w' => e = .returned (.int .i64 1) ∧ Gr w w' := by
  go_enter Tryz.func55, Tryz.ntmps55
  go_wp2_with fail
  (first | refine name_world ?_ | refine (show (∀ W, W = _ → Calls _ _ _ W _) → Calls _ _ _ _ _ from fun h => h _ rfl) ?_); intro W1 hW1
  have g1 : Gr w W1 := by rw [hW1]; exact gr_auto
  have k1_0 : W1.cell? ⟨w.heap.size, 0, none⟩ = some (.slice SA sn sc) := by rw [hW1]; first | (simp [go_sem, *]; done) | (refine Gr.at ?_ (by assumption); exact gr_auto)
  have b1_0 : w.heap.size < W1.heap.size := World.block_lt_of_cell? _ _ k1_0
  have k1_1 : W1.cell? ⟨w.heap.size, 1, none⟩ = some (.slice FA fn fc) := by rw [hW1]; first | (simp [go_sem, *]; done) | (refine Gr.at ?_ (by assumption); exact gr_auto)
  have k1_2 : W1.cell? ⟨w.heap.size + 1, 0, none⟩ = some (.slice A n c) := by rw [hW1]; first | (simp [go_sem, *]; done) | (refine Gr.at ?_ (by assumption); exact gr_auto)
  have b1_2 : w.heap.size + 1 < W1.heap.size := World.block_lt_of_cell? _ _ k1_2
  have k1_3 : W1.cell? ⟨w.heap.size + 1 + 1, 0, none⟩ = some (.slice NA nn nc) := by rw [hW1]; first | (simp [go_sem, *]; done) | (refine Gr.at ?_ (by assumption); exact gr_auto)
  have b1_3 : w.heap.size + 1 + 1 < W1.heap.size := World.block_lt_of_cell? _ _ k1_3
  have k1_4 : W1.cell? ⟨w.heap.size + 1 + 1 + 1, 0, none⟩ = some (.int .i64 fr) := by rw [hW1]; first | (simp [go_sem, *]; done) | (refine Gr.at ?_ (by assumption); exact gr_auto)
  have b1_4 : w.heap.size + 1 + 1 + 1 < W1.heap.size := World.block_lt_of_cell? _ _ k1_4
  have k1_5 : W1.cell? ⟨w.heap.size + 1 + 1 + 1, 1, none⟩ = some (.int .i64 st) := by rw [hW1]; first | (simp [go_sem, *]; done) | (refine Gr.at ?_ (by assumption); exact gr_auto)
  have k1_6 : W1.cell? ⟨w.heap.size + 1 + 1 + 1, 2, none⟩ = some (.slice DA dn dc) := by rw [hW1]; first | (simp [go_sem, *]; done) | (refine Gr.at ?_ (by assumption); exact gr_auto)
  clear hW1
  refine (HV.out _ g1).mono ?_
  rintro e w2 ⟨rfl, hb2⟩
  have g2 := g1.trans hb2
  have k1_0 := Gr.at (w1 := w2) gr_auto k1_0; have k1_1 := Gr.at (w1 := w2) gr_auto k1_1; have k1_2 := Gr.at (w1 := w2) gr_auto k1_2; have k1_3 := Gr.at (w1 := w2) gr_auto k1_3; have k1_4 := Gr.at (w1 := w2) gr_auto k1_4; have k1_5 := Gr.at (w1 := w2) gr_auto k1_5; have k1_6 := Gr.at (w1 := w2) gr_auto k1_6
  clear HV
  go_wp2_with fail
  refine (HC.out _ g2).mono ?_
  rintro e w3 ⟨rfl, hb3⟩
  have g3 := g2.trans hb3
  have k1_0 := Gr.at (w1 := w3) gr_auto k1_0; have k1_1 := Gr.at (w1 := w3) gr_auto k1_1; have k1_2 := Gr.at (w1 := w3) gr_auto k1_2; have k1_3 := Gr.at (w1 := w3) gr_auto k1_3; have k1_4 := Gr.at (w1 := w3) gr_auto k1_4; have k1_5 := Gr.at (w1 := w3) gr_auto k1_5; have k1_6 := Gr.at (w1 := w3) gr_auto k1_6
  clear HC
  go_wp2_with fail
  refine (HS.out _ g3).mono ?_
  rintro e w4 ⟨rfl, hb4⟩
  have g4 := g3.trans hb4
  have k1_0 := Gr.at (w1 := w4) gr_auto k1_0; have k1_1 := Gr.at (w1 := w4) gr_auto k1_1; have k1_2 := Gr.at (w1 := w4) gr_auto k1_2; have k1_3 := Gr.at (w1 := w4) gr_auto k1_3; have k1_4 := Gr.at (w1 := w4) gr_auto k1_4; have k1_5 := Gr.at (w1 := w4) gr_auto k1_5; have k1_6 := Gr.at (w1 := w4) gr_auto k1_6
  clear HS
  go_wp2_with fail
  refine (HU.out _ g4).mono ?_
  rintro e w5 ⟨rfl, hb5⟩
  have g5 := g4.trans hb5
  have k1_0 := Gr.at (w1 := w5) gr_auto k1_0; have k1_1 := Gr.at (w1 := w5) gr_auto k1_1; have k1_2 := Gr.at (w1 := w5) gr_auto k1_2; have k1_3 := Gr.at (w1 := w5) gr_auto k1_3; have k1_4 := Gr.at (w1 := w5) gr_auto k1_4; have k1_5 := Gr.at (w1 := w5) gr_auto k1_5; have k1_6 := Gr.at (w1 := w5) gr_auto k1_6
  clear HU
  go_wp2_with fail
  refine (HN.out _ g5).mono ?_
  rintro e w6 ⟨rfl, hb6⟩
  have g6 := g5.trans hb6
  have k1_0 := Gr.at (w1 := w6) gr_auto k1_0; have k1_1 := Gr.at (w1 := w6) gr_auto k1_1; have k1_2 := Gr.at (w1 := w6) gr_auto k1_2; have k1_3 := Gr.at (w1 := w6) gr_auto k1_3; have k1_4 := Gr.at (w1 := w6) gr_auto k1_4; have k1_5 := Gr.at (w1 := w6) gr_auto k1_5; have k1_6 := Gr.at (w1 := w6) gr_auto k1_6
  clear HN
  go_wp2_with fail
  go_ret
  exact ⟨rfl, gr_auto⟩
set_option maxRecDepth 100000 in
set_option maxHeartbeats 4000000 in
theorem ri_full (SA FA A PA NA UA DA : Option Addr) (sn sc fn fc n c pn pc nn nc un uc dn dc : Nat) (fr st : Int) (w : World) (l1 : fn ≤ 9223372036854775807) (l2 : n ≤ 9223372036854775807) (l3 : pn ≤ 9223372036854775807) (l4 : nn ≤ 9223372036854775807) (l5 : un ≤ 9223372036854775807)
    (HV : Hid (∀ W, Gr w W → Calls Tryz.prog 32 #[.agg #[.slice SA sn sc, .slice FA fn fc]] W fun e w' => e = .returned (.bool true) ∧ Gr W w'))
    (HC : Hid (∀ W, Gr w W → Calls Tryz.prog 102 #[.slice A n c] W fun e w' => e = .returned (.bool true) ∧ Gr W w'))
    (HS : Hid (∀ W, Gr w W → Calls Tryz.prog 72 #[.agg #[.int .i64 fr, .int .i64 st, .slice DA dn dc]] W fun e w' => e = .returned (.bool true) ∧ Gr W w'))
    (HU : Hid (∀ W, Gr w W → Calls Tryz.prog 21 #[.slice UA un uc, .func (.func 100) #[] #[]] W fun e w' => e = .returned (.bool false) ∧ Gr W w'))
    (HN : Hid (∀ W, Gr w W → Calls Tryz.prog 19 #[.slice NA nn nc, .func (.func 101) #[] #[]] W fun e w' => e = .returned (.bool false) ∧ Gr W w'))
    (tn : decide ((300 : Int) < (nn : Int)) = true) :
    Calls Tryz.prog 55 #[.agg #[.slice SA sn sc, .slice FA fn fc], .slice A n c, .slice PA pn pc, .slice NA nn nc, .slice UA un uc, .agg #[.int .i64 fr, .int .i64 st, .slice DA dn dc]] w fun e w' => e = .returned (.int .i64 4) ∧ Gr w w' := by
  go_enter Tryz.func55, Tryz.ntmps55
  go_wp2_with fail
  (first | refine name_world ?_ | refine (show (∀ W, W = _ → Calls _ _ _ W _) → Calls _ _ _ _ _ from fun h => h _ rfl) ?_); intro W1 hW1
  have g1 : Gr w W1 := by rw [hW1]; exact gr_auto
  have k1_0 : W1.cell? ⟨w.heap.size, 0, none⟩ = some (.slice SA sn sc) := by rw [hW1]; first | (simp [go_sem, *]; done) | (refine Gr.at ?_ (by assumption); exact gr_auto)
  have b1_0 : w.heap.size < W1.heap.size := World.block_lt_of_cell? _ _ k1_0
  have k1_1 : W1.cell? ⟨w.heap.size, 1, none⟩ = some (.slice FA fn fc) := by rw [hW1]; first | (simp [go_sem, *]; done) | (refine Gr.at ?_ (by assumption); exact gr_auto)
  have k1_2 : W1.cell? ⟨w.heap.size + 1, 0, none⟩ = some (.slice A n c) := by rw [hW1]; first | (simp [go_sem, *]; done) | (refine Gr.at ?_ (by assumption); exact gr_auto)
  have b1_2 : w.heap.size + 1 < W1.heap.size := World.block_lt_of_cell? _ _ k1_2
  have k1_3 : W1.cell? ⟨w.heap.size + 1 + 1, 0, none⟩ = some (.slice NA nn nc) := by rw [hW1]; first | (simp [go_sem, *]; done) | (refine Gr.at ?_ (by assumption); exact gr_auto)
  have b1_3 : w.heap.size + 1 + 1 < W1.heap.size := World.block_lt_of_cell? _ _ k1_3
  have k1_4 : W1.cell? ⟨w.heap.size + 1 + 1 + 1, 0, none⟩ = some (.int .i64 fr) := by rw [hW1]; first | (simp [go_sem, *]; done) | (refine Gr.at ?_ (by assumption); exact gr_auto)
  have b1_4 : w.heap.size + 1 + 1 + 1 < W1.heap.size := World.block_lt_of_cell? _ _ k1_4
  have k1_5 : W1.cell? ⟨w.heap.size + 1 + 1 + 1, 1, none⟩ = some (.int .i64 st) := by rw [hW1]; first | (simp [go_sem, *]; done) | (refine Gr.at ?_ (by assumption); exact gr_auto)
  have k1_6 : W1.cell? ⟨w.heap.size + 1 + 1 + 1, 2, none⟩ = some (.slice DA dn dc) := by rw [hW1]; first | (simp [go_sem, *]; done) | (refine Gr.at ?_ (by assumption); exact gr_auto)
  clear hW1
  refine (HV.out _ g1).mono ?_
  rintro e w2 ⟨rfl, hb2⟩
  have g2 := g1.trans hb2
  have k1_0 := Gr.at (w1 := w2) gr_auto k1_0; have k1_1 := Gr.at (w1 := w2) gr_auto k1_1; have k1_2 := Gr.at (w1 := w2) gr_auto k1_2; have k1_3 := Gr.at (w1 := w2) gr_auto k1_3; have k1_4 := Gr.at (w1 := w2) gr_auto k1_4; have k1_5 := Gr.at (w1 := w2) gr_auto k1_5; have k1_6 := Gr.at (w1 := w2) gr_auto k1_6
  clear HV
  go_wp2_with fail
  refine (HC.out _ g2).mono ?_
  rintro e w3 ⟨rfl, hb3⟩
  have g3 := g2.trans hb3
  have k1_0 := Gr.at (w1 := w3) gr_auto k1_0; have k1_1 := Gr.at (w1 := w3) gr_auto k1_1; have k1_2 := Gr.at (w1 := w3) gr_auto k1_2; have k1_3 := Gr.at (w1 := w3) gr_auto k1_3; have k1_4 := Gr.at (w1 := w3) gr_auto k1_4; have k1_5 := Gr.at (w1 := w3) gr_auto k1_5; have k1_6 := Gr.at (w1 := w3) gr_auto k1_6
  clear HC
  go_wp2_with fail
  refine (HS.out _ g3).mono ?_
  rintro e w4 ⟨rfl, hb4⟩
  have g4 := g3.trans hb4
  have k1_0 := Gr.at (w1 := w4) gr_auto k1_0; have k1_1 := Gr.at (w1 := w4) gr_auto k1_1; have k1_2 := Gr.at (w1 := w4) gr_auto k1_2; have k1_3 := Gr.at (w1 := w4) gr_auto k1_3; have k1_4 := Gr.at (w1 := w4) gr_auto k1_4; have k1_5 := Gr.at (w1 := w4) gr_auto k1_5; have k1_6 := Gr.at (w1 := w4) gr_auto k1_6
  clear HS
  go_wp2_with fail
  refine (HU.out _ g4).mono ?_
  rintro e w5 ⟨rfl, hb5⟩
  have g5 := g4.trans hb5
  have k1_0 := Gr.at (w1 := w5) gr_auto k1_0; have k1_1 := Gr.at (w1 := w5) gr_auto k1_1; have k1_2 := Gr.at (w1 := w5) gr_auto k1_2; have k1_3 := Gr.at (w1 := w5) gr_auto k1_3; have k1_4 := Gr.at (w1 := w5) gr_auto k1_4; have k1_5 := Gr.at (w1 := w5) gr_auto k1_5; have k1_6 := Gr.at (w1 := w5) gr_auto k1_6
  clear HU
  go_wp2_with fail
  refine (HN.out _ g5).mono ?_
  rintro e w6 ⟨rfl, hb6⟩
  have g6 := g5.trans hb6
  have k1_0 := Gr.at (w1 := w6) gr_auto k1_0; have k1_1 := Gr.at (w1 := w6) gr_auto k1_1; have k1_2 := Gr.at (w1 := w6) gr_auto k1_2; have k1_3 := Gr.at (w1 := w6) gr_auto k1_3; have k1_4 := Gr.at (w1 := w6) gr_auto k1_4; have k1_5 := Gr.at (w1 := w6) gr_auto k1_5; have k1_6 := Gr.at (w1 := w6) gr_auto k1_6
  clear HN
  go_wp2_with fail
  go_ret
  exact ⟨rfl, gr_auto⟩
set_option maxRecDepth 100000 in
set_option maxHeartbeats 4000000 in
theorem ri_sizeP (SA FA A PA NA UA DA : Option Addr) (sn sc fn fc n c pn pc nn nc un uc dn dc : Nat) (fr st : Int) (w : World) (l1 : fn ≤ 9223372036854775807) (l2 : n ≤ 9223372036854775807) (l3 : pn ≤ 9223372036854775807) (l4 : nn ≤ 9223372036854775807) (l5 : un ≤ 9223372036854775807)
    (HV : Hid (∀ W, Gr w W → Calls Tryz.prog 32 #[.agg #[.slice SA sn sc, .slice FA fn fc]] W fun e w' => e = .returned (.bool true) ∧ Gr W w'))
    (HC : Hid (∀ W, Gr w W → Calls Tryz.prog 102 #[.slice A n c] W fun e w' => e = .returned (.bool true) ∧ Gr W w'))
    (HS : Hid (∀ W, Gr w W → Calls Tryz.prog 72 #[.agg #[.int .i64 fr, .int .i64 st, .slice DA dn dc]] W fun e w' => e = .returned (.bool true) ∧ Gr W w'))
    (HU : Hid (∀ W, Gr w W → Calls Tryz.prog 21 #[.slice UA un uc, .func (.func 100) #[] #[]] W fun e w' => e = .returned (.bool false) ∧ Gr W w'))
    (HN : Hid (∀ W, Gr w W → Calls Tryz.prog 19 #[.slice NA nn nc, .func (.func 101) #[] #[]] W fun e w' => e = .returned (.bool false) ∧ Gr W w'))
    (tn : decide ((300 : Int) < (nn : Int)) = false)
    (tp : ((pn : Int) != (fn : Int)) = true) :
    Calls Tryz.prog 55 #[.agg #[.slice SA sn sc, .slice FA fn fc], .slice A n c, .slice PA pn pc, .slice NA nn nc, .slice UA un uc, .agg #[.int .i64 fr, .int .i64 st, .slice DA dn dc]] w fun e w' => e = .returned (.int .i64 3) ∧ Gr w w' := by
  go_enter Tryz.func55, Tryz.ntmps55
  go_wp2_with fail
  (first | refine name_world ?_ | refine (show (∀ W, W = _ → Calls _ _ _ W _) → Calls _ _ _ _ _ from fun h => h _ rfl) ?_); intro W1 hW1
  have g1 : Gr w W1 := by rw [hW1]; exact gr_auto
  have k1_0 : W1.cell? ⟨w.heap.size, 0, none⟩ = some (.slice SA sn sc) := by rw [hW1]; first | (simp [go_sem, *]; done) | (refine Gr.at ?_ (by assumption); exact gr_auto)
  have b1_0 : w.heap.size < W1.heap.size := World.block_lt_of_cell? _ _ k1_0
  have k1_1 : W1.cell? ⟨w.heap.size, 1, none⟩ = some (.slice FA fn fc) := by rw [hW1]; first | (simp [go_sem, *]; done) | (refine Gr.at ?_ (by assumption); exact gr_auto)
  have k1_2 : W1.cell? ⟨w.heap.size + 1, 0, none⟩ = some (.slice A n c) := by rw [hW1]; first | (simp [go_sem, *]; done) | (refine Gr.at ?_ (by assumption); exact gr_auto)
  have b1_2 : w.heap.size + 1 < W1.heap.size := World.block_lt_of_cell? _ _ k1_2
  have k1_3 : W1.cell? ⟨w.heap.size + 1 + 1, 0, none⟩ = some (.slice NA nn nc) := by rw [hW1]; first | (simp [go_sem, *]; done) | (refine Gr.at ?_ (by assumption); exact gr_auto)
  have b1_3 : w.heap.size + 1 + 1 < W1.heap.size := World.block_lt_of_cell? _ _ k1_3
  have k1_4 : W1.cell? ⟨w.heap.size + 1 + 1 + 1, 0, none⟩ = some (.int .i64 fr) := by rw [hW1]; first | (simp [go_sem, *]; done) | (refine Gr.at ?_ (by assumption); exact gr_auto)
  have b1_4 : w.heap.size + 1 + 1 + 1 < W1.heap.size := World.block_lt_of_cell? _ _ k1_4
  have k1_5 : W1.cell? ⟨w.heap.size + 1 + 1 + 1, 1, none⟩ = some (.int .i64 st) := by rw [hW1]; first | (simp [go_sem, *]; done) | (refine Gr.at ?_ (by assumption); exact gr_auto)
  have k1_6 : W1.cell? ⟨w.heap.size + 1 + 1 + 1, 2, none⟩ = some (.slice DA dn dc) := by rw [hW1]; first | (simp [go_sem, *]; done) | (refine Gr.at ?_ (by assumption); exact gr_auto)
  clear hW1
  refine (HV.out _ g1).mono ?_
  rintro e w2 ⟨rfl, hb2⟩
  have g2 := g1.trans hb2
  have k1_0 := Gr.at (w1 := w2) gr_auto k1_0; have k1_1 := Gr.at (w1 := w2) gr_auto k1_1; have k1_2 := Gr.at (w1 := w2) gr_auto k1_2; have k1_3 := Gr.at (w1 := w2) gr_auto k1_3; have k1_4 := Gr.at (w1 := w2) gr_auto k1_4; have k1_5 := Gr.at (w1 := w2) gr_auto k1_5; have k1_6 := Gr.at (w1 := w2) gr_auto k1_6
  clear HV
  go_wp2_with fail
  refine (HC.out _ g2).mono ?_
  rintro e w3 ⟨rfl, hb3⟩
  have g3 := g2.trans hb3
  have k1_0 := Gr.at (w1 := w3) gr_auto k1_0; have k1_1 := Gr.at (w1 := w3) gr_auto k1_1; have k1_2 := Gr.at (w1 := w3) gr_auto k1_2; have k1_3 := Gr.at (w1 := w3) gr_auto k1_3; have k1_4 := Gr.at (w1 := w3) gr_auto k1_4; have k1_5 := Gr.at (w1 := w3) gr_auto k1_5; have k1_6 := Gr.at (w1 := w3) gr_auto k1_6
  clear HC
  go_wp2_with fail
  refine (HS.out _ g3).mono ?_
  rintro e w4 ⟨rfl, hb4⟩
  have g4 := g3.trans hb4
  have k1_0 := Gr.at (w1 := w4) gr_auto k1_0; have k1_1 := Gr.at (w1 := w4) gr_auto k1_1; have k1_2 := Gr.at (w1 := w4) gr_auto k1_2; have k1_3 := Gr.at (w1 := w4) gr_auto k1_3; have k1_4 := Gr.at (w1 := w4) gr_auto k1_4; have k1_5 := Gr.at (w1 := w4) gr_auto k1_5; have k1_6 := Gr.at (w1 := w4) gr_auto k1_6
  clear HS
  go_wp2_with fail
  refine (HU.out _ g4).mono ?_
  rintro e w5 ⟨rfl, hb5⟩
  have g5 := g4.trans hb5
  have k1_0 := Gr.at (w1 := w5) gr_auto k1_0; have k1_1 := Gr.at (w1 := w5) gr_auto k1_1; have k1_2 := Gr.at (w1 := w5) gr_auto k1_2; have k1_3 := Gr.at (w1 := w5) gr_auto k1_3; have k1_4 := Gr.at (w1 := w5) gr_auto k1_4; have k1_5 := Gr.at (w1 := w5) gr_auto k1_5; have k1_6 := Gr.at (w1 := w5) gr_auto k1_6
  clear HU
  go_wp2_with fail
  refine (HN.out _ g5).mono ?_
  rintro e w6 ⟨rfl, hb6⟩
  have g6 := g5.trans hb6
  have k1_0 := Gr.at (w1 := w6) gr_auto k1_0; have k1_1 := Gr.at (w1 := w6) gr_auto k1_1; have k1_2 := Gr.at (w1 := w6) gr_auto k1_2; have k1_3 := Gr.at (w1 := w6) gr_auto k1_3; have k1_4 := Gr.at (w1 := w6) gr_auto k1_4; have k1_5 := Gr.at (w1 := w6) gr_auto k1_5; have k1_6 := Gr.at (w1 := w6) gr_auto k1_6
  clear HN
  go_wp2_with fail
  go_ret
  exact ⟨rfl, gr_auto⟩
set_option maxRecDepth 100000 in
set_option maxHeartbeats 4000000 in
theorem ri_sizeU (SA FA A PA NA UA DA : Option Addr) (sn sc fn fc n c pn pc nn nc un uc dn dc : Nat) (fr st : Int) (w : World) (l1 : fn ≤ 9223372036854775807) (l2 : n ≤ 9223372036854775807) (l3 : pn ≤ 9223372036854775807) (l4 : nn ≤ 9223372036854775807) (l5 : un ≤ 9223372036854775807)
    (HV : Hid (∀ W, Gr w W → Calls Tryz.prog 32 #[.agg #[.slice SA sn sc, .slice FA fn fc]] W fun e w' => e = .returned (.bool true) ∧ Gr W w'))
    (HC : Hid (∀ W, Gr w W → Calls Tryz.prog 102 #[.slice A n c] W fun e w' => e = .returned (.bool true) ∧ Gr W w'))
    (HS : Hid (∀ W, Gr w W → Calls Tryz.prog 72 #[.agg #[.int .i64 fr, .int .i64 st, .slice DA dn dc]] W fun e w' => e = .returned (.bool true) ∧ Gr W w'))
    (HU : Hid (∀ W, Gr w W → Calls Tryz.prog 21 #[.slice UA un uc, .func (.func 100) #[] #[]] W fun e w' => e = .returned (.bool false) ∧ Gr W w'))
    (HN : Hid (∀ W, Gr w W → Calls Tryz.prog 19 #[.slice NA nn nc, .func (.func 101) #[] #[]] W fun e w' => e = .returned (.bool false) ∧ Gr W w'))
    (tn : decide ((300 : Int) < (nn : Int)) = false)
    (tp : ((pn : Int) != (fn : Int)) = false)
    (tu : ((un : Int) != (nn : Int)) = true) :
    Calls Tryz.prog 55 #[.agg #[.slice SA sn sc, .slice FA fn fc], .slice A n c, .slice PA pn pc, .slice NA nn nc, .slice UA un uc, .agg #[.int .i64 fr, .int .i64 st, .slice DA dn dc]] w fun e w' => e = .returned (.int .i64 3) ∧ Gr w w' := by
  go_enter Tryz.func55, Tryz.ntmps55
  go_wp2_with fail
  (first | refine name_world ?_ | refine (show (∀ W, W = _ → Calls _ _ _ W _) → Calls _ _ _ _ _ from fun h => h _ rfl) ?_); intro W1 hW1
  have g1 : Gr w W1 := by rw [hW1]; exact gr_auto
  have k1_0 : W1.cell? ⟨w.heap.size, 0, none⟩ = some (.slice SA sn sc) := by rw [hW1]; first | (simp [go_sem, *]; done) | (refine Gr.at ?_ (by assumption); exact gr_auto)
  have b1_0 : w.heap.size < W1.heap.size := World.block_lt_of_cell? _ _ k1_0
  have k1_1 : W1.cell? ⟨w.heap.size, 1, none⟩ = some (.slice FA fn fc) := by rw [hW1]; first | (simp [go_sem, *]; done) | (refine Gr.at ?_ (by assumption); exact gr_auto)
  have k1_2 : W1.cell? ⟨w.heap.size + 1, 0, none⟩ = some (.slice A n c) := by rw [hW1]; first | (simp [go_sem, *]; done) | (refine Gr.at ?_ (by assumption); exact gr_auto)
  have b1_2 : w.heap.size + 1 < W1.heap.size := World.block_lt_of_cell? _ _ k1_2
  have k1_3 : W1.cell? ⟨w.heap.size + 1 + 1, 0, none⟩ = some (.slice NA nn nc) := by rw [hW1]; first | (simp [go_sem, *]; done) | (refine Gr.at ?_ (by assumption); exact gr_auto)
  have b1_3 : w.heap.size + 1 + 1 < W1.heap.size := World.block_lt_of_cell? _ _ k1_3
  have k1_4 : W1.cell? ⟨w.heap.size + 1 + 1 + 1, 0, none⟩ = some (.int .i64 fr) := by rw [hW1]; first | (simp [go_sem, *]; done) | (refine Gr.at ?_ (by assumption); exact gr_auto)
  have b1_4 : w.heap.size + 1 + 1 + 1 < W1.heap.size := World.block_lt_of_cell? _ _ k1_4
  have k1_5 : W1.cell? ⟨w.heap.size + 1 + 1 + 1, 1, none⟩ = some (.int .i64 st) := by rw [hW1]; first | (simp [go_sem, *]; done) | (refine Gr.at ?_ (by assumption); exact gr_auto)
  have k1_6 : W1.cell? ⟨w.heap.size + 1 + 1 + 1, 2, none⟩ = some (.slice DA dn dc) := by rw [hW1]; first | (simp [go_sem, *]; done) | (refine Gr.at ?_ (by assumption); exact gr_auto)
  clear hW1
  refine (HV.out _ g1).mono ?_
  rintro e w2 ⟨rfl, hb2⟩
  have g2 := g1.trans hb2
  have k1_0 := Gr.at (w1 := w2) gr_auto k1_0; have k1_1 := Gr.at (w1 := w2) gr_auto k1_1; have k1_2 := Gr.at (w1 := w2) gr_auto k1_2; have k1_3 := Gr.at (w1 := w2) gr_auto k1_3; have k1_4 := Gr.at (w1 := w2) gr_auto k1_4; have k1_5 := Gr.at (w1 := w2) gr_auto k1_5; have k1_6 := Gr.at (w1 := w2) gr_auto k1_6
  clear HV
  go_wp2_with fail
  refine (HC.out _ g2).mono ?_
  rintro e w3 ⟨rfl, hb3⟩
  have g3 := g2.trans hb3
  have k1_0 := Gr.at (w1 := w3) gr_auto k1_0; have k1_1 := Gr.at (w1 := w3) gr_auto k1_1; have k1_2 := Gr.at (w1 := w3) gr_auto k1_2; have k1_3 := Gr.at (w1 := w3) gr_auto k1_3; have k1_4 := Gr.at (w1 := w3) gr_auto k1_4; have k1_5 := Gr.at (w1 := w3) gr_auto k1_5; have k1_6 := Gr.at (w1 := w3) gr_auto k1_6
  clear HC
  go_wp2_with fail
  refine (HS.out _ g3).mono ?_
  rintro e w4 ⟨rfl, hb4⟩
  have g4 := g3.trans hb4
  have k1_0 := Gr.at (w1 := w4) gr_auto k1_0; have k1_1 := Gr.at (w1 := w4) gr_auto k1_1; have k1_2 := Gr.at (w1 := w4) gr_auto k1_2; have k1_3 := Gr.at (w1 := w4) gr_auto k1_3; have k1_4 := Gr.at (w1 := w4) gr_auto k1_4; have k1_5 := Gr.at (w1 := w4) gr_auto k1_5; have k1_6 := Gr.at (w1 := w4) gr_auto k1_6
  clear HS
  go_wp2_with fail
  refine (HU.out _ g4).mono ?_
  rintro e w5 ⟨rfl, hb5⟩
  have g5 := g4.trans hb5
  have k1_0 := Gr.at (w1 := w5) gr_auto k1_0; have k1_1 := Gr.at (w1 := w5) gr_auto k1_1; have k1_2 := Gr.at (w1 := w5) gr_auto k1_2; have k1_3 := Gr.at (w1 := w5) gr_auto k1_3; have k1_4 := Gr.at (w1 := w5) gr_auto k1_4; have k1_5 := Gr.at (w1 := w5) gr_auto k1_5; have k1_6 := Gr.at (w1 := w5) gr_auto k1_6
  clear HU
  go_wp2_with fail
  refine (HN.out _ g5).mono ?_
  rintro e w6 ⟨rfl, hb6⟩
  have g6 := g5.trans hb6
  have k1_0 := Gr.at (w1 := w6) gr_auto k1_0; have k1_1 := Gr.at (w1 := w6) gr_auto k1_1; have k1_2 := Gr.at (w1 := w6) gr_auto k1_2; have k1_3 := Gr.at (w1 := w6) gr_auto k1_3; have k1_4 := Gr.at (w1 := w6) gr_auto k1_4; have k1_5 := Gr.at (w1 := w6) gr_auto k1_5; have k1_6 := Gr.at (w1 := w6) gr_auto k1_6
  clear HN
  go_wp2_with fail
  go_ret
  exact ⟨rfl, gr_auto⟩
set_option maxRecDepth 100000 in
set_option maxHeartbeats 4000000 in
theorem ri_twice (SA FA A PA NA UA DA : Option Addr) (sn sc fn fc n c pn pc nn nc un uc dn dc : Nat) (fr st : Int) (w : World) (l1 : fn ≤ 9223372036854775807) (l2 : n ≤ 9223372036854775807) (l3 : pn ≤ 9223372036854775807) (l4 : nn ≤ 9223372036854775807) (l5 : un ≤ 9223372036854775807)
    (HV : Hid (∀ W, Gr w W → Calls Tryz.prog 32 #[.agg #[.slice SA sn sc, .slice FA fn fc]] W fun e w' => e = .returned (.bool true) ∧ Gr W w'))
    (HC : Hid (∀ W, Gr w W → Calls Tryz.prog 102 #[.slice A n c] W fun e w' => e = .returned (.bool true) ∧ Gr W w'))
    (HS : Hid (∀ W, Gr w W → Calls Tryz.prog 72 #[.agg #[.int .i64 fr, .int .i64 st, .slice DA dn dc]] W fun e w' => e = .returned (.bool true) ∧ Gr W w'))
    (HU : Hid (∀ W, Gr w W → Calls Tryz.prog 21 #[.slice UA un uc, .func (.func 100) #[] #[]] W fun e w' => e = .returned (.bool false) ∧ Gr W w'))
    (HN : Hid (∀ W, Gr w W → Calls Tryz.prog 19 #[.slice NA nn nc, .func (.func 101) #[] #[]] W fun e w' => e = .returned (.bool false) ∧ Gr W w'))
    (tn : decide ((300 : Int) < (nn : Int)) = false)
    (tp : ((pn : Int) != (fn : Int)) = false)
    (tu : ((un : Int) != (nn : Int)) = false)
    (HT : Hid (∀ W, Gr w W → Calls Tryz.prog 103 #[.slice NA nn nc] W fun e w' => e = .returned (.bool true) ∧ Gr W w')) :
    Calls Tryz.prog 55 #[.agg #[.slice SA sn sc, .slice FA fn fc], .slice A n c, .slice PA pn pc, .slice NA nn nc, .slice UA un uc, .agg #[.int .i64 fr, .int .i64 st, .slice DA dn dc]] w fun e w' => e = .returned (.int .i64 10) ∧ Gr w w' := by
  go_enter Tryz.func55, Tryz.ntmps55
  go_wp2_with fail
  (first | refine name_world ?_ | refine (show (∀ W, W = _ → Calls _ _ _ W _) → Calls _ _ _ _ _ from fun h => h _ rfl) ?_); intro W1 hW1
  have g1 : Gr w W1 := by rw [hW1]; exact gr_auto
  have k1_0 : W1.cell? ⟨w.heap.size, 0, none⟩ = some (.slice SA sn sc) := by rw [hW1]; first | (simp [go_sem, *]; done) | (refine Gr.at ?_ (by assumption); exact gr_auto)
  have b1_0 : w.heap.size < W1.heap.size := World.block_lt_of_cell? _ _ k1_0
  have k1_1 : W1.cell? ⟨w.heap.size, 1, none⟩ = some (.slice FA fn fc) := by rw [hW1]; first | (simp [go_sem, *]; done) | (refine Gr.at ?_ (by assumption); exact gr_auto)
  have k1_2 : W1.cell? ⟨w.heap.size + 1, 0, none⟩ = some (.slice A n c) := by rw [hW1]; first | (simp [go_sem, *]; done) | (refine Gr.at ?_ (by assumption); exact gr_auto)
  have b1_2 : w.heap.size + 1 < W1.heap.size := World.block_lt_of_cell? _ _ k1_2
  have k1_3 : W1.cell? ⟨w.heap.size + 1 + 1, 0, none⟩ = some (.slice NA nn nc) := by rw [hW1]; first | (simp [go_sem, *]; done) | (refine Gr.at ?_ (by assumption); exact gr_auto)
  have b1_3 : w.heap.size + 1 + 1 < W1.heap.size := World.block_lt_of_cell? _ _ k1_3
  have k1_4 : W1.cell? ⟨w.heap.size + 1 + 1 + 1, 0, none⟩ = some (.int .i64 fr) := by rw [hW1]; first | (simp [go_sem, *]; done) | (refine Gr.at ?_ (by assumption); exact gr_auto)
  have b1_4 : w.heap.size + 1 + 1 + 1 < W1.heap.size := World.block_lt_of_cell? _ _ k1_4
  have k1_5 : W1.cell? ⟨w.heap.size + 1 + 1 + 1, 1, none⟩ = some (.int .i64 st) := by rw [hW1]; first | (simp [go_sem, *]; done) | (refine Gr.at ?_ (by assumption); exact gr_auto)
  have k1_6 : W1.cell? ⟨w.heap.size + 1 + 1 + 1, 2, none⟩ = some (.slice DA dn dc) := by rw [hW1]; first | (simp [go_sem, *]; done) | (refine Gr.at ?_ (by assumption); exact gr_auto)
  clear hW1
  refine (HV.out _ g1).mono ?_
  rintro e w2 ⟨rfl, hb2⟩
  have g2 := g1.trans hb2
  have k1_0 := Gr.at (w1 := w2) gr_auto k1_0; have k1_1 := Gr.at (w1 := w2) gr_auto k1_1; have k1_2 := Gr.at (w1 := w2) gr_auto k1_2; have k1_3 := Gr.at (w1 := w2) gr_auto k1_3; have k1_4 := Gr.at (w1 := w2) gr_auto k1_4; have k1_5 := Gr.at (w1 := w2) gr_auto k1_5; have k1_6 := Gr.at (w1 := w2) gr_auto k1_6
  clear HV
  go_wp2_with fail
  refine (HC.out _ g2).mono ?_
  rintro e w3 ⟨rfl, hb3⟩
  have g3 := g2.trans hb3
  have k1_0 := Gr.at (w1 := w3) gr_auto k1_0; have k1_1 := Gr.at (w1 := w3) gr_auto k1_1; have k1_2 := Gr.at (w1 := w3) gr_auto k1_2; have k1_3 := Gr.at (w1 := w3) gr_auto k1_3; have k1_4 := Gr.at (w1 := w3) gr_auto k1_4; have k1_5 := Gr.at (w1 := w3) gr_auto k1_5; have k1_6 := Gr.at (w1 := w3) gr_auto k1_6
  clear HC
  go_wp2_with fail
  refine (HS.out _ g3).mono ?_
  rintro e w4 ⟨rfl, hb4⟩
  have g4 := g3.trans hb4
  have k1_0 := Gr.at (w1 := w4) gr_auto k1_0; have k1_1 := Gr.at (w1 := w4) gr_auto k1_1; have k1_2 := Gr.at (w1 := w4) gr_auto k1_2; have k1_3 := Gr.at (w1 := w4) gr_auto k1_3; have k1_4 := Gr.at (w1 := w4) gr_auto k1_4; have k1_5 := Gr.at (w1 := w4) gr_auto k1_5; have k1_6 := Gr.at (w1 := w4) gr_auto k1_6
  clear HS
  go_wp2_with fail
  refine (HU.out _ g4).mono ?_
  rintro e w5 ⟨rfl, hb5⟩
  have g5 := g4.trans hb5
  have k1_0 := Gr.at (w1 := w5) gr_auto k1_0; have k1_1 := Gr.at (w1 := w5) gr_auto k1_1; have k1_2 := Gr.at (w1 := w5) gr_auto k1_2; have k1_3 := Gr.at (w1 := w5) gr_auto k1_3; have k1_4 := Gr.at (w1 := w5) gr_auto k1_4; have k1_5 := Gr.at (w1 := w5) gr_auto k1_5; have k1_6 := Gr.at (w1 := w5) gr_auto k1_6
  clear HU
  go_wp2_with fail
  refine (HN.out _ g5).mono ?_
  rintro e w6 ⟨rfl, hb6⟩
  have g6 := g5.trans hb6
  have k1_0 := Gr.at (w1 := w6) gr_auto k1_0; have k1_1 := Gr.at (w1 := w6) gr_auto k1_1; have k1_2 := Gr.at (w1 := w6) gr_auto k1_2; have k1_3 := Gr.at (w1 := w6) gr_auto k1_3; have k1_4 := Gr.at (w1 := w6) gr_auto k1_4; have k1_5 := Gr.at (w1 := w6) gr_auto k1_5; have k1_6 := Gr.at (w1 := w6) gr_auto k1_6
  clear HN
  go_wp2_with fail
  refine (HT.out _ g6).mono ?_
  rintro e w7 ⟨rfl, hb7⟩
  have g7 := g6.trans hb7
  have k1_0 := Gr.at (w1 := w7) gr_auto k1_0; have k1_1 := Gr.at (w1 := w7) gr_auto k1_1; have k1_2 := Gr.at (w1 := w7) gr_auto k1_2; have k1_3 := Gr.at (w1 := w7) gr_auto k1_3; have k1_4 := Gr.at (w1 := w7) gr_auto k1_4; have k1_5 := Gr.at (w1 := w7) gr_auto k1_5; have k1_6 := Gr.at (w1 := w7) gr_auto k1_6
  clear HT
  go_wp2_with fail
  go_ret
  exact ⟨rfl, gr_auto⟩
set_option maxRecDepth 100000 in
set_option maxHeartbeats 4000000 in
theorem ri_range (SA FA A PA NA UA DA : Option Addr) (sn sc fn fc n c pn pc nn nc un uc dn dc : Nat) (fr st : Int) (w : World) (l1 : fn ≤ 9223372036854775807) (l2 : n ≤ 9223372036854775807) (l3 : pn ≤ 9223372036854775807) (l4 : nn ≤ 9223372036854775807) (l5 : un ≤ 9223372036854775807)
    (HV : Hid (∀ W, Gr w W → Calls Tryz.prog 32 #[.agg #[.slice SA sn sc, .slice FA fn fc]] W fun e w' => e = .returned (.bool true) ∧ Gr W w'))
    (HC : Hid (∀ W, Gr w W → Calls Tryz.prog 102 #[.slice A n c] W fun e w' => e = .returned (.bool true) ∧ Gr W w'))
    (HS : Hid (∀ W, Gr w W → Calls Tryz.prog 72 #[.agg #[.int .i64 fr, .int .i64 st, .slice DA dn dc]] W fun e w' => e = .returned (.bool true) ∧ Gr W w'))
    (HU : Hid (∀ W, Gr w W → Calls Tryz.prog 21 #[.slice UA un uc, .func (.func 100) #[] #[]] W fun e w' => e = .returned (.bool false) ∧ Gr W w'))
    (HN : Hid (∀ W, Gr w W → Calls Tryz.prog 19 #[.slice NA nn nc, .func (.func 101) #[] #[]] W fun e w' => e = .returned (.bool false) ∧ Gr W w'))
    (tn : decide ((300 : Int) < (nn : Int)) = false)
    (tp : ((pn : Int) != (fn : Int)) = false)
    (tu : ((un : Int) != (nn : Int)) = false)
    (HT : Hid (∀ W, Gr w W → Calls Tryz.prog 103 #[.slice NA nn nc] W fun e w' => e = .returned (.bool false) ∧ Gr W w'))
    (HP : Hid (∀ B W, Gr w W → W.cell? ⟨B, 0, none⟩ = some (.slice NA nn nc) → Calls Tryz.prog 14 #[.slice PA pn pc, .func (.func 104) #[] #[.pointer (some ⟨B, 0, none⟩)]] W fun e w' => e = .returned (.bool true) ∧ Gr W w')) :
    Calls Tryz.prog 55 #[.agg #[.slice SA sn sc, .slice FA fn fc], .slice A n c, .slice PA pn pc, .slice NA nn nc, .slice UA un uc, .agg #[.int .i64 fr, .int .i64 st, .slice DA dn dc]] w fun e w' => e = .returned (.int .i64 2) ∧ Gr w w' := by
  go_enter Tryz.func55, Tryz.ntmps55
  go_wp2_with fail
  (first | refine name_world ?_ | refine (show (∀ W, W = _ → Calls _ _ _ W _) → Calls _ _ _ _ _ from fun h => h _ rfl) ?_); intro W1 hW1
  have g1 : Gr w W1 := by rw [hW1]; exact gr_auto
  have k1_0 : W1.cell? ⟨w.heap.size, 0, none⟩ = some (.slice SA sn sc) := by rw [hW1]; first | (simp [go_sem, *]; done) | (refine Gr.at ?_ (by assumption); exact gr_auto)
  have b1_0 : w.heap.size < W1.heap.size := World.block_lt_of_cell? _ _ k1_0
  have k1_1 : W1.cell? ⟨w.heap.size, 1, none⟩ = some (.slice FA fn fc) := by rw [hW1]; first | (simp [go_sem, *]; done) | (refine Gr.at ?_ (by assumption); exact gr_auto)
  have k1_2 : W1.cell? ⟨w.heap.size + 1, 0, none⟩ = some (.slice A n c) := by rw [hW1]; first | (simp [go_sem, *]; done) | (refine Gr.at ?_ (by assumption); exact gr_auto)
  have b1_2 : w.heap.size + 1 < W1.heap.size := World.block_lt_of_cell? _ _ k1_2
  have k1_3 : W1.cell? ⟨w.heap.size + 1 + 1, 0, none⟩ = some (.slice NA nn nc) := by rw [hW1]; first | (simp [go_sem, *]; done) | (refine Gr.at ?_ (by assumption); exact gr_auto)
  have b1_3 : w.heap.size + 1 + 1 < W1.heap.size := World.block_lt_of_cell? _ _ k1_3
  have k1_4 : W1.cell? ⟨w.heap.size + 1 + 1 + 1, 0, none⟩ = some (.int .i64 fr) := by rw [hW1]; first | (simp [go_sem, *]; done) | (refine Gr.at ?_ (by assumption); exact gr_auto)
  have b1_4 : w.heap.size + 1 + 1 + 1 < W1.heap.size := World.block_lt_of_cell? _ _ k1_4
  have k1_5 : W1.cell? ⟨w.heap.size + 1 + 1 + 1, 1, none⟩ = some (.int .i64 st) := by rw [hW1]; first | (simp [go_sem, *]; done) | (refine Gr.at ?_ (by assumption); exact gr_auto)
  have k1_6 : W1.cell? ⟨w.heap.size + 1 + 1 + 1, 2, none⟩ = some (.slice DA dn dc) := by rw [hW1]; first | (simp [go_sem, *]; done) | (refine Gr.at ?_ (by assumption); exact gr_auto)
  clear hW1
  refine (HV.out _ g1).mono ?_
  rintro e w2 ⟨rfl, hb2⟩
  have g2 := g1.trans hb2
  have k1_0 := Gr.at (w1 := w2) gr_auto k1_0; have k1_1 := Gr.at (w1 := w2) gr_auto k1_1; have k1_2 := Gr.at (w1 := w2) gr_auto k1_2; have k1_3 := Gr.at (w1 := w2) gr_auto k1_3; have k1_4 := Gr.at (w1 := w2) gr_auto k1_4; have k1_5 := Gr.at (w1 := w2) gr_auto k1_5; have k1_6 := Gr.at (w1 := w2) gr_auto k1_6
  clear HV
  go_wp2_with fail
  refine (HC.out _ g2).mono ?_
  rintro e w3 ⟨rfl, hb3⟩
  have g3 := g2.trans hb3
  have k1_0 := Gr.at (w1 := w3) gr_auto k1_0; have k1_1 := Gr.at (w1 := w3) gr_auto k1_1; have k1_2 := Gr.at (w1 := w3) gr_auto k1_2; have k1_3 := Gr.at (w1 := w3) gr_auto k1_3; have k1_4 := Gr.at (w1 := w3) gr_auto k1_4; have k1_5 := Gr.at (w1 := w3) gr_auto k1_5; have k1_6 := Gr.at (w1 := w3) gr_auto k1_6
  clear HC
  go_wp2_with fail
  refine (HS.out _ g3).mono ?_
  rintro e w4 ⟨rfl, hb4⟩
  have g4 := g3.trans hb4
  have k1_0 := Gr.at (w1 := w4) gr_auto k1_0; have k1_1 := Gr.at (w1 := w4) gr_auto k1_1; have k1_2 := Gr.at (w1 := w4) gr_auto k1_2; have k1_3 := Gr.at (w1 := w4) gr_auto k1_3; have k1_4 := Gr.at (w1 := w4) gr_auto k1_4; have k1_5 := Gr.at (w1 := w4) gr_auto k1_5; have k1_6 := Gr.at (w1 := w4) gr_auto k1_6
  clear HS
  go_wp2_with fail
  refine (HU.out _ g4).mono ?_
  rintro e w5 ⟨rfl, hb5⟩
  have g5 := g4.trans hb5
  have k1_0 := Gr.at (w1 := w5) gr_auto k1_0; have k1_1 := Gr.at (w1 := w5) gr_auto k1_1; have k1_2 := Gr.at (w1 := w5) gr_auto k1_2; have k1_3 := Gr.at (w1 := w5) gr_auto k1_3; have k1_4 := Gr.at (w1 := w5) gr_auto k1_4; have k1_5 := Gr.at (w1 := w5) gr_auto k1_5; have k1_6 := Gr.at (w1 := w5) gr_auto k1_6
  clear HU
  go_wp2_with fail
  refine (HN.out _ g5).mono ?_
  rintro e w6 ⟨rfl, hb6⟩
  have g6 := g5.trans hb6
  have k1_0 := Gr.at (w1 := w6) gr_auto k1_0; have k1_1 := Gr.at (w1 := w6) gr_auto k1_1; have k1_2 := Gr.at (w1 := w6) gr_auto k1_2; have k1_3 := Gr.at (w1 := w6) gr_auto k1_3; have k1_4 := Gr.at (w1 := w6) gr_auto k1_4; have k1_5 := Gr.at (w1 := w6) gr_auto k1_5; have k1_6 := Gr.at (w1 := w6) gr_auto k1_6
  clear HN
  go_wp2_with fail
  refine (HT.out _ g6).mono ?_
  rintro e w7 ⟨rfl, hb7⟩
  have g7 := g6.trans hb7
  have k1_0 := Gr.at (w1 := w7) gr_auto k1_0; have k1_1 := Gr.at (w1 := w7) gr_auto k1_1; have k1_2 := Gr.at (w1 := w7) gr_auto k1_2; have k1_3 := Gr.at (w1 := w7) gr_auto k1_3; have k1_4 := Gr.at (w1 := w7) gr_auto k1_4; have k1_5 := Gr.at (w1 := w7) gr_auto k1_5; have k1_6 := Gr.at (w1 := w7) gr_auto k1_6
  clear HT
  go_wp2_with fail
  refine (HP.out _ _ g7 k1_3).mono ?_
  rintro e w8 ⟨rfl, hb8⟩
  have g8 := g7.trans hb8
  have k1_0 := Gr.at (w1 := w8) gr_auto k1_0; have k1_1 := Gr.at (w1 := w8) gr_auto k1_1; have k1_2 := Gr.at (w1 := w8) gr_auto k1_2; have k1_3 := Gr.at (w1 := w8) gr_auto k1_3; have k1_4 := Gr.at (w1 := w8) gr_auto k1_4; have k1_5 := Gr.at (w1 := w8) gr_auto k1_5; have k1_6 := Gr.at (w1 := w8) gr_auto k1_6
  clear HP
  go_wp2_with fail
  go_ret
  exact ⟨rfl, gr_auto⟩
set_option maxRecDepth 100000 in
set_option maxHeartbeats 4000000 in
theorem ri_kind (SA FA A PA NA UA DA : Option Addr) (sn sc fn fc n c pn pc nn nc un uc dn dc : Nat) (fr st : Int) (w : World) (l1 : fn ≤ 9223372036854775807) (l2 : n ≤ 9223372036854775807) (l3 : pn ≤ 9223372036854775807) (l4 : nn ≤ 9223372036854775807) (l5 : un ≤ 9223372036854775807)
    (HV : Hid (∀ W, Gr w W → Calls Tryz.prog 32 #[.agg #[.slice SA sn sc, .slice FA fn fc]] W fun e w' => e = .returned (.bool true) ∧ Gr W w'))
    (HC : Hid (∀ W, Gr w W → Calls Tryz.prog 102 #[.slice A n c] W fun e w' => e = .returned (.bool true) ∧ Gr W w'))
    (HS : Hid (∀ W, Gr w W → Calls Tryz.prog 72 #[.agg #[.int .i64 fr, .int .i64 st, .slice DA dn dc]] W fun e w' => e = .returned (.bool true) ∧ Gr W w'))
    (HU : Hid (∀ W, Gr w W → Calls Tryz.prog 21 #[.slice UA un uc, .func (.func 100) #[] #[]] W fun e w' => e = .returned (.bool false) ∧ Gr W w'))
    (HN : Hid (∀ W, Gr w W → Calls Tryz.prog 19 #[.slice NA nn nc, .func (.func 101) #[] #[]] W fun e w' => e = .returned (.bool false) ∧ Gr W w'))
    (tn : decide ((300 : Int) < (nn : Int)) = false)
    (tp : ((pn : Int) != (fn : Int)) = false)
    (tu : ((un : Int) != (nn : Int)) = false)
    (HT : Hid (∀ W, Gr w W → Calls Tryz.prog 103 #[.slice NA nn nc] W fun e w' => e = .returned (.bool false) ∧ Gr W w'))
    (HP : Hid (∀ B W, Gr w W → W.cell? ⟨B, 0, none⟩ = some (.slice NA nn nc) → Calls Tryz.prog 14 #[.slice PA pn pc, .func (.func 104) #[] #[.pointer (some ⟨B, 0, none⟩)]] W fun e w' => e = .returned (.bool false) ∧ Gr W w'))
    (HF : Hid (∀ B W, Gr w W → W.cell? ⟨B, 0, none⟩ = some (.slice A n c) → Calls Tryz.prog 46 #[.slice FA fn fc, .func (.func 105) #[] #[.pointer (some ⟨B, 0, none⟩)]] W fun e w' => e = .returned (.bool true) ∧ Gr W w')) :
    Calls Tryz.prog 55 #[.agg #[.slice SA sn sc, .slice FA fn fc], .slice A n c, .slice PA pn pc, .slice NA nn nc, .slice UA un uc, .agg #[.int .i64 fr, .int .i64 st, .slice DA dn dc]] w fun e w' => e = .returned (.int .i64 11) ∧ Gr w w' := by
  go_enter Tryz.func55, Tryz.ntmps55
  go_wp2_with fail
  (first | refine name_world ?_ | refine (show (∀ W, W = _ → Calls _ _ _ W _) → Calls _ _ _ _ _ from fun h => h _ rfl) ?_); intro W1 hW1
  have g1 : Gr w W1 := by rw [hW1]; exact gr_auto
  have k1_0 : W1.cell? ⟨w.heap.size, 0, none⟩ = some (.slice SA sn sc) := by rw [hW1]; first | (simp [go_sem, *]; done) | (refine Gr.at ?_ (by assumption); exact gr_auto)
  have b1_0 : w.heap.size < W1.heap.size := World.block_lt_of_cell? _ _ k1_0
  have k1_1 : W1.cell? ⟨w.heap.size, 1, none⟩ = some (.slice FA fn fc) := by rw [hW1]; first | (simp [go_sem, *]; done) | (refine Gr.at ?_ (by assumption); exact gr_auto)
  have k1_2 : W1.cell? ⟨w.heap.size + 1, 0, none⟩ = some (.slice A n c) := by rw [hW1]; first | (simp [go_sem, *]; done) | (refine Gr.at ?_ (by assumption); exact gr_auto)
  have b1_2 : w.heap.size + 1 < W1.heap.size := World.block_lt_of_cell? _ _ k1_2
  have k1_3 : W1.cell? ⟨w.heap.size + 1 + 1, 0, none⟩ = some (.slice NA nn nc) := by rw [hW1]; first | (simp [go_sem, *]; done) | (refine Gr.at ?_ (by assumption); exact gr_auto)
  have b1_3 : w.heap.size + 1 + 1 < W1.heap.size := World.block_lt_of_cell? _ _ k1_3
  have k1_4 : W1.cell? ⟨w.heap.size + 1 + 1 + 1, 0, none⟩ = some (.int .i64 fr) := by rw [hW1]; first | (simp [go_sem, *]; done) | (refine Gr.at ?_ (by assumption); exact gr_auto)
  have b1_4 : w.heap.size + 1 + 1 + 1 < W1.heap.size := World.block_lt_of_cell? _ _ k1_4
  have k1_5 : W1.cell? ⟨w.heap.size + 1 + 1 + 1, 1, none⟩ = some (.int .i64 st) := by rw [hW1]; first | (simp [go_sem, *]; done) | (refine Gr.at ?_ (by assumption); exact gr_auto)
  have k1_6 : W1.cell? ⟨w.heap.size + 1 + 1 + 1, 2, none⟩ = some (.slice DA dn dc) := by rw [hW1]; first | (simp [go_sem, *]; done) | (refine Gr.at ?_ (by assumption); exact gr_auto)
  clear hW1
  refine (HV.out _ g1).mono ?_
  rintro e w2 ⟨rfl, hb2⟩
  have g2 := g1.trans hb2
  have k1_0 := Gr.at (w1 := w2) gr_auto k1_0; have k1_1 := Gr.at (w1 := w2) gr_auto k1_1; have k1_2 := Gr.at (w1 := w2) gr_auto k1_2; have k1_3 := Gr.at (w1 := w2) gr_auto k1_3; have k1_4 := Gr.at (w1 := w2) gr_auto k1_4; have k1_5 := Gr.at (w1 := w2) gr_auto k1_5; have k1_6 := Gr.at (w1 := w2) gr_auto k1_6
  clear HV
  go_wp2_with fail
  refine (HC.out _ g2).mono ?_
  rintro e w3 ⟨rfl, hb3⟩
  have g3 := g2.trans hb3
  have k1_0 := Gr.at (w1 := w3) gr_auto k1_0; have k1_1 := Gr.at (w1 := w3) gr_auto k1_1; have k1_2 := Gr.at (w1 := w3) gr_auto k1_2; have k1_3 := Gr.at (w1 := w3) gr_auto k1_3; have k1_4 := Gr.at (w1 := w3) gr_auto k1_4; have k1_5 := Gr.at (w1 := w3) gr_auto k1_5; have k1_6 := Gr.at (w1 := w3) gr_auto k1_6
  clear HC
  go_wp2_with fail
  refine (HS.out _ g3).mono ?_
  rintro e w4 ⟨rfl, hb4⟩
  have g4 := g3.trans hb4
  have k1_0 := Gr.at (w1 := w4) gr_auto k1_0; have k1_1 := Gr.at (w1 := w4) gr_auto k1_1; have k1_2 := Gr.at (w1 := w4) gr_auto k1_2; have k1_3 := Gr.at (w1 := w4) gr_auto k1_3; have k1_4 := Gr.at (w1 := w4) gr_auto k1_4; have k1_5 := Gr.at (w1 := w4) gr_auto k1_5; have k1_6 := Gr.at (w1 := w4) gr_auto k1_6
  clear HS
  go_wp2_with fail
  refine (HU.out _ g4).mono ?_
  rintro e w5 ⟨rfl, hb5⟩
  have g5 := g4.trans hb5
  have k1_0 := Gr.at (w1 := w5) gr_auto k1_0; have k1_1 := Gr.at (w1 := w5) gr_auto k1_1; have k1_2 := Gr.at (w1 := w5) gr_auto k1_2; have k1_3 := Gr.at (w1 := w5) gr_auto k1_3; have k1_4 := Gr.at (w1 := w5) gr_auto k1_4; have k1_5 := Gr.at (w1 := w5) gr_auto k1_5; have k1_6 := Gr.at (w1 := w5) gr_auto k1_6
  clear HU
  go_wp2_with fail
  refine (HN.out _ g5).mono ?_
  rintro e w6 ⟨rfl, hb6⟩
  have g6 := g5.trans hb6
  have k1_0 := Gr.at (w1 := w6) gr_auto k1_0; have k1_1 := Gr.at (w1 := w6) gr_auto k1_1; have k1_2 := Gr.at (w1 := w6) gr_auto k1_2; have k1_3 := Gr.at (w1 := w6) gr_auto k1_3; have k1_4 := Gr.at (w1 := w6) gr_auto k1_4; have k1_5 := Gr.at (w1 := w6) gr_auto k1_5; have k1_6 := Gr.at (w1 := w6) gr_auto k1_6
  clear HN
  go_wp2_with fail
  refine (HT.out _ g6).mono ?_
  rintro e w7 ⟨rfl, hb7⟩
  have g7 := g6.trans hb7
  have k1_0 := Gr.at (w1 := w7) gr_auto k1_0; have k1_1 := Gr.at (w1 := w7) gr_auto k1_1; have k1_2 := Gr.at (w1 := w7) gr_auto k1_2; have k1_3 := Gr.at (w1 := w7) gr_auto k1_3; have k1_4 := Gr.at (w1 := w7) gr_auto k1_4; have k1_5 := Gr.at (w1 := w7) gr_auto k1_5; have k1_6 := Gr.at (w1 := w7) gr_auto k1_6
  clear HT
  go_wp2_with fail
  refine (HP.out _ _ g7 k1_3).mono ?_
  rintro e w8 ⟨rfl, hb8⟩
  have g8 := g7.trans hb8
  have k1_0 := Gr.at (w1 := w8) gr_auto k1_0; have k1_1 := Gr.at (w1 := w8) gr_auto k1_1; have k1_2 := Gr.at (w1 := w8) gr_auto k1_2; have k1_3 := Gr.at (w1 := w8) gr_auto k1_3; have k1_4 := Gr.at (w1 := w8) gr_auto k1_4; have k1_5 := Gr.at (w1 := w8) gr_auto k1_5; have k1_6 := Gr.at (w1 := w8) gr_auto k1_6
  clear HP
  go_wp2_with fail
  refine (HF.out _ _ g8 k1_2).mono ?_
  rintro e w9 ⟨rfl, hb9⟩
  have g9 := g8.trans hb9
  have k1_0 := Gr.at (w1 := w9) gr_auto k1_0; have k1_1 := Gr.at (w1 := w9) gr_auto k1_1; have k1_2 := Gr.at (w1 := w9) gr_auto k1_2; have k1_3 := Gr.at (w1 := w9) gr_auto k1_3; have k1_4 := Gr.at (w1 := w9) gr_auto k1_4; have k1_5 := Gr.at (w1 := w9) gr_auto k1_5; have k1_6 := Gr.at (w1 := w9) gr_auto k1_6
  clear HF
  go_wp2_with fail
  go_ret
  exact ⟨rfl, gr_auto⟩
set_option maxRecDepth 100000 in
set_option maxHeartbeats 4000000 in
theorem ri_ok (SA FA A PA NA UA DA : Option Addr) (sn sc fn fc n c pn pc nn nc un uc dn dc : Nat) (fr st : Int) (w : World) (l1 : fn ≤ 9223372036854775807) (l2 : n ≤ 9223372036854775807) (l3 : pn ≤ 9223372036854775807) (l4 : nn ≤ 9223372036854775807) (l5 : un ≤ 9223372036854775807)
    (HV : Hid (∀ W, Gr w W → Calls Tryz.prog 32 #[.agg #[.slice SA sn sc, .slice FA fn fc]] W fun e w' => e = .returned (.bool true) ∧ Gr W w'))
    (HC : Hid (∀ W, Gr w W → Calls Tryz.prog 102 #[.slice A n c] W fun e w' => e = .returned (.bool true) ∧ Gr W w'))
    (HS : Hid (∀ W, Gr w W → Calls Tryz.prog 72 #[.agg #[.int .i64 fr, .int .i64 st, .slice DA dn dc]] W fun e w' => e = .returned (.bool true) ∧ Gr W w'))
    (HU : Hid (∀ W, Gr w W → Calls Tryz.prog 21 #[.slice UA un uc, .func (.func 100) #[] #[]] W fun e w' => e = .returned (.bool false) ∧ Gr W w'))
    (HN : Hid (∀ W, Gr w W → Calls Tryz.prog 19 #[.slice NA nn nc, .func (.func 101) #[] #[]] W fun e w' => e = .returned (.bool false) ∧ Gr W w'))
    (tn : decide ((300 : Int) < (nn : Int)) = false)
    (tp : ((pn : Int) != (fn : Int)) = false)
    (tu : ((un : Int) != (nn : Int)) = false)
    (HT : Hid (∀ W, Gr w W → Calls Tryz.prog 103 #[.slice NA nn nc] W fun e w' => e = .returned (.bool false) ∧ Gr W w'))
    (HP : Hid (∀ B W, Gr w W → W.cell? ⟨B, 0, none⟩ = some (.slice NA nn nc) → Calls Tryz.prog 14 #[.slice PA pn pc, .func (.func 104) #[] #[.pointer (some ⟨B, 0, none⟩)]] W fun e w' => e = .returned (.bool false) ∧ Gr W w'))
    (HF : Hid (∀ B W, Gr w W → W.cell? ⟨B, 0, none⟩ = some (.slice A n c) → Calls Tryz.prog 46 #[.slice FA fn fc, .func (.func 105) #[] #[.pointer (some ⟨B, 0, none⟩)]] W fun e w' => e = .returned (.bool false) ∧ Gr W w')) :
    Calls Tryz.prog 55 #[.agg #[.slice SA sn sc, .slice FA fn fc], .slice A n c, .slice PA pn pc, .slice NA nn nc, .slice UA un uc, .agg #[.int .i64 fr, .int .i64 st, .slice DA dn dc]] w fun e w' => e = .returned (.int .i64 0) ∧ Gr w w' := by
  go_enter Tryz.func55, Tryz.ntmps55
  go_wp2_with fail
  (first | refine name_world ?_ | refine (show (∀ W, W = _ → Calls _ _ _ W _) → Calls _ _ _ _ _ from fun h => h _ rfl) ?_); intro W1 hW1
  have g1 : Gr w W1 := by rw [hW1]; exact gr_auto
  have k1_0 : W1.cell? ⟨w.heap.size, 0, none⟩ = some (.slice SA sn sc) := by rw [hW1]; first | (simp [go_sem, *]; done) | (refine Gr.at ?_ (by assumption); exact gr_auto)
  have b1_0 : w.heap.size < W1.heap.size := World.block_lt_of_cell? _ _ k1_0
  have k1_1 : W1.cell? ⟨w.heap.size, 1, none⟩ = some (.slice FA fn fc) := by rw [hW1]; first | (simp [go_sem, *]; done) | (refine Gr.at ?_ (by assumption); exact gr_auto)
  have k1_2 : W1.cell? ⟨w.heap.size + 1, 0, none⟩ = some (.slice A n c) := by rw [hW1]; first | (simp [go_sem, *]; done) | (refine Gr.at ?_ (by assumption); exact gr_auto)
  have b1_2 : w.heap.size + 1 < W1.heap.size := World.block_lt_of_cell? _ _ k1_2
  have k1_3 : W1.cell? ⟨w.heap.size + 1 + 1, 0, none⟩ = some (.slice NA nn nc) := by rw [hW1]; first | (simp [go_sem, *]; done) | (refine Gr.at ?_ (by assumption); exact gr_auto)
  have b1_3 : w.heap.size + 1 + 1 < W1.heap.size := World.block_lt_of_cell? _ _ k1_3
  have k1_4 : W1.cell? ⟨w.heap.size + 1 + 1 + 1, 0, none⟩ = some (.int .i64 fr) := by rw [hW1]; first | (simp [go_sem, *]; done) | (refine Gr.at ?_ (by assumption); exact gr_auto)
  have b1_4 : w.heap.size + 1 + 1 + 1 < W1.heap.size := World.block_lt_of_cell? _ _ k1_4
  have k1_5 : W1.cell? ⟨w.heap.size + 1 + 1 + 1, 1, none⟩ = some (.int .i64 st) := by rw [hW1]; first | (simp [go_sem, *]; done) | (refine Gr.at ?_ (by assumption); exact gr_auto)
  have k1_6 : W1.cell? ⟨w.heap.size + 1 + 1 + 1, 2, none⟩ = some (.slice DA dn dc) := by rw [hW1]; first | (simp [go_sem, *]; done) | (refine Gr.at ?_ (by assumption); exact gr_auto)
  clear hW1
  refine (HV.out _ g1).mono ?_
  rintro e w2 ⟨rfl, hb2⟩
  have g2 := g1.trans hb2
  have k1_0 := Gr.at (w1 := w2) gr_auto k1_0; have k1_1 := Gr.at (w1 := w2) gr_auto k1_1; have k1_2 := Gr.at (w1 := w2) gr_auto k1_2; have k1_3 := Gr.at (w1 := w2) gr_auto k1_3; have k1_4 := Gr.at (w1 := w2) gr_auto k1_4; have k1_5 := Gr.at (w1 := w2) gr_auto k1_5; have k1_6 := Gr.at (w1 := w2) gr_auto k1_6
  clear HV
  go_wp2_with fail
  refine (HC.out _ g2).mono ?_
  rintro e w3 ⟨rfl, hb3⟩
  have g3 := g2.trans hb3
  have k1_0 := Gr.at (w1 := w3) gr_auto k1_0; have k1_1 := Gr.at (w1 := w3) gr_auto k1_1; have k1_2 := Gr.at (w1 := w3) gr_auto k1_2; have k1_3 := Gr.at (w1 := w3) gr_auto k1_3; have k1_4 := Gr.at (w1 := w3) gr_auto k1_4; have k1_5 := Gr.at (w1 := w3) gr_auto k1_5; have k1_6 := Gr.at (w1 := w3) gr_auto k1_6
  clear HC
  go_wp2_with fail
  refine (HS.out _ g3).mono ?_
  rintro e w4 ⟨rfl, hb4⟩
  have g4 := g3.trans hb4
  have k1_0 := Gr.at (w1 := w4) gr_auto k1_0; have k1_1 := Gr.at (w1 := w4) gr_auto k1_1; have k1_2 := Gr.at (w1 := w4) gr_auto k1_2; have k1_3 := Gr.at (w1 := w4) gr_auto k1_3; have k1_4 := Gr.at (w1 := w4) gr_auto k1_4; have k1_5 := Gr.at (w1 := w4) gr_auto k1_5; have k1_6 := Gr.at (w1 := w4) gr_auto k1_6
  clear HS
  go_wp2_with fail
  refine (HU.out _ g4).mono ?_
  rintro e w5 ⟨rfl, hb5⟩
  have g5 := g4.trans hb5
  have k1_0 := Gr.at (w1 := w5) gr_auto k1_0; have k1_1 := Gr.at (w1 := w5) gr_auto k1_1; have k1_2 := Gr.at (w1 := w5) gr_auto k1_2; have k1_3 := Gr.at (w1 := w5) gr_auto k1_3; have k1_4 := Gr.at (w1 := w5) gr_auto k1_4; have k1_5 := Gr.at (w1 := w5) gr_auto k1_5; have k1_6 := Gr.at (w1 := w5) gr_auto k1_6
  clear HU
  go_wp2_with fail
  refine (HN.out _ g5).mono ?_
  rintro e w6 ⟨rfl, hb6⟩
  have g6 := g5.trans hb6
  have k1_0 := Gr.at (w1 := w6) gr_auto k1_0; have k1_1 := Gr.at (w1 := w6) gr_auto k1_1; have k1_2 := Gr.at (w1 := w6) gr_auto k1_2; have k1_3 := Gr.at (w1 := w6) gr_auto k1_3; have k1_4 := Gr.at (w1 := w6) gr_auto k1_4; have k1_5 := Gr.at (w1 := w6) gr_auto k1_5; have k1_6 := Gr.at (w1 := w6) gr_auto k1_6
  clear HN
  go_wp2_with fail
  refine (HT.out _ g6).mono ?_
  rintro e w7 ⟨rfl, hb7⟩
  have g7 := g6.trans hb7
  have k1_0 := Gr.at (w1 := w7) gr_auto k1_0; have k1_1 := Gr.at (w1 := w7) gr_auto k1_1; have k1_2 := Gr.at (w1 := w7) gr_auto k1_2; have k1_3 := Gr.at (w1 := w7) gr_auto k1_3; have k1_4 := Gr.at (w1 := w7) gr_auto k1_4; have k1_5 := Gr.at (w1 := w7) gr_auto k1_5; have k1_6 := Gr.at (w1 := w7) gr_auto k1_6
  clear HT
  go_wp2_with fail
  refine (HP.out _ _ g7 k1_3).mono ?_
  rintro e w8 ⟨rfl, hb8⟩
  have g8 := g7.trans hb8
  have k1_0 := Gr.at (w1 := w8) gr_auto k1_0; have k1_1 := Gr.at (w1 := w8) gr_auto k1_1; have k1_2 := Gr.at (w1 := w8) gr_auto k1_2; have k1_3 := Gr.at (w1 := w8) gr_auto k1_3; have k1_4 := Gr.at (w1 := w8) gr_auto k1_4; have k1_5 := Gr.at (w1 := w8) gr_auto k1_5; have k1_6 := Gr.at (w1 := w8) gr_auto k1_6
  clear HP
  go_wp2_with fail
  refine (HF.out _ _ g8 k1_2).mono ?_
  rintro e w9 ⟨rfl, hb9⟩
  have g9 := g8.trans hb9
  have k1_0 := Gr.at (w1 := w9) gr_auto k1_0; have k1_1 := Gr.at (w1 := w9) gr_auto k1_1; have k1_2 := Gr.at (w1 := w9) gr_auto k1_2; have k1_3 := Gr.at (w1 := w9) gr_auto k1_3; have k1_4 := Gr.at (w1 := w9) gr_auto k1_4; have k1_5 := Gr.at (w1 := w9) gr_auto k1_5; have k1_6 := Gr.at (w1 := w9) gr_auto k1_6
  clear HF
  go_wp2_with fail
  go_ret
  exact ⟨rfl, gr_auto⟩
end Go.Proofs.YtajhhplgcegodaaGreatDoor
