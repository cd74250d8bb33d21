/-
  The program's Step. (Printed by mkstepi.py.)
-/
import Derived.Test.YtkgbbcmgfbipaaaGreatDoorSm31
import Derived.Test.YtkgbbcmgfbipaaaGreatDoorSm34
import Derived.Test.YtkgbbcmgfbipaaaGreatDoorSm35
import Derived.Deep.RegionHeld3
import Derived.Deep.DrawnRows
set_option linter.unusedVariables false
set_option linter.unusedSimpArgs false
namespace Go.Proofs.YtkgbbcmgfbipaaaGreatDoor
open Go.RowKit
attribute [local go_sem ↓] Go.wp_at_zero Go.wp_at_succ
theorem own_k {w w' : World} {B : Nat} {C : Prop} (hg : Gr w w') (h0 : w.cell? ⟨B, 0, none⟩ = some (.int .i64 0)) (f0 : w.frozen? ⟨B, 0, none⟩ = false) (h1 : w.cell? ⟨B, 1, none⟩ = some (.int .i64 0)) (f1 : w.frozen? ⟨B, 1, none⟩ = false)
    (k : w'.cell? ⟨B, 0, none⟩ = some (.int .i64 0) → w'.frozen? ⟨B, 0, none⟩ = false → w'.cell? ⟨B, 1, none⟩ = some (.int .i64 0) → w'.frozen? ⟨B, 1, none⟩ = false → C) : C :=
  k (Gr.at hg h0) (Gr.free hg h0 f0) (Gr.at hg h1) (Gr.free hg h1 f1)
set_option maxRecDepth 100000 in
set_option maxHeartbeats 4000000 in
theorem step_0 (A A2 VA1 PA1 SA1 OA1 VA2 PA2 SA2 OA2 GA IA : Option Addr) (n c n2 c2 vn1 vc1 pn1 pc1 sn1 sc1 on1 oc1 vn2 vc2 pn2 pc2 sn2 sc2 on2 oc2 gn gc m ic : Nat) (inn out : Int) (w : World) (ec : Int) (hec : ec ≠ 0) (HG : Hid (∀ W, Gr w W → Calls Tryz.prog 40 #[.agg #[.slice A n c, .slice A2 n2 c2], .agg #[.slice VA1 vn1 vc1, .slice PA1 pn1 pc1, .slice SA1 sn1 sc1, .slice OA1 on1 oc1], .agg #[.slice VA2 vn2 vc2, .slice PA2 pn2 pc2, .slice SA2 sn2 sc2, .slice OA2 on2 oc2], .slice IA m ic, .agg #[.int .i64 inn, .int .i64 out, .slice GA gn gc]] W fun e w' => e = .returned (.int .i64 ec) ∧ Gr W w')) : Calls Tryz.prog 18 #[.agg #[.slice A n c, .slice A2 n2 c2], .agg #[.slice VA1 vn1 vc1, .slice PA1 pn1 pc1, .slice SA1 sn1 sc1, .slice OA1 on1 oc1], .agg #[.slice VA2 vn2 vc2, .slice PA2 pn2 pc2, .slice SA2 sn2 sc2, .slice OA2 on2 oc2], .slice IA m ic, .agg #[.int .i64 inn, .int .i64 out, .slice GA gn gc]] w fun e w' => e = .returned (.tuple #[.bool false, .int .i64 0, .int .i64 ec]) ∧ Gr w w' := by
  have t0 : (ec != 0) = true := Ba.bne_of' hec
  clear hec
  go_enter Tryz.func18, Tryz.ntmps18
  go_wp2_with fail
  (first | refine name_world ?_ | refine (show (∀ W, W = _ → Calls _ _ _ W _) → Calls _ _ _ _ _ from fun h => h _ rfl) ?_); intro W1 hW1
  have g1 : Gr w W1 := by rw [hW1]; exact gr_auto
  have k1_0 : W1.cell? ⟨w.heap.size, 0, none⟩ = some (.slice A n c) := by rw [hW1]; first | (simp [go_sem, *]; done) | (refine Gr.at ?_ (by assumption); exact gr_auto)
  have b1_0 : w.heap.size < W1.heap.size := World.block_lt_of_cell? _ _ k1_0
  have k1_1 : W1.cell? ⟨w.heap.size, 1, none⟩ = some (.slice A2 n2 c2) := by rw [hW1]; first | (simp [go_sem, *]; done) | (refine Gr.at ?_ (by assumption); exact gr_auto)
  have k1_2 : W1.cell? ⟨w.heap.size + 1, 0, none⟩ = some (.slice VA1 vn1 vc1) := by rw [hW1]; first | (simp [go_sem, *]; done) | (refine Gr.at ?_ (by assumption); exact gr_auto)
  have b1_2 : w.heap.size + 1 < W1.heap.size := World.block_lt_of_cell? _ _ k1_2
  have k1_3 : W1.cell? ⟨w.heap.size + 1, 1, none⟩ = some (.slice PA1 pn1 pc1) := by rw [hW1]; first | (simp [go_sem, *]; done) | (refine Gr.at ?_ (by assumption); exact gr_auto)
  have k1_4 : W1.cell? ⟨w.heap.size + 1, 2, none⟩ = some (.slice SA1 sn1 sc1) := by rw [hW1]; first | (simp [go_sem, *]; done) | (refine Gr.at ?_ (by assumption); exact gr_auto)
  have k1_5 : W1.cell? ⟨w.heap.size + 1, 3, none⟩ = some (.slice OA1 on1 oc1) := by rw [hW1]; first | (simp [go_sem, *]; done) | (refine Gr.at ?_ (by assumption); exact gr_auto)
  have k1_6 : W1.cell? ⟨w.heap.size + 2, 0, none⟩ = some (.slice VA2 vn2 vc2) := by rw [hW1]; first | (simp [go_sem, *]; done) | (refine Gr.at ?_ (by assumption); exact gr_auto)
  have b1_6 : w.heap.size + 2 < W1.heap.size := World.block_lt_of_cell? _ _ k1_6
  have k1_7 : W1.cell? ⟨w.heap.size + 2, 1, none⟩ = some (.slice PA2 pn2 pc2) := by rw [hW1]; first | (simp [go_sem, *]; done) | (refine Gr.at ?_ (by assumption); exact gr_auto)
  have k1_8 : W1.cell? ⟨w.heap.size + 2, 2, none⟩ = some (.slice SA2 sn2 sc2) := by rw [hW1]; first | (simp [go_sem, *]; done) | (refine Gr.at ?_ (by assumption); exact gr_auto)
  have k1_9 : W1.cell? ⟨w.heap.size + 2, 3, none⟩ = some (.slice OA2 on2 oc2) := by rw [hW1]; first | (simp [go_sem, *]; done) | (refine Gr.at ?_ (by assumption); exact gr_auto)
  have k1_10 : W1.cell? ⟨w.heap.size + 3, 0, none⟩ = some (.int .i64 inn) := by rw [hW1]; first | (simp [go_sem, *]; done) | (refine Gr.at ?_ (by assumption); exact gr_auto)
  have b1_10 : w.heap.size + 3 < W1.heap.size := World.block_lt_of_cell? _ _ k1_10
  have k1_11 : W1.cell? ⟨w.heap.size + 3, 1, none⟩ = some (.int .i64 out) := by rw [hW1]; first | (simp [go_sem, *]; done) | (refine Gr.at ?_ (by assumption); exact gr_auto)
  have k1_12 : W1.cell? ⟨w.heap.size + 3, 2, none⟩ = some (.slice GA gn gc) := by rw [hW1]; first | (simp [go_sem, *]; done) | (refine Gr.at ?_ (by assumption); exact gr_auto)
  clear hW1
  refine (HG.out _ g1).mono ?_
  rintro e w2 ⟨rfl, hb2⟩
  have g2 := g1.trans hb2
  have k1_0 := Gr.at (w1 := w2) gr_auto k1_0; have k1_1 := Gr.at (w1 := w2) gr_auto k1_1; have k1_2 := Gr.at (w1 := w2) gr_auto k1_2; have k1_3 := Gr.at (w1 := w2) gr_auto k1_3; have k1_4 := Gr.at (w1 := w2) gr_auto k1_4; have k1_5 := Gr.at (w1 := w2) gr_auto k1_5; have k1_6 := Gr.at (w1 := w2) gr_auto k1_6; have k1_7 := Gr.at (w1 := w2) gr_auto k1_7; have k1_8 := Gr.at (w1 := w2) gr_auto k1_8; have k1_9 := Gr.at (w1 := w2) gr_auto k1_9; have k1_10 := Gr.at (w1 := w2) gr_auto k1_10; have k1_11 := Gr.at (w1 := w2) gr_auto k1_11; have k1_12 := Gr.at (w1 := w2) gr_auto k1_12
  go_wp2_with fail
  go_ret3
  exact ⟨rfl, gr_auto⟩
set_option maxRecDepth 100000 in
set_option maxHeartbeats 4000000 in
theorem step_a (A A2 VA1 PA1 SA1 OA1 VA2 PA2 SA2 OA2 GA IA : Option Addr) (n c n2 c2 vn1 vc1 pn1 pc1 sn1 sc1 on1 oc1 vn2 vc2 pn2 pc2 sn2 sc2 on2 oc2 gn gc m ic : Nat) (inn out : Int) (w : World) (a1 p1 a2 p2 sm re lo : Int) (HG : Hid (∀ W, Gr w W → Calls Tryz.prog 40 #[.agg #[.slice A n c, .slice A2 n2 c2], .agg #[.slice VA1 vn1 vc1, .slice PA1 pn1 pc1, .slice SA1 sn1 sc1, .slice OA1 on1 oc1], .agg #[.slice VA2 vn2 vc2, .slice PA2 pn2 pc2, .slice SA2 sn2 sc2, .slice OA2 on2 oc2], .slice IA m ic, .agg #[.int .i64 inn, .int .i64 out, .slice GA gn gc]] W fun e w' => e = .returned (.int .i64 0) ∧ Gr W w')) (HV1 : Hid (∀ W, Gr w W → Calls Tryz.prog 43 #[.slice VA1 vn1 vc1] W fun e w' => e = .returned (.int .i64 a1) ∧ W = w')) (HP1 : Hid (∀ W, Gr w W → Calls Tryz.prog 43 #[.slice PA1 pn1 pc1] W fun e w' => e = .returned (.int .i64 p1) ∧ W = w')) (HV2 : Hid (∀ W, Gr w W → Calls Tryz.prog 43 #[.slice VA2 vn2 vc2] W fun e w' => e = .returned (.int .i64 a2) ∧ W = w')) (HP2 : Hid (∀ W, Gr w W → Calls Tryz.prog 43 #[.slice PA2 pn2 pc2] W fun e w' => e = .returned (.int .i64 p2) ∧ W = w')) (HS : Hid (∀ W, Gr w W → Calls Tryz.prog 43 #[.slice IA m ic] W fun e w' => e = .returned (.int .i64 sm) ∧ W = w')) (b1 : 0 ≤ a1 ∧ a1 ≤ 1125899906842624000) (b2 : 0 ≤ p1 ∧ p1 ≤ 1125899906842624000) (b3 : 0 ≤ a2 ∧ a2 ≤ 1125899906842624000) (b4 : 0 ≤ p2 ∧ p2 ≤ 1125899906842624000) (b5 : 0 ≤ inn ∧ inn ≤ 1152921504606846976) (b6 : 0 ≤ out ∧ out ≤ 1152921504606846976) (HRE : Hid (∀ X W, W.cell? ⟨X, 0, none⟩ = some (.bool true) → Calls Tryz.prog 42 #[.slice (some ⟨X, 0, none⟩) 1 1, .int .i64 (n : Int)] W (RetB n W))) (HOF : Hid (∀ (s : Ba.SlB) W, Gr w W → s.At W → s.n = n → (∀ i, s.X i = true) → Calls Tryz.prog 41 #[.agg #[.slice A n c, .slice A2 n2 c2], .slice s.A s.n s.c, .agg #[.slice VA1 vn1 vc1, .slice PA1 pn1 pc1, .slice SA1 sn1 sc1, .slice OA1 on1 oc1], .agg #[.slice VA2 vn2 vc2, .slice PA2 pn2 pc2, .slice SA2 sn2 sc2, .slice OA2 on2 oc2], .slice IA m ic, .slice GA gn gc] W fun e w' => e = .returned (.agg #[.int .i64 re, .int .i64 lo]) ∧ Gr W w')) (ts : (inn == sm) = false) : Calls Tryz.prog 18 #[.agg #[.slice A n c, .slice A2 n2 c2], .agg #[.slice VA1 vn1 vc1, .slice PA1 pn1 pc1, .slice SA1 sn1 sc1, .slice OA1 on1 oc1], .agg #[.slice VA2 vn2 vc2, .slice PA2 pn2 pc2, .slice SA2 sn2 sc2, .slice OA2 on2 oc2], .slice IA m ic, .agg #[.int .i64 inn, .int .i64 out, .slice GA gn gc]] w fun e w' => e = .returned (.tuple #[.bool false, .int .i64 (a1 + p1 + inn - a2 - p2 - out), .int .i64 0]) ∧ Gr w w' := by
  go_enter Tryz.func18, Tryz.ntmps18
  go_wp2_with fail
  (first | refine name_world ?_ | refine (show (∀ W, W = _ → Calls _ _ _ W _) → Calls _ _ _ _ _ from fun h => h _ rfl) ?_); intro W1 hW1
  have g1 : Gr w W1 := by rw [hW1]; exact gr_auto
  have k1_0 : W1.cell? ⟨w.heap.size, 0, none⟩ = some (.slice A n c) := by rw [hW1]; first | (simp [go_sem, *]; done) | (refine Gr.at ?_ (by assumption); exact gr_auto)
  have b1_0 : w.heap.size < W1.heap.size := World.block_lt_of_cell? _ _ k1_0
  have k1_1 : W1.cell? ⟨w.heap.size, 1, none⟩ = some (.slice A2 n2 c2) := by rw [hW1]; first | (simp [go_sem, *]; done) | (refine Gr.at ?_ (by assumption); exact gr_auto)
  have k1_2 : W1.cell? ⟨w.heap.size + 1, 0, none⟩ = some (.slice VA1 vn1 vc1) := by rw [hW1]; first | (simp [go_sem, *]; done) | (refine Gr.at ?_ (by assumption); exact gr_auto)
  have b1_2 : w.heap.size + 1 < W1.heap.size := World.block_lt_of_cell? _ _ k1_2
  have k1_3 : W1.cell? ⟨w.heap.size + 1, 1, none⟩ = some (.slice PA1 pn1 pc1) := by rw [hW1]; first | (simp [go_sem, *]; done) | (refine Gr.at ?_ (by assumption); exact gr_auto)
  have k1_4 : W1.cell? ⟨w.heap.size + 1, 2, none⟩ = some (.slice SA1 sn1 sc1) := by rw [hW1]; first | (simp [go_sem, *]; done) | (refine Gr.at ?_ (by assumption); exact gr_auto)
  have k1_5 : W1.cell? ⟨w.heap.size + 1, 3, none⟩ = some (.slice OA1 on1 oc1) := by rw [hW1]; first | (simp [go_sem, *]; done) | (refine Gr.at ?_ (by assumption); exact gr_auto)
  have k1_6 : W1.cell? ⟨w.heap.size + 2, 0, none⟩ = some (.slice VA2 vn2 vc2) := by rw [hW1]; first | (simp [go_sem, *]; done) | (refine Gr.at ?_ (by assumption); exact gr_auto)
  have b1_6 : w.heap.size + 2 < W1.heap.size := World.block_lt_of_cell? _ _ k1_6
  have k1_7 : W1.cell? ⟨w.heap.size + 2, 1, none⟩ = some (.slice PA2 pn2 pc2) := by rw [hW1]; first | (simp [go_sem, *]; done) | (refine Gr.at ?_ (by assumption); exact gr_auto)
  have k1_8 : W1.cell? ⟨w.heap.size + 2, 2, none⟩ = some (.slice SA2 sn2 sc2) := by rw [hW1]; first | (simp [go_sem, *]; done) | (refine Gr.at ?_ (by assumption); exact gr_auto)
  have k1_9 : W1.cell? ⟨w.heap.size + 2, 3, none⟩ = some (.slice OA2 on2 oc2) := by rw [hW1]; first | (simp [go_sem, *]; done) | (refine Gr.at ?_ (by assumption); exact gr_auto)
  have k1_10 : W1.cell? ⟨w.heap.size + 3, 0, none⟩ = some (.int .i64 inn) := by rw [hW1]; first | (simp [go_sem, *]; done) | (refine Gr.at ?_ (by assumption); exact gr_auto)
  have b1_10 : w.heap.size + 3 < W1.heap.size := World.block_lt_of_cell? _ _ k1_10
  have k1_11 : W1.cell? ⟨w.heap.size + 3, 1, none⟩ = some (.int .i64 out) := by rw [hW1]; first | (simp [go_sem, *]; done) | (refine Gr.at ?_ (by assumption); exact gr_auto)
  have k1_12 : W1.cell? ⟨w.heap.size + 3, 2, none⟩ = some (.slice GA gn gc) := by rw [hW1]; first | (simp [go_sem, *]; done) | (refine Gr.at ?_ (by assumption); exact gr_auto)
  clear hW1
  refine (HG.out _ g1).mono ?_
  rintro e w2 ⟨rfl, hb2⟩
  have g2 := g1.trans hb2
  have k1_0 := Gr.at (w1 := w2) gr_auto k1_0; have k1_1 := Gr.at (w1 := w2) gr_auto k1_1; have k1_2 := Gr.at (w1 := w2) gr_auto k1_2; have k1_3 := Gr.at (w1 := w2) gr_auto k1_3; have k1_4 := Gr.at (w1 := w2) gr_auto k1_4; have k1_5 := Gr.at (w1 := w2) gr_auto k1_5; have k1_6 := Gr.at (w1 := w2) gr_auto k1_6; have k1_7 := Gr.at (w1 := w2) gr_auto k1_7; have k1_8 := Gr.at (w1 := w2) gr_auto k1_8; have k1_9 := Gr.at (w1 := w2) gr_auto k1_9; have k1_10 := Gr.at (w1 := w2) gr_auto k1_10; have k1_11 := Gr.at (w1 := w2) gr_auto k1_11; have k1_12 := Gr.at (w1 := w2) gr_auto k1_12
  go_wp2_with fail
  refine name_world ?_; intro W3 hW3
  have g3 : Gr w W3 := by rw [hW3]; exact gr_auto
  have k3_0 : ∀ w', Gr W3 w' → w'.cell? ⟨w.heap.size + 3, 0, none⟩ = some (.int .i64 inn) := fun w' hgW => by first | exact (Gr.at hgW (by rw [hW3]; simp [go_sem, *]))
  have k3_1 : ∀ w', Gr W3 w' → w'.cell? ⟨w.heap.size + 3, 1, none⟩ = some (.int .i64 out) := fun w' hgW => by first | exact (Gr.at hgW (by rw [hW3]; simp [go_sem, *]))
  have k3_2 : ∀ w', Gr W3 w' → w'.cell? ⟨w.heap.size + 3, 2, none⟩ = some (.slice GA gn gc) := fun w' hgW => by first | exact (Gr.at hgW (by rw [hW3]; simp [go_sem, *]))
  have k3_3 : ∀ w', Gr W3 w' → w'.cell? ⟨w.heap.size + 1, 0, none⟩ = some (.slice VA1 vn1 vc1) := fun w' hgW => by first | exact (Gr.at hgW (by rw [hW3]; simp [go_sem, *]))
  have k3_4 : ∀ w', Gr W3 w' → w'.cell? ⟨w.heap.size + 1, 1, none⟩ = some (.slice PA1 pn1 pc1) := fun w' hgW => by first | exact (Gr.at hgW (by rw [hW3]; simp [go_sem, *]))
  have k3_5 : ∀ w', Gr W3 w' → w'.cell? ⟨w.heap.size + 1, 2, none⟩ = some (.slice SA1 sn1 sc1) := fun w' hgW => by first | exact (Gr.at hgW (by rw [hW3]; simp [go_sem, *]))
  have k3_6 : ∀ w', Gr W3 w' → w'.cell? ⟨w.heap.size + 1, 3, none⟩ = some (.slice OA1 on1 oc1) := fun w' hgW => by first | exact (Gr.at hgW (by rw [hW3]; simp [go_sem, *]))
  have k3_7 : ∀ w', Gr W3 w' → w'.cell? ⟨w.heap.size + 2, 0, none⟩ = some (.slice VA2 vn2 vc2) := fun w' hgW => by first | exact (Gr.at hgW (by rw [hW3]; simp [go_sem, *]))
  have k3_8 : ∀ w', Gr W3 w' → w'.cell? ⟨w.heap.size + 2, 1, none⟩ = some (.slice PA2 pn2 pc2) := fun w' hgW => by first | exact (Gr.at hgW (by rw [hW3]; simp [go_sem, *]))
  have k3_9 : ∀ w', Gr W3 w' → w'.cell? ⟨w.heap.size + 2, 2, none⟩ = some (.slice SA2 sn2 sc2) := fun w' hgW => by first | exact (Gr.at hgW (by rw [hW3]; simp [go_sem, *]))
  have k3_10 : ∀ w', Gr W3 w' → w'.cell? ⟨w.heap.size + 2, 3, none⟩ = some (.slice OA2 on2 oc2) := fun w' hgW => by first | exact (Gr.at hgW (by rw [hW3]; simp [go_sem, *]))
  have k3_11 : ∀ w', Gr W3 w' → w'.cell? ⟨w.heap.size, 0, none⟩ = some (.slice A n c) := fun w' hgW => by first | exact (Gr.at hgW (by rw [hW3]; simp [go_sem, *]))
  have k3_12 : ∀ w', Gr W3 w' → w'.cell? ⟨w.heap.size, 1, none⟩ = some (.slice A2 n2 c2) := fun w' hgW => by first | exact (Gr.at hgW (by rw [hW3]; simp [go_sem, *]))
  clear hW3
  have zW3 := Gr.size g3
  go_region_held3 (fun w' => Gr W3 w') (exact gr_auto) ((first | (go_at_call 42; refine (HRE.out _ _ (by simp [go_sem])).mono ?_; rintro e w8 ⟨sM, rfl, hsn, hsat, hsx, hb8⟩; have HSN := Lib.hid hsn; have HSX := Lib.hid hsx; have HSA := Lib.hid hsat; clear hsn hsx hsat; have hz8 : Gr W3 w8 := gr_auto; have z8 : W3.heap.size ≤ w8.heap.size := Gr.size hz8; clear hz8; (first | (refine own_k (B := W3.heap.size) hb8 ?_ ?_ ?_ ?_ ?_; (solve | exact World.frozen?_alloc_new _ _ _ _ | simp | simp [go_sem] | simp [go_sem]); (solve | exact World.frozen?_alloc_new _ _ _ _ | simp | simp [go_sem] | simp [go_sem]); (solve | exact World.frozen?_alloc_new _ _ _ _ | simp | simp [go_sem] | simp [go_sem]); (solve | exact World.frozen?_alloc_new _ _ _ _ | simp | simp [go_sem] | simp [go_sem]); intro q1c q1f q1d q1g) | skip); (first | (refine own_k (B := W3.heap.size + 1) hb8 ?_ ?_ ?_ ?_ ?_; (solve | exact World.frozen?_alloc_new _ _ _ _ | simp | simp [go_sem] | simp [go_sem]); (solve | exact World.frozen?_alloc_new _ _ _ _ | simp | simp [go_sem] | simp [go_sem]); (solve | exact World.frozen?_alloc_new _ _ _ _ | simp | simp [go_sem] | simp [go_sem]); (solve | exact World.frozen?_alloc_new _ _ _ _ | simp | simp [go_sem] | simp [go_sem]); intro q2c q2f q2d q2g) | skip)) | (go_at_call 41; refine (HOF.out sM _ gr_auto (Ba.SlB.At.gr HSA.out gr_auto) HSN.out HSX.out).mono ?_; rintro e w9 ⟨rfl, hb9⟩; (first | (refine own_k (B := W3.heap.size) hb9 ?_ ?_ ?_ ?_ ?_; (solve | exact World.frozen?_alloc_new _ _ _ _ | simp | simp [go_sem] | simp [go_sem, *]); (solve | exact World.frozen?_alloc_new _ _ _ _ | simp | simp [go_sem] | simp [go_sem, *]); (solve | exact World.frozen?_alloc_new _ _ _ _ | simp | simp [go_sem] | simp [go_sem, *]); (solve | exact World.frozen?_alloc_new _ _ _ _ | simp | simp [go_sem] | simp [go_sem, *]); intro q3c q3f q3d q3g) | skip); (first | (refine own_k (B := W3.heap.size + 1) hb9 ?_ ?_ ?_ ?_ ?_; (solve | exact World.frozen?_alloc_new _ _ _ _ | simp | simp [go_sem] | simp [go_sem, *]); (solve | exact World.frozen?_alloc_new _ _ _ _ | simp | simp [go_sem] | simp [go_sem, *]); (solve | exact World.frozen?_alloc_new _ _ _ _ | simp | simp [go_sem] | simp [go_sem, *]); (solve | exact World.frozen?_alloc_new _ _ _ _ | simp | simp [go_sem] | simp [go_sem, *]); intro q4c q4f q4d q4g) | skip); (first | (refine own_k (B := w8.heap.size) hb9 ?_ ?_ ?_ ?_ ?_; (solve | exact World.frozen?_alloc_new _ _ _ _ | simp | simp [go_sem] | simp [go_sem, *]); (solve | exact World.frozen?_alloc_new _ _ _ _ | simp | simp [go_sem] | simp [go_sem, *]); (solve | exact World.frozen?_alloc_new _ _ _ _ | simp | simp [go_sem] | simp [go_sem, *]); (solve | exact World.frozen?_alloc_new _ _ _ _ | simp | simp [go_sem] | simp [go_sem, *]); intro q5c q5f q5d q5g) | skip))))
  have z3 := Gr.size g2
  · go_wp2_with fail
    (first | refine name_world ?_ | refine (show (∀ W, W = _ → Calls _ _ _ W _) → Calls _ _ _ _ _ from fun h => h _ rfl) ?_); intro W5 hW5
    have g5 : Gr w W5 := by rw [hW5]; exact gr_auto
    have k5_0 : W5.cell? ⟨w.heap.size + 3, 0, none⟩ = some (.int .i64 inn) := by rw [hW5]; first | (simp [go_sem, *]; done) | (refine Gr.at ?_ (by assumption); exact gr_auto)
    have b5_0 : w.heap.size + 3 < W5.heap.size := World.block_lt_of_cell? _ _ k5_0
    have k5_1 : W5.cell? ⟨w.heap.size + 3, 1, none⟩ = some (.int .i64 out) := by rw [hW5]; first | (simp [go_sem, *]; done) | (refine Gr.at ?_ (by assumption); exact gr_auto)
    have k5_2 : W5.cell? ⟨w.heap.size + 3, 2, none⟩ = some (.slice GA gn gc) := by rw [hW5]; first | (simp [go_sem, *]; done) | (refine Gr.at ?_ (by assumption); exact gr_auto)
    have k5_3 : W5.cell? ⟨w.heap.size + 1, 0, none⟩ = some (.slice VA1 vn1 vc1) := by rw [hW5]; first | (simp [go_sem, *]; done) | (refine Gr.at ?_ (by assumption); exact gr_auto)
    have b5_3 : w.heap.size + 1 < W5.heap.size := World.block_lt_of_cell? _ _ k5_3
    have k5_4 : W5.cell? ⟨w.heap.size + 1, 1, none⟩ = some (.slice PA1 pn1 pc1) := by rw [hW5]; first | (simp [go_sem, *]; done) | (refine Gr.at ?_ (by assumption); exact gr_auto)
    have k5_5 : W5.cell? ⟨w.heap.size + 2, 0, none⟩ = some (.slice VA2 vn2 vc2) := by rw [hW5]; first | (simp [go_sem, *]; done) | (refine Gr.at ?_ (by assumption); exact gr_auto)
    have b5_5 : w.heap.size + 2 < W5.heap.size := World.block_lt_of_cell? _ _ k5_5
    have k5_6 : W5.cell? ⟨w.heap.size + 2, 1, none⟩ = some (.slice PA2 pn2 pc2) := by rw [hW5]; first | (simp [go_sem, *]; done) | (refine Gr.at ?_ (by assumption); exact gr_auto)
    have k5_7 : W5.cell? ⟨w9.heap.size, 0, none⟩ = some (.int .i64 re) := by rw [hW5]; first | (simp [go_sem, *]; done) | (refine Gr.at ?_ (by assumption); exact gr_auto)
    have b5_7 : w9.heap.size < W5.heap.size := World.block_lt_of_cell? _ _ k5_7
    have k5_8 : W5.cell? ⟨w9.heap.size, 1, none⟩ = some (.int .i64 lo) := by rw [hW5]; first | (simp [go_sem, *]; done) | (refine Gr.at ?_ (by assumption); exact gr_auto)
    clear hW5
    have s5_0 : ∀ gw : GW W5, gw.1.cell? ⟨w.heap.size + 3, 0, none⟩ = some (.int .i64 inn) := fun gw => Gr.at gw.2 k5_0
    have s5_1 : ∀ gw : GW W5, gw.1.cell? ⟨w.heap.size + 3, 1, none⟩ = some (.int .i64 out) := fun gw => Gr.at gw.2 k5_1
    have s5_2 : ∀ gw : GW W5, gw.1.cell? ⟨w.heap.size + 3, 2, none⟩ = some (.slice GA gn gc) := fun gw => Gr.at gw.2 k5_2
    have s5_3 : ∀ gw : GW W5, gw.1.cell? ⟨w.heap.size + 1, 0, none⟩ = some (.slice VA1 vn1 vc1) := fun gw => Gr.at gw.2 k5_3
    have s5_4 : ∀ gw : GW W5, gw.1.cell? ⟨w.heap.size + 1, 1, none⟩ = some (.slice PA1 pn1 pc1) := fun gw => Gr.at gw.2 k5_4
    have s5_5 : ∀ gw : GW W5, gw.1.cell? ⟨w.heap.size + 2, 0, none⟩ = some (.slice VA2 vn2 vc2) := fun gw => Gr.at gw.2 k5_5
    have s5_6 : ∀ gw : GW W5, gw.1.cell? ⟨w.heap.size + 2, 1, none⟩ = some (.slice PA2 pn2 pc2) := fun gw => Gr.at gw.2 k5_6
    have s5_7 : ∀ gw : GW W5, gw.1.cell? ⟨w9.heap.size, 0, none⟩ = some (.int .i64 re) := fun gw => Gr.at gw.2 k5_7
    have s5_8 : ∀ gw : GW W5, gw.1.cell? ⟨w9.heap.size, 1, none⟩ = some (.int .i64 lo) := fun gw => Gr.at gw.2 k5_8
    have HV16 := Lib.hid (fun gw : GW W5 => gw_same (HV1.out gw.1 (g5.trans gw.2)))
    have HP16 := Lib.hid (fun gw : GW W5 => gw_same (HP1.out gw.1 (g5.trans gw.2)))
    have HV26 := Lib.hid (fun gw : GW W5 => gw_same (HV2.out gw.1 (g5.trans gw.2)))
    have HP26 := Lib.hid (fun gw : GW W5 => gw_same (HP2.out gw.1 (g5.trans gw.2)))
    refine wp_region_gr (by kernel_rfl) (by kernel_rfl) ?_
    repeat (go_big_quiet_step ((first | (go_at_call 43; with_reducible exact HV16.out _) | (go_at_call 43; with_reducible exact HP16.out _) | (go_at_call 43; with_reducible exact HV26.out _) | (go_at_call 43; with_reducible exact HP26.out _))))
    refine wpQuiet_nil ?_
    intro w6 hb6
    clear s5_0 s5_1 s5_2 s5_3 s5_4 s5_5 s5_6 s5_7 s5_8
    have g6 : Gr w w6 := g5.trans hb6
    have k5_0 := Gr.at hb6 k5_0
    have k5_1 := Gr.at hb6 k5_1
    have k5_2 := Gr.at hb6 k5_2
    have k5_3 := Gr.at hb6 k5_3
    have k5_4 := Gr.at hb6 k5_4
    have k5_5 := Gr.at hb6 k5_5
    have k5_6 := Gr.at hb6 k5_6
    have k5_7 := Gr.at hb6 k5_7
    have k5_8 := Gr.at hb6 k5_8
    go_wp2_with fail
    (first | refine name_world ?_ | refine (show (∀ W, W = _ → Calls _ _ _ W _) → Calls _ _ _ _ _ from fun h => h _ rfl) ?_); intro W7 hW7
    have g7 : Gr w W7 := by rw [hW7]; exact gr_auto
    have k7_0 : W7.cell? ⟨w.heap.size + 3, 0, none⟩ = some (.int .i64 inn) := by rw [hW7]; first | (simp [go_sem, *]; done) | (refine Gr.at ?_ (by assumption); exact gr_auto)
    have b7_0 : w.heap.size + 3 < W7.heap.size := World.block_lt_of_cell? _ _ k7_0
    have k7_1 : W7.cell? ⟨w.heap.size + 3, 1, none⟩ = some (.int .i64 out) := by rw [hW7]; first | (simp [go_sem, *]; done) | (refine Gr.at ?_ (by assumption); exact gr_auto)
    have k7_2 : W7.cell? ⟨w.heap.size + 3, 2, none⟩ = some (.slice GA gn gc) := by rw [hW7]; first | (simp [go_sem, *]; done) | (refine Gr.at ?_ (by assumption); exact gr_auto)
    have k7_3 : W7.cell? ⟨w9.heap.size, 0, none⟩ = some (.int .i64 re) := by rw [hW7]; first | (simp [go_sem, *]; done) | (refine Gr.at ?_ (by assumption); exact gr_auto)
    have b7_3 : w9.heap.size < W7.heap.size := World.block_lt_of_cell? _ _ k7_3
    have k7_4 : W7.cell? ⟨w9.heap.size, 1, none⟩ = some (.int .i64 lo) := by rw [hW7]; first | (simp [go_sem, *]; done) | (refine Gr.at ?_ (by assumption); exact gr_auto)
    clear hW7
    have s7_0 : ∀ gw : GW W7, gw.1.cell? ⟨w.heap.size + 3, 0, none⟩ = some (.int .i64 inn) := fun gw => Gr.at gw.2 k7_0
    have s7_1 : ∀ gw : GW W7, gw.1.cell? ⟨w.heap.size + 3, 1, none⟩ = some (.int .i64 out) := fun gw => Gr.at gw.2 k7_1
    have s7_2 : ∀ gw : GW W7, gw.1.cell? ⟨w.heap.size + 3, 2, none⟩ = some (.slice GA gn gc) := fun gw => Gr.at gw.2 k7_2
    have s7_3 : ∀ gw : GW W7, gw.1.cell? ⟨w9.heap.size, 0, none⟩ = some (.int .i64 re) := fun gw => Gr.at gw.2 k7_3
    have s7_4 : ∀ gw : GW W7, gw.1.cell? ⟨w9.heap.size, 1, none⟩ = some (.int .i64 lo) := fun gw => Gr.at gw.2 k7_4
    have HS8 := Lib.hid (fun gw : GW W7 => gw_same (HS.out gw.1 (g7.trans gw.2)))
    refine wp_region_gr (by kernel_rfl) (by kernel_rfl) ?_
    repeat (go_big_quiet_step ((go_at_call 43; exact HS8.out _)))
    refine wpQuiet_nil ?_
    intro w8 hb8
    clear s7_0 s7_1 s7_2 s7_3 s7_4
    have g8 : Gr w w8 := g7.trans hb8
    have k7_0 := Gr.at hb8 k7_0
    have k7_1 := Gr.at hb8 k7_1
    have k7_2 := Gr.at hb8 k7_2
    have k7_3 := Gr.at hb8 k7_3
    have k7_4 := Gr.at hb8 k7_4
    go_wp2_with fail
    go_ret3
    exact ⟨rfl, gr_auto⟩
  · go_wp2_with fail
    (first | refine name_world ?_ | refine (show (∀ W, W = _ → Calls _ _ _ W _) → Calls _ _ _ _ _ from fun h => h _ rfl) ?_); intro W5 hW5
    have g5 : Gr w W5 := by rw [hW5]; exact gr_auto
    have k5_0 : W5.cell? ⟨w.heap.size + 3, 0, none⟩ = some (.int .i64 inn) := by rw [hW5]; first | (simp [go_sem, *]; done) | (refine Gr.at ?_ (by assumption); exact gr_auto)
    have b5_0 : w.heap.size + 3 < W5.heap.size := World.block_lt_of_cell? _ _ k5_0
    have k5_1 : W5.cell? ⟨w.heap.size + 3, 1, none⟩ = some (.int .i64 out) := by rw [hW5]; first | (simp [go_sem, *]; done) | (refine Gr.at ?_ (by assumption); exact gr_auto)
    have k5_2 : W5.cell? ⟨w.heap.size + 3, 2, none⟩ = some (.slice GA gn gc) := by rw [hW5]; first | (simp [go_sem, *]; done) | (refine Gr.at ?_ (by assumption); exact gr_auto)
    have k5_3 : W5.cell? ⟨w.heap.size + 1, 0, none⟩ = some (.slice VA1 vn1 vc1) := by rw [hW5]; first | (simp [go_sem, *]; done) | (refine Gr.at ?_ (by assumption); exact gr_auto)
    have b5_3 : w.heap.size + 1 < W5.heap.size := World.block_lt_of_cell? _ _ k5_3
    have k5_4 : W5.cell? ⟨w.heap.size + 1, 1, none⟩ = some (.slice PA1 pn1 pc1) := by rw [hW5]; first | (simp [go_sem, *]; done) | (refine Gr.at ?_ (by assumption); exact gr_auto)
    have k5_5 : W5.cell? ⟨w.heap.size + 2, 0, none⟩ = some (.slice VA2 vn2 vc2) := by rw [hW5]; first | (simp [go_sem, *]; done) | (refine Gr.at ?_ (by assumption); exact gr_auto)
    have b5_5 : w.heap.size + 2 < W5.heap.size := World.block_lt_of_cell? _ _ k5_5
    have k5_6 : W5.cell? ⟨w.heap.size + 2, 1, none⟩ = some (.slice PA2 pn2 pc2) := by rw [hW5]; first | (simp [go_sem, *]; done) | (refine Gr.at ?_ (by assumption); exact gr_auto)
    have k5_7 : W5.cell? ⟨w8.heap.size, 0, none⟩ = some (.int .i64 re) := by rw [hW5]; first | (simp [go_sem, *]; done) | (refine Gr.at ?_ (by assumption); exact gr_auto)
    have b5_7 : w8.heap.size < W5.heap.size := World.block_lt_of_cell? _ _ k5_7
    have k5_8 : W5.cell? ⟨w8.heap.size, 1, none⟩ = some (.int .i64 lo) := by rw [hW5]; first | (simp [go_sem, *]; done) | (refine Gr.at ?_ (by assumption); exact gr_auto)
    clear hW5
    have s5_0 : ∀ gw : GW W5, gw.1.cell? ⟨w.heap.size + 3, 0, none⟩ = some (.int .i64 inn) := fun gw => Gr.at gw.2 k5_0
    have s5_1 : ∀ gw : GW W5, gw.1.cell? ⟨w.heap.size + 3, 1, none⟩ = some (.int .i64 out) := fun gw => Gr.at gw.2 k5_1
    have s5_2 : ∀ gw : GW W5, gw.1.cell? ⟨w.heap.size + 3, 2, none⟩ = some (.slice GA gn gc) := fun gw => Gr.at gw.2 k5_2
    have s5_3 : ∀ gw : GW W5, gw.1.cell? ⟨w.heap.size + 1, 0, none⟩ = some (.slice VA1 vn1 vc1) := fun gw => Gr.at gw.2 k5_3
    have s5_4 : ∀ gw : GW W5, gw.1.cell? ⟨w.heap.size + 1, 1, none⟩ = some (.slice PA1 pn1 pc1) := fun gw => Gr.at gw.2 k5_4
    have s5_5 : ∀ gw : GW W5, gw.1.cell? ⟨w.heap.size + 2, 0, none⟩ = some (.slice VA2 vn2 vc2) := fun gw => Gr.at gw.2 k5_5
    have s5_6 : ∀ gw : GW W5, gw.1.cell? ⟨w.heap.size + 2, 1, none⟩ = some (.slice PA2 pn2 pc2) := fun gw => Gr.at gw.2 k5_6
    have s5_7 : ∀ gw : GW W5, gw.1.cell? ⟨w8.heap.size, 0, none⟩ = some (.int .i64 re) := fun gw => Gr.at gw.2 k5_7
    have s5_8 : ∀ gw : GW W5, gw.1.cell? ⟨w8.heap.size, 1, none⟩ = some (.int .i64 lo) := fun gw => Gr.at gw.2 k5_8
    have HV16 := Lib.hid (fun gw : GW W5 => gw_same (HV1.out gw.1 (g5.trans gw.2)))
    have HP16 := Lib.hid (fun gw : GW W5 => gw_same (HP1.out gw.1 (g5.trans gw.2)))
    have HV26 := Lib.hid (fun gw : GW W5 => gw_same (HV2.out gw.1 (g5.trans gw.2)))
    have HP26 := Lib.hid (fun gw : GW W5 => gw_same (HP2.out gw.1 (g5.trans gw.2)))
    refine wp_region_gr (by kernel_rfl) (by kernel_rfl) ?_
    repeat (go_big_quiet_step ((first | (go_at_call 43; with_reducible exact HV16.out _) | (go_at_call 43; with_reducible exact HP16.out _) | (go_at_call 43; with_reducible exact HV26.out _) | (go_at_call 43; with_reducible exact HP26.out _))))
    refine wpQuiet_nil ?_
    intro w6 hb6
    clear s5_0 s5_1 s5_2 s5_3 s5_4 s5_5 s5_6 s5_7 s5_8
    have g6 : Gr w w6 := g5.trans hb6
    have k5_0 := Gr.at hb6 k5_0
    have k5_1 := Gr.at hb6 k5_1
    have k5_2 := Gr.at hb6 k5_2
    have k5_3 := Gr.at hb6 k5_3
    have k5_4 := Gr.at hb6 k5_4
    have k5_5 := Gr.at hb6 k5_5
    have k5_6 := Gr.at hb6 k5_6
    have k5_7 := Gr.at hb6 k5_7
    have k5_8 := Gr.at hb6 k5_8
    go_wp2_with fail
    (first | refine name_world ?_ | refine (show (∀ W, W = _ → Calls _ _ _ W _) → Calls _ _ _ _ _ from fun h => h _ rfl) ?_); intro W7 hW7
    have g7 : Gr w W7 := by rw [hW7]; exact gr_auto
    have k7_0 : W7.cell? ⟨w.heap.size + 3, 0, none⟩ = some (.int .i64 inn) := by rw [hW7]; first | (simp [go_sem, *]; done) | (refine Gr.at ?_ (by assumption); exact gr_auto)
    have b7_0 : w.heap.size + 3 < W7.heap.size := World.block_lt_of_cell? _ _ k7_0
    have k7_1 : W7.cell? ⟨w.heap.size + 3, 1, none⟩ = some (.int .i64 out) := by rw [hW7]; first | (simp [go_sem, *]; done) | (refine Gr.at ?_ (by assumption); exact gr_auto)
    have k7_2 : W7.cell? ⟨w.heap.size + 3, 2, none⟩ = some (.slice GA gn gc) := by rw [hW7]; first | (simp [go_sem, *]; done) | (refine Gr.at ?_ (by assumption); exact gr_auto)
    have k7_3 : W7.cell? ⟨w8.heap.size, 0, none⟩ = some (.int .i64 re) := by rw [hW7]; first | (simp [go_sem, *]; done) | (refine Gr.at ?_ (by assumption); exact gr_auto)
    have b7_3 : w8.heap.size < W7.heap.size := World.block_lt_of_cell? _ _ k7_3
    have k7_4 : W7.cell? ⟨w8.heap.size, 1, none⟩ = some (.int .i64 lo) := by rw [hW7]; first | (simp [go_sem, *]; done) | (refine Gr.at ?_ (by assumption); exact gr_auto)
    clear hW7
    have s7_0 : ∀ gw : GW W7, gw.1.cell? ⟨w.heap.size + 3, 0, none⟩ = some (.int .i64 inn) := fun gw => Gr.at gw.2 k7_0
    have s7_1 : ∀ gw : GW W7, gw.1.cell? ⟨w.heap.size + 3, 1, none⟩ = some (.int .i64 out) := fun gw => Gr.at gw.2 k7_1
    have s7_2 : ∀ gw : GW W7, gw.1.cell? ⟨w.heap.size + 3, 2, none⟩ = some (.slice GA gn gc) := fun gw => Gr.at gw.2 k7_2
    have s7_3 : ∀ gw : GW W7, gw.1.cell? ⟨w8.heap.size, 0, none⟩ = some (.int .i64 re) := fun gw => Gr.at gw.2 k7_3
    have s7_4 : ∀ gw : GW W7, gw.1.cell? ⟨w8.heap.size, 1, none⟩ = some (.int .i64 lo) := fun gw => Gr.at gw.2 k7_4
    have HS8 := Lib.hid (fun gw : GW W7 => gw_same (HS.out gw.1 (g7.trans gw.2)))
    refine wp_region_gr (by kernel_rfl) (by kernel_rfl) ?_
    repeat (go_big_quiet_step ((go_at_call 43; exact HS8.out _)))
    refine wpQuiet_nil ?_
    intro w8 hb8
    clear s7_0 s7_1 s7_2 s7_3 s7_4
    have g8 : Gr w w8 := g7.trans hb8
    have k7_0 := Gr.at hb8 k7_0
    have k7_1 := Gr.at hb8 k7_1
    have k7_2 := Gr.at hb8 k7_2
    have k7_3 := Gr.at hb8 k7_3
    have k7_4 := Gr.at hb8 k7_4
    go_wp2_with fail
    go_ret3
    exact ⟨rfl, gr_auto⟩
  · go_wp2_with fail
    (first | refine name_world ?_ | refine (show (∀ W, W = _ → Calls _ _ _ W _) → Calls _ _ _ _ _ from fun h => h _ rfl) ?_); intro W5 hW5
    have g5 : Gr w W5 := by rw [hW5]; exact gr_auto
    have k5_0 : W5.cell? ⟨w.heap.size + 3, 0, none⟩ = some (.int .i64 inn) := by rw [hW5]; first | (simp [go_sem, *]; done) | (refine Gr.at ?_ (by assumption); exact gr_auto)
    have b5_0 : w.heap.size + 3 < W5.heap.size := World.block_lt_of_cell? _ _ k5_0
    have k5_1 : W5.cell? ⟨w.heap.size + 3, 1, none⟩ = some (.int .i64 out) := by rw [hW5]; first | (simp [go_sem, *]; done) | (refine Gr.at ?_ (by assumption); exact gr_auto)
    have k5_2 : W5.cell? ⟨w.heap.size + 3, 2, none⟩ = some (.slice GA gn gc) := by rw [hW5]; first | (simp [go_sem, *]; done) | (refine Gr.at ?_ (by assumption); exact gr_auto)
    have k5_3 : W5.cell? ⟨w.heap.size + 1, 0, none⟩ = some (.slice VA1 vn1 vc1) := by rw [hW5]; first | (simp [go_sem, *]; done) | (refine Gr.at ?_ (by assumption); exact gr_auto)
    have b5_3 : w.heap.size + 1 < W5.heap.size := World.block_lt_of_cell? _ _ k5_3
    have k5_4 : W5.cell? ⟨w.heap.size + 1, 1, none⟩ = some (.slice PA1 pn1 pc1) := by rw [hW5]; first | (simp [go_sem, *]; done) | (refine Gr.at ?_ (by assumption); exact gr_auto)
    have k5_5 : W5.cell? ⟨w.heap.size + 2, 0, none⟩ = some (.slice VA2 vn2 vc2) := by rw [hW5]; first | (simp [go_sem, *]; done) | (refine Gr.at ?_ (by assumption); exact gr_auto)
    have b5_5 : w.heap.size + 2 < W5.heap.size := World.block_lt_of_cell? _ _ k5_5
    have k5_6 : W5.cell? ⟨w.heap.size + 2, 1, none⟩ = some (.slice PA2 pn2 pc2) := by rw [hW5]; first | (simp [go_sem, *]; done) | (refine Gr.at ?_ (by assumption); exact gr_auto)
    have k5_7 : W5.cell? ⟨W3.heap.size + 1, 0, none⟩ = some (.int .i64 re) := by rw [hW5]; first | (simp [go_sem, *]; done) | (refine Gr.at ?_ (by assumption); exact gr_auto)
    have b5_7 : W3.heap.size + 1 < W5.heap.size := World.block_lt_of_cell? _ _ k5_7
    have k5_8 : W5.cell? ⟨W3.heap.size + 1, 1, none⟩ = some (.int .i64 lo) := by rw [hW5]; first | (simp [go_sem, *]; done) | (refine Gr.at ?_ (by assumption); exact gr_auto)
    clear hW5
    have s5_0 : ∀ gw : GW W5, gw.1.cell? ⟨w.heap.size + 3, 0, none⟩ = some (.int .i64 inn) := fun gw => Gr.at gw.2 k5_0
    have s5_1 : ∀ gw : GW W5, gw.1.cell? ⟨w.heap.size + 3, 1, none⟩ = some (.int .i64 out) := fun gw => Gr.at gw.2 k5_1
    have s5_2 : ∀ gw : GW W5, gw.1.cell? ⟨w.heap.size + 3, 2, none⟩ = some (.slice GA gn gc) := fun gw => Gr.at gw.2 k5_2
    have s5_3 : ∀ gw : GW W5, gw.1.cell? ⟨w.heap.size + 1, 0, none⟩ = some (.slice VA1 vn1 vc1) := fun gw => Gr.at gw.2 k5_3
    have s5_4 : ∀ gw : GW W5, gw.1.cell? ⟨w.heap.size + 1, 1, none⟩ = some (.slice PA1 pn1 pc1) := fun gw => Gr.at gw.2 k5_4
    have s5_5 : ∀ gw : GW W5, gw.1.cell? ⟨w.heap.size + 2, 0, none⟩ = some (.slice VA2 vn2 vc2) := fun gw => Gr.at gw.2 k5_5
    have s5_6 : ∀ gw : GW W5, gw.1.cell? ⟨w.heap.size + 2, 1, none⟩ = some (.slice PA2 pn2 pc2) := fun gw => Gr.at gw.2 k5_6
    have s5_7 : ∀ gw : GW W5, gw.1.cell? ⟨W3.heap.size + 1, 0, none⟩ = some (.int .i64 re) := fun gw => Gr.at gw.2 k5_7
    have s5_8 : ∀ gw : GW W5, gw.1.cell? ⟨W3.heap.size + 1, 1, none⟩ = some (.int .i64 lo) := fun gw => Gr.at gw.2 k5_8
    have HV16 := Lib.hid (fun gw : GW W5 => gw_same (HV1.out gw.1 (g5.trans gw.2)))
    have HP16 := Lib.hid (fun gw : GW W5 => gw_same (HP1.out gw.1 (g5.trans gw.2)))
    have HV26 := Lib.hid (fun gw : GW W5 => gw_same (HV2.out gw.1 (g5.trans gw.2)))
    have HP26 := Lib.hid (fun gw : GW W5 => gw_same (HP2.out gw.1 (g5.trans gw.2)))
    refine wp_region_gr (by kernel_rfl) (by kernel_rfl) ?_
    repeat (go_big_quiet_step ((first | (go_at_call 43; with_reducible exact HV16.out _) | (go_at_call 43; with_reducible exact HP16.out _) | (go_at_call 43; with_reducible exact HV26.out _) | (go_at_call 43; with_reducible exact HP26.out _))))
    refine wpQuiet_nil ?_
    intro w6 hb6
    clear s5_0 s5_1 s5_2 s5_3 s5_4 s5_5 s5_6 s5_7 s5_8
    have g6 : Gr w w6 := g5.trans hb6
    have k5_0 := Gr.at hb6 k5_0
    have k5_1 := Gr.at hb6 k5_1
    have k5_2 := Gr.at hb6 k5_2
    have k5_3 := Gr.at hb6 k5_3
    have k5_4 := Gr.at hb6 k5_4
    have k5_5 := Gr.at hb6 k5_5
    have k5_6 := Gr.at hb6 k5_6
    have k5_7 := Gr.at hb6 k5_7
    have k5_8 := Gr.at hb6 k5_8
    go_wp2_with fail
    (first | refine name_world ?_ | refine (show (∀ W, W = _ → Calls _ _ _ W _) → Calls _ _ _ _ _ from fun h => h _ rfl) ?_); intro W7 hW7
    have g7 : Gr w W7 := by rw [hW7]; exact gr_auto
    have k7_0 : W7.cell? ⟨w.heap.size + 3, 0, none⟩ = some (.int .i64 inn) := by rw [hW7]; first | (simp [go_sem, *]; done) | (refine Gr.at ?_ (by assumption); exact gr_auto)
    have b7_0 : w.heap.size + 3 < W7.heap.size := World.block_lt_of_cell? _ _ k7_0
    have k7_1 : W7.cell? ⟨w.heap.size + 3, 1, none⟩ = some (.int .i64 out) := by rw [hW7]; first | (simp [go_sem, *]; done) | (refine Gr.at ?_ (by assumption); exact gr_auto)
    have k7_2 : W7.cell? ⟨w.heap.size + 3, 2, none⟩ = some (.slice GA gn gc) := by rw [hW7]; first | (simp [go_sem, *]; done) | (refine Gr.at ?_ (by assumption); exact gr_auto)
    have k7_3 : W7.cell? ⟨W3.heap.size + 1, 0, none⟩ = some (.int .i64 re) := by rw [hW7]; first | (simp [go_sem, *]; done) | (refine Gr.at ?_ (by assumption); exact gr_auto)
    have b7_3 : W3.heap.size + 1 < W7.heap.size := World.block_lt_of_cell? _ _ k7_3
    have k7_4 : W7.cell? ⟨W3.heap.size + 1, 1, none⟩ = some (.int .i64 lo) := by rw [hW7]; first | (simp [go_sem, *]; done) | (refine Gr.at ?_ (by assumption); exact gr_auto)
    clear hW7
    have s7_0 : ∀ gw : GW W7, gw.1.cell? ⟨w.heap.size + 3, 0, none⟩ = some (.int .i64 inn) := fun gw => Gr.at gw.2 k7_0
    have s7_1 : ∀ gw : GW W7, gw.1.cell? ⟨w.heap.size + 3, 1, none⟩ = some (.int .i64 out) := fun gw => Gr.at gw.2 k7_1
    have s7_2 : ∀ gw : GW W7, gw.1.cell? ⟨w.heap.size + 3, 2, none⟩ = some (.slice GA gn gc) := fun gw => Gr.at gw.2 k7_2
    have s7_3 : ∀ gw : GW W7, gw.1.cell? ⟨W3.heap.size + 1, 0, none⟩ = some (.int .i64 re) := fun gw => Gr.at gw.2 k7_3
    have s7_4 : ∀ gw : GW W7, gw.1.cell? ⟨W3.heap.size + 1, 1, none⟩ = some (.int .i64 lo) := fun gw => Gr.at gw.2 k7_4
    have HS8 := Lib.hid (fun gw : GW W7 => gw_same (HS.out gw.1 (g7.trans gw.2)))
    refine wp_region_gr (by kernel_rfl) (by kernel_rfl) ?_
    repeat (go_big_quiet_step ((go_at_call 43; exact HS8.out _)))
    refine wpQuiet_nil ?_
    intro w8 hb8
    clear s7_0 s7_1 s7_2 s7_3 s7_4
    have g8 : Gr w w8 := g7.trans hb8
    have k7_0 := Gr.at hb8 k7_0
    have k7_1 := Gr.at hb8 k7_1
    have k7_2 := Gr.at hb8 k7_2
    have k7_3 := Gr.at hb8 k7_3
    have k7_4 := Gr.at hb8 k7_4
    go_wp2_with fail
    go_ret3
    exact ⟨rfl, gr_auto⟩
  · go_wp2_with fail
    (first | refine name_world ?_ | refine (show (∀ W, W = _ → Calls _ _ _ W _) → Calls _ _ _ _ _ from fun h => h _ rfl) ?_); intro W5 hW5
    have g5 : Gr w W5 := by rw [hW5]; exact gr_auto
    have k5_0 : W5.cell? ⟨w.heap.size + 3, 0, none⟩ = some (.int .i64 inn) := by rw [hW5]; first | (simp [go_sem, *]; done) | (refine Gr.at ?_ (by assumption); exact gr_auto)
    have b5_0 : w.heap.size + 3 < W5.heap.size := World.block_lt_of_cell? _ _ k5_0
    have k5_1 : W5.cell? ⟨w.heap.size + 3, 1, none⟩ = some (.int .i64 out) := by rw [hW5]; first | (simp [go_sem, *]; done) | (refine Gr.at ?_ (by assumption); exact gr_auto)
    have k5_2 : W5.cell? ⟨w.heap.size + 3, 2, none⟩ = some (.slice GA gn gc) := by rw [hW5]; first | (simp [go_sem, *]; done) | (refine Gr.at ?_ (by assumption); exact gr_auto)
    have k5_3 : W5.cell? ⟨w.heap.size + 1, 0, none⟩ = some (.slice VA1 vn1 vc1) := by rw [hW5]; first | (simp [go_sem, *]; done) | (refine Gr.at ?_ (by assumption); exact gr_auto)
    have b5_3 : w.heap.size + 1 < W5.heap.size := World.block_lt_of_cell? _ _ k5_3
    have k5_4 : W5.cell? ⟨w.heap.size + 1, 1, none⟩ = some (.slice PA1 pn1 pc1) := by rw [hW5]; first | (simp [go_sem, *]; done) | (refine Gr.at ?_ (by assumption); exact gr_auto)
    have k5_5 : W5.cell? ⟨w.heap.size + 2, 0, none⟩ = some (.slice VA2 vn2 vc2) := by rw [hW5]; first | (simp [go_sem, *]; done) | (refine Gr.at ?_ (by assumption); exact gr_auto)
    have b5_5 : w.heap.size + 2 < W5.heap.size := World.block_lt_of_cell? _ _ k5_5
    have k5_6 : W5.cell? ⟨w.heap.size + 2, 1, none⟩ = some (.slice PA2 pn2 pc2) := by rw [hW5]; first | (simp [go_sem, *]; done) | (refine Gr.at ?_ (by assumption); exact gr_auto)
    have k5_7 : W5.cell? ⟨W3.heap.size, 0, none⟩ = some (.int .i64 re) := by rw [hW5]; first | (simp [go_sem, *]; done) | (refine Gr.at ?_ (by assumption); exact gr_auto)
    have b5_7 : W3.heap.size < W5.heap.size := World.block_lt_of_cell? _ _ k5_7
    have k5_8 : W5.cell? ⟨W3.heap.size, 1, none⟩ = some (.int .i64 lo) := by rw [hW5]; first | (simp [go_sem, *]; done) | (refine Gr.at ?_ (by assumption); exact gr_auto)
    clear hW5
    have s5_0 : ∀ gw : GW W5, gw.1.cell? ⟨w.heap.size + 3, 0, none⟩ = some (.int .i64 inn) := fun gw => Gr.at gw.2 k5_0
    have s5_1 : ∀ gw : GW W5, gw.1.cell? ⟨w.heap.size + 3, 1, none⟩ = some (.int .i64 out) := fun gw => Gr.at gw.2 k5_1
    have s5_2 : ∀ gw : GW W5, gw.1.cell? ⟨w.heap.size + 3, 2, none⟩ = some (.slice GA gn gc) := fun gw => Gr.at gw.2 k5_2
    have s5_3 : ∀ gw : GW W5, gw.1.cell? ⟨w.heap.size + 1, 0, none⟩ = some (.slice VA1 vn1 vc1) := fun gw => Gr.at gw.2 k5_3
    have s5_4 : ∀ gw : GW W5, gw.1.cell? ⟨w.heap.size + 1, 1, none⟩ = some (.slice PA1 pn1 pc1) := fun gw => Gr.at gw.2 k5_4
    have s5_5 : ∀ gw : GW W5, gw.1.cell? ⟨w.heap.size + 2, 0, none⟩ = some (.slice VA2 vn2 vc2) := fun gw => Gr.at gw.2 k5_5
    have s5_6 : ∀ gw : GW W5, gw.1.cell? ⟨w.heap.size + 2, 1, none⟩ = some (.slice PA2 pn2 pc2) := fun gw => Gr.at gw.2 k5_6
    have s5_7 : ∀ gw : GW W5, gw.1.cell? ⟨W3.heap.size, 0, none⟩ = some (.int .i64 re) := fun gw => Gr.at gw.2 k5_7
    have s5_8 : ∀ gw : GW W5, gw.1.cell? ⟨W3.heap.size, 1, none⟩ = some (.int .i64 lo) := fun gw => Gr.at gw.2 k5_8
    have HV16 := Lib.hid (fun gw : GW W5 => gw_same (HV1.out gw.1 (g5.trans gw.2)))
    have HP16 := Lib.hid (fun gw : GW W5 => gw_same (HP1.out gw.1 (g5.trans gw.2)))
    have HV26 := Lib.hid (fun gw : GW W5 => gw_same (HV2.out gw.1 (g5.trans gw.2)))
    have HP26 := Lib.hid (fun gw : GW W5 => gw_same (HP2.out gw.1 (g5.trans gw.2)))
    refine wp_region_gr (by kernel_rfl) (by kernel_rfl) ?_
    repeat (go_big_quiet_step ((first | (go_at_call 43; with_reducible exact HV16.out _) | (go_at_call 43; with_reducible exact HP16.out _) | (go_at_call 43; with_reducible exact HV26.out _) | (go_at_call 43; with_reducible exact HP26.out _))))
    refine wpQuiet_nil ?_
    intro w6 hb6
    clear s5_0 s5_1 s5_2 s5_3 s5_4 s5_5 s5_6 s5_7 s5_8
    have g6 : Gr w w6 := g5.trans hb6
    have k5_0 := Gr.at hb6 k5_0
    have k5_1 := Gr.at hb6 k5_1
    have k5_2 := Gr.at hb6 k5_2
    have k5_3 := Gr.at hb6 k5_3
    have k5_4 := Gr.at hb6 k5_4
    have k5_5 := Gr.at hb6 k5_5
    have k5_6 := Gr.at hb6 k5_6
    have k5_7 := Gr.at hb6 k5_7
    have k5_8 := Gr.at hb6 k5_8
    go_wp2_with fail
    (first | refine name_world ?_ | refine (show (∀ W, W = _ → Calls _ _ _ W _) → Calls _ _ _ _ _ from fun h => h _ rfl) ?_); intro W7 hW7
    have g7 : Gr w W7 := by rw [hW7]; exact gr_auto
    have k7_0 : W7.cell? ⟨w.heap.size + 3, 0, none⟩ = some (.int .i64 inn) := by rw [hW7]; first | (simp [go_sem, *]; done) | (refine Gr.at ?_ (by assumption); exact gr_auto)
    have b7_0 : w.heap.size + 3 < W7.heap.size := World.block_lt_of_cell? _ _ k7_0
    have k7_1 : W7.cell? ⟨w.heap.size + 3, 1, none⟩ = some (.int .i64 out) := by rw [hW7]; first | (simp [go_sem, *]; done) | (refine Gr.at ?_ (by assumption); exact gr_auto)
    have k7_2 : W7.cell? ⟨w.heap.size + 3, 2, none⟩ = some (.slice GA gn gc) := by rw [hW7]; first | (simp [go_sem, *]; done) | (refine Gr.at ?_ (by assumption); exact gr_auto)
    have k7_3 : W7.cell? ⟨W3.heap.size, 0, none⟩ = some (.int .i64 re) := by rw [hW7]; first | (simp [go_sem, *]; done) | (refine Gr.at ?_ (by assumption); exact gr_auto)
    have b7_3 : W3.heap.size < W7.heap.size := World.block_lt_of_cell? _ _ k7_3
    have k7_4 : W7.cell? ⟨W3.heap.size, 1, none⟩ = some (.int .i64 lo) := by rw [hW7]; first | (simp [go_sem, *]; done) | (refine Gr.at ?_ (by assumption); exact gr_auto)
    clear hW7
    have s7_0 : ∀ gw : GW W7, gw.1.cell? ⟨w.heap.size + 3, 0, none⟩ = some (.int .i64 inn) := fun gw => Gr.at gw.2 k7_0
    have s7_1 : ∀ gw : GW W7, gw.1.cell? ⟨w.heap.size + 3, 1, none⟩ = some (.int .i64 out) := fun gw => Gr.at gw.2 k7_1
    have s7_2 : ∀ gw : GW W7, gw.1.cell? ⟨w.heap.size + 3, 2, none⟩ = some (.slice GA gn gc) := fun gw => Gr.at gw.2 k7_2
    have s7_3 : ∀ gw : GW W7, gw.1.cell? ⟨W3.heap.size, 0, none⟩ = some (.int .i64 re) := fun gw => Gr.at gw.2 k7_3
    have s7_4 : ∀ gw : GW W7, gw.1.cell? ⟨W3.heap.size, 1, none⟩ = some (.int .i64 lo) := fun gw => Gr.at gw.2 k7_4
    have HS8 := Lib.hid (fun gw : GW W7 => gw_same (HS.out gw.1 (g7.trans gw.2)))
    refine wp_region_gr (by kernel_rfl) (by kernel_rfl) ?_
    repeat (go_big_quiet_step ((go_at_call 43; exact HS8.out _)))
    refine wpQuiet_nil ?_
    intro w8 hb8
    clear s7_0 s7_1 s7_2 s7_3 s7_4
    have g8 : Gr w w8 := g7.trans hb8
    have k7_0 := Gr.at hb8 k7_0
    have k7_1 := Gr.at hb8 k7_1
    have k7_2 := Gr.at hb8 k7_2
    have k7_3 := Gr.at hb8 k7_3
    have k7_4 := Gr.at hb8 k7_4
    go_wp2_with fail
    go_ret3
    exact ⟨rfl, gr_auto⟩
set_option maxRecDepth 100000 in
set_option maxHeartbeats 4000000 in
theorem step_b (A A2 VA1 PA1 SA1 OA1 VA2 PA2 SA2 OA2 GA IA : Option Addr) (n c n2 c2 vn1 vc1 pn1 pc1 sn1 sc1 on1 oc1 vn2 vc2 pn2 pc2 sn2 sc2 on2 oc2 gn gc m ic : Nat) (inn out : Int) (w : World) (a1 p1 a2 p2 sm re lo : Int) (HG : Hid (∀ W, Gr w W → Calls Tryz.prog 40 #[.agg #[.slice A n c, .slice A2 n2 c2], .agg #[.slice VA1 vn1 vc1, .slice PA1 pn1 pc1, .slice SA1 sn1 sc1, .slice OA1 on1 oc1], .agg #[.slice VA2 vn2 vc2, .slice PA2 pn2 pc2, .slice SA2 sn2 sc2, .slice OA2 on2 oc2], .slice IA m ic, .agg #[.int .i64 inn, .int .i64 out, .slice GA gn gc]] W fun e w' => e = .returned (.int .i64 0) ∧ Gr W w')) (HV1 : Hid (∀ W, Gr w W → Calls Tryz.prog 43 #[.slice VA1 vn1 vc1] W fun e w' => e = .returned (.int .i64 a1) ∧ W = w')) (HP1 : Hid (∀ W, Gr w W → Calls Tryz.prog 43 #[.slice PA1 pn1 pc1] W fun e w' => e = .returned (.int .i64 p1) ∧ W = w')) (HV2 : Hid (∀ W, Gr w W → Calls Tryz.prog 43 #[.slice VA2 vn2 vc2] W fun e w' => e = .returned (.int .i64 a2) ∧ W = w')) (HP2 : Hid (∀ W, Gr w W → Calls Tryz.prog 43 #[.slice PA2 pn2 pc2] W fun e w' => e = .returned (.int .i64 p2) ∧ W = w')) (HS : Hid (∀ W, Gr w W → Calls Tryz.prog 43 #[.slice IA m ic] W fun e w' => e = .returned (.int .i64 sm) ∧ W = w')) (b1 : 0 ≤ a1 ∧ a1 ≤ 1125899906842624000) (b2 : 0 ≤ p1 ∧ p1 ≤ 1125899906842624000) (b3 : 0 ≤ a2 ∧ a2 ≤ 1125899906842624000) (b4 : 0 ≤ p2 ∧ p2 ≤ 1125899906842624000) (b5 : 0 ≤ inn ∧ inn ≤ 1152921504606846976) (b6 : 0 ≤ out ∧ out ≤ 1152921504606846976) (HRE : Hid (∀ X W, W.cell? ⟨X, 0, none⟩ = some (.bool true) → Calls Tryz.prog 42 #[.slice (some ⟨X, 0, none⟩) 1 1, .int .i64 (n : Int)] W (RetB n W))) (HOF : Hid (∀ (s : Ba.SlB) W, Gr w W → s.At W → s.n = n → (∀ i, s.X i = true) → Calls Tryz.prog 41 #[.agg #[.slice A n c, .slice A2 n2 c2], .slice s.A s.n s.c, .agg #[.slice VA1 vn1 vc1, .slice PA1 pn1 pc1, .slice SA1 sn1 sc1, .slice OA1 on1 oc1], .agg #[.slice VA2 vn2 vc2, .slice PA2 pn2 pc2, .slice SA2 sn2 sc2, .slice OA2 on2 oc2], .slice IA m ic, .slice GA gn gc] W fun e w' => e = .returned (.agg #[.int .i64 re, .int .i64 lo]) ∧ Gr W w')) (ts : (inn == sm) = true) (tx : (out == lo) = false) : Calls Tryz.prog 18 #[.agg #[.slice A n c, .slice A2 n2 c2], .agg #[.slice VA1 vn1 vc1, .slice PA1 pn1 pc1, .slice SA1 sn1 sc1, .slice OA1 on1 oc1], .agg #[.slice VA2 vn2 vc2, .slice PA2 pn2 pc2, .slice SA2 sn2 sc2, .slice OA2 on2 oc2], .slice IA m ic, .agg #[.int .i64 inn, .int .i64 out, .slice GA gn gc]] w fun e w' => e = .returned (.tuple #[.bool false, .int .i64 (a1 + p1 + inn - a2 - p2 - out), .int .i64 0]) ∧ Gr w w' := by
  go_enter Tryz.func18, Tryz.ntmps18
  go_wp2_with fail
  (first | refine name_world ?_ | refine (show (∀ W, W = _ → Calls _ _ _ W _) → Calls _ _ _ _ _ from fun h => h _ rfl) ?_); intro W1 hW1
  have g1 : Gr w W1 := by rw [hW1]; exact gr_auto
  have k1_0 : W1.cell? ⟨w.heap.size, 0, none⟩ = some (.slice A n c) := by rw [hW1]; first | (simp [go_sem, *]; done) | (refine Gr.at ?_ (by assumption); exact gr_auto)
  have b1_0 : w.heap.size < W1.heap.size := World.block_lt_of_cell? _ _ k1_0
  have k1_1 : W1.cell? ⟨w.heap.size, 1, none⟩ = some (.slice A2 n2 c2) := by rw [hW1]; first | (simp [go_sem, *]; done) | (refine Gr.at ?_ (by assumption); exact gr_auto)
  have k1_2 : W1.cell? ⟨w.heap.size + 1, 0, none⟩ = some (.slice VA1 vn1 vc1) := by rw [hW1]; first | (simp [go_sem, *]; done) | (refine Gr.at ?_ (by assumption); exact gr_auto)
  have b1_2 : w.heap.size + 1 < W1.heap.size := World.block_lt_of_cell? _ _ k1_2
  have k1_3 : W1.cell? ⟨w.heap.size + 1, 1, none⟩ = some (.slice PA1 pn1 pc1) := by rw [hW1]; first | (simp [go_sem, *]; done) | (refine Gr.at ?_ (by assumption); exact gr_auto)
  have k1_4 : W1.cell? ⟨w.heap.size + 1, 2, none⟩ = some (.slice SA1 sn1 sc1) := by rw [hW1]; first | (simp [go_sem, *]; done) | (refine Gr.at ?_ (by assumption); exact gr_auto)
  have k1_5 : W1.cell? ⟨w.heap.size + 1, 3, none⟩ = some (.slice OA1 on1 oc1) := by rw [hW1]; first | (simp [go_sem, *]; done) | (refine Gr.at ?_ (by assumption); exact gr_auto)
  have k1_6 : W1.cell? ⟨w.heap.size + 2, 0, none⟩ = some (.slice VA2 vn2 vc2) := by rw [hW1]; first | (simp [go_sem, *]; done) | (refine Gr.at ?_ (by assumption); exact gr_auto)
  have b1_6 : w.heap.size + 2 < W1.heap.size := World.block_lt_of_cell? _ _ k1_6
  have k1_7 : W1.cell? ⟨w.heap.size + 2, 1, none⟩ = some (.slice PA2 pn2 pc2) := by rw [hW1]; first | (simp [go_sem, *]; done) | (refine Gr.at ?_ (by assumption); exact gr_auto)
  have k1_8 : W1.cell? ⟨w.heap.size + 2, 2, none⟩ = some (.slice SA2 sn2 sc2) := by rw [hW1]; first | (simp [go_sem, *]; done) | (refine Gr.at ?_ (by assumption); exact gr_auto)
  have k1_9 : W1.cell? ⟨w.heap.size + 2, 3, none⟩ = some (.slice OA2 on2 oc2) := by rw [hW1]; first | (simp [go_sem, *]; done) | (refine Gr.at ?_ (by assumption); exact gr_auto)
  have k1_10 : W1.cell? ⟨w.heap.size + 3, 0, none⟩ = some (.int .i64 inn) := by rw [hW1]; first | (simp [go_sem, *]; done) | (refine Gr.at ?_ (by assumption); exact gr_auto)
  have b1_10 : w.heap.size + 3 < W1.heap.size := World.block_lt_of_cell? _ _ k1_10
  have k1_11 : W1.cell? ⟨w.heap.size + 3, 1, none⟩ = some (.int .i64 out) := by rw [hW1]; first | (simp [go_sem, *]; done) | (refine Gr.at ?_ (by assumption); exact gr_auto)
  have k1_12 : W1.cell? ⟨w.heap.size + 3, 2, none⟩ = some (.slice GA gn gc) := by rw [hW1]; first | (simp [go_sem, *]; done) | (refine Gr.at ?_ (by assumption); exact gr_auto)
  clear hW1
  refine (HG.out _ g1).mono ?_
  rintro e w2 ⟨rfl, hb2⟩
  have g2 := g1.trans hb2
  have k1_0 := Gr.at (w1 := w2) gr_auto k1_0; have k1_1 := Gr.at (w1 := w2) gr_auto k1_1; have k1_2 := Gr.at (w1 := w2) gr_auto k1_2; have k1_3 := Gr.at (w1 := w2) gr_auto k1_3; have k1_4 := Gr.at (w1 := w2) gr_auto k1_4; have k1_5 := Gr.at (w1 := w2) gr_auto k1_5; have k1_6 := Gr.at (w1 := w2) gr_auto k1_6; have k1_7 := Gr.at (w1 := w2) gr_auto k1_7; have k1_8 := Gr.at (w1 := w2) gr_auto k1_8; have k1_9 := Gr.at (w1 := w2) gr_auto k1_9; have k1_10 := Gr.at (w1 := w2) gr_auto k1_10; have k1_11 := Gr.at (w1 := w2) gr_auto k1_11; have k1_12 := Gr.at (w1 := w2) gr_auto k1_12
  go_wp2_with fail
  refine name_world ?_; intro W3 hW3
  have g3 : Gr w W3 := by rw [hW3]; exact gr_auto
  have k3_0 : ∀ w', Gr W3 w' → w'.cell? ⟨w.heap.size + 3, 0, none⟩ = some (.int .i64 inn) := fun w' hgW => by first | exact (Gr.at hgW (by rw [hW3]; simp [go_sem, *]))
  have k3_1 : ∀ w', Gr W3 w' → w'.cell? ⟨w.heap.size + 3, 1, none⟩ = some (.int .i64 out) := fun w' hgW => by first | exact (Gr.at hgW (by rw [hW3]; simp [go_sem, *]))
  have k3_2 : ∀ w', Gr W3 w' → w'.cell? ⟨w.heap.size + 3, 2, none⟩ = some (.slice GA gn gc) := fun w' hgW => by first | exact (Gr.at hgW (by rw [hW3]; simp [go_sem, *]))
  have k3_3 : ∀ w', Gr W3 w' → w'.cell? ⟨w.heap.size + 1, 0, none⟩ = some (.slice VA1 vn1 vc1) := fun w' hgW => by first | exact (Gr.at hgW (by rw [hW3]; simp [go_sem, *]))
  have k3_4 : ∀ w', Gr W3 w' → w'.cell? ⟨w.heap.size + 1, 1, none⟩ = some (.slice PA1 pn1 pc1) := fun w' hgW => by first | exact (Gr.at hgW (by rw [hW3]; simp [go_sem, *]))
  have k3_5 : ∀ w', Gr W3 w' → w'.cell? ⟨w.heap.size + 1, 2, none⟩ = some (.slice SA1 sn1 sc1) := fun w' hgW => by first | exact (Gr.at hgW (by rw [hW3]; simp [go_sem, *]))
  have k3_6 : ∀ w', Gr W3 w' → w'.cell? ⟨w.heap.size + 1, 3, none⟩ = some (.slice OA1 on1 oc1) := fun w' hgW => by first | exact (Gr.at hgW (by rw [hW3]; simp [go_sem, *]))
  have k3_7 : ∀ w', Gr W3 w' → w'.cell? ⟨w.heap.size + 2, 0, none⟩ = some (.slice VA2 vn2 vc2) := fun w' hgW => by first | exact (Gr.at hgW (by rw [hW3]; simp [go_sem, *]))
  have k3_8 : ∀ w', Gr W3 w' → w'.cell? ⟨w.heap.size + 2, 1, none⟩ = some (.slice PA2 pn2 pc2) := fun w' hgW => by first | exact (Gr.at hgW (by rw [hW3]; simp [go_sem, *]))
  have k3_9 : ∀ w', Gr W3 w' → w'.cell? ⟨w.heap.size + 2, 2, none⟩ = some (.slice SA2 sn2 sc2) := fun w' hgW => by first | exact (Gr.at hgW (by rw [hW3]; simp [go_sem, *]))
  have k3_10 : ∀ w', Gr W3 w' → w'.cell? ⟨w.heap.size + 2, 3, none⟩ = some (.slice OA2 on2 oc2) := fun w' hgW => by first | exact (Gr.at hgW (by rw [hW3]; simp [go_sem, *]))
  have k3_11 : ∀ w', Gr W3 w' → w'.cell? ⟨w.heap.size, 0, none⟩ = some (.slice A n c) := fun w' hgW => by first | exact (Gr.at hgW (by rw [hW3]; simp [go_sem, *]))
  have k3_12 : ∀ w', Gr W3 w' → w'.cell? ⟨w.heap.size, 1, none⟩ = some (.slice A2 n2 c2) := fun w' hgW => by first | exact (Gr.at hgW (by rw [hW3]; simp [go_sem, *]))
  clear hW3
  have zW3 := Gr.size g3
  go_region_held3 (fun w' => Gr W3 w') (exact gr_auto) ((first | (go_at_call 42; refine (HRE.out _ _ (by simp [go_sem])).mono ?_; rintro e w8 ⟨sM, rfl, hsn, hsat, hsx, hb8⟩; have HSN := Lib.hid hsn; have HSX := Lib.hid hsx; have HSA := Lib.hid hsat; clear hsn hsx hsat; have hz8 : Gr W3 w8 := gr_auto; have z8 : W3.heap.size ≤ w8.heap.size := Gr.size hz8; clear hz8; (first | (refine own_k (B := W3.heap.size) hb8 ?_ ?_ ?_ ?_ ?_; (solve | exact World.frozen?_alloc_new _ _ _ _ | simp | simp [go_sem] | simp [go_sem]); (solve | exact World.frozen?_alloc_new _ _ _ _ | simp | simp [go_sem] | simp [go_sem]); (solve | exact World.frozen?_alloc_new _ _ _ _ | simp | simp [go_sem] | simp [go_sem]); (solve | exact World.frozen?_alloc_new _ _ _ _ | simp | simp [go_sem] | simp [go_sem]); intro q1c q1f q1d q1g) | skip); (first | (refine own_k (B := W3.heap.size + 1) hb8 ?_ ?_ ?_ ?_ ?_; (solve | exact World.frozen?_alloc_new _ _ _ _ | simp | simp [go_sem] | simp [go_sem]); (solve | exact World.frozen?_alloc_new _ _ _ _ | simp | simp [go_sem] | simp [go_sem]); (solve | exact World.frozen?_alloc_new _ _ _ _ | simp | simp [go_sem] | simp [go_sem]); (solve | exact World.frozen?_alloc_new _ _ _ _ | simp | simp [go_sem] | simp [go_sem]); intro q2c q2f q2d q2g) | skip)) | (go_at_call 41; refine (HOF.out sM _ gr_auto (Ba.SlB.At.gr HSA.out gr_auto) HSN.out HSX.out).mono ?_; rintro e w9 ⟨rfl, hb9⟩; (first | (refine own_k (B := W3.heap.size) hb9 ?_ ?_ ?_ ?_ ?_; (solve | exact World.frozen?_alloc_new _ _ _ _ | simp | simp [go_sem] | simp [go_sem, *]); (solve | exact World.frozen?_alloc_new _ _ _ _ | simp | simp [go_sem] | simp [go_sem, *]); (solve | exact World.frozen?_alloc_new _ _ _ _ | simp | simp [go_sem] | simp [go_sem, *]); (solve | exact World.frozen?_alloc_new _ _ _ _ | simp | simp [go_sem] | simp [go_sem, *]); intro q3c q3f q3d q3g) | skip); (first | (refine own_k (B := W3.heap.size + 1) hb9 ?_ ?_ ?_ ?_ ?_; (solve | exact World.frozen?_alloc_new _ _ _ _ | simp | simp [go_sem] | simp [go_sem, *]); (solve | exact World.frozen?_alloc_new _ _ _ _ | simp | simp [go_sem] | simp [go_sem, *]); (solve | exact World.frozen?_alloc_new _ _ _ _ | simp | simp [go_sem] | simp [go_sem, *]); (solve | exact World.frozen?_alloc_new _ _ _ _ | simp | simp [go_sem] | simp [go_sem, *]); intro q4c q4f q4d q4g) | skip); (first | (refine own_k (B := w8.heap.size) hb9 ?_ ?_ ?_ ?_ ?_; (solve | exact World.frozen?_alloc_new _ _ _ _ | simp | simp [go_sem] | simp [go_sem, *]); (solve | exact World.frozen?_alloc_new _ _ _ _ | simp | simp [go_sem] | simp [go_sem, *]); (solve | exact World.frozen?_alloc_new _ _ _ _ | simp | simp [go_sem] | simp [go_sem, *]); (solve | exact World.frozen?_alloc_new _ _ _ _ | simp | simp [go_sem] | simp [go_sem, *]); intro q5c q5f q5d q5g) | skip))))
  have z3 := Gr.size g2
  · go_wp2_with fail
    (first | refine name_world ?_ | refine (show (∀ W, W = _ → Calls _ _ _ W _) → Calls _ _ _ _ _ from fun h => h _ rfl) ?_); intro W5 hW5
    have g5 : Gr w W5 := by rw [hW5]; exact gr_auto
    have k5_0 : W5.cell? ⟨w.heap.size + 3, 0, none⟩ = some (.int .i64 inn) := by rw [hW5]; first | (simp [go_sem, *]; done) | (refine Gr.at ?_ (by assumption); exact gr_auto)
    have b5_0 : w.heap.size + 3 < W5.heap.size := World.block_lt_of_cell? _ _ k5_0
    have k5_1 : W5.cell? ⟨w.heap.size + 3, 1, none⟩ = some (.int .i64 out) := by rw [hW5]; first | (simp [go_sem, *]; done) | (refine Gr.at ?_ (by assumption); exact gr_auto)
    have k5_2 : W5.cell? ⟨w.heap.size + 3, 2, none⟩ = some (.slice GA gn gc) := by rw [hW5]; first | (simp [go_sem, *]; done) | (refine Gr.at ?_ (by assumption); exact gr_auto)
    have k5_3 : W5.cell? ⟨w.heap.size + 1, 0, none⟩ = some (.slice VA1 vn1 vc1) := by rw [hW5]; first | (simp [go_sem, *]; done) | (refine Gr.at ?_ (by assumption); exact gr_auto)
    have b5_3 : w.heap.size + 1 < W5.heap.size := World.block_lt_of_cell? _ _ k5_3
    have k5_4 : W5.cell? ⟨w.heap.size + 1, 1, none⟩ = some (.slice PA1 pn1 pc1) := by rw [hW5]; first | (simp [go_sem, *]; done) | (refine Gr.at ?_ (by assumption); exact gr_auto)
    have k5_5 : W5.cell? ⟨w.heap.size + 2, 0, none⟩ = some (.slice VA2 vn2 vc2) := by rw [hW5]; first | (simp [go_sem, *]; done) | (refine Gr.at ?_ (by assumption); exact gr_auto)
    have b5_5 : w.heap.size + 2 < W5.heap.size := World.block_lt_of_cell? _ _ k5_5
    have k5_6 : W5.cell? ⟨w.heap.size + 2, 1, none⟩ = some (.slice PA2 pn2 pc2) := by rw [hW5]; first | (simp [go_sem, *]; done) | (refine Gr.at ?_ (by assumption); exact gr_auto)
    have k5_7 : W5.cell? ⟨w9.heap.size, 0, none⟩ = some (.int .i64 re) := by rw [hW5]; first | (simp [go_sem, *]; done) | (refine Gr.at ?_ (by assumption); exact gr_auto)
    have b5_7 : w9.heap.size < W5.heap.size := World.block_lt_of_cell? _ _ k5_7
    have k5_8 : W5.cell? ⟨w9.heap.size, 1, none⟩ = some (.int .i64 lo) := by rw [hW5]; first | (simp [go_sem, *]; done) | (refine Gr.at ?_ (by assumption); exact gr_auto)
    clear hW5
    have s5_0 : ∀ gw : GW W5, gw.1.cell? ⟨w.heap.size + 3, 0, none⟩ = some (.int .i64 inn) := fun gw => Gr.at gw.2 k5_0
    have s5_1 : ∀ gw : GW W5, gw.1.cell? ⟨w.heap.size + 3, 1, none⟩ = some (.int .i64 out) := fun gw => Gr.at gw.2 k5_1
    have s5_2 : ∀ gw : GW W5, gw.1.cell? ⟨w.heap.size + 3, 2, none⟩ = some (.slice GA gn gc) := fun gw => Gr.at gw.2 k5_2
    have s5_3 : ∀ gw : GW W5, gw.1.cell? ⟨w.heap.size + 1, 0, none⟩ = some (.slice VA1 vn1 vc1) := fun gw => Gr.at gw.2 k5_3
    have s5_4 : ∀ gw : GW W5, gw.1.cell? ⟨w.heap.size + 1, 1, none⟩ = some (.slice PA1 pn1 pc1) := fun gw => Gr.at gw.2 k5_4
    have s5_5 : ∀ gw : GW W5, gw.1.cell? ⟨w.heap.size + 2, 0, none⟩ = some (.slice VA2 vn2 vc2) := fun gw => Gr.at gw.2 k5_5
    have s5_6 : ∀ gw : GW W5, gw.1.cell? ⟨w.heap.size + 2, 1, none⟩ = some (.slice PA2 pn2 pc2) := fun gw => Gr.at gw.2 k5_6
    have s5_7 : ∀ gw : GW W5, gw.1.cell? ⟨w9.heap.size, 0, none⟩ = some (.int .i64 re) := fun gw => Gr.at gw.2 k5_7
    have s5_8 : ∀ gw : GW W5, gw.1.cell? ⟨w9.heap.size, 1, none⟩ = some (.int .i64 lo) := fun gw => Gr.at gw.2 k5_8
    have HV16 := Lib.hid (fun gw : GW W5 => gw_same (HV1.out gw.1 (g5.trans gw.2)))
    have HP16 := Lib.hid (fun gw : GW W5 => gw_same (HP1.out gw.1 (g5.trans gw.2)))
    have HV26 := Lib.hid (fun gw : GW W5 => gw_same (HV2.out gw.1 (g5.trans gw.2)))
    have HP26 := Lib.hid (fun gw : GW W5 => gw_same (HP2.out gw.1 (g5.trans gw.2)))
    refine wp_region_gr (by kernel_rfl) (by kernel_rfl) ?_
    repeat (go_big_quiet_step ((first | (go_at_call 43; with_reducible exact HV16.out _) | (go_at_call 43; with_reducible exact HP16.out _) | (go_at_call 43; with_reducible exact HV26.out _) | (go_at_call 43; with_reducible exact HP26.out _))))
    refine wpQuiet_nil ?_
    intro w6 hb6
    clear s5_0 s5_1 s5_2 s5_3 s5_4 s5_5 s5_6 s5_7 s5_8
    have g6 : Gr w w6 := g5.trans hb6
    have k5_0 := Gr.at hb6 k5_0
    have k5_1 := Gr.at hb6 k5_1
    have k5_2 := Gr.at hb6 k5_2
    have k5_3 := Gr.at hb6 k5_3
    have k5_4 := Gr.at hb6 k5_4
    have k5_5 := Gr.at hb6 k5_5
    have k5_6 := Gr.at hb6 k5_6
    have k5_7 := Gr.at hb6 k5_7
    have k5_8 := Gr.at hb6 k5_8
    go_wp2_with fail
    (first | refine name_world ?_ | refine (show (∀ W, W = _ → Calls _ _ _ W _) → Calls _ _ _ _ _ from fun h => h _ rfl) ?_); intro W7 hW7
    have g7 : Gr w W7 := by rw [hW7]; exact gr_auto
    have k7_0 : W7.cell? ⟨w.heap.size + 3, 0, none⟩ = some (.int .i64 inn) := by rw [hW7]; first | (simp [go_sem, *]; done) | (refine Gr.at ?_ (by assumption); exact gr_auto)
    have b7_0 : w.heap.size + 3 < W7.heap.size := World.block_lt_of_cell? _ _ k7_0
    have k7_1 : W7.cell? ⟨w.heap.size + 3, 1, none⟩ = some (.int .i64 out) := by rw [hW7]; first | (simp [go_sem, *]; done) | (refine Gr.at ?_ (by assumption); exact gr_auto)
    have k7_2 : W7.cell? ⟨w.heap.size + 3, 2, none⟩ = some (.slice GA gn gc) := by rw [hW7]; first | (simp [go_sem, *]; done) | (refine Gr.at ?_ (by assumption); exact gr_auto)
    have k7_3 : W7.cell? ⟨w9.heap.size, 0, none⟩ = some (.int .i64 re) := by rw [hW7]; first | (simp [go_sem, *]; done) | (refine Gr.at ?_ (by assumption); exact gr_auto)
    have b7_3 : w9.heap.size < W7.heap.size := World.block_lt_of_cell? _ _ k7_3
    have k7_4 : W7.cell? ⟨w9.heap.size, 1, none⟩ = some (.int .i64 lo) := by rw [hW7]; first | (simp [go_sem, *]; done) | (refine Gr.at ?_ (by assumption); exact gr_auto)
    clear hW7
    have s7_0 : ∀ gw : GW W7, gw.1.cell? ⟨w.heap.size + 3, 0, none⟩ = some (.int .i64 inn) := fun gw => Gr.at gw.2 k7_0
    have s7_1 : ∀ gw : GW W7, gw.1.cell? ⟨w.heap.size + 3, 1, none⟩ = some (.int .i64 out) := fun gw => Gr.at gw.2 k7_1
    have s7_2 : ∀ gw : GW W7, gw.1.cell? ⟨w.heap.size + 3, 2, none⟩ = some (.slice GA gn gc) := fun gw => Gr.at gw.2 k7_2
    have s7_3 : ∀ gw : GW W7, gw.1.cell? ⟨w9.heap.size, 0, none⟩ = some (.int .i64 re) := fun gw => Gr.at gw.2 k7_3
    have s7_4 : ∀ gw : GW W7, gw.1.cell? ⟨w9.heap.size, 1, none⟩ = some (.int .i64 lo) := fun gw => Gr.at gw.2 k7_4
    have HS8 := Lib.hid (fun gw : GW W7 => gw_same (HS.out gw.1 (g7.trans gw.2)))
    refine wp_region_gr (by kernel_rfl) (by kernel_rfl) ?_
    repeat (go_big_quiet_step ((go_at_call 43; exact HS8.out _)))
    refine wpQuiet_nil ?_
    intro w8 hb8
    clear s7_0 s7_1 s7_2 s7_3 s7_4
    have g8 : Gr w w8 := g7.trans hb8
    have k7_0 := Gr.at hb8 k7_0
    have k7_1 := Gr.at hb8 k7_1
    have k7_2 := Gr.at hb8 k7_2
    have k7_3 := Gr.at hb8 k7_3
    have k7_4 := Gr.at hb8 k7_4
    go_wp2_with fail
    go_ret3
    exact ⟨rfl, gr_auto⟩
  · go_wp2_with fail
    (first | refine name_world ?_ | refine (show (∀ W, W = _ → Calls _ _ _ W _) → Calls _ _ _ _ _ from fun h => h _ rfl) ?_); intro W5 hW5
    have g5 : Gr w W5 := by rw [hW5]; exact gr_auto
    have k5_0 : W5.cell? ⟨w.heap.size + 3, 0, none⟩ = some (.int .i64 inn) := by rw [hW5]; first | (simp [go_sem, *]; done) | (refine Gr.at ?_ (by assumption); exact gr_auto)
    have b5_0 : w.heap.size + 3 < W5.heap.size := World.block_lt_of_cell? _ _ k5_0
    have k5_1 : W5.cell? ⟨w.heap.size + 3, 1, none⟩ = some (.int .i64 out) := by rw [hW5]; first | (simp [go_sem, *]; done) | (refine Gr.at ?_ (by assumption); exact gr_auto)
    have k5_2 : W5.cell? ⟨w.heap.size + 3, 2, none⟩ = some (.slice GA gn gc) := by rw [hW5]; first | (simp [go_sem, *]; done) | (refine Gr.at ?_ (by assumption); exact gr_auto)
    have k5_3 : W5.cell? ⟨w.heap.size + 1, 0, none⟩ = some (.slice VA1 vn1 vc1) := by rw [hW5]; first | (simp [go_sem, *]; done) | (refine Gr.at ?_ (by assumption); exact gr_auto)
    have b5_3 : w.heap.size + 1 < W5.heap.size := World.block_lt_of_cell? _ _ k5_3
    have k5_4 : W5.cell? ⟨w.heap.size + 1, 1, none⟩ = some (.slice PA1 pn1 pc1) := by rw [hW5]; first | (simp [go_sem, *]; done) | (refine Gr.at ?_ (by assumption); exact gr_auto)
    have k5_5 : W5.cell? ⟨w.heap.size + 2, 0, none⟩ = some (.slice VA2 vn2 vc2) := by rw [hW5]; first | (simp [go_sem, *]; done) | (refine Gr.at ?_ (by assumption); exact gr_auto)
    have b5_5 : w.heap.size + 2 < W5.heap.size := World.block_lt_of_cell? _ _ k5_5
    have k5_6 : W5.cell? ⟨w.heap.size + 2, 1, none⟩ = some (.slice PA2 pn2 pc2) := by rw [hW5]; first | (simp [go_sem, *]; done) | (refine Gr.at ?_ (by assumption); exact gr_auto)
    have k5_7 : W5.cell? ⟨w8.heap.size, 0, none⟩ = some (.int .i64 re) := by rw [hW5]; first | (simp [go_sem, *]; done) | (refine Gr.at ?_ (by assumption); exact gr_auto)
    have b5_7 : w8.heap.size < W5.heap.size := World.block_lt_of_cell? _ _ k5_7
    have k5_8 : W5.cell? ⟨w8.heap.size, 1, none⟩ = some (.int .i64 lo) := by rw [hW5]; first | (simp [go_sem, *]; done) | (refine Gr.at ?_ (by assumption); exact gr_auto)
    clear hW5
    have s5_0 : ∀ gw : GW W5, gw.1.cell? ⟨w.heap.size + 3, 0, none⟩ = some (.int .i64 inn) := fun gw => Gr.at gw.2 k5_0
    have s5_1 : ∀ gw : GW W5, gw.1.cell? ⟨w.heap.size + 3, 1, none⟩ = some (.int .i64 out) := fun gw => Gr.at gw.2 k5_1
    have s5_2 : ∀ gw : GW W5, gw.1.cell? ⟨w.heap.size + 3, 2, none⟩ = some (.slice GA gn gc) := fun gw => Gr.at gw.2 k5_2
    have s5_3 : ∀ gw : GW W5, gw.1.cell? ⟨w.heap.size + 1, 0, none⟩ = some (.slice VA1 vn1 vc1) := fun gw => Gr.at gw.2 k5_3
    have s5_4 : ∀ gw : GW W5, gw.1.cell? ⟨w.heap.size + 1, 1, none⟩ = some (.slice PA1 pn1 pc1) := fun gw => Gr.at gw.2 k5_4
    have s5_5 : ∀ gw : GW W5, gw.1.cell? ⟨w.heap.size + 2, 0, none⟩ = some (.slice VA2 vn2 vc2) := fun gw => Gr.at gw.2 k5_5
    have s5_6 : ∀ gw : GW W5, gw.1.cell? ⟨w.heap.size + 2, 1, none⟩ = some (.slice PA2 pn2 pc2) := fun gw => Gr.at gw.2 k5_6
    have s5_7 : ∀ gw : GW W5, gw.1.cell? ⟨w8.heap.size, 0, none⟩ = some (.int .i64 re) := fun gw => Gr.at gw.2 k5_7
    have s5_8 : ∀ gw : GW W5, gw.1.cell? ⟨w8.heap.size, 1, none⟩ = some (.int .i64 lo) := fun gw => Gr.at gw.2 k5_8
    have HV16 := Lib.hid (fun gw : GW W5 => gw_same (HV1.out gw.1 (g5.trans gw.2)))
    have HP16 := Lib.hid (fun gw : GW W5 => gw_same (HP1.out gw.1 (g5.trans gw.2)))
    have HV26 := Lib.hid (fun gw : GW W5 => gw_same (HV2.out gw.1 (g5.trans gw.2)))
    have HP26 := Lib.hid (fun gw : GW W5 => gw_same (HP2.out gw.1 (g5.trans gw.2)))
    refine wp_region_gr (by kernel_rfl) (by kernel_rfl) ?_
    repeat (go_big_quiet_step ((first | (go_at_call 43; with_reducible exact HV16.out _) | (go_at_call 43; with_reducible exact HP16.out _) | (go_at_call 43; with_reducible exact HV26.out _) | (go_at_call 43; with_reducible exact HP26.out _))))
    refine wpQuiet_nil ?_
    intro w6 hb6
    clear s5_0 s5_1 s5_2 s5_3 s5_4 s5_5 s5_6 s5_7 s5_8
    have g6 : Gr w w6 := g5.trans hb6
    have k5_0 := Gr.at hb6 k5_0
    have k5_1 := Gr.at hb6 k5_1
    have k5_2 := Gr.at hb6 k5_2
    have k5_3 := Gr.at hb6 k5_3
    have k5_4 := Gr.at hb6 k5_4
    have k5_5 := Gr.at hb6 k5_5
    have k5_6 := Gr.at hb6 k5_6
    have k5_7 := Gr.at hb6 k5_7
    have k5_8 := Gr.at hb6 k5_8
    go_wp2_with fail
    (first | refine name_world ?_ | refine (show (∀ W, W = _ → Calls _ _ _ W _) → Calls _ _ _ _ _ from fun h => h _ rfl) ?_); intro W7 hW7
    have g7 : Gr w W7 := by rw [hW7]; exact gr_auto
    have k7_0 : W7.cell? ⟨w.heap.size + 3, 0, none⟩ = some (.int .i64 inn) := by rw [hW7]; first | (simp [go_sem, *]; done) | (refine Gr.at ?_ (by assumption); exact gr_auto)
    have b7_0 : w.heap.size + 3 < W7.heap.size := World.block_lt_of_cell? _ _ k7_0
    have k7_1 : W7.cell? ⟨w.heap.size + 3, 1, none⟩ = some (.int .i64 out) := by rw [hW7]; first | (simp [go_sem, *]; done) | (refine Gr.at ?_ (by assumption); exact gr_auto)
    have k7_2 : W7.cell? ⟨w.heap.size + 3, 2, none⟩ = some (.slice GA gn gc) := by rw [hW7]; first | (simp [go_sem, *]; done) | (refine Gr.at ?_ (by assumption); exact gr_auto)
    have k7_3 : W7.cell? ⟨w8.heap.size, 0, none⟩ = some (.int .i64 re) := by rw [hW7]; first | (simp [go_sem, *]; done) | (refine Gr.at ?_ (by assumption); exact gr_auto)
    have b7_3 : w8.heap.size < W7.heap.size := World.block_lt_of_cell? _ _ k7_3
    have k7_4 : W7.cell? ⟨w8.heap.size, 1, none⟩ = some (.int .i64 lo) := by rw [hW7]; first | (simp [go_sem, *]; done) | (refine Gr.at ?_ (by assumption); exact gr_auto)
    clear hW7
    have s7_0 : ∀ gw : GW W7, gw.1.cell? ⟨w.heap.size + 3, 0, none⟩ = some (.int .i64 inn) := fun gw => Gr.at gw.2 k7_0
    have s7_1 : ∀ gw : GW W7, gw.1.cell? ⟨w.heap.size + 3, 1, none⟩ = some (.int .i64 out) := fun gw => Gr.at gw.2 k7_1
    have s7_2 : ∀ gw : GW W7, gw.1.cell? ⟨w.heap.size + 3, 2, none⟩ = some (.slice GA gn gc) := fun gw => Gr.at gw.2 k7_2
    have s7_3 : ∀ gw : GW W7, gw.1.cell? ⟨w8.heap.size, 0, none⟩ = some (.int .i64 re) := fun gw => Gr.at gw.2 k7_3
    have s7_4 : ∀ gw : GW W7, gw.1.cell? ⟨w8.heap.size, 1, none⟩ = some (.int .i64 lo) := fun gw => Gr.at gw.2 k7_4
    have HS8 := Lib.hid (fun gw : GW W7 => gw_same (HS.out gw.1 (g7.trans gw.2)))
    refine wp_region_gr (by kernel_rfl) (by kernel_rfl) ?_
    repeat (go_big_quiet_step ((go_at_call 43; exact HS8.out _)))
    refine wpQuiet_nil ?_
    intro w8 hb8
    clear s7_0 s7_1 s7_2 s7_3 s7_4
    have g8 : Gr w w8 := g7.trans hb8
    have k7_0 := Gr.at hb8 k7_0
    have k7_1 := Gr.at hb8 k7_1
    have k7_2 := Gr.at hb8 k7_2
    have k7_3 := Gr.at hb8 k7_3
    have k7_4 := Gr.at hb8 k7_4
    go_wp2_with fail
    go_ret3
    exact ⟨rfl, gr_auto⟩
  · go_wp2_with fail
    (first | refine name_world ?_ | refine (show (∀ W, W = _ → Calls _ _ _ W _) → Calls _ _ _ _ _ from fun h => h _ rfl) ?_); intro W5 hW5
    have g5 : Gr w W5 := by rw [hW5]; exact gr_auto
    have k5_0 : W5.cell? ⟨w.heap.size + 3, 0, none⟩ = some (.int .i64 inn) := by rw [hW5]; first | (simp [go_sem, *]; done) | (refine Gr.at ?_ (by assumption); exact gr_auto)
    have b5_0 : w.heap.size + 3 < W5.heap.size := World.block_lt_of_cell? _ _ k5_0
    have k5_1 : W5.cell? ⟨w.heap.size + 3, 1, none⟩ = some (.int .i64 out) := by rw [hW5]; first | (simp [go_sem, *]; done) | (refine Gr.at ?_ (by assumption); exact gr_auto)
    have k5_2 : W5.cell? ⟨w.heap.size + 3, 2, none⟩ = some (.slice GA gn gc) := by rw [hW5]; first | (simp [go_sem, *]; done) | (refine Gr.at ?_ (by assumption); exact gr_auto)
    have k5_3 : W5.cell? ⟨w.heap.size + 1, 0, none⟩ = some (.slice VA1 vn1 vc1) := by rw [hW5]; first | (simp [go_sem, *]; done) | (refine Gr.at ?_ (by assumption); exact gr_auto)
    have b5_3 : w.heap.size + 1 < W5.heap.size := World.block_lt_of_cell? _ _ k5_3
    have k5_4 : W5.cell? ⟨w.heap.size + 1, 1, none⟩ = some (.slice PA1 pn1 pc1) := by rw [hW5]; first | (simp [go_sem, *]; done) | (refine Gr.at ?_ (by assumption); exact gr_auto)
    have k5_5 : W5.cell? ⟨w.heap.size + 2, 0, none⟩ = some (.slice VA2 vn2 vc2) := by rw [hW5]; first | (simp [go_sem, *]; done) | (refine Gr.at ?_ (by assumption); exact gr_auto)
    have b5_5 : w.heap.size + 2 < W5.heap.size := World.block_lt_of_cell? _ _ k5_5
    have k5_6 : W5.cell? ⟨w.heap.size + 2, 1, none⟩ = some (.slice PA2 pn2 pc2) := by rw [hW5]; first | (simp [go_sem, *]; done) | (refine Gr.at ?_ (by assumption); exact gr_auto)
    have k5_7 : W5.cell? ⟨W3.heap.size + 1, 0, none⟩ = some (.int .i64 re) := by rw [hW5]; first | (simp [go_sem, *]; done) | (refine Gr.at ?_ (by assumption); exact gr_auto)
    have b5_7 : W3.heap.size + 1 < W5.heap.size := World.block_lt_of_cell? _ _ k5_7
    have k5_8 : W5.cell? ⟨W3.heap.size + 1, 1, none⟩ = some (.int .i64 lo) := by rw [hW5]; first | (simp [go_sem, *]; done) | (refine Gr.at ?_ (by assumption); exact gr_auto)
    clear hW5
    have s5_0 : ∀ gw : GW W5, gw.1.cell? ⟨w.heap.size + 3, 0, none⟩ = some (.int .i64 inn) := fun gw => Gr.at gw.2 k5_0
    have s5_1 : ∀ gw : GW W5, gw.1.cell? ⟨w.heap.size + 3, 1, none⟩ = some (.int .i64 out) := fun gw => Gr.at gw.2 k5_1
    have s5_2 : ∀ gw : GW W5, gw.1.cell? ⟨w.heap.size + 3, 2, none⟩ = some (.slice GA gn gc) := fun gw => Gr.at gw.2 k5_2
    have s5_3 : ∀ gw : GW W5, gw.1.cell? ⟨w.heap.size + 1, 0, none⟩ = some (.slice VA1 vn1 vc1) := fun gw => Gr.at gw.2 k5_3
    have s5_4 : ∀ gw : GW W5, gw.1.cell? ⟨w.heap.size + 1, 1, none⟩ = some (.slice PA1 pn1 pc1) := fun gw => Gr.at gw.2 k5_4
    have s5_5 : ∀ gw : GW W5, gw.1.cell? ⟨w.heap.size + 2, 0, none⟩ = some (.slice VA2 vn2 vc2) := fun gw => Gr.at gw.2 k5_5
    have s5_6 : ∀ gw : GW W5, gw.1.cell? ⟨w.heap.size + 2, 1, none⟩ = some (.slice PA2 pn2 pc2) := fun gw => Gr.at gw.2 k5_6
    have s5_7 : ∀ gw : GW W5, gw.1.cell? ⟨W3.heap.size + 1, 0, none⟩ = some (.int .i64 re) := fun gw => Gr.at gw.2 k5_7
    have s5_8 : ∀ gw : GW W5, gw.1.cell? ⟨W3.heap.size + 1, 1, none⟩ = some (.int .i64 lo) := fun gw => Gr.at gw.2 k5_8
    have HV16 := Lib.hid (fun gw : GW W5 => gw_same (HV1.out gw.1 (g5.trans gw.2)))
    have HP16 := Lib.hid (fun gw : GW W5 => gw_same (HP1.out gw.1 (g5.trans gw.2)))
    have HV26 := Lib.hid (fun gw : GW W5 => gw_same (HV2.out gw.1 (g5.trans gw.2)))
    have HP26 := Lib.hid (fun gw : GW W5 => gw_same (HP2.out gw.1 (g5.trans gw.2)))
    refine wp_region_gr (by kernel_rfl) (by kernel_rfl) ?_
    repeat (go_big_quiet_step ((first | (go_at_call 43; with_reducible exact HV16.out _) | (go_at_call 43; with_reducible exact HP16.out _) | (go_at_call 43; with_reducible exact HV26.out _) | (go_at_call 43; with_reducible exact HP26.out _))))
    refine wpQuiet_nil ?_
    intro w6 hb6
    clear s5_0 s5_1 s5_2 s5_3 s5_4 s5_5 s5_6 s5_7 s5_8
    have g6 : Gr w w6 := g5.trans hb6
    have k5_0 := Gr.at hb6 k5_0
    have k5_1 := Gr.at hb6 k5_1
    have k5_2 := Gr.at hb6 k5_2
    have k5_3 := Gr.at hb6 k5_3
    have k5_4 := Gr.at hb6 k5_4
    have k5_5 := Gr.at hb6 k5_5
    have k5_6 := Gr.at hb6 k5_6
    have k5_7 := Gr.at hb6 k5_7
    have k5_8 := Gr.at hb6 k5_8
    go_wp2_with fail
    (first | refine name_world ?_ | refine (show (∀ W, W = _ → Calls _ _ _ W _) → Calls _ _ _ _ _ from fun h => h _ rfl) ?_); intro W7 hW7
    have g7 : Gr w W7 := by rw [hW7]; exact gr_auto
    have k7_0 : W7.cell? ⟨w.heap.size + 3, 0, none⟩ = some (.int .i64 inn) := by rw [hW7]; first | (simp [go_sem, *]; done) | (refine Gr.at ?_ (by assumption); exact gr_auto)
    have b7_0 : w.heap.size + 3 < W7.heap.size := World.block_lt_of_cell? _ _ k7_0
    have k7_1 : W7.cell? ⟨w.heap.size + 3, 1, none⟩ = some (.int .i64 out) := by rw [hW7]; first | (simp [go_sem, *]; done) | (refine Gr.at ?_ (by assumption); exact gr_auto)
    have k7_2 : W7.cell? ⟨w.heap.size + 3, 2, none⟩ = some (.slice GA gn gc) := by rw [hW7]; first | (simp [go_sem, *]; done) | (refine Gr.at ?_ (by assumption); exact gr_auto)
    have k7_3 : W7.cell? ⟨W3.heap.size + 1, 0, none⟩ = some (.int .i64 re) := by rw [hW7]; first | (simp [go_sem, *]; done) | (refine Gr.at ?_ (by assumption); exact gr_auto)
    have b7_3 : W3.heap.size + 1 < W7.heap.size := World.block_lt_of_cell? _ _ k7_3
    have k7_4 : W7.cell? ⟨W3.heap.size + 1, 1, none⟩ = some (.int .i64 lo) := by rw [hW7]; first | (simp [go_sem, *]; done) | (refine Gr.at ?_ (by assumption); exact gr_auto)
    clear hW7
    have s7_0 : ∀ gw : GW W7, gw.1.cell? ⟨w.heap.size + 3, 0, none⟩ = some (.int .i64 inn) := fun gw => Gr.at gw.2 k7_0
    have s7_1 : ∀ gw : GW W7, gw.1.cell? ⟨w.heap.size + 3, 1, none⟩ = some (.int .i64 out) := fun gw => Gr.at gw.2 k7_1
    have s7_2 : ∀ gw : GW W7, gw.1.cell? ⟨w.heap.size + 3, 2, none⟩ = some (.slice GA gn gc) := fun gw => Gr.at gw.2 k7_2
    have s7_3 : ∀ gw : GW W7, gw.1.cell? ⟨W3.heap.size + 1, 0, none⟩ = some (.int .i64 re) := fun gw => Gr.at gw.2 k7_3
    have s7_4 : ∀ gw : GW W7, gw.1.cell? ⟨W3.heap.size + 1, 1, none⟩ = some (.int .i64 lo) := fun gw => Gr.at gw.2 k7_4
    have HS8 := Lib.hid (fun gw : GW W7 => gw_same (HS.out gw.1 (g7.trans gw.2)))
    refine wp_region_gr (by kernel_rfl) (by kernel_rfl) ?_
    repeat (go_big_quiet_step ((go_at_call 43; exact HS8.out _)))
    refine wpQuiet_nil ?_
    intro w8 hb8
    clear s7_0 s7_1 s7_2 s7_3 s7_4
    have g8 : Gr w w8 := g7.trans hb8
    have k7_0 := Gr.at hb8 k7_0
    have k7_1 := Gr.at hb8 k7_1
    have k7_2 := Gr.at hb8 k7_2
    have k7_3 := Gr.at hb8 k7_3
    have k7_4 := Gr.at hb8 k7_4
    go_wp2_with fail
    go_ret3
    exact ⟨rfl, gr_auto⟩
  · go_wp2_with fail
    (first | refine name_world ?_ | refine (show (∀ W, W = _ → Calls _ _ _ W _) → Calls _ _ _ _ _ from fun h => h _ rfl) ?_); intro W5 hW5
    have g5 : Gr w W5 := by rw [hW5]; exact gr_auto
    have k5_0 : W5.cell? ⟨w.heap.size + 3, 0, none⟩ = some (.int .i64 inn) := by rw [hW5]; first | (simp [go_sem, *]; done) | (refine Gr.at ?_ (by assumption); exact gr_auto)
    have b5_0 : w.heap.size + 3 < W5.heap.size := World.block_lt_of_cell? _ _ k5_0
    have k5_1 : W5.cell? ⟨w.heap.size + 3, 1, none⟩ = some (.int .i64 out) := by rw [hW5]; first | (simp [go_sem, *]; done) | (refine Gr.at ?_ (by assumption); exact gr_auto)
    have k5_2 : W5.cell? ⟨w.heap.size + 3, 2, none⟩ = some (.slice GA gn gc) := by rw [hW5]; first | (simp [go_sem, *]; done) | (refine Gr.at ?_ (by assumption); exact gr_auto)
    have k5_3 : W5.cell? ⟨w.heap.size + 1, 0, none⟩ = some (.slice VA1 vn1 vc1) := by rw [hW5]; first | (simp [go_sem, *]; done) | (refine Gr.at ?_ (by assumption); exact gr_auto)
    have b5_3 : w.heap.size + 1 < W5.heap.size := World.block_lt_of_cell? _ _ k5_3
    have k5_4 : W5.cell? ⟨w.heap.size + 1, 1, none⟩ = some (.slice PA1 pn1 pc1) := by rw [hW5]; first | (simp [go_sem, *]; done) | (refine Gr.at ?_ (by assumption); exact gr_auto)
    have k5_5 : W5.cell? ⟨w.heap.size + 2, 0, none⟩ = some (.slice VA2 vn2 vc2) := by rw [hW5]; first | (simp [go_sem, *]; done) | (refine Gr.at ?_ (by assumption); exact gr_auto)
    have b5_5 : w.heap.size + 2 < W5.heap.size := World.block_lt_of_cell? _ _ k5_5
    have k5_6 : W5.cell? ⟨w.heap.size + 2, 1, none⟩ = some (.slice PA2 pn2 pc2) := by rw [hW5]; first | (simp [go_sem, *]; done) | (refine Gr.at ?_ (by assumption); exact gr_auto)
    have k5_7 : W5.cell? ⟨W3.heap.size, 0, none⟩ = some (.int .i64 re) := by rw [hW5]; first | (simp [go_sem, *]; done) | (refine Gr.at ?_ (by assumption); exact gr_auto)
    have b5_7 : W3.heap.size < W5.heap.size := World.block_lt_of_cell? _ _ k5_7
    have k5_8 : W5.cell? ⟨W3.heap.size, 1, none⟩ = some (.int .i64 lo) := by rw [hW5]; first | (simp [go_sem, *]; done) | (refine Gr.at ?_ (by assumption); exact gr_auto)
    clear hW5
    have s5_0 : ∀ gw : GW W5, gw.1.cell? ⟨w.heap.size + 3, 0, none⟩ = some (.int .i64 inn) := fun gw => Gr.at gw.2 k5_0
    have s5_1 : ∀ gw : GW W5, gw.1.cell? ⟨w.heap.size + 3, 1, none⟩ = some (.int .i64 out) := fun gw => Gr.at gw.2 k5_1
    have s5_2 : ∀ gw : GW W5, gw.1.cell? ⟨w.heap.size + 3, 2, none⟩ = some (.slice GA gn gc) := fun gw => Gr.at gw.2 k5_2
    have s5_3 : ∀ gw : GW W5, gw.1.cell? ⟨w.heap.size + 1, 0, none⟩ = some (.slice VA1 vn1 vc1) := fun gw => Gr.at gw.2 k5_3
    have s5_4 : ∀ gw : GW W5, gw.1.cell? ⟨w.heap.size + 1, 1, none⟩ = some (.slice PA1 pn1 pc1) := fun gw => Gr.at gw.2 k5_4
    have s5_5 : ∀ gw : GW W5, gw.1.cell? ⟨w.heap.size + 2, 0, none⟩ = some (.slice VA2 vn2 vc2) := fun gw => Gr.at gw.2 k5_5
    have s5_6 : ∀ gw : GW W5, gw.1.cell? ⟨w.heap.size + 2, 1, none⟩ = some (.slice PA2 pn2 pc2) := fun gw => Gr.at gw.2 k5_6
    have s5_7 : ∀ gw : GW W5, gw.1.cell? ⟨W3.heap.size, 0, none⟩ = some (.int .i64 re) := fun gw => Gr.at gw.2 k5_7
    have s5_8 : ∀ gw : GW W5, gw.1.cell? ⟨W3.heap.size, 1, none⟩ = some (.int .i64 lo) := fun gw => Gr.at gw.2 k5_8
    have HV16 := Lib.hid (fun gw : GW W5 => gw_same (HV1.out gw.1 (g5.trans gw.2)))
    have HP16 := Lib.hid (fun gw : GW W5 => gw_same (HP1.out gw.1 (g5.trans gw.2)))
    have HV26 := Lib.hid (fun gw : GW W5 => gw_same (HV2.out gw.1 (g5.trans gw.2)))
    have HP26 := Lib.hid (fun gw : GW W5 => gw_same (HP2.out gw.1 (g5.trans gw.2)))
    refine wp_region_gr (by kernel_rfl) (by kernel_rfl) ?_
    repeat (go_big_quiet_step ((first | (go_at_call 43; with_reducible exact HV16.out _) | (go_at_call 43; with_reducible exact HP16.out _) | (go_at_call 43; with_reducible exact HV26.out _) | (go_at_call 43; with_reducible exact HP26.out _))))
    refine wpQuiet_nil ?_
    intro w6 hb6
    clear s5_0 s5_1 s5_2 s5_3 s5_4 s5_5 s5_6 s5_7 s5_8
    have g6 : Gr w w6 := g5.trans hb6
    have k5_0 := Gr.at hb6 k5_0
    have k5_1 := Gr.at hb6 k5_1
    have k5_2 := Gr.at hb6 k5_2
    have k5_3 := Gr.at hb6 k5_3
    have k5_4 := Gr.at hb6 k5_4
    have k5_5 := Gr.at hb6 k5_5
    have k5_6 := Gr.at hb6 k5_6
    have k5_7 := Gr.at hb6 k5_7
    have k5_8 := Gr.at hb6 k5_8
    go_wp2_with fail
    (first | refine name_world ?_ | refine (show (∀ W, W = _ → Calls _ _ _ W _) → Calls _ _ _ _ _ from fun h => h _ rfl) ?_); intro W7 hW7
    have g7 : Gr w W7 := by rw [hW7]; exact gr_auto
    have k7_0 : W7.cell? ⟨w.heap.size + 3, 0, none⟩ = some (.int .i64 inn) := by rw [hW7]; first | (simp [go_sem, *]; done) | (refine Gr.at ?_ (by assumption); exact gr_auto)
    have b7_0 : w.heap.size + 3 < W7.heap.size := World.block_lt_of_cell? _ _ k7_0
    have k7_1 : W7.cell? ⟨w.heap.size + 3, 1, none⟩ = some (.int .i64 out) := by rw [hW7]; first | (simp [go_sem, *]; done) | (refine Gr.at ?_ (by assumption); exact gr_auto)
    have k7_2 : W7.cell? ⟨w.heap.size + 3, 2, none⟩ = some (.slice GA gn gc) := by rw [hW7]; first | (simp [go_sem, *]; done) | (refine Gr.at ?_ (by assumption); exact gr_auto)
    have k7_3 : W7.cell? ⟨W3.heap.size, 0, none⟩ = some (.int .i64 re) := by rw [hW7]; first | (simp [go_sem, *]; done) | (refine Gr.at ?_ (by assumption); exact gr_auto)
    have b7_3 : W3.heap.size < W7.heap.size := World.block_lt_of_cell? _ _ k7_3
    have k7_4 : W7.cell? ⟨W3.heap.size, 1, none⟩ = some (.int .i64 lo) := by rw [hW7]; first | (simp [go_sem, *]; done) | (refine Gr.at ?_ (by assumption); exact gr_auto)
    clear hW7
    have s7_0 : ∀ gw : GW W7, gw.1.cell? ⟨w.heap.size + 3, 0, none⟩ = some (.int .i64 inn) := fun gw => Gr.at gw.2 k7_0
    have s7_1 : ∀ gw : GW W7, gw.1.cell? ⟨w.heap.size + 3, 1, none⟩ = some (.int .i64 out) := fun gw => Gr.at gw.2 k7_1
    have s7_2 : ∀ gw : GW W7, gw.1.cell? ⟨w.heap.size + 3, 2, none⟩ = some (.slice GA gn gc) := fun gw => Gr.at gw.2 k7_2
    have s7_3 : ∀ gw : GW W7, gw.1.cell? ⟨W3.heap.size, 0, none⟩ = some (.int .i64 re) := fun gw => Gr.at gw.2 k7_3
    have s7_4 : ∀ gw : GW W7, gw.1.cell? ⟨W3.heap.size, 1, none⟩ = some (.int .i64 lo) := fun gw => Gr.at gw.2 k7_4
    have HS8 := Lib.hid (fun gw : GW W7 => gw_same (HS.out gw.1 (g7.trans gw.2)))
    refine wp_region_gr (by kernel_rfl) (by kernel_rfl) ?_
    repeat (go_big_quiet_step ((go_at_call 43; exact HS8.out _)))
    refine wpQuiet_nil ?_
    intro w8 hb8
    clear s7_0 s7_1 s7_2 s7_3 s7_4
    have g8 : Gr w w8 := g7.trans hb8
    have k7_0 := Gr.at hb8 k7_0
    have k7_1 := Gr.at hb8 k7_1
    have k7_2 := Gr.at hb8 k7_2
    have k7_3 := Gr.at hb8 k7_3
    have k7_4 := Gr.at hb8 k7_4
    go_wp2_with fail
    go_ret3
    exact ⟨rfl, gr_auto⟩
set_option maxRecDepth 100000 in
set_option maxHeartbeats 4000000 in
theorem step_c (A A2 VA1 PA1 SA1 OA1 VA2 PA2 SA2 OA2 GA IA : Option Addr) (n c n2 c2 vn1 vc1 pn1 pc1 sn1 sc1 on1 oc1 vn2 vc2 pn2 pc2 sn2 sc2 on2 oc2 gn gc m ic : Nat) (inn out : Int) (w : World) (a1 p1 a2 p2 sm re lo : Int) (HG : Hid (∀ W, Gr w W → Calls Tryz.prog 40 #[.agg #[.slice A n c, .slice A2 n2 c2], .agg #[.slice VA1 vn1 vc1, .slice PA1 pn1 pc1, .slice SA1 sn1 sc1, .slice OA1 on1 oc1], .agg #[.slice VA2 vn2 vc2, .slice PA2 pn2 pc2, .slice SA2 sn2 sc2, .slice OA2 on2 oc2], .slice IA m ic, .agg #[.int .i64 inn, .int .i64 out, .slice GA gn gc]] W fun e w' => e = .returned (.int .i64 0) ∧ Gr W w')) (HV1 : Hid (∀ W, Gr w W → Calls Tryz.prog 43 #[.slice VA1 vn1 vc1] W fun e w' => e = .returned (.int .i64 a1) ∧ W = w')) (HP1 : Hid (∀ W, Gr w W → Calls Tryz.prog 43 #[.slice PA1 pn1 pc1] W fun e w' => e = .returned (.int .i64 p1) ∧ W = w')) (HV2 : Hid (∀ W, Gr w W → Calls Tryz.prog 43 #[.slice VA2 vn2 vc2] W fun e w' => e = .returned (.int .i64 a2) ∧ W = w')) (HP2 : Hid (∀ W, Gr w W → Calls Tryz.prog 43 #[.slice PA2 pn2 pc2] W fun e w' => e = .returned (.int .i64 p2) ∧ W = w')) (HS : Hid (∀ W, Gr w W → Calls Tryz.prog 43 #[.slice IA m ic] W fun e w' => e = .returned (.int .i64 sm) ∧ W = w')) (b1 : 0 ≤ a1 ∧ a1 ≤ 1125899906842624000) (b2 : 0 ≤ p1 ∧ p1 ≤ 1125899906842624000) (b3 : 0 ≤ a2 ∧ a2 ≤ 1125899906842624000) (b4 : 0 ≤ p2 ∧ p2 ≤ 1125899906842624000) (b5 : 0 ≤ inn ∧ inn ≤ 1152921504606846976) (b6 : 0 ≤ out ∧ out ≤ 1152921504606846976) (HRE : Hid (∀ X W, W.cell? ⟨X, 0, none⟩ = some (.bool true) → Calls Tryz.prog 42 #[.slice (some ⟨X, 0, none⟩) 1 1, .int .i64 (n : Int)] W (RetB n W))) (HOF : Hid (∀ (s : Ba.SlB) W, Gr w W → s.At W → s.n = n → (∀ i, s.X i = true) → Calls Tryz.prog 41 #[.agg #[.slice A n c, .slice A2 n2 c2], .slice s.A s.n s.c, .agg #[.slice VA1 vn1 vc1, .slice PA1 pn1 pc1, .slice SA1 sn1 sc1, .slice OA1 on1 oc1], .agg #[.slice VA2 vn2 vc2, .slice PA2 pn2 pc2, .slice SA2 sn2 sc2, .slice OA2 on2 oc2], .slice IA m ic, .slice GA gn gc] W fun e w' => e = .returned (.agg #[.int .i64 re, .int .i64 lo]) ∧ Gr W w')) (ts : (inn == sm) = true) (tx : (out == lo) = true) : Calls Tryz.prog 18 #[.agg #[.slice A n c, .slice A2 n2 c2], .agg #[.slice VA1 vn1 vc1, .slice PA1 pn1 pc1, .slice SA1 sn1 sc1, .slice OA1 on1 oc1], .agg #[.slice VA2 vn2 vc2, .slice PA2 pn2 pc2, .slice SA2 sn2 sc2, .slice OA2 on2 oc2], .slice IA m ic, .agg #[.int .i64 inn, .int .i64 out, .slice GA gn gc]] w fun e w' => e = .returned (.tuple #[.bool ((a1 + p1 + inn - a2 - p2 - out) == 0), .int .i64 (a1 + p1 + inn - a2 - p2 - out), .int .i64 0]) ∧ Gr w w' := by
  go_enter Tryz.func18, Tryz.ntmps18
  go_wp2_with fail
  (first | refine name_world ?_ | refine (show (∀ W, W = _ → Calls _ _ _ W _) → Calls _ _ _ _ _ from fun h => h _ rfl) ?_); intro W1 hW1
  have g1 : Gr w W1 := by rw [hW1]; exact gr_auto
  have k1_0 : W1.cell? ⟨w.heap.size, 0, none⟩ = some (.slice A n c) := by rw [hW1]; first | (simp [go_sem, *]; done) | (refine Gr.at ?_ (by assumption); exact gr_auto)
  have b1_0 : w.heap.size < W1.heap.size := World.block_lt_of_cell? _ _ k1_0
  have k1_1 : W1.cell? ⟨w.heap.size, 1, none⟩ = some (.slice A2 n2 c2) := by rw [hW1]; first | (simp [go_sem, *]; done) | (refine Gr.at ?_ (by assumption); exact gr_auto)
  have k1_2 : W1.cell? ⟨w.heap.size + 1, 0, none⟩ = some (.slice VA1 vn1 vc1) := by rw [hW1]; first | (simp [go_sem, *]; done) | (refine Gr.at ?_ (by assumption); exact gr_auto)
  have b1_2 : w.heap.size + 1 < W1.heap.size := World.block_lt_of_cell? _ _ k1_2
  have k1_3 : W1.cell? ⟨w.heap.size + 1, 1, none⟩ = some (.slice PA1 pn1 pc1) := by rw [hW1]; first | (simp [go_sem, *]; done) | (refine Gr.at ?_ (by assumption); exact gr_auto)
  have k1_4 : W1.cell? ⟨w.heap.size + 1, 2, none⟩ = some (.slice SA1 sn1 sc1) := by rw [hW1]; first | (simp [go_sem, *]; done) | (refine Gr.at ?_ (by assumption); exact gr_auto)
  have k1_5 : W1.cell? ⟨w.heap.size + 1, 3, none⟩ = some (.slice OA1 on1 oc1) := by rw [hW1]; first | (simp [go_sem, *]; done) | (refine Gr.at ?_ (by assumption); exact gr_auto)
  have k1_6 : W1.cell? ⟨w.heap.size + 2, 0, none⟩ = some (.slice VA2 vn2 vc2) := by rw [hW1]; first | (simp [go_sem, *]; done) | (refine Gr.at ?_ (by assumption); exact gr_auto)
  have b1_6 : w.heap.size + 2 < W1.heap.size := World.block_lt_of_cell? _ _ k1_6
  have k1_7 : W1.cell? ⟨w.heap.size + 2, 1, none⟩ = some (.slice PA2 pn2 pc2) := by rw [hW1]; first | (simp [go_sem, *]; done) | (refine Gr.at ?_ (by assumption); exact gr_auto)
  have k1_8 : W1.cell? ⟨w.heap.size + 2, 2, none⟩ = some (.slice SA2 sn2 sc2) := by rw [hW1]; first | (simp [go_sem, *]; done) | (refine Gr.at ?_ (by assumption); exact gr_auto)
  have k1_9 : W1.cell? ⟨w.heap.size + 2, 3, none⟩ = some (.slice OA2 on2 oc2) := by rw [hW1]; first | (simp [go_sem, *]; done) | (refine Gr.at ?_ (by assumption); exact gr_auto)
  have k1_10 : W1.cell? ⟨w.heap.size + 3, 0, none⟩ = some (.int .i64 inn) := by rw [hW1]; first | (simp [go_sem, *]; done) | (refine Gr.at ?_ (by assumption); exact gr_auto)
  have b1_10 : w.heap.size + 3 < W1.heap.size := World.block_lt_of_cell? _ _ k1_10
  have k1_11 : W1.cell? ⟨w.heap.size + 3, 1, none⟩ = some (.int .i64 out) := by rw [hW1]; first | (simp [go_sem, *]; done) | (refine Gr.at ?_ (by assumption); exact gr_auto)
  have k1_12 : W1.cell? ⟨w.heap.size + 3, 2, none⟩ = some (.slice GA gn gc) := by rw [hW1]; first | (simp [go_sem, *]; done) | (refine Gr.at ?_ (by assumption); exact gr_auto)
  clear hW1
  refine (HG.out _ g1).mono ?_
  rintro e w2 ⟨rfl, hb2⟩
  have g2 := g1.trans hb2
  have k1_0 := Gr.at (w1 := w2) gr_auto k1_0; have k1_1 := Gr.at (w1 := w2) gr_auto k1_1; have k1_2 := Gr.at (w1 := w2) gr_auto k1_2; have k1_3 := Gr.at (w1 := w2) gr_auto k1_3; have k1_4 := Gr.at (w1 := w2) gr_auto k1_4; have k1_5 := Gr.at (w1 := w2) gr_auto k1_5; have k1_6 := Gr.at (w1 := w2) gr_auto k1_6; have k1_7 := Gr.at (w1 := w2) gr_auto k1_7; have k1_8 := Gr.at (w1 := w2) gr_auto k1_8; have k1_9 := Gr.at (w1 := w2) gr_auto k1_9; have k1_10 := Gr.at (w1 := w2) gr_auto k1_10; have k1_11 := Gr.at (w1 := w2) gr_auto k1_11; have k1_12 := Gr.at (w1 := w2) gr_auto k1_12
  go_wp2_with fail
  refine name_world ?_; intro W3 hW3
  have g3 : Gr w W3 := by rw [hW3]; exact gr_auto
  have k3_0 : ∀ w', Gr W3 w' → w'.cell? ⟨w.heap.size + 3, 0, none⟩ = some (.int .i64 inn) := fun w' hgW => by first | exact (Gr.at hgW (by rw [hW3]; simp [go_sem, *]))
  have k3_1 : ∀ w', Gr W3 w' → w'.cell? ⟨w.heap.size + 3, 1, none⟩ = some (.int .i64 out) := fun w' hgW => by first | exact (Gr.at hgW (by rw [hW3]; simp [go_sem, *]))
  have k3_2 : ∀ w', Gr W3 w' → w'.cell? ⟨w.heap.size + 3, 2, none⟩ = some (.slice GA gn gc) := fun w' hgW => by first | exact (Gr.at hgW (by rw [hW3]; simp [go_sem, *]))
  have k3_3 : ∀ w', Gr W3 w' → w'.cell? ⟨w.heap.size + 1, 0, none⟩ = some (.slice VA1 vn1 vc1) := fun w' hgW => by first | exact (Gr.at hgW (by rw [hW3]; simp [go_sem, *]))
  have k3_4 : ∀ w', Gr W3 w' → w'.cell? ⟨w.heap.size + 1, 1, none⟩ = some (.slice PA1 pn1 pc1) := fun w' hgW => by first | exact (Gr.at hgW (by rw [hW3]; simp [go_sem, *]))
  have k3_5 : ∀ w', Gr W3 w' → w'.cell? ⟨w.heap.size + 1, 2, none⟩ = some (.slice SA1 sn1 sc1) := fun w' hgW => by first | exact (Gr.at hgW (by rw [hW3]; simp [go_sem, *]))
  have k3_6 : ∀ w', Gr W3 w' → w'.cell? ⟨w.heap.size + 1, 3, none⟩ = some (.slice OA1 on1 oc1) := fun w' hgW => by first | exact (Gr.at hgW (by rw [hW3]; simp [go_sem, *]))
  have k3_7 : ∀ w', Gr W3 w' → w'.cell? ⟨w.heap.size + 2, 0, none⟩ = some (.slice VA2 vn2 vc2) := fun w' hgW => by first | exact (Gr.at hgW (by rw [hW3]; simp [go_sem, *]))
  have k3_8 : ∀ w', Gr W3 w' → w'.cell? ⟨w.heap.size + 2, 1, none⟩ = some (.slice PA2 pn2 pc2) := fun w' hgW => by first | exact (Gr.at hgW (by rw [hW3]; simp [go_sem, *]))
  have k3_9 : ∀ w', Gr W3 w' → w'.cell? ⟨w.heap.size + 2, 2, none⟩ = some (.slice SA2 sn2 sc2) := fun w' hgW => by first | exact (Gr.at hgW (by rw [hW3]; simp [go_sem, *]))
  have k3_10 : ∀ w', Gr W3 w' → w'.cell? ⟨w.heap.size + 2, 3, none⟩ = some (.slice OA2 on2 oc2) := fun w' hgW => by first | exact (Gr.at hgW (by rw [hW3]; simp [go_sem, *]))
  have k3_11 : ∀ w', Gr W3 w' → w'.cell? ⟨w.heap.size, 0, none⟩ = some (.slice A n c) := fun w' hgW => by first | exact (Gr.at hgW (by rw [hW3]; simp [go_sem, *]))
  have k3_12 : ∀ w', Gr W3 w' → w'.cell? ⟨w.heap.size, 1, none⟩ = some (.slice A2 n2 c2) := fun w' hgW => by first | exact (Gr.at hgW (by rw [hW3]; simp [go_sem, *]))
  clear hW3
  have zW3 := Gr.size g3
  go_region_held3 (fun w' => Gr W3 w') (exact gr_auto) ((first | (go_at_call 42; refine (HRE.out _ _ (by simp [go_sem])).mono ?_; rintro e w8 ⟨sM, rfl, hsn, hsat, hsx, hb8⟩; have HSN := Lib.hid hsn; have HSX := Lib.hid hsx; have HSA := Lib.hid hsat; clear hsn hsx hsat; have hz8 : Gr W3 w8 := gr_auto; have z8 : W3.heap.size ≤ w8.heap.size := Gr.size hz8; clear hz8; (first | (refine own_k (B := W3.heap.size) hb8 ?_ ?_ ?_ ?_ ?_; (solve | exact World.frozen?_alloc_new _ _ _ _ | simp | simp [go_sem] | simp [go_sem]); (solve | exact World.frozen?_alloc_new _ _ _ _ | simp | simp [go_sem] | simp [go_sem]); (solve | exact World.frozen?_alloc_new _ _ _ _ | simp | simp [go_sem] | simp [go_sem]); (solve | exact World.frozen?_alloc_new _ _ _ _ | simp | simp [go_sem] | simp [go_sem]); intro q1c q1f q1d q1g) | skip); (first | (refine own_k (B := W3.heap.size + 1) hb8 ?_ ?_ ?_ ?_ ?_; (solve | exact World.frozen?_alloc_new _ _ _ _ | simp | simp [go_sem] | simp [go_sem]); (solve | exact World.frozen?_alloc_new _ _ _ _ | simp | simp [go_sem] | simp [go_sem]); (solve | exact World.frozen?_alloc_new _ _ _ _ | simp | simp [go_sem] | simp [go_sem]); (solve | exact World.frozen?_alloc_new _ _ _ _ | simp | simp [go_sem] | simp [go_sem]); intro q2c q2f q2d q2g) | skip)) | (go_at_call 41; refine (HOF.out sM _ gr_auto (Ba.SlB.At.gr HSA.out gr_auto) HSN.out HSX.out).mono ?_; rintro e w9 ⟨rfl, hb9⟩; (first | (refine own_k (B := W3.heap.size) hb9 ?_ ?_ ?_ ?_ ?_; (solve | exact World.frozen?_alloc_new _ _ _ _ | simp | simp [go_sem] | simp [go_sem, *]); (solve | exact World.frozen?_alloc_new _ _ _ _ | simp | simp [go_sem] | simp [go_sem, *]); (solve | exact World.frozen?_alloc_new _ _ _ _ | simp | simp [go_sem] | simp [go_sem, *]); (solve | exact World.frozen?_alloc_new _ _ _ _ | simp | simp [go_sem] | simp [go_sem, *]); intro q3c q3f q3d q3g) | skip); (first | (refine own_k (B := W3.heap.size + 1) hb9 ?_ ?_ ?_ ?_ ?_; (solve | exact World.frozen?_alloc_new _ _ _ _ | simp | simp [go_sem] | simp [go_sem, *]); (solve | exact World.frozen?_alloc_new _ _ _ _ | simp | simp [go_sem] | simp [go_sem, *]); (solve | exact World.frozen?_alloc_new _ _ _ _ | simp | simp [go_sem] | simp [go_sem, *]); (solve | exact World.frozen?_alloc_new _ _ _ _ | simp | simp [go_sem] | simp [go_sem, *]); intro q4c q4f q4d q4g) | skip); (first | (refine own_k (B := w8.heap.size) hb9 ?_ ?_ ?_ ?_ ?_; (solve | exact World.frozen?_alloc_new _ _ _ _ | simp | simp [go_sem] | simp [go_sem, *]); (solve | exact World.frozen?_alloc_new _ _ _ _ | simp | simp [go_sem] | simp [go_sem, *]); (solve | exact World.frozen?_alloc_new _ _ _ _ | simp | simp [go_sem] | simp [go_sem, *]); (solve | exact World.frozen?_alloc_new _ _ _ _ | simp | simp [go_sem] | simp [go_sem, *]); intro q5c q5f q5d q5g) | skip))))
  have z3 := Gr.size g2
  · go_wp2_with fail
    (first | refine name_world ?_ | refine (show (∀ W, W = _ → Calls _ _ _ W _) → Calls _ _ _ _ _ from fun h => h _ rfl) ?_); intro W5 hW5
    have g5 : Gr w W5 := by rw [hW5]; exact gr_auto
    have k5_0 : W5.cell? ⟨w.heap.size + 3, 0, none⟩ = some (.int .i64 inn) := by rw [hW5]; first | (simp [go_sem, *]; done) | (refine Gr.at ?_ (by assumption); exact gr_auto)
    have b5_0 : w.heap.size + 3 < W5.heap.size := World.block_lt_of_cell? _ _ k5_0
    have k5_1 : W5.cell? ⟨w.heap.size + 3, 1, none⟩ = some (.int .i64 out) := by rw [hW5]; first | (simp [go_sem, *]; done) | (refine Gr.at ?_ (by assumption); exact gr_auto)
    have k5_2 : W5.cell? ⟨w.heap.size + 3, 2, none⟩ = some (.slice GA gn gc) := by rw [hW5]; first | (simp [go_sem, *]; done) | (refine Gr.at ?_ (by assumption); exact gr_auto)
    have k5_3 : W5.cell? ⟨w.heap.size + 1, 0, none⟩ = some (.slice VA1 vn1 vc1) := by rw [hW5]; first | (simp [go_sem, *]; done) | (refine Gr.at ?_ (by assumption); exact gr_auto)
    have b5_3 : w.heap.size + 1 < W5.heap.size := World.block_lt_of_cell? _ _ k5_3
    have k5_4 : W5.cell? ⟨w.heap.size + 1, 1, none⟩ = some (.slice PA1 pn1 pc1) := by rw [hW5]; first | (simp [go_sem, *]; done) | (refine Gr.at ?_ (by assumption); exact gr_auto)
    have k5_5 : W5.cell? ⟨w.heap.size + 2, 0, none⟩ = some (.slice VA2 vn2 vc2) := by rw [hW5]; first | (simp [go_sem, *]; done) | (refine Gr.at ?_ (by assumption); exact gr_auto)
    have b5_5 : w.heap.size + 2 < W5.heap.size := World.block_lt_of_cell? _ _ k5_5
    have k5_6 : W5.cell? ⟨w.heap.size + 2, 1, none⟩ = some (.slice PA2 pn2 pc2) := by rw [hW5]; first | (simp [go_sem, *]; done) | (refine Gr.at ?_ (by assumption); exact gr_auto)
    have k5_7 : W5.cell? ⟨w9.heap.size, 0, none⟩ = some (.int .i64 re) := by rw [hW5]; first | (simp [go_sem, *]; done) | (refine Gr.at ?_ (by assumption); exact gr_auto)
    have b5_7 : w9.heap.size < W5.heap.size := World.block_lt_of_cell? _ _ k5_7
    have k5_8 : W5.cell? ⟨w9.heap.size, 1, none⟩ = some (.int .i64 lo) := by rw [hW5]; first | (simp [go_sem, *]; done) | (refine Gr.at ?_ (by assumption); exact gr_auto)
    clear hW5
    have s5_0 : ∀ gw : GW W5, gw.1.cell? ⟨w.heap.size + 3, 0, none⟩ = some (.int .i64 inn) := fun gw => Gr.at gw.2 k5_0
    have s5_1 : ∀ gw : GW W5, gw.1.cell? ⟨w.heap.size + 3, 1, none⟩ = some (.int .i64 out) := fun gw => Gr.at gw.2 k5_1
    have s5_2 : ∀ gw : GW W5, gw.1.cell? ⟨w.heap.size + 3, 2, none⟩ = some (.slice GA gn gc) := fun gw => Gr.at gw.2 k5_2
    have s5_3 : ∀ gw : GW W5, gw.1.cell? ⟨w.heap.size + 1, 0, none⟩ = some (.slice VA1 vn1 vc1) := fun gw => Gr.at gw.2 k5_3
    have s5_4 : ∀ gw : GW W5, gw.1.cell? ⟨w.heap.size + 1, 1, none⟩ = some (.slice PA1 pn1 pc1) := fun gw => Gr.at gw.2 k5_4
    have s5_5 : ∀ gw : GW W5, gw.1.cell? ⟨w.heap.size + 2, 0, none⟩ = some (.slice VA2 vn2 vc2) := fun gw => Gr.at gw.2 k5_5
    have s5_6 : ∀ gw : GW W5, gw.1.cell? ⟨w.heap.size + 2, 1, none⟩ = some (.slice PA2 pn2 pc2) := fun gw => Gr.at gw.2 k5_6
    have s5_7 : ∀ gw : GW W5, gw.1.cell? ⟨w9.heap.size, 0, none⟩ = some (.int .i64 re) := fun gw => Gr.at gw.2 k5_7
    have s5_8 : ∀ gw : GW W5, gw.1.cell? ⟨w9.heap.size, 1, none⟩ = some (.int .i64 lo) := fun gw => Gr.at gw.2 k5_8
    have HV16 := Lib.hid (fun gw : GW W5 => gw_same (HV1.out gw.1 (g5.trans gw.2)))
    have HP16 := Lib.hid (fun gw : GW W5 => gw_same (HP1.out gw.1 (g5.trans gw.2)))
    have HV26 := Lib.hid (fun gw : GW W5 => gw_same (HV2.out gw.1 (g5.trans gw.2)))
    have HP26 := Lib.hid (fun gw : GW W5 => gw_same (HP2.out gw.1 (g5.trans gw.2)))
    refine wp_region_gr (by kernel_rfl) (by kernel_rfl) ?_
    repeat (go_big_quiet_step ((first | (go_at_call 43; with_reducible exact HV16.out _) | (go_at_call 43; with_reducible exact HP16.out _) | (go_at_call 43; with_reducible exact HV26.out _) | (go_at_call 43; with_reducible exact HP26.out _))))
    refine wpQuiet_nil ?_
    intro w6 hb6
    clear s5_0 s5_1 s5_2 s5_3 s5_4 s5_5 s5_6 s5_7 s5_8
    have g6 : Gr w w6 := g5.trans hb6
    have k5_0 := Gr.at hb6 k5_0
    have k5_1 := Gr.at hb6 k5_1
    have k5_2 := Gr.at hb6 k5_2
    have k5_3 := Gr.at hb6 k5_3
    have k5_4 := Gr.at hb6 k5_4
    have k5_5 := Gr.at hb6 k5_5
    have k5_6 := Gr.at hb6 k5_6
    have k5_7 := Gr.at hb6 k5_7
    have k5_8 := Gr.at hb6 k5_8
    go_wp2_with fail
    (first | refine name_world ?_ | refine (show (∀ W, W = _ → Calls _ _ _ W _) → Calls _ _ _ _ _ from fun h => h _ rfl) ?_); intro W7 hW7
    have g7 : Gr w W7 := by rw [hW7]; exact gr_auto
    have k7_0 : W7.cell? ⟨w.heap.size + 3, 0, none⟩ = some (.int .i64 inn) := by rw [hW7]; first | (simp [go_sem, *]; done) | (refine Gr.at ?_ (by assumption); exact gr_auto)
    have b7_0 : w.heap.size + 3 < W7.heap.size := World.block_lt_of_cell? _ _ k7_0
    have k7_1 : W7.cell? ⟨w.heap.size + 3, 1, none⟩ = some (.int .i64 out) := by rw [hW7]; first | (simp [go_sem, *]; done) | (refine Gr.at ?_ (by assumption); exact gr_auto)
    have k7_2 : W7.cell? ⟨w.heap.size + 3, 2, none⟩ = some (.slice GA gn gc) := by rw [hW7]; first | (simp [go_sem, *]; done) | (refine Gr.at ?_ (by assumption); exact gr_auto)
    have k7_3 : W7.cell? ⟨w9.heap.size, 0, none⟩ = some (.int .i64 re) := by rw [hW7]; first | (simp [go_sem, *]; done) | (refine Gr.at ?_ (by assumption); exact gr_auto)
    have b7_3 : w9.heap.size < W7.heap.size := World.block_lt_of_cell? _ _ k7_3
    have k7_4 : W7.cell? ⟨w9.heap.size, 1, none⟩ = some (.int .i64 lo) := by rw [hW7]; first | (simp [go_sem, *]; done) | (refine Gr.at ?_ (by assumption); exact gr_auto)
    clear hW7
    have s7_0 : ∀ gw : GW W7, gw.1.cell? ⟨w.heap.size + 3, 0, none⟩ = some (.int .i64 inn) := fun gw => Gr.at gw.2 k7_0
    have s7_1 : ∀ gw : GW W7, gw.1.cell? ⟨w.heap.size + 3, 1, none⟩ = some (.int .i64 out) := fun gw => Gr.at gw.2 k7_1
    have s7_2 : ∀ gw : GW W7, gw.1.cell? ⟨w.heap.size + 3, 2, none⟩ = some (.slice GA gn gc) := fun gw => Gr.at gw.2 k7_2
    have s7_3 : ∀ gw : GW W7, gw.1.cell? ⟨w9.heap.size, 0, none⟩ = some (.int .i64 re) := fun gw => Gr.at gw.2 k7_3
    have s7_4 : ∀ gw : GW W7, gw.1.cell? ⟨w9.heap.size, 1, none⟩ = some (.int .i64 lo) := fun gw => Gr.at gw.2 k7_4
    have HS8 := Lib.hid (fun gw : GW W7 => gw_same (HS.out gw.1 (g7.trans gw.2)))
    refine wp_region_gr (by kernel_rfl) (by kernel_rfl) ?_
    repeat (go_big_quiet_step ((go_at_call 43; exact HS8.out _)))
    refine wpQuiet_nil ?_
    intro w8 hb8
    clear s7_0 s7_1 s7_2 s7_3 s7_4
    have g8 : Gr w w8 := g7.trans hb8
    have k7_0 := Gr.at hb8 k7_0
    have k7_1 := Gr.at hb8 k7_1
    have k7_2 := Gr.at hb8 k7_2
    have k7_3 := Gr.at hb8 k7_3
    have k7_4 := Gr.at hb8 k7_4
    go_wp2_with fail
    go_ret3
    exact ⟨rfl, gr_auto⟩
  · go_wp2_with fail
    (first | refine name_world ?_ | refine (show (∀ W, W = _ → Calls _ _ _ W _) → Calls _ _ _ _ _ from fun h => h _ rfl) ?_); intro W5 hW5
    have g5 : Gr w W5 := by rw [hW5]; exact gr_auto
    have k5_0 : W5.cell? ⟨w.heap.size + 3, 0, none⟩ = some (.int .i64 inn) := by rw [hW5]; first | (simp [go_sem, *]; done) | (refine Gr.at ?_ (by assumption); exact gr_auto)
    have b5_0 : w.heap.size + 3 < W5.heap.size := World.block_lt_of_cell? _ _ k5_0
    have k5_1 : W5.cell? ⟨w.heap.size + 3, 1, none⟩ = some (.int .i64 out) := by rw [hW5]; first | (simp [go_sem, *]; done) | (refine Gr.at ?_ (by assumption); exact gr_auto)
    have k5_2 : W5.cell? ⟨w.heap.size + 3, 2, none⟩ = some (.slice GA gn gc) := by rw [hW5]; first | (simp [go_sem, *]; done) | (refine Gr.at ?_ (by assumption); exact gr_auto)
    have k5_3 : W5.cell? ⟨w.heap.size + 1, 0, none⟩ = some (.slice VA1 vn1 vc1) := by rw [hW5]; first | (simp [go_sem, *]; done) | (refine Gr.at ?_ (by assumption); exact gr_auto)
    have b5_3 : w.heap.size + 1 < W5.heap.size := World.block_lt_of_cell? _ _ k5_3
    have k5_4 : W5.cell? ⟨w.heap.size + 1, 1, none⟩ = some (.slice PA1 pn1 pc1) := by rw [hW5]; first | (simp [go_sem, *]; done) | (refine Gr.at ?_ (by assumption); exact gr_auto)
    have k5_5 : W5.cell? ⟨w.heap.size + 2, 0, none⟩ = some (.slice VA2 vn2 vc2) := by rw [hW5]; first | (simp [go_sem, *]; done) | (refine Gr.at ?_ (by assumption); exact gr_auto)
    have b5_5 : w.heap.size + 2 < W5.heap.size := World.block_lt_of_cell? _ _ k5_5
    have k5_6 : W5.cell? ⟨w.heap.size + 2, 1, none⟩ = some (.slice PA2 pn2 pc2) := by rw [hW5]; first | (simp [go_sem, *]; done) | (refine Gr.at ?_ (by assumption); exact gr_auto)
    have k5_7 : W5.cell? ⟨w8.heap.size, 0, none⟩ = some (.int .i64 re) := by rw [hW5]; first | (simp [go_sem, *]; done) | (refine Gr.at ?_ (by assumption); exact gr_auto)
    have b5_7 : w8.heap.size < W5.heap.size := World.block_lt_of_cell? _ _ k5_7
    have k5_8 : W5.cell? ⟨w8.heap.size, 1, none⟩ = some (.int .i64 lo) := by rw [hW5]; first | (simp [go_sem, *]; done) | (refine Gr.at ?_ (by assumption); exact gr_auto)
    clear hW5
    have s5_0 : ∀ gw : GW W5, gw.1.cell? ⟨w.heap.size + 3, 0, none⟩ = some (.int .i64 inn) := fun gw => Gr.at gw.2 k5_0
    have s5_1 : ∀ gw : GW W5, gw.1.cell? ⟨w.heap.size + 3, 1, none⟩ = some (.int .i64 out) := fun gw => Gr.at gw.2 k5_1
    have s5_2 : ∀ gw : GW W5, gw.1.cell? ⟨w.heap.size + 3, 2, none⟩ = some (.slice GA gn gc) := fun gw => Gr.at gw.2 k5_2
    have s5_3 : ∀ gw : GW W5, gw.1.cell? ⟨w.heap.size + 1, 0, none⟩ = some (.slice VA1 vn1 vc1) := fun gw => Gr.at gw.2 k5_3
    have s5_4 : ∀ gw : GW W5, gw.1.cell? ⟨w.heap.size + 1, 1, none⟩ = some (.slice PA1 pn1 pc1) := fun gw => Gr.at gw.2 k5_4
    have s5_5 : ∀ gw : GW W5, gw.1.cell? ⟨w.heap.size + 2, 0, none⟩ = some (.slice VA2 vn2 vc2) := fun gw => Gr.at gw.2 k5_5
    have s5_6 : ∀ gw : GW W5, gw.1.cell? ⟨w.heap.size + 2, 1, none⟩ = some (.slice PA2 pn2 pc2) := fun gw => Gr.at gw.2 k5_6
    have s5_7 : ∀ gw : GW W5, gw.1.cell? ⟨w8.heap.size, 0, none⟩ = some (.int .i64 re) := fun gw => Gr.at gw.2 k5_7
    have s5_8 : ∀ gw : GW W5, gw.1.cell? ⟨w8.heap.size, 1, none⟩ = some (.int .i64 lo) := fun gw => Gr.at gw.2 k5_8
    have HV16 := Lib.hid (fun gw : GW W5 => gw_same (HV1.out gw.1 (g5.trans gw.2)))
    have HP16 := Lib.hid (fun gw : GW W5 => gw_same (HP1.out gw.1 (g5.trans gw.2)))
    have HV26 := Lib.hid (fun gw : GW W5 => gw_same (HV2.out gw.1 (g5.trans gw.2)))
    have HP26 := Lib.hid (fun gw : GW W5 => gw_same (HP2.out gw.1 (g5.trans gw.2)))
    refine wp_region_gr (by kernel_rfl) (by kernel_rfl) ?_
    repeat (go_big_quiet_step ((first | (go_at_call 43; with_reducible exact HV16.out _) | (go_at_call 43; with_reducible exact HP16.out _) | (go_at_call 43; with_reducible exact HV26.out _) | (go_at_call 43; with_reducible exact HP26.out _))))
    refine wpQuiet_nil ?_
    intro w6 hb6
    clear s5_0 s5_1 s5_2 s5_3 s5_4 s5_5 s5_6 s5_7 s5_8
    have g6 : Gr w w6 := g5.trans hb6
    have k5_0 := Gr.at hb6 k5_0
    have k5_1 := Gr.at hb6 k5_1
    have k5_2 := Gr.at hb6 k5_2
    have k5_3 := Gr.at hb6 k5_3
    have k5_4 := Gr.at hb6 k5_4
    have k5_5 := Gr.at hb6 k5_5
    have k5_6 := Gr.at hb6 k5_6
    have k5_7 := Gr.at hb6 k5_7
    have k5_8 := Gr.at hb6 k5_8
    go_wp2_with fail
    (first | refine name_world ?_ | refine (show (∀ W, W = _ → Calls _ _ _ W _) → Calls _ _ _ _ _ from fun h => h _ rfl) ?_); intro W7 hW7
    have g7 : Gr w W7 := by rw [hW7]; exact gr_auto
    have k7_0 : W7.cell? ⟨w.heap.size + 3, 0, none⟩ = some (.int .i64 inn) := by rw [hW7]; first | (simp [go_sem, *]; done) | (refine Gr.at ?_ (by assumption); exact gr_auto)
    have b7_0 : w.heap.size + 3 < W7.heap.size := World.block_lt_of_cell? _ _ k7_0
    have k7_1 : W7.cell? ⟨w.heap.size + 3, 1, none⟩ = some (.int .i64 out) := by rw [hW7]; first | (simp [go_sem, *]; done) | (refine Gr.at ?_ (by assumption); exact gr_auto)
    have k7_2 : W7.cell? ⟨w.heap.size + 3, 2, none⟩ = some (.slice GA gn gc) := by rw [hW7]; first | (simp [go_sem, *]; done) | (refine Gr.at ?_ (by assumption); exact gr_auto)
    have k7_3 : W7.cell? ⟨w8.heap.size, 0, none⟩ = some (.int .i64 re) := by rw [hW7]; first | (simp [go_sem, *]; done) | (refine Gr.at ?_ (by assumption); exact gr_auto)
    have b7_3 : w8.heap.size < W7.heap.size := World.block_lt_of_cell? _ _ k7_3
    have k7_4 : W7.cell? ⟨w8.heap.size, 1, none⟩ = some (.int .i64 lo) := by rw [hW7]; first | (simp [go_sem, *]; done) | (refine Gr.at ?_ (by assumption); exact gr_auto)
    clear hW7
    have s7_0 : ∀ gw : GW W7, gw.1.cell? ⟨w.heap.size + 3, 0, none⟩ = some (.int .i64 inn) := fun gw => Gr.at gw.2 k7_0
    have s7_1 : ∀ gw : GW W7, gw.1.cell? ⟨w.heap.size + 3, 1, none⟩ = some (.int .i64 out) := fun gw => Gr.at gw.2 k7_1
    have s7_2 : ∀ gw : GW W7, gw.1.cell? ⟨w.heap.size + 3, 2, none⟩ = some (.slice GA gn gc) := fun gw => Gr.at gw.2 k7_2
    have s7_3 : ∀ gw : GW W7, gw.1.cell? ⟨w8.heap.size, 0, none⟩ = some (.int .i64 re) := fun gw => Gr.at gw.2 k7_3
    have s7_4 : ∀ gw : GW W7, gw.1.cell? ⟨w8.heap.size, 1, none⟩ = some (.int .i64 lo) := fun gw => Gr.at gw.2 k7_4
    have HS8 := Lib.hid (fun gw : GW W7 => gw_same (HS.out gw.1 (g7.trans gw.2)))
    refine wp_region_gr (by kernel_rfl) (by kernel_rfl) ?_
    repeat (go_big_quiet_step ((go_at_call 43; exact HS8.out _)))
    refine wpQuiet_nil ?_
    intro w8 hb8
    clear s7_0 s7_1 s7_2 s7_3 s7_4
    have g8 : Gr w w8 := g7.trans hb8
    have k7_0 := Gr.at hb8 k7_0
    have k7_1 := Gr.at hb8 k7_1
    have k7_2 := Gr.at hb8 k7_2
    have k7_3 := Gr.at hb8 k7_3
    have k7_4 := Gr.at hb8 k7_4
    go_wp2_with fail
    go_ret3
    exact ⟨rfl, gr_auto⟩
  · go_wp2_with fail
    (first | refine name_world ?_ | refine (show (∀ W, W = _ → Calls _ _ _ W _) → Calls _ _ _ _ _ from fun h => h _ rfl) ?_); intro W5 hW5
    have g5 : Gr w W5 := by rw [hW5]; exact gr_auto
    have k5_0 : W5.cell? ⟨w.heap.size + 3, 0, none⟩ = some (.int .i64 inn) := by rw [hW5]; first | (simp [go_sem, *]; done) | (refine Gr.at ?_ (by assumption); exact gr_auto)
    have b5_0 : w.heap.size + 3 < W5.heap.size := World.block_lt_of_cell? _ _ k5_0
    have k5_1 : W5.cell? ⟨w.heap.size + 3, 1, none⟩ = some (.int .i64 out) := by rw [hW5]; first | (simp [go_sem, *]; done) | (refine Gr.at ?_ (by assumption); exact gr_auto)
    have k5_2 : W5.cell? ⟨w.heap.size + 3, 2, none⟩ = some (.slice GA gn gc) := by rw [hW5]; first | (simp [go_sem, *]; done) | (refine Gr.at ?_ (by assumption); exact gr_auto)
    have k5_3 : W5.cell? ⟨w.heap.size + 1, 0, none⟩ = some (.slice VA1 vn1 vc1) := by rw [hW5]; first | (simp [go_sem, *]; done) | (refine Gr.at ?_ (by assumption); exact gr_auto)
    have b5_3 : w.heap.size + 1 < W5.heap.size := World.block_lt_of_cell? _ _ k5_3
    have k5_4 : W5.cell? ⟨w.heap.size + 1, 1, none⟩ = some (.slice PA1 pn1 pc1) := by rw [hW5]; first | (simp [go_sem, *]; done) | (refine Gr.at ?_ (by assumption); exact gr_auto)
    have k5_5 : W5.cell? ⟨w.heap.size + 2, 0, none⟩ = some (.slice VA2 vn2 vc2) := by rw [hW5]; first | (simp [go_sem, *]; done) | (refine Gr.at ?_ (by assumption); exact gr_auto)
    have b5_5 : w.heap.size + 2 < W5.heap.size := World.block_lt_of_cell? _ _ k5_5
    have k5_6 : W5.cell? ⟨w.heap.size + 2, 1, none⟩ = some (.slice PA2 pn2 pc2) := by rw [hW5]; first | (simp [go_sem, *]; done) | (refine Gr.at ?_ (by assumption); exact gr_auto)
    have k5_7 : W5.cell? ⟨W3.heap.size + 1, 0, none⟩ = some (.int .i64 re) := by rw [hW5]; first | (simp [go_sem, *]; done) | (refine Gr.at ?_ (by assumption); exact gr_auto)
    have b5_7 : W3.heap.size + 1 < W5.heap.size := World.block_lt_of_cell? _ _ k5_7
    have k5_8 : W5.cell? ⟨W3.heap.size + 1, 1, none⟩ = some (.int .i64 lo) := by rw [hW5]; first | (simp [go_sem, *]; done) | (refine Gr.at ?_ (by assumption); exact gr_auto)
    clear hW5
    have s5_0 : ∀ gw : GW W5, gw.1.cell? ⟨w.heap.size + 3, 0, none⟩ = some (.int .i64 inn) := fun gw => Gr.at gw.2 k5_0
    have s5_1 : ∀ gw : GW W5, gw.1.cell? ⟨w.heap.size + 3, 1, none⟩ = some (.int .i64 out) := fun gw => Gr.at gw.2 k5_1
    have s5_2 : ∀ gw : GW W5, gw.1.cell? ⟨w.heap.size + 3, 2, none⟩ = some (.slice GA gn gc) := fun gw => Gr.at gw.2 k5_2
    have s5_3 : ∀ gw : GW W5, gw.1.cell? ⟨w.heap.size + 1, 0, none⟩ = some (.slice VA1 vn1 vc1) := fun gw => Gr.at gw.2 k5_3
    have s5_4 : ∀ gw : GW W5, gw.1.cell? ⟨w.heap.size + 1, 1, none⟩ = some (.slice PA1 pn1 pc1) := fun gw => Gr.at gw.2 k5_4
    have s5_5 : ∀ gw : GW W5, gw.1.cell? ⟨w.heap.size + 2, 0, none⟩ = some (.slice VA2 vn2 vc2) := fun gw => Gr.at gw.2 k5_5
    have s5_6 : ∀ gw : GW W5, gw.1.cell? ⟨w.heap.size + 2, 1, none⟩ = some (.slice PA2 pn2 pc2) := fun gw => Gr.at gw.2 k5_6
    have s5_7 : ∀ gw : GW W5, gw.1.cell? ⟨W3.heap.size + 1, 0, none⟩ = some (.int .i64 re) := fun gw => Gr.at gw.2 k5_7
    have s5_8 : ∀ gw : GW W5, gw.1.cell? ⟨W3.heap.size + 1, 1, none⟩ = some (.int .i64 lo) := fun gw => Gr.at gw.2 k5_8
    have HV16 := Lib.hid (fun gw : GW W5 => gw_same (HV1.out gw.1 (g5.trans gw.2)))
    have HP16 := Lib.hid (fun gw : GW W5 => gw_same (HP1.out gw.1 (g5.trans gw.2)))
    have HV26 := Lib.hid (fun gw : GW W5 => gw_same (HV2.out gw.1 (g5.trans gw.2)))
    have HP26 := Lib.hid (fun gw : GW W5 => gw_same (HP2.out gw.1 (g5.trans gw.2)))
    refine wp_region_gr (by kernel_rfl) (by kernel_rfl) ?_
    repeat (go_big_quiet_step ((first | (go_at_call 43; with_reducible exact HV16.out _) | (go_at_call 43; with_reducible exact HP16.out _) | (go_at_call 43; with_reducible exact HV26.out _) | (go_at_call 43; with_reducible exact HP26.out _))))
    refine wpQuiet_nil ?_
    intro w6 hb6
    clear s5_0 s5_1 s5_2 s5_3 s5_4 s5_5 s5_6 s5_7 s5_8
    have g6 : Gr w w6 := g5.trans hb6
    have k5_0 := Gr.at hb6 k5_0
    have k5_1 := Gr.at hb6 k5_1
    have k5_2 := Gr.at hb6 k5_2
    have k5_3 := Gr.at hb6 k5_3
    have k5_4 := Gr.at hb6 k5_4
    have k5_5 := Gr.at hb6 k5_5
    have k5_6 := Gr.at hb6 k5_6
    have k5_7 := Gr.at hb6 k5_7
    have k5_8 := Gr.at hb6 k5_8
    go_wp2_with fail
    (first | refine name_world ?_ | refine (show (∀ W, W = _ → Calls _ _ _ W _) → Calls _ _ _ _ _ from fun h => h _ rfl) ?_); intro W7 hW7
    have g7 : Gr w W7 := by rw [hW7]; exact gr_auto
    have k7_0 : W7.cell? ⟨w.heap.size + 3, 0, none⟩ = some (.int .i64 inn) := by rw [hW7]; first | (simp [go_sem, *]; done) | (refine Gr.at ?_ (by assumption); exact gr_auto)
    have b7_0 : w.heap.size + 3 < W7.heap.size := World.block_lt_of_cell? _ _ k7_0
    have k7_1 : W7.cell? ⟨w.heap.size + 3, 1, none⟩ = some (.int .i64 out) := by rw [hW7]; first | (simp [go_sem, *]; done) | (refine Gr.at ?_ (by assumption); exact gr_auto)
    have k7_2 : W7.cell? ⟨w.heap.size + 3, 2, none⟩ = some (.slice GA gn gc) := by rw [hW7]; first | (simp [go_sem, *]; done) | (refine Gr.at ?_ (by assumption); exact gr_auto)
    have k7_3 : W7.cell? ⟨W3.heap.size + 1, 0, none⟩ = some (.int .i64 re) := by rw [hW7]; first | (simp [go_sem, *]; done) | (refine Gr.at ?_ (by assumption); exact gr_auto)
    have b7_3 : W3.heap.size + 1 < W7.heap.size := World.block_lt_of_cell? _ _ k7_3
    have k7_4 : W7.cell? ⟨W3.heap.size + 1, 1, none⟩ = some (.int .i64 lo) := by rw [hW7]; first | (simp [go_sem, *]; done) | (refine Gr.at ?_ (by assumption); exact gr_auto)
    clear hW7
    have s7_0 : ∀ gw : GW W7, gw.1.cell? ⟨w.heap.size + 3, 0, none⟩ = some (.int .i64 inn) := fun gw => Gr.at gw.2 k7_0
    have s7_1 : ∀ gw : GW W7, gw.1.cell? ⟨w.heap.size + 3, 1, none⟩ = some (.int .i64 out) := fun gw => Gr.at gw.2 k7_1
    have s7_2 : ∀ gw : GW W7, gw.1.cell? ⟨w.heap.size + 3, 2, none⟩ = some (.slice GA gn gc) := fun gw => Gr.at gw.2 k7_2
    have s7_3 : ∀ gw : GW W7, gw.1.cell? ⟨W3.heap.size + 1, 0, none⟩ = some (.int .i64 re) := fun gw => Gr.at gw.2 k7_3
    have s7_4 : ∀ gw : GW W7, gw.1.cell? ⟨W3.heap.size + 1, 1, none⟩ = some (.int .i64 lo) := fun gw => Gr.at gw.2 k7_4
    have HS8 := Lib.hid (fun gw : GW W7 => gw_same (HS.out gw.1 (g7.trans gw.2)))
    refine wp_region_gr (by kernel_rfl) (by kernel_rfl) ?_
    repeat (go_big_quiet_step ((go_at_call 43; exact HS8.out _)))
    refine wpQuiet_nil ?_
    intro w8 hb8
    clear s7_0 s7_1 s7_2 s7_3 s7_4
    have g8 : Gr w w8 := g7.trans hb8
    have k7_0 := Gr.at hb8 k7_0
    have k7_1 := Gr.at hb8 k7_1
    have k7_2 := Gr.at hb8 k7_2
    have k7_3 := Gr.at hb8 k7_3
    have k7_4 := Gr.at hb8 k7_4
    go_wp2_with fail
    go_ret3
    exact ⟨rfl, gr_auto⟩
  · go_wp2_with fail
    (first | refine name_world ?_ | refine (show (∀ W, W = _ → Calls _ _ _ W _) → Calls _ _ _ _ _ from fun h => h _ rfl) ?_); intro W5 hW5
    have g5 : Gr w W5 := by rw [hW5]; exact gr_auto
    have k5_0 : W5.cell? ⟨w.heap.size + 3, 0, none⟩ = some (.int .i64 inn) := by rw [hW5]; first | (simp [go_sem, *]; done) | (refine Gr.at ?_ (by assumption); exact gr_auto)
    have b5_0 : w.heap.size + 3 < W5.heap.size := World.block_lt_of_cell? _ _ k5_0
    have k5_1 : W5.cell? ⟨w.heap.size + 3, 1, none⟩ = some (.int .i64 out) := by rw [hW5]; first | (simp [go_sem, *]; done) | (refine Gr.at ?_ (by assumption); exact gr_auto)
    have k5_2 : W5.cell? ⟨w.heap.size + 3, 2, none⟩ = some (.slice GA gn gc) := by rw [hW5]; first | (simp [go_sem, *]; done) | (refine Gr.at ?_ (by assumption); exact gr_auto)
    have k5_3 : W5.cell? ⟨w.heap.size + 1, 0, none⟩ = some (.slice VA1 vn1 vc1) := by rw [hW5]; first | (simp [go_sem, *]; done) | (refine Gr.at ?_ (by assumption); exact gr_auto)
    have b5_3 : w.heap.size + 1 < W5.heap.size := World.block_lt_of_cell? _ _ k5_3
    have k5_4 : W5.cell? ⟨w.heap.size + 1, 1, none⟩ = some (.slice PA1 pn1 pc1) := by rw [hW5]; first | (simp [go_sem, *]; done) | (refine Gr.at ?_ (by assumption); exact gr_auto)
    have k5_5 : W5.cell? ⟨w.heap.size + 2, 0, none⟩ = some (.slice VA2 vn2 vc2) := by rw [hW5]; first | (simp [go_sem, *]; done) | (refine Gr.at ?_ (by assumption); exact gr_auto)
    have b5_5 : w.heap.size + 2 < W5.heap.size := World.block_lt_of_cell? _ _ k5_5
    have k5_6 : W5.cell? ⟨w.heap.size + 2, 1, none⟩ = some (.slice PA2 pn2 pc2) := by rw [hW5]; first | (simp [go_sem, *]; done) | (refine Gr.at ?_ (by assumption); exact gr_auto)
    have k5_7 : W5.cell? ⟨W3.heap.size, 0, none⟩ = some (.int .i64 re) := by rw [hW5]; first | (simp [go_sem, *]; done) | (refine Gr.at ?_ (by assumption); exact gr_auto)
    have b5_7 : W3.heap.size < W5.heap.size := World.block_lt_of_cell? _ _ k5_7
    have k5_8 : W5.cell? ⟨W3.heap.size, 1, none⟩ = some (.int .i64 lo) := by rw [hW5]; first | (simp [go_sem, *]; done) | (refine Gr.at ?_ (by assumption); exact gr_auto)
    clear hW5
    have s5_0 : ∀ gw : GW W5, gw.1.cell? ⟨w.heap.size + 3, 0, none⟩ = some (.int .i64 inn) := fun gw => Gr.at gw.2 k5_0
    have s5_1 : ∀ gw : GW W5, gw.1.cell? ⟨w.heap.size + 3, 1, none⟩ = some (.int .i64 out) := fun gw => Gr.at gw.2 k5_1
    have s5_2 : ∀ gw : GW W5, gw.1.cell? ⟨w.heap.size + 3, 2, none⟩ = some (.slice GA gn gc) := fun gw => Gr.at gw.2 k5_2
    have s5_3 : ∀ gw : GW W5, gw.1.cell? ⟨w.heap.size + 1, 0, none⟩ = some (.slice VA1 vn1 vc1) := fun gw => Gr.at gw.2 k5_3
    have s5_4 : ∀ gw : GW W5, gw.1.cell? ⟨w.heap.size + 1, 1, none⟩ = some (.slice PA1 pn1 pc1) := fun gw => Gr.at gw.2 k5_4
    have s5_5 : ∀ gw : GW W5, gw.1.cell? ⟨w.heap.size + 2, 0, none⟩ = some (.slice VA2 vn2 vc2) := fun gw => Gr.at gw.2 k5_5
    have s5_6 : ∀ gw : GW W5, gw.1.cell? ⟨w.heap.size + 2, 1, none⟩ = some (.slice PA2 pn2 pc2) := fun gw => Gr.at gw.2 k5_6
    have s5_7 : ∀ gw : GW W5, gw.1.cell? ⟨W3.heap.size, 0, none⟩ = some (.int .i64 re) := fun gw => Gr.at gw.2 k5_7
    have s5_8 : ∀ gw : GW W5, gw.1.cell? ⟨W3.heap.size, 1, none⟩ = some (.int .i64 lo) := fun gw => Gr.at gw.2 k5_8
    have HV16 := Lib.hid (fun gw : GW W5 => gw_same (HV1.out gw.1 (g5.trans gw.2)))
    have HP16 := Lib.hid (fun gw : GW W5 => gw_same (HP1.out gw.1 (g5.trans gw.2)))
    have HV26 := Lib.hid (fun gw : GW W5 => gw_same (HV2.out gw.1 (g5.trans gw.2)))
    have HP26 := Lib.hid (fun gw : GW W5 => gw_same (HP2.out gw.1 (g5.trans gw.2)))
    refine wp_region_gr (by kernel_rfl) (by kernel_rfl) ?_
    repeat (go_big_quiet_step ((first | (go_at_call 43; with_reducible exact HV16.out _) | (go_at_call 43; with_reducible exact HP16.out _) | (go_at_call 43; with_reducible exact HV26.out _) | (go_at_call 43; with_reducible exact HP26.out _))))
    refine wpQuiet_nil ?_
    intro w6 hb6
    clear s5_0 s5_1 s5_2 s5_3 s5_4 s5_5 s5_6 s5_7 s5_8
    have g6 : Gr w w6 := g5.trans hb6
    have k5_0 := Gr.at hb6 k5_0
    have k5_1 := Gr.at hb6 k5_1
    have k5_2 := Gr.at hb6 k5_2
    have k5_3 := Gr.at hb6 k5_3
    have k5_4 := Gr.at hb6 k5_4
    have k5_5 := Gr.at hb6 k5_5
    have k5_6 := Gr.at hb6 k5_6
    have k5_7 := Gr.at hb6 k5_7
    have k5_8 := Gr.at hb6 k5_8
    go_wp2_with fail
    (first | refine name_world ?_ | refine (show (∀ W, W = _ → Calls _ _ _ W _) → Calls _ _ _ _ _ from fun h => h _ rfl) ?_); intro W7 hW7
    have g7 : Gr w W7 := by rw [hW7]; exact gr_auto
    have k7_0 : W7.cell? ⟨w.heap.size + 3, 0, none⟩ = some (.int .i64 inn) := by rw [hW7]; first | (simp [go_sem, *]; done) | (refine Gr.at ?_ (by assumption); exact gr_auto)
    have b7_0 : w.heap.size + 3 < W7.heap.size := World.block_lt_of_cell? _ _ k7_0
    have k7_1 : W7.cell? ⟨w.heap.size + 3, 1, none⟩ = some (.int .i64 out) := by rw [hW7]; first | (simp [go_sem, *]; done) | (refine Gr.at ?_ (by assumption); exact gr_auto)
    have k7_2 : W7.cell? ⟨w.heap.size + 3, 2, none⟩ = some (.slice GA gn gc) := by rw [hW7]; first | (simp [go_sem, *]; done) | (refine Gr.at ?_ (by assumption); exact gr_auto)
    have k7_3 : W7.cell? ⟨W3.heap.size, 0, none⟩ = some (.int .i64 re) := by rw [hW7]; first | (simp [go_sem, *]; done) | (refine Gr.at ?_ (by assumption); exact gr_auto)
    have b7_3 : W3.heap.size < W7.heap.size := World.block_lt_of_cell? _ _ k7_3
    have k7_4 : W7.cell? ⟨W3.heap.size, 1, none⟩ = some (.int .i64 lo) := by rw [hW7]; first | (simp [go_sem, *]; done) | (refine Gr.at ?_ (by assumption); exact gr_auto)
    clear hW7
    have s7_0 : ∀ gw : GW W7, gw.1.cell? ⟨w.heap.size + 3, 0, none⟩ = some (.int .i64 inn) := fun gw => Gr.at gw.2 k7_0
    have s7_1 : ∀ gw : GW W7, gw.1.cell? ⟨w.heap.size + 3, 1, none⟩ = some (.int .i64 out) := fun gw => Gr.at gw.2 k7_1
    have s7_2 : ∀ gw : GW W7, gw.1.cell? ⟨w.heap.size + 3, 2, none⟩ = some (.slice GA gn gc) := fun gw => Gr.at gw.2 k7_2
    have s7_3 : ∀ gw : GW W7, gw.1.cell? ⟨W3.heap.size, 0, none⟩ = some (.int .i64 re) := fun gw => Gr.at gw.2 k7_3
    have s7_4 : ∀ gw : GW W7, gw.1.cell? ⟨W3.heap.size, 1, none⟩ = some (.int .i64 lo) := fun gw => Gr.at gw.2 k7_4
    have HS8 := Lib.hid (fun gw : GW W7 => gw_same (HS.out gw.1 (g7.trans gw.2)))
    refine wp_region_gr (by kernel_rfl) (by kernel_rfl) ?_
    repeat (go_big_quiet_step ((go_at_call 43; exact HS8.out _)))
    refine wpQuiet_nil ?_
    intro w8 hb8
    clear s7_0 s7_1 s7_2 s7_3 s7_4
    have g8 : Gr w w8 := g7.trans hb8
    have k7_0 := Gr.at hb8 k7_0
    have k7_1 := Gr.at hb8 k7_1
    have k7_2 := Gr.at hb8 k7_2
    have k7_3 := Gr.at hb8 k7_3
    have k7_4 := Gr.at hb8 k7_4
    go_wp2_with fail
    go_ret3
    exact ⟨rfl, gr_auto⟩
theorem step_any (N : Ba.SlNode) (L : Ba.SlLink) (s1 s2 : Ba.State) (I : Ba.SlI) (g : Ba.Ledger) (w : World) (hN : N.At w) (hL : L.At w) (h1 : s1.Ok w) (h2 : s2.Ok w) (hI : I.At w) (hg : g.Ok w) (hn12 : N.n ≤ 12) (hl20 : L.n ≤ 20) : Calls Tryz.prog 18 #[Ba.netVal N L, s1.val, s2.val, .slice I.A I.n I.c, g.val] w fun e w' => e = .returned (.tuple #[.bool (Ba.stepB N L s1 s2 I g), .int .i64 (Ba.stepL N L s1 s2 I g), .int .i64 (Ba.givE N L s1 s2 I g)]) ∧ Gr w w' := by
  have HG := Lib.hid (fun W (hh : Gr w W) => given_any N L s1 s2 I g W (hN.gr hh) (hL.gr hh) (h1.gr hh) (h2.gr hh) (hI.gr hh) (hg.gr hh))
  unfold Ba.stepB Ba.stepL
  by_cases he : Ba.givE N L s1 s2 I g = 0
  rotate_left
  · rw [if_neg he, if_neg he]
    exact step_0 (N.A) (L.A) (s1.vs.A) (s1.ps.A) (s1.st.A) (s1.on.A) (s2.vs.A) (s2.ps.A) (s2.st.A) (s2.on.A) (g.ps.A) (I.A) (N.n) (N.c) (L.n) (L.c) (s1.vs.n) (s1.vs.c) (s1.ps.n) (s1.ps.c) (s1.st.n) (s1.st.c) (s1.on.n) (s1.on.c) (s2.vs.n) (s2.vs.c) (s2.ps.n) (s2.ps.c) (s2.st.n) (s2.st.c) (s2.on.n) (s2.on.c) (g.ps.n) (g.ps.c) (I.n) (I.c) (g.inn) (g.out) (w) _ he HG
  rw [if_pos he, if_pos he]
  rw [he] at HG
  rw [he]
  have F := Ba.fine_of he hn12 hl20
  obtain ⟨f1, f2, f3, f4, f5⟩ := F.few1
  have z1 : s1.ps.n = s1.vs.n := by rw [F.p1, F.v1]
  have z2 : s2.ps.n = s2.vs.n := by rw [F.p2, F.v2]
  have lg := Ba.ledg_parts (Ba.giv_parts he).2.2.1
  have HV1 := Lib.hid (fun W (hh : Gr w W) => sum_any s1.vs W (h1.1.gr hh) f1)
  have HP1 := Lib.hid (fun W (hh : Gr w W) => sum_any s1.ps W (h1.2.1.gr hh) f2)
  have HV2 := Lib.hid (fun W (hh : Gr w W) => sum_any s2.vs W (h2.1.gr hh) f3)
  have HP2 := Lib.hid (fun W (hh : Gr w W) => sum_any s2.ps W (h2.2.1.gr hh) f4)
  have HS := Lib.hid (fun W (hh : Gr w W) => sum_any I W (hI.gr hh) f5)
  have HRE := Lib.hid (fun (X : Nat) W (hx : W.cell? ⟨X, 0, none⟩ = some (.bool true)) => repeat_any X N.n W hx (by omega))
  have HOF := Lib.hid (fun (s : Ba.SlB) W (hh : Gr w W) (hs : s.At W) (hn : s.n = N.n) (hx : ∀ i, s.X i = true) => show Calls Tryz.prog 41 #[Ba.netVal N L, .slice s.A s.n s.c, s1.val, s2.val, .slice I.A I.n I.c, .slice g.ps.A g.ps.n g.ps.c] W fun e w' => e = .returned (.agg #[.int .i64 (Ba.resI N L (fun _ => true) s1 s2 I g.ps), .int .i64 (Ba.lostI N L (fun _ => true) I g.ps)]) ∧ Gr W w' from by
    have h := of_any N L s1 s2 I g.ps s W F (hN.gr hh) (hL.gr hh) (hI.gr hh) (hg.2.2.gr hh) hs hn (h1.gr hh) (h2.gr hh)
    rw [show s.X = fun _ => true from funext hx] at h
    exact h)
  have b1 := Ba.few_sum f1 (Nat.le_refl _); have b2 := Ba.few_sum f2 (Nat.le_refl _); have b3 := Ba.few_sum f3 (Nat.le_refl _); have b4 := Ba.few_sum f4 (Nat.le_refl _)
  have el : Ba.leftI s1 s2 g = Ba.sumI s1.vs.X s1.vs.n + Ba.sumI s1.ps.X s1.ps.n + g.inn - Ba.sumI s2.vs.X s2.vs.n - Ba.sumI s2.ps.X s2.ps.n - g.out := by
    unfold Ba.leftI; rw [Ba.held_two z1, Ba.held_two z2]; omega
  unfold Ba.okB
  rw [el]
  cases ts : (g.inn == Ba.sumI I.X I.n)
  · rw [Bool.false_and, Bool.and_false]
    exact step_a (N.A) (L.A) (s1.vs.A) (s1.ps.A) (s1.st.A) (s1.on.A) (s2.vs.A) (s2.ps.A) (s2.st.A) (s2.on.A) (g.ps.A) (I.A) (N.n) (N.c) (L.n) (L.c) (s1.vs.n) (s1.vs.c) (s1.ps.n) (s1.ps.c) (s1.st.n) (s1.st.c) (s1.on.n) (s1.on.c) (s2.vs.n) (s2.vs.c) (s2.ps.n) (s2.ps.c) (s2.st.n) (s2.st.c) (s2.on.n) (s2.on.c) (g.ps.n) (g.ps.c) (I.n) (I.c) (g.inn) (g.out) (w) _ _ _ _ _ _ _ HG HV1 HP1 HV2 HP2 HS b1 b2 b3 b4 lg.1 lg.2.1 HRE HOF ts
  cases tx : (g.out == Ba.lostI N L (fun _ => true) I g.ps)
  · rw [Bool.true_and, Bool.and_false]
    exact step_b (N.A) (L.A) (s1.vs.A) (s1.ps.A) (s1.st.A) (s1.on.A) (s2.vs.A) (s2.ps.A) (s2.st.A) (s2.on.A) (g.ps.A) (I.A) (N.n) (N.c) (L.n) (L.c) (s1.vs.n) (s1.vs.c) (s1.ps.n) (s1.ps.c) (s1.st.n) (s1.st.c) (s1.on.n) (s1.on.c) (s2.vs.n) (s2.vs.c) (s2.ps.n) (s2.ps.c) (s2.st.n) (s2.st.c) (s2.on.n) (s2.on.c) (g.ps.n) (g.ps.c) (I.n) (I.c) (g.inn) (g.out) (w) _ _ _ _ _ _ _ HG HV1 HP1 HV2 HP2 HS b1 b2 b3 b4 lg.1 lg.2.1 HRE HOF ts tx
  · rw [Bool.true_and, Bool.and_true]
    exact step_c (N.A) (L.A) (s1.vs.A) (s1.ps.A) (s1.st.A) (s1.on.A) (s2.vs.A) (s2.ps.A) (s2.st.A) (s2.on.A) (g.ps.A) (I.A) (N.n) (N.c) (L.n) (L.c) (s1.vs.n) (s1.vs.c) (s1.ps.n) (s1.ps.c) (s1.st.n) (s1.st.c) (s1.on.n) (s1.on.c) (s2.vs.n) (s2.vs.c) (s2.ps.n) (s2.ps.c) (s2.st.n) (s2.st.c) (s2.on.n) (s2.on.c) (g.ps.n) (g.ps.c) (I.n) (I.c) (g.inn) (g.out) (w) _ _ _ _ _ _ _ HG HV1 HP1 HV2 HP2 HS b1 b2 b3 b4 lg.1 lg.2.1 HRE HOF ts tx
end Go.Proofs.YtkgbbcmgfbipaaaGreatDoor
