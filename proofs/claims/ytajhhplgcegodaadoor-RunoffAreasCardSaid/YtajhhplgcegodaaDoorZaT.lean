/-
  Land use: twice the area of a face (landuse.twice).
-/
import Derived.Test.YtajhhplgcegodaaDoorMsTw
set_option linter.unusedVariables false
set_option linter.unusedSimpArgs false
namespace Go.Proofs.YtajhhplgcegodaaDoor
open Go.RowKit
attribute [local go_sem ↓] Go.wp_at_zero Go.wp_at_succ
set_option maxRecDepth 100000 in
set_option maxHeartbeats 4000000 in
theorem lu_twice (m : Ms.Mesh) (f : Ba.Face) (w : World) (h : m.S.At w) (hf : Ms.fcB m f = true) : Calls Tryd.prog 122 #[m.val, f.val] w fun e w' => e = .returned (.int .i64 (Ms.tTn (Ms.tri m f))) ∧ Gr w w' := by
  have tk := Ms.tri_ok hf
  unfold Ms.tOk Ms.cd at tk
  unfold Ms.fcB at hf
  simp only [Bool.and_eq_true] at hf
  obtain ⟨ia, ea, la, -⟩ := Ms.inR_parts hf.1
  obtain ⟨ib, eb, lb, -⟩ := Ms.inR_parts hf.2.1
  obtain ⟨ic, ec, lc, -⟩ := Ms.inR_parts hf.2.2.1
  clear hf
  obtain ⟨a, b, c, k⟩ := f
  simp only at ea eb ec
  subst ea; subst eb; subst ec
  obtain ⟨x0, x1, x2⟩ := (h.hD ia la).1
  obtain ⟨y0, y1, y2⟩ := (h.hD ib lb).1
  obtain ⟨z0, z1, z2⟩ := (h.hD ic lc).1
  have hA := h.hA (by omega); have hnc := h.hc; have hcb := h.hb
  have hB : m.S.b < w.heap.size := World.block_lt_of_cell? _ _ x0
  have a0 : (0 : Int) ≤ (ia : Int) := by omega
  have a1 : (ia : Int) < (m.S.n : Int) := by omega
  have b0 : (0 : Int) ≤ (ib : Int) := by omega
  have b1 : (ib : Int) < (m.S.n : Int) := by omega
  have c0 : (0 : Int) ≤ (ic : Int) := by omega
  have c1 : (ic : Int) < (m.S.n : Int) := by omega
  clear h
  unfold Ms.tTn Ms.tri Ba.Face.val Ms.Mesh.val
  unfold Ms.tri at tk
  simp only [Int.toNat_natCast] at tk ⊢
  rw [hA]
  clear hA
  generalize m.S.D ia = da at *; generalize m.S.D ib = db at *; generalize m.S.D ic = dc at *
  generalize m.S.n = sn at *; generalize m.S.c = sc at *; generalize m.S.b = sb at *; generalize m.S.o = so at *; generalize m.F.A = fA at *; generalize m.F.n = fn at *; generalize m.F.c = fc at *
  obtain ⟨ax, ay, az⟩ := da
  obtain ⟨bx, b_y, bz⟩ := db
  obtain ⟨cx, cy, cz⟩ := dc
  simp only at *
  obtain ⟨k1, k2, k3, k4, k5, k6⟩ := tk
  have m1 := Ms.mul_bd (a := bx - ax) (b := cy - ay) (by omega) (by omega)
  have m2 := Ms.mul_bd (a := b_y - ay) (b := cx - ax) (by omega) (by omega)
  go_enter Tryd.func122, Tryd.ntmps122
  go_wp2_with fail
  -- @a
  (first | refine name_world ?_ | refine (show (∀ W, W = _ → Calls _ _ _ W _) → Calls _ _ _ _ _ from fun h => h _ rfl) ?_); intro W1 hW1
  have g1 : Gr w W1 := by rw [hW1]; exact gr_auto
  have k1_0 : W1.cell? ⟨w.heap.size, 0, none⟩ = some (.slice (some ⟨sb, so, none⟩) sn sc) := by rw [hW1]; first | (simp [go_sem, *]; done) | (refine Gr.at ?_ (by assumption); exact gr_auto)
  have b1_0 : w.heap.size < W1.heap.size := World.block_lt_of_cell? _ _ k1_0
  have k1_1 : W1.cell? ⟨w.heap.size + 1, 0, none⟩ = some (.int .i64 (ia : Int)) := by rw [hW1]; first | (simp [go_sem, *]; done) | (refine Gr.at ?_ (by assumption); exact gr_auto)
  have b1_1 : w.heap.size + 1 < W1.heap.size := World.block_lt_of_cell? _ _ k1_1
  have k1_2 : W1.cell? ⟨w.heap.size + 1, 1, none⟩ = some (.int .i64 (ib : Int)) := by rw [hW1]; first | (simp [go_sem, *]; done) | (refine Gr.at ?_ (by assumption); exact gr_auto)
  have k1_3 : W1.cell? ⟨w.heap.size + 1, 2, none⟩ = some (.int .i64 (ic : Int)) := by rw [hW1]; first | (simp [go_sem, *]; done) | (refine Gr.at ?_ (by assumption); exact gr_auto)
  have k1_4 : W1.cell? ⟨sb, so + ia * 3, none⟩ = some (.int .i64 ax) := by rw [hW1]; first | (simp [go_sem, *]; done) | (refine Gr.at ?_ (by assumption); exact gr_auto)
  have b1_4 : sb < W1.heap.size := World.block_lt_of_cell? _ _ k1_4
  have k1_5 : W1.cell? ⟨sb, so + ia * 3 + 1, none⟩ = some (.int .i64 ay) := by rw [hW1]; first | (simp [go_sem, *]; done) | (refine Gr.at ?_ (by assumption); exact gr_auto)
  have k1_6 : W1.cell? ⟨sb, so + ia * 3 + 2, none⟩ = some (.int .i64 az) := by rw [hW1]; first | (simp [go_sem, *]; done) | (refine Gr.at ?_ (by assumption); exact gr_auto)
  have k1_7 : W1.cell? ⟨sb, so + ib * 3, none⟩ = some (.int .i64 bx) := by rw [hW1]; first | (simp [go_sem, *]; done) | (refine Gr.at ?_ (by assumption); exact gr_auto)
  have k1_8 : W1.cell? ⟨sb, so + ib * 3 + 1, none⟩ = some (.int .i64 b_y) := by rw [hW1]; first | (simp [go_sem, *]; done) | (refine Gr.at ?_ (by assumption); exact gr_auto)
  have k1_9 : W1.cell? ⟨sb, so + ib * 3 + 2, none⟩ = some (.int .i64 bz) := by rw [hW1]; first | (simp [go_sem, *]; done) | (refine Gr.at ?_ (by assumption); exact gr_auto)
  have k1_10 : W1.cell? ⟨sb, so + ic * 3, none⟩ = some (.int .i64 cx) := by rw [hW1]; first | (simp [go_sem, *]; done) | (refine Gr.at ?_ (by assumption); exact gr_auto)
  have k1_11 : W1.cell? ⟨sb, so + ic * 3 + 1, none⟩ = some (.int .i64 cy) := by rw [hW1]; first | (simp [go_sem, *]; done) | (refine Gr.at ?_ (by assumption); exact gr_auto)
  have k1_12 : W1.cell? ⟨sb, so + ic * 3 + 2, none⟩ = some (.int .i64 cz) := by rw [hW1]; first | (simp [go_sem, *]; done) | (refine Gr.at ?_ (by assumption); exact gr_auto)
  clear hW1
  have s1_0 : ∀ w', Gr W1 w' → w'.cell? ⟨w.heap.size, 0, none⟩ = some (.slice (some ⟨sb, so, none⟩) sn sc) := fun w' hgW => Gr.at hgW k1_0
  have s1_1 : ∀ w', Gr W1 w' → w'.cell? ⟨w.heap.size + 1, 0, none⟩ = some (.int .i64 (ia : Int)) := fun w' hgW => Gr.at hgW k1_1
  have s1_2 : ∀ w', Gr W1 w' → w'.cell? ⟨w.heap.size + 1, 1, none⟩ = some (.int .i64 (ib : Int)) := fun w' hgW => Gr.at hgW k1_2
  have s1_3 : ∀ w', Gr W1 w' → w'.cell? ⟨w.heap.size + 1, 2, none⟩ = some (.int .i64 (ic : Int)) := fun w' hgW => Gr.at hgW k1_3
  have s1_4 : ∀ w', Gr W1 w' → w'.cell? ⟨sb, so + ia * 3, none⟩ = some (.int .i64 ax) := fun w' hgW => Gr.at hgW k1_4
  have s1_5 : ∀ w', Gr W1 w' → w'.cell? ⟨sb, so + ia * 3 + 1, none⟩ = some (.int .i64 ay) := fun w' hgW => Gr.at hgW k1_5
  have s1_6 : ∀ w', Gr W1 w' → w'.cell? ⟨sb, so + ia * 3 + 2, none⟩ = some (.int .i64 az) := fun w' hgW => Gr.at hgW k1_6
  have s1_7 : ∀ w', Gr W1 w' → w'.cell? ⟨sb, so + ib * 3, none⟩ = some (.int .i64 bx) := fun w' hgW => Gr.at hgW k1_7
  have s1_8 : ∀ w', Gr W1 w' → w'.cell? ⟨sb, so + ib * 3 + 1, none⟩ = some (.int .i64 b_y) := fun w' hgW => Gr.at hgW k1_8
  have s1_9 : ∀ w', Gr W1 w' → w'.cell? ⟨sb, so + ib * 3 + 2, none⟩ = some (.int .i64 bz) := fun w' hgW => Gr.at hgW k1_9
  have s1_10 : ∀ w', Gr W1 w' → w'.cell? ⟨sb, so + ic * 3, none⟩ = some (.int .i64 cx) := fun w' hgW => Gr.at hgW k1_10
  have s1_11 : ∀ w', Gr W1 w' → w'.cell? ⟨sb, so + ic * 3 + 1, none⟩ = some (.int .i64 cy) := fun w' hgW => Gr.at hgW k1_11
  have s1_12 : ∀ w', Gr W1 w' → w'.cell? ⟨sb, so + ic * 3 + 2, none⟩ = some (.int .i64 cz) := fun w' hgW => Gr.at hgW k1_12
  first | (go_region_held3 (fun w' => Gr W1 w') (exact gr_auto) (skip)) | fail
  -- @b
  all_goals (
    go_wp2_with fail
    go_ret
    exact ⟨rfl, by exact gr_auto⟩)
end Go.Proofs.YtajhhplgcegodaaDoor
