/-
  Surfaces: the reference's corners, triangles, turns, sides. (Printed by mkj.py.)
-/
import Derived.Test.YtajhhplgcegodaaGreatDoorInf17
import Derived.Test.YtajhhplgcegodaaGreatDoorInf08
import Derived.Test.YtajhhplgcegodaaGreatDoorInf02
import Derived.Deep.RegionHeld3
import Derived.Deep.RegionWith
set_option linter.unusedVariables false
set_option linter.unusedSimpArgs false
namespace Go.Proofs.YtajhhplgcegodaaGreatDoor
open Go.RowKit
attribute [local go_sem ↓] Go.wp_at_zero Go.wp_at_succ
set_option maxRecDepth 100000 in
set_option maxHeartbeats 4000000 in
theorem rs_corner0 (f : Ba.Face) (w : World) : Calls Tryz.prog 143 #[f.val, .int .i64 0] w fun e w' => e = .returned (.int .i64 f.a) ∧ Gr w w' := by
  unfold Ba.Face.val
  obtain ⟨a, b, c, k⟩ := f
  simp only
  go_enter Tryz.func143, Tryz.ntmps143
  go_wp2_with fail
  go_ret
  exact ⟨rfl, gr_auto⟩
set_option maxRecDepth 100000 in
set_option maxHeartbeats 4000000 in
theorem rs_corner1 (f : Ba.Face) (w : World) : Calls Tryz.prog 143 #[f.val, .int .i64 1] w fun e w' => e = .returned (.int .i64 f.b) ∧ Gr w w' := by
  unfold Ba.Face.val
  obtain ⟨a, b, c, k⟩ := f
  simp only
  go_enter Tryz.func143, Tryz.ntmps143
  go_wp2_with fail
  go_ret
  exact ⟨rfl, gr_auto⟩
set_option maxRecDepth 100000 in
set_option maxHeartbeats 4000000 in
theorem rs_corner2 (f : Ba.Face) (w : World) : Calls Tryz.prog 143 #[f.val, .int .i64 2] w fun e w' => e = .returned (.int .i64 f.c) ∧ Gr w w' := by
  unfold Ba.Face.val
  obtain ⟨a, b, c, k⟩ := f
  simp only
  go_enter Tryz.func143, Tryz.ntmps143
  go_wp2_with fail
  go_ret
  exact ⟨rfl, gr_auto⟩
set_option maxRecDepth 100000 in
set_option maxHeartbeats 4000000 in
theorem rs_corner3 (f : Ba.Face) (w : World) : Calls Tryz.prog 143 #[f.val, .int .i64 3] w fun e w' => e = .returned (.int .i64 f.a) ∧ Gr w w' := by
  unfold Ba.Face.val
  obtain ⟨a, b, c, k⟩ := f
  simp only
  go_enter Tryz.func143, Tryz.ntmps143
  go_wp2_with fail
  go_ret
  exact ⟨rfl, gr_auto⟩
theorem rs_corner (f : Ba.Face) (k : Nat) (hk : k < 4) (w : World) : Calls Tryz.prog 143 #[f.val, .int .i64 (k : Int)] w fun e w' => e = .returned (.int .i64 (Ms.cor f k)) ∧ Gr w w' := by
  match k, hk with
  | 0, _ => exact rs_corner0 f w
  | 1, _ => exact rs_corner1 f w
  | 2, _ => exact rs_corner2 f w
  | 3, _ => exact rs_corner3 f w
/-- What the reference's Triangle answers: a new slice of the three points. -/
def RetTri (t : Ms.Tri) (w : World) (e : Ending) (w' : World) : Prop := ∃ b, e = .returned (.slice (some ⟨b, 0, none⟩) 3 3) ∧ w.heap.size ≤ b ∧ t.Cells w' b 0 ∧ Gr w w'
set_option maxRecDepth 100000 in
set_option maxHeartbeats 4000000 in
theorem rs_tri (m : Ms.Mesh) (f : Ba.Face) (w : World) (h : m.S.At w) (hf : Ms.fcB m f = true) : Calls Tryz.prog 80 #[m.val, f.val] w (RetTri (Ms.tri m f) w) := by
  unfold Ms.fcB at hf
  simp only [Bool.and_eq_true] at hf
  obtain ⟨ia, ea, la, -⟩ := Ms.inR_parts hf.1
  obtain ⟨ib, eb, lb, -⟩ := Ms.inR_parts hf.2.1
  obtain ⟨ic, ec, lc, -⟩ := Ms.inR_parts hf.2.2.1
  clear hf
  obtain ⟨a, b, c, k⟩ := f
  simp only at ea eb ec
  subst ea; subst eb; subst ec
  obtain ⟨x0, x1, x2⟩ := (h.hD ia la).1
  obtain ⟨y0, y1, y2⟩ := (h.hD ib lb).1
  obtain ⟨z0, z1, z2⟩ := (h.hD ic lc).1
  have hA := h.hA (by omega); have hnc := h.hc; have hcb := h.hb
  have hB : m.S.b < w.heap.size := World.block_lt_of_cell? _ _ x0
  have a0 : (0 : Int) ≤ (ia : Int) := by omega
  have a1 : (ia : Int) < (m.S.n : Int) := by omega
  have b0 : (0 : Int) ≤ (ib : Int) := by omega
  have b1 : (ib : Int) < (m.S.n : Int) := by omega
  have c0 : (0 : Int) ≤ (ic : Int) := by omega
  have c1 : (ic : Int) < (m.S.n : Int) := by omega
  have H1 := Lib.hid (fun W => rs_point (m.S.D ia) W); have H2 := Lib.hid (fun W => rs_point (m.S.D ib) W); have H3 := Lib.hid (fun W => rs_point (m.S.D ic) W)
  clear h
  unfold RetTri Ba.Tri.Cells Ms.tri Ba.Face.val Ms.Mesh.val
  unfold Ba.Spot.val at H1 H2 H3
  simp only [Int.toNat_natCast]
  rw [hA]
  clear hA
  generalize m.S.D ia = da at *; generalize m.S.D ib = db at *; generalize m.S.D ic = dc at *
  generalize m.S.n = sn at *; generalize m.S.c = sc at *; generalize m.S.b = sb at *; generalize m.S.o = so at *; generalize m.F.A = fA at *; generalize m.F.n = fn at *; generalize m.F.c = fc at *
  go_enter Tryz.func80, Tryz.ntmps80
  go_wp2_with fail
  have hn0 : sb ≠ w.heap.size := by omega
  have hn1 : sb ≠ w.heap.size + 1 := by omega
  refine name_world ?_; intro W1 hW1
  have g1 : Gr w W1 := by rw [hW1]; exact gr_auto
  have k1_0 : ∀ w', Gr W1 w' → w'.cell? ⟨w.heap.size, 0, none⟩ = some (.slice (some ⟨sb, so, none⟩) sn sc) := fun w' hgW => by first | exact (Gr.at hgW (by rw [hW1]; simp [go_sem, *]))
  have k1_1 : ∀ w', Gr W1 w' → w'.cell? ⟨w.heap.size, 1, none⟩ = some (.slice fA fn fc) := fun w' hgW => by first | exact (Gr.at hgW (by rw [hW1]; simp [go_sem, *]))
  have k1_2 : ∀ w', Gr W1 w' → w'.cell? ⟨w.heap.size + 1, 0, none⟩ = some (.int .i64 (ia : Int)) := fun w' hgW => by first | exact (Gr.at hgW (by rw [hW1]; simp [go_sem, *]))
  have k1_3 : ∀ w', Gr W1 w' → w'.cell? ⟨w.heap.size + 1, 1, none⟩ = some (.int .i64 (ib : Int)) := fun w' hgW => by first | exact (Gr.at hgW (by rw [hW1]; simp [go_sem, *]))
  have k1_4 : ∀ w', Gr W1 w' → w'.cell? ⟨w.heap.size + 1, 2, none⟩ = some (.int .i64 (ic : Int)) := fun w' hgW => by first | exact (Gr.at hgW (by rw [hW1]; simp [go_sem, *]))
  have k1_5 : ∀ w', Gr W1 w' → w'.cell? ⟨sb, so + ia * 3, none⟩ = some (.int .i64 da.x) := fun w' hgW => by first | exact (Gr.at hgW (by rw [hW1]; simp [go_sem, *]))
  have k1_6 : ∀ w', Gr W1 w' → w'.cell? ⟨sb, so + ia * 3 + 1, none⟩ = some (.int .i64 da.y) := fun w' hgW => by first | exact (Gr.at hgW (by rw [hW1]; simp [go_sem, *]))
  have k1_7 : ∀ w', Gr W1 w' → w'.cell? ⟨sb, so + ia * 3 + 2, none⟩ = some (.int .i64 da.z) := fun w' hgW => by first | exact (Gr.at hgW (by rw [hW1]; simp [go_sem, *]))
  have k1_8 : ∀ w', Gr W1 w' → w'.cell? ⟨sb, so + ib * 3, none⟩ = some (.int .i64 db.x) := fun w' hgW => by first | exact (Gr.at hgW (by rw [hW1]; simp [go_sem, *]))
  have k1_9 : ∀ w', Gr W1 w' → w'.cell? ⟨sb, so + ib * 3 + 1, none⟩ = some (.int .i64 db.y) := fun w' hgW => by first | exact (Gr.at hgW (by rw [hW1]; simp [go_sem, *]))
  have k1_10 : ∀ w', Gr W1 w' → w'.cell? ⟨sb, so + ib * 3 + 2, none⟩ = some (.int .i64 db.z) := fun w' hgW => by first | exact (Gr.at hgW (by rw [hW1]; simp [go_sem, *]))
  have k1_11 : ∀ w', Gr W1 w' → w'.cell? ⟨sb, so + ic * 3, none⟩ = some (.int .i64 dc.x) := fun w' hgW => by first | exact (Gr.at hgW (by rw [hW1]; simp [go_sem, *]))
  have k1_12 : ∀ w', Gr W1 w' → w'.cell? ⟨sb, so + ic * 3 + 1, none⟩ = some (.int .i64 dc.y) := fun w' hgW => by first | exact (Gr.at hgW (by rw [hW1]; simp [go_sem, *]))
  have k1_13 : ∀ w', Gr W1 w' → w'.cell? ⟨sb, so + ic * 3 + 2, none⟩ = some (.int .i64 dc.z) := fun w' hgW => by first | exact (Gr.at hgW (by rw [hW1]; simp [go_sem, *]))
  clear hW1
  have zW1 := Gr.size g1
  go_region_held3 (fun w' => Gr W1 w') (exact gr_auto) (first | (go_at_call 87; with_reducible refine (H1.out _).mono ?_; rintro e w2 ⟨rfl, hb2⟩) | (go_at_call 87; with_reducible refine (H2.out _).mono ?_; rintro e w3 ⟨rfl, hb3⟩) | (go_at_call 87; with_reducible refine (H3.out _).mono ?_; rintro e w4 ⟨rfl, hb4⟩))
  have z1 := Gr.size g1; have z2 := Gr.size hb2; have z3 := Gr.size hb3; have z4 := Gr.size hb4
  simp at z2
  have hh := g1.trans (by assumption : Gr W1 (w4.alloc _))
  go_wp2_with fail
  go_ret
  exact ⟨w4.heap.size, rfl, by omega, ⟨by simp [go_sem], by simp [go_sem], by simp [go_sem], by simp [go_sem], by simp [go_sem], by simp [go_sem]⟩, hh⟩
set_option maxRecDepth 100000 in
set_option maxHeartbeats 4000000 in
theorem rs_fturn (m : Ms.Mesh) (f : Ba.Face) (w : World) (h : m.S.At w) (hf : Ms.fcB m f = true) : Calls Tryz.prog 82 #[m.val, f.val] w fun e w' => e = .returned (.int .i64 (Ms.tTn (Ms.tri m f))) ∧ Gr w w' := by
  have HT := Lib.hid (fun W (hW : Gr w W) => rs_tri m f W (h.gr hW) hf)
  have htk := Ms.tri_ok hf
  clear h hf
  obtain ⟨t, ht⟩ : ∃ t, Ms.tri m f = t := ⟨_, rfl⟩
  rw [ht] at HT htk ⊢
  unfold RetTri at HT
  unfold Ms.tOk at htk
  have HU := Lib.hid (fun W => rs_turn t.x0 t.y0 t.x1 t.y1 t.x2 t.y2 W htk.1 htk.2.1 htk.2.2.1 htk.2.2.2.1 htk.2.2.2.2.1 htk.2.2.2.2.2)
  clear ht htk
  unfold Ms.tTn
  generalize Ms.tr2 t.x0 t.y0 t.x1 t.y1 t.x2 t.y2 = v at *
  unfold Ms.Mesh.val Ba.Face.val at *
  generalize m.S.A = sA at *; generalize m.S.n = sn at *; generalize m.S.c = sc at *; generalize m.F.A = fA at *; generalize m.F.n = fn at *; generalize m.F.c = fc at *
  obtain ⟨a, b, c, k⟩ := f
  simp only at *
  go_enter Tryz.func82, Tryz.ntmps82
  go_wp2_with fail
  refine (HT.out _ (by exact gr_auto)).mono ?_
  rintro e w1 ⟨B, rfl, hB, ⟨c0, c1, c2, c3, c4, c5⟩, hb1⟩
  clear HT
  simp only [Nat.zero_add] at c0 c1 c2 c3 c4 c5
  have g1 : Gr w w1 := Gr.trans (by exact gr_auto) hb1
  go_wp2_with fail
  (first | refine name_world ?_ | refine (show (∀ W, W = _ → Calls _ _ _ W _) → Calls _ _ _ _ _ from fun h => h _ rfl) ?_); intro W2 hW2
  have g2 : Gr w W2 := by rw [hW2]; exact gr_auto
  have gb2_w1 : Gr w1 W2 := by (try clear g2); rw [hW2]; exact gr_auto
  have k2_0 : W2.cell? ⟨B, 0, none⟩ = some (.int .i64 t.x0) := by rw [hW2]; first | (simp [go_sem, *]; done) | (refine Gr.at ?_ (by assumption); exact gr_auto)
  have b2_0 : B < W2.heap.size := World.block_lt_of_cell? _ _ k2_0
  have k2_1 : W2.cell? ⟨B, 1, none⟩ = some (.int .i64 t.y0) := by rw [hW2]; first | (simp [go_sem, *]; done) | (refine Gr.at ?_ (by assumption); exact gr_auto)
  have k2_2 : W2.cell? ⟨B, 2, none⟩ = some (.int .i64 t.x1) := by rw [hW2]; first | (simp [go_sem, *]; done) | (refine Gr.at ?_ (by assumption); exact gr_auto)
  have k2_3 : W2.cell? ⟨B, 3, none⟩ = some (.int .i64 t.y1) := by rw [hW2]; first | (simp [go_sem, *]; done) | (refine Gr.at ?_ (by assumption); exact gr_auto)
  have k2_4 : W2.cell? ⟨B, 4, none⟩ = some (.int .i64 t.x2) := by rw [hW2]; first | (simp [go_sem, *]; done) | (refine Gr.at ?_ (by assumption); exact gr_auto)
  have k2_5 : W2.cell? ⟨B, 5, none⟩ = some (.int .i64 t.y2) := by rw [hW2]; first | (simp [go_sem, *]; done) | (refine Gr.at ?_ (by assumption); exact gr_auto)
  clear hW2
  have s2_0 : ∀ gw : GW W2, gw.1.cell? ⟨B, 0, none⟩ = some (.int .i64 t.x0) := fun gw => Gr.at gw.2 k2_0
  have s2_1 : ∀ gw : GW W2, gw.1.cell? ⟨B, 1, none⟩ = some (.int .i64 t.y0) := fun gw => Gr.at gw.2 k2_1
  have s2_2 : ∀ gw : GW W2, gw.1.cell? ⟨B, 2, none⟩ = some (.int .i64 t.x1) := fun gw => Gr.at gw.2 k2_2
  have s2_3 : ∀ gw : GW W2, gw.1.cell? ⟨B, 3, none⟩ = some (.int .i64 t.y1) := fun gw => Gr.at gw.2 k2_3
  have s2_4 : ∀ gw : GW W2, gw.1.cell? ⟨B, 4, none⟩ = some (.int .i64 t.x2) := fun gw => Gr.at gw.2 k2_4
  have s2_5 : ∀ gw : GW W2, gw.1.cell? ⟨B, 5, none⟩ = some (.int .i64 t.y2) := fun gw => Gr.at gw.2 k2_5
  have HUq := Lib.hid (fun gw : GW W2 => gw_call (HU.out gw.1))
  refine wp_region_gr (by kernel_rfl) (by kernel_rfl) ?_
  repeat (go_big_quiet_step ((go_at_call 141; with_reducible exact HUq.out _)))
  refine wpQuiet_nil ?_
  intro w3 hb3
  clear s2_0 s2_1 s2_2 s2_3 s2_4 s2_5
  have g3 : Gr w w3 := g2.trans hb3
  have k2_0 := Gr.at hb3 k2_0
  have k2_1 := Gr.at hb3 k2_1
  have k2_2 := Gr.at hb3 k2_2
  have k2_3 := Gr.at hb3 k2_3
  have k2_4 := Gr.at hb3 k2_4
  have k2_5 := Gr.at hb3 k2_5
  go_wp2_with fail
  go_ret
  exact ⟨rfl, g3⟩
set_option maxRecDepth 100000 in
set_option maxHeartbeats 4000000 in
theorem rs_same (f g : Ba.Face) (w : World) : Calls Tryz.prog 89 #[f.val, g.val] w fun e w' => e = .returned (.bool (Ms.ssB f g)) ∧ Gr w w' := by
  have HF := Lib.hid (fun k (hk : k < 4) W => rs_corner f k hk W); have HG := Lib.hid (fun k (hk : k < 4) W => rs_corner g k hk W)
  unfold Ms.ssB
  unfold Ba.Face.val at *
  have HP := Lib.hid (fun i k => show Ms.sdB f g i k = ((Ms.cor f i == Ms.cor g k) && (Ms.cor f (i + 1) == Ms.cor g (k + 1))) from rfl)
  generalize hP : Ms.sdB f g = P at *
  clear hP
  obtain ⟨fa, fb, fc, fk⟩ := f
  obtain ⟨ga, gb, gc, gk⟩ := g
  simp only at *
  generalize Ms.cor ⟨fa, fb, fc, fk⟩ = CF at *
  generalize Ms.cor ⟨ga, gb, gc, gk⟩ = CG at *
  go_enter Tryz.func89, Tryz.ntmps89
  go_wp2_with fail
  (first | refine name_world ?_ | refine (show (∀ W, W = _ → Calls _ _ _ W _) → Calls _ _ _ _ _ from fun h => h _ rfl) ?_); intro W0 hW0
  have g0 : Gr w W0 := by rw [hW0]; exact gr_auto
  have k0_0 : W0.cell? ⟨w.heap.size, 0, none⟩ = some (.int .i64 fa) := by rw [hW0]; first | (simp [go_sem, *]; done) | (refine Gr.at ?_ (by assumption); exact gr_auto)
  have b0_0 : w.heap.size < W0.heap.size := World.block_lt_of_cell? _ _ k0_0
  have k0_1 : W0.cell? ⟨w.heap.size, 1, none⟩ = some (.int .i64 fb) := by rw [hW0]; first | (simp [go_sem, *]; done) | (refine Gr.at ?_ (by assumption); exact gr_auto)
  have k0_2 : W0.cell? ⟨w.heap.size, 2, none⟩ = some (.int .i64 fc) := by rw [hW0]; first | (simp [go_sem, *]; done) | (refine Gr.at ?_ (by assumption); exact gr_auto)
  have k0_3 : W0.cell? ⟨w.heap.size, 3, none⟩ = some (.int .i64 fk) := by rw [hW0]; first | (simp [go_sem, *]; done) | (refine Gr.at ?_ (by assumption); exact gr_auto)
  have k0_4 : W0.cell? ⟨w.heap.size + 1, 0, none⟩ = some (.int .i64 ga) := by rw [hW0]; first | (simp [go_sem, *]; done) | (refine Gr.at ?_ (by assumption); exact gr_auto)
  have b0_4 : w.heap.size + 1 < W0.heap.size := World.block_lt_of_cell? _ _ k0_4
  have k0_5 : W0.cell? ⟨w.heap.size + 1, 1, none⟩ = some (.int .i64 gb) := by rw [hW0]; first | (simp [go_sem, *]; done) | (refine Gr.at ?_ (by assumption); exact gr_auto)
  have k0_6 : W0.cell? ⟨w.heap.size + 1, 2, none⟩ = some (.int .i64 gc) := by rw [hW0]; first | (simp [go_sem, *]; done) | (refine Gr.at ?_ (by assumption); exact gr_auto)
  have k0_7 : W0.cell? ⟨w.heap.size + 1, 3, none⟩ = some (.int .i64 gk) := by rw [hW0]; first | (simp [go_sem, *]; done) | (refine Gr.at ?_ (by assumption); exact gr_auto)
  clear hW0
  go_loopw [5] (fun x wr => ∃ i : Nat, i ≤ 3 ∧ x = .int .i64 (i : Int) ∧ Hid (Ba.any (fun i => Ba.any (fun k => P i k) 3) i = false) ∧ Gr W0 wr) (fun x _ => 3 - (intOf x).toNat)
  case atStart => exact ⟨0, by omega, rfl, Lib.hid rfl, Gr.refl _⟩
  case round =>
    obtain ⟨i, hi, rfl, HQ, hg⟩ := hrel
    by_cases hlt : i < 3
    · have ib0 : (0 : Int) ≤ (i : Int) := by omega
      have ib1 : (i : Int) < 3 := by omega
      go_wp2_with fail
      go_loopw [6] (fun x wr => ∃ k : Nat, k ≤ 3 ∧ x = .int .i64 (k : Int) ∧ Hid (Ba.any (fun k => P i k) k = false) ∧ Gr W0 wr) (fun x _ => 3 - (intOf x).toNat)
      case atStart => exact ⟨0, by omega, rfl, Lib.hid rfl, hg⟩
      case round =>
        clear hg
        obtain ⟨k, hk, rfl, HQ2, hg⟩ := hrel
        by_cases hlk : k < 3
        · have kb0 : (0 : Int) ≤ (k : Int) := by omega
          have kb1 : (k : Int) < 3 := by omega
          have A1 := Lib.hid (HF.out i (by omega)); have A2 := Lib.hid (HG.out k (by omega)); have A3 := Lib.hid (HF.out (i + 1) (by omega)); have A4 := Lib.hid (HG.out (k + 1) (by omega))
          have hPk := HP.out i k
          rw [show ((i + 1 : Nat) : Int) = (i : Int) + 1 by omega] at A3
          rw [show ((k + 1 : Nat) : Int) = (k : Int) + 1 by omega] at A4
          replace k0_0 := Gr.at hg k0_0; replace k0_1 := Gr.at hg k0_1; replace k0_2 := Gr.at hg k0_2; replace k0_3 := Gr.at hg k0_3; replace k0_4 := Gr.at hg k0_4; replace k0_5 := Gr.at hg k0_5; replace k0_6 := Gr.at hg k0_6; replace k0_7 := Gr.at hg k0_7
          have gr : Gr w wr := g0.trans hg
          clear HF HG HP
          generalize CF i = x1 at *; generalize CG k = x2 at *; generalize CF (i + 1) = x3 at *; generalize CG (k + 1) = x4 at *
          cases q1 : (x1 == x2)
          · rw [q1] at hPk
            have HR := Lib.hid (Ms.any_go HQ2.out hPk)
            clear hPk
            go_wp2_with fail
            (first | refine name_world ?_ | refine (show (∀ W, W = _ → Calls _ _ _ W _) → Calls _ _ _ _ _ from fun h => h _ rfl) ?_); intro W2 hW2
            have g2 : Gr w W2 := by rw [hW2]; exact gr_auto
            have gb2_wr : Gr wr W2 := by (try clear g2); rw [hW2]; exact gr_auto
            have k2_0 : W2.cell? ⟨w.heap.size, 0, none⟩ = some (.int .i64 fa) := by rw [hW2]; first | (simp [go_sem, *]; done) | (refine Gr.at ?_ (by assumption); exact gr_auto)
            have b2_0 : w.heap.size < W2.heap.size := World.block_lt_of_cell? _ _ k2_0
            have k2_1 : W2.cell? ⟨w.heap.size, 1, none⟩ = some (.int .i64 fb) := by rw [hW2]; first | (simp [go_sem, *]; done) | (refine Gr.at ?_ (by assumption); exact gr_auto)
            have k2_2 : W2.cell? ⟨w.heap.size, 2, none⟩ = some (.int .i64 fc) := by rw [hW2]; first | (simp [go_sem, *]; done) | (refine Gr.at ?_ (by assumption); exact gr_auto)
            have k2_3 : W2.cell? ⟨w.heap.size, 3, none⟩ = some (.int .i64 fk) := by rw [hW2]; first | (simp [go_sem, *]; done) | (refine Gr.at ?_ (by assumption); exact gr_auto)
            have k2_4 : W2.cell? ⟨w.heap.size + 1, 0, none⟩ = some (.int .i64 ga) := by rw [hW2]; first | (simp [go_sem, *]; done) | (refine Gr.at ?_ (by assumption); exact gr_auto)
            have b2_4 : w.heap.size + 1 < W2.heap.size := World.block_lt_of_cell? _ _ k2_4
            have k2_5 : W2.cell? ⟨w.heap.size + 1, 1, none⟩ = some (.int .i64 gb) := by rw [hW2]; first | (simp [go_sem, *]; done) | (refine Gr.at ?_ (by assumption); exact gr_auto)
            have k2_6 : W2.cell? ⟨w.heap.size + 1, 2, none⟩ = some (.int .i64 gc) := by rw [hW2]; first | (simp [go_sem, *]; done) | (refine Gr.at ?_ (by assumption); exact gr_auto)
            have k2_7 : W2.cell? ⟨w.heap.size + 1, 3, none⟩ = some (.int .i64 gk) := by rw [hW2]; first | (simp [go_sem, *]; done) | (refine Gr.at ?_ (by assumption); exact gr_auto)
            clear hW2
            have s2_0 : ∀ gw : GW W2, gw.1.cell? ⟨w.heap.size, 0, none⟩ = some (.int .i64 fa) := fun gw => Gr.at gw.2 k2_0
            have s2_1 : ∀ gw : GW W2, gw.1.cell? ⟨w.heap.size, 1, none⟩ = some (.int .i64 fb) := fun gw => Gr.at gw.2 k2_1
            have s2_2 : ∀ gw : GW W2, gw.1.cell? ⟨w.heap.size, 2, none⟩ = some (.int .i64 fc) := fun gw => Gr.at gw.2 k2_2
            have s2_3 : ∀ gw : GW W2, gw.1.cell? ⟨w.heap.size, 3, none⟩ = some (.int .i64 fk) := fun gw => Gr.at gw.2 k2_3
            have s2_4 : ∀ gw : GW W2, gw.1.cell? ⟨w.heap.size + 1, 0, none⟩ = some (.int .i64 ga) := fun gw => Gr.at gw.2 k2_4
            have s2_5 : ∀ gw : GW W2, gw.1.cell? ⟨w.heap.size + 1, 1, none⟩ = some (.int .i64 gb) := fun gw => Gr.at gw.2 k2_5
            have s2_6 : ∀ gw : GW W2, gw.1.cell? ⟨w.heap.size + 1, 2, none⟩ = some (.int .i64 gc) := fun gw => Gr.at gw.2 k2_6
            have s2_7 : ∀ gw : GW W2, gw.1.cell? ⟨w.heap.size + 1, 3, none⟩ = some (.int .i64 gk) := fun gw => Gr.at gw.2 k2_7
            have B1 := Lib.hid (fun gw : GW W2 => gw_call (A1.out gw.1))
            have B2 := Lib.hid (fun gw : GW W2 => gw_call (A2.out gw.1))
            have B3 := Lib.hid (fun gw : GW W2 => gw_call (A3.out gw.1))
            have B4 := Lib.hid (fun gw : GW W2 => gw_call (A4.out gw.1))
            refine wp_region_gr (by kernel_rfl) (by kernel_rfl) ?_
            repeat (go_big_quiet_step (first | (go_at_call 143; with_reducible exact B1.out _) | (go_at_call 143; with_reducible exact B2.out _) | (go_at_call 143; with_reducible exact B3.out _) | (go_at_call 143; with_reducible exact B4.out _)))
            refine wpQuiet_nil ?_
            intro w3 hb3
            clear s2_0 s2_1 s2_2 s2_3 s2_4 s2_5 s2_6 s2_7
            have g3 : Gr w w3 := g2.trans hb3
            have k2_0 := Gr.at hb3 k2_0
            have k2_1 := Gr.at hb3 k2_1
            have k2_2 := Gr.at hb3 k2_2
            have k2_3 := Gr.at hb3 k2_3
            have k2_4 := Gr.at hb3 k2_4
            have k2_5 := Gr.at hb3 k2_5
            have k2_6 := Gr.at hb3 k2_6
            have k2_7 := Gr.at hb3 k2_7
            go_wp2_with fail
            go_roundw
            case rel => exact ⟨k + 1, by omega, by go_num, HR, hg.trans (gb2_wr.trans hb3)⟩
            case measure => simp [intOf]; omega
          · cases q2 : (x3 == x4)
            · rw [q1, q2] at hPk
              have HR := Lib.hid (Ms.any_go HQ2.out hPk)
              clear hPk
              go_wp2_with fail
              (first | refine name_world ?_ | refine (show (∀ W, W = _ → Calls _ _ _ W _) → Calls _ _ _ _ _ from fun h => h _ rfl) ?_); intro W2 hW2
              have g2 : Gr w W2 := by rw [hW2]; exact gr_auto
              have gb2_wr : Gr wr W2 := by (try clear g2); rw [hW2]; exact gr_auto
              have k2_0 : W2.cell? ⟨w.heap.size, 0, none⟩ = some (.int .i64 fa) := by rw [hW2]; first | (simp [go_sem, *]; done) | (refine Gr.at ?_ (by assumption); exact gr_auto)
              have b2_0 : w.heap.size < W2.heap.size := World.block_lt_of_cell? _ _ k2_0
              have k2_1 : W2.cell? ⟨w.heap.size, 1, none⟩ = some (.int .i64 fb) := by rw [hW2]; first | (simp [go_sem, *]; done) | (refine Gr.at ?_ (by assumption); exact gr_auto)
              have k2_2 : W2.cell? ⟨w.heap.size, 2, none⟩ = some (.int .i64 fc) := by rw [hW2]; first | (simp [go_sem, *]; done) | (refine Gr.at ?_ (by assumption); exact gr_auto)
              have k2_3 : W2.cell? ⟨w.heap.size, 3, none⟩ = some (.int .i64 fk) := by rw [hW2]; first | (simp [go_sem, *]; done) | (refine Gr.at ?_ (by assumption); exact gr_auto)
              have k2_4 : W2.cell? ⟨w.heap.size + 1, 0, none⟩ = some (.int .i64 ga) := by rw [hW2]; first | (simp [go_sem, *]; done) | (refine Gr.at ?_ (by assumption); exact gr_auto)
              have b2_4 : w.heap.size + 1 < W2.heap.size := World.block_lt_of_cell? _ _ k2_4
              have k2_5 : W2.cell? ⟨w.heap.size + 1, 1, none⟩ = some (.int .i64 gb) := by rw [hW2]; first | (simp [go_sem, *]; done) | (refine Gr.at ?_ (by assumption); exact gr_auto)
              have k2_6 : W2.cell? ⟨w.heap.size + 1, 2, none⟩ = some (.int .i64 gc) := by rw [hW2]; first | (simp [go_sem, *]; done) | (refine Gr.at ?_ (by assumption); exact gr_auto)
              have k2_7 : W2.cell? ⟨w.heap.size + 1, 3, none⟩ = some (.int .i64 gk) := by rw [hW2]; first | (simp [go_sem, *]; done) | (refine Gr.at ?_ (by assumption); exact gr_auto)
              clear hW2
              have s2_0 : ∀ gw : GW W2, gw.1.cell? ⟨w.heap.size, 0, none⟩ = some (.int .i64 fa) := fun gw => Gr.at gw.2 k2_0
              have s2_1 : ∀ gw : GW W2, gw.1.cell? ⟨w.heap.size, 1, none⟩ = some (.int .i64 fb) := fun gw => Gr.at gw.2 k2_1
              have s2_2 : ∀ gw : GW W2, gw.1.cell? ⟨w.heap.size, 2, none⟩ = some (.int .i64 fc) := fun gw => Gr.at gw.2 k2_2
              have s2_3 : ∀ gw : GW W2, gw.1.cell? ⟨w.heap.size, 3, none⟩ = some (.int .i64 fk) := fun gw => Gr.at gw.2 k2_3
              have s2_4 : ∀ gw : GW W2, gw.1.cell? ⟨w.heap.size + 1, 0, none⟩ = some (.int .i64 ga) := fun gw => Gr.at gw.2 k2_4
              have s2_5 : ∀ gw : GW W2, gw.1.cell? ⟨w.heap.size + 1, 1, none⟩ = some (.int .i64 gb) := fun gw => Gr.at gw.2 k2_5
              have s2_6 : ∀ gw : GW W2, gw.1.cell? ⟨w.heap.size + 1, 2, none⟩ = some (.int .i64 gc) := fun gw => Gr.at gw.2 k2_6
              have s2_7 : ∀ gw : GW W2, gw.1.cell? ⟨w.heap.size + 1, 3, none⟩ = some (.int .i64 gk) := fun gw => Gr.at gw.2 k2_7
              have B1 := Lib.hid (fun gw : GW W2 => gw_call (A1.out gw.1))
              have B2 := Lib.hid (fun gw : GW W2 => gw_call (A2.out gw.1))
              have B3 := Lib.hid (fun gw : GW W2 => gw_call (A3.out gw.1))
              have B4 := Lib.hid (fun gw : GW W2 => gw_call (A4.out gw.1))
              refine wp_region_gr (by kernel_rfl) (by kernel_rfl) ?_
              repeat (go_big_quiet_step (first | (go_at_call 143; with_reducible exact B1.out _) | (go_at_call 143; with_reducible exact B2.out _) | (go_at_call 143; with_reducible exact B3.out _) | (go_at_call 143; with_reducible exact B4.out _)))
              refine wpQuiet_nil ?_
              intro w3 hb3
              clear s2_0 s2_1 s2_2 s2_3 s2_4 s2_5 s2_6 s2_7
              have g3 : Gr w w3 := g2.trans hb3
              have k2_0 := Gr.at hb3 k2_0
              have k2_1 := Gr.at hb3 k2_1
              have k2_2 := Gr.at hb3 k2_2
              have k2_3 := Gr.at hb3 k2_3
              have k2_4 := Gr.at hb3 k2_4
              have k2_5 := Gr.at hb3 k2_5
              have k2_6 := Gr.at hb3 k2_6
              have k2_7 := Gr.at hb3 k2_7
              go_wp2_with fail
              go_roundw
              case rel => exact ⟨k + 1, by omega, by go_num, HR, hg.trans (gb2_wr.trans hb3)⟩
              case measure => simp [intOf]; omega
            · rw [q1, q2] at hPk
              have HR := Lib.hid (Ms.any_hit (p := fun i => Ba.any (fun k => P i k) 3) (i := i) (n := 3) (Ms.any_hit (p := fun k => P i k) hPk hlk) hlt)
              clear hPk
              go_wp2_with fail
              (first | refine name_world ?_ | refine (show (∀ W, W = _ → Calls _ _ _ W _) → Calls _ _ _ _ _ from fun h => h _ rfl) ?_); intro W2 hW2
              have g2 : Gr w W2 := by rw [hW2]; exact gr_auto
              have gb2_wr : Gr wr W2 := by (try clear g2); rw [hW2]; exact gr_auto
              have k2_0 : W2.cell? ⟨w.heap.size, 0, none⟩ = some (.int .i64 fa) := by rw [hW2]; first | (simp [go_sem, *]; done) | (refine Gr.at ?_ (by assumption); exact gr_auto)
              have b2_0 : w.heap.size < W2.heap.size := World.block_lt_of_cell? _ _ k2_0
              have k2_1 : W2.cell? ⟨w.heap.size, 1, none⟩ = some (.int .i64 fb) := by rw [hW2]; first | (simp [go_sem, *]; done) | (refine Gr.at ?_ (by assumption); exact gr_auto)
              have k2_2 : W2.cell? ⟨w.heap.size, 2, none⟩ = some (.int .i64 fc) := by rw [hW2]; first | (simp [go_sem, *]; done) | (refine Gr.at ?_ (by assumption); exact gr_auto)
              have k2_3 : W2.cell? ⟨w.heap.size, 3, none⟩ = some (.int .i64 fk) := by rw [hW2]; first | (simp [go_sem, *]; done) | (refine Gr.at ?_ (by assumption); exact gr_auto)
              have k2_4 : W2.cell? ⟨w.heap.size + 1, 0, none⟩ = some (.int .i64 ga) := by rw [hW2]; first | (simp [go_sem, *]; done) | (refine Gr.at ?_ (by assumption); exact gr_auto)
              have b2_4 : w.heap.size + 1 < W2.heap.size := World.block_lt_of_cell? _ _ k2_4
              have k2_5 : W2.cell? ⟨w.heap.size + 1, 1, none⟩ = some (.int .i64 gb) := by rw [hW2]; first | (simp [go_sem, *]; done) | (refine Gr.at ?_ (by assumption); exact gr_auto)
              have k2_6 : W2.cell? ⟨w.heap.size + 1, 2, none⟩ = some (.int .i64 gc) := by rw [hW2]; first | (simp [go_sem, *]; done) | (refine Gr.at ?_ (by assumption); exact gr_auto)
              have k2_7 : W2.cell? ⟨w.heap.size + 1, 3, none⟩ = some (.int .i64 gk) := by rw [hW2]; first | (simp [go_sem, *]; done) | (refine Gr.at ?_ (by assumption); exact gr_auto)
              clear hW2
              have s2_0 : ∀ gw : GW W2, gw.1.cell? ⟨w.heap.size, 0, none⟩ = some (.int .i64 fa) := fun gw => Gr.at gw.2 k2_0
              have s2_1 : ∀ gw : GW W2, gw.1.cell? ⟨w.heap.size, 1, none⟩ = some (.int .i64 fb) := fun gw => Gr.at gw.2 k2_1
              have s2_2 : ∀ gw : GW W2, gw.1.cell? ⟨w.heap.size, 2, none⟩ = some (.int .i64 fc) := fun gw => Gr.at gw.2 k2_2
              have s2_3 : ∀ gw : GW W2, gw.1.cell? ⟨w.heap.size, 3, none⟩ = some (.int .i64 fk) := fun gw => Gr.at gw.2 k2_3
              have s2_4 : ∀ gw : GW W2, gw.1.cell? ⟨w.heap.size + 1, 0, none⟩ = some (.int .i64 ga) := fun gw => Gr.at gw.2 k2_4
              have s2_5 : ∀ gw : GW W2, gw.1.cell? ⟨w.heap.size + 1, 1, none⟩ = some (.int .i64 gb) := fun gw => Gr.at gw.2 k2_5
              have s2_6 : ∀ gw : GW W2, gw.1.cell? ⟨w.heap.size + 1, 2, none⟩ = some (.int .i64 gc) := fun gw => Gr.at gw.2 k2_6
              have s2_7 : ∀ gw : GW W2, gw.1.cell? ⟨w.heap.size + 1, 3, none⟩ = some (.int .i64 gk) := fun gw => Gr.at gw.2 k2_7
              have B1 := Lib.hid (fun gw : GW W2 => gw_call (A1.out gw.1))
              have B2 := Lib.hid (fun gw : GW W2 => gw_call (A2.out gw.1))
              have B3 := Lib.hid (fun gw : GW W2 => gw_call (A3.out gw.1))
              have B4 := Lib.hid (fun gw : GW W2 => gw_call (A4.out gw.1))
              refine wp_region_gr (by kernel_rfl) (by kernel_rfl) ?_
              repeat (go_big_quiet_step (first | (go_at_call 143; with_reducible exact B1.out _) | (go_at_call 143; with_reducible exact B2.out _) | (go_at_call 143; with_reducible exact B3.out _) | (go_at_call 143; with_reducible exact B4.out _)))
              refine wpQuiet_nil ?_
              intro w3 hb3
              clear s2_0 s2_1 s2_2 s2_3 s2_4 s2_5 s2_6 s2_7
              have g3 : Gr w w3 := g2.trans hb3
              have k2_0 := Gr.at hb3 k2_0
              have k2_1 := Gr.at hb3 k2_1
              have k2_2 := Gr.at hb3 k2_2
              have k2_3 := Gr.at hb3 k2_3
              have k2_4 := Gr.at hb3 k2_4
              have k2_5 := Gr.at hb3 k2_5
              have k2_6 := Gr.at hb3 k2_6
              have k2_7 := Gr.at hb3 k2_7
              go_wp2_with fail
              go_ret
              exact ⟨by rw [HR.out]; rfl, g3⟩
        · obtain rfl : k = 3 := by omega
          have HR := Lib.hid (Ms.any_go HQ.out HQ2.out)
          clear HQ HQ2
          go_wp2_with fail
          go_roundw
          case rel => exact ⟨i + 1, by omega, by go_num, HR, hg⟩
          case measure => simp [intOf]; omega
    · obtain rfl : i = 3 := by omega
      clear HF HG HP
      go_wp2_with fail
      go_ret
      exact ⟨by rw [HQ.out]; rfl, g0.trans hg⟩
end Go.Proofs.YtajhhplgcegodaaGreatDoor
