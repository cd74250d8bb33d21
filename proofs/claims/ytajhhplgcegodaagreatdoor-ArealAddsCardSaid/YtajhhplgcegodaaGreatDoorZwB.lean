/-
  Areal: the reference's Weights answers what areal.Weights answers. (Printed by mkzb.py.)
-/
import Derived.Test.YtajhhplgcegodaaGreatDoorZwA
import Derived.Test.YtajhhplgcegodaaGreatDoorArL
import Derived.Test.YtajhhplgcegodaaGreatDoorMsS
set_option linter.unusedVariables false
set_option linter.unusedSimpArgs false
namespace Go.Proofs.YtajhhplgcegodaaGreatDoor
open Go.RowKit
attribute [local go_sem ↓] Go.wp_at_zero Go.wp_at_succ
theorem Ba.bad_inl (P : Ba.SlI) (i : Nat) : (P.X i = -1 → Ba.badI P i = false) ∧ (P.X i ≠ -1 → Ba.badI P i = !Ba.inl (P.X i)) := by
  unfold Ba.badI Ba.inl
  refine ⟨fun h => by rw [h]; rfl, fun h => ?_⟩
  rw [Bool.eq_iff_iff]
  simp
  omega
set_option maxRecDepth 100000 in
set_option maxHeartbeats 4000000 in
theorem rinl_any (x : Int) (w : World) : Calls Tryz.prog 37 #[.int .i64 x] w fun e w' => e = .returned (.bool (Ba.inl x)) ∧ Gr w w' := by
  unfold Ba.inl
  cases t0 : decide (0 ≤ x)
  · go_enter Tryz.func37, Tryz.ntmps37
    go_wp2_with fail
    go_ret
    exact ⟨rfl, gr_auto⟩
  · cases t1 : decide (x < 300)
    · go_enter Tryz.func37, Tryz.ntmps37
      go_wp2_with fail
      go_ret
      exact ⟨rfl, gr_auto⟩
    · go_enter Tryz.func37, Tryz.ntmps37
      go_wp2_with fail
      go_ret
      exact ⟨rfl, gr_auto⟩
set_option maxRecDepth 100000 in
set_option maxHeartbeats 4000000 in
theorem rof_any (m : Ms.Mesh) (G : Ba.SlGauge) (i : Nat) (w : World) (h : m.At w) (hG : G.At w) (hi : i < m.F.n) (hv : Ms.fcB m (m.F.D i) = true) (hg : Ba.gasB G = true) : Calls Tryz.prog 38 #[m.val, .int .i64 (i : Int), .slice G.A G.n G.c] w fun e w' => e = .returned (.int .i64 (Ba.fg m G i : Int)) ∧ Gr w w' := by
  have HT := Lib.hid (fun W (hW : Gr w W) => rs_tri m (m.F.D i) W (h.s.gr hW) hv)
  have HN := Lib.hid (fun W (hW : Gr w W) => rnear3_any G (Ba.mX m (m.F.D i)) (Ba.mY m (m.F.D i)) W (hG.gr hW) hg (Ba.mid_ok hv))
  have tk := Ms.tri_ok hv
  unfold RetTri at HT
  unfold Ms.tOk Ms.cd at tk
  obtain ⟨a0, a1, a2, a3⟩ := (h.f.hD i hi).1
  have hiF := hi
  have hfc := h.f.hc; have hfb := h.f.hb; have hgm := Nat.le_trans hG.hc hG.hb
  have hFA := h.f.hA (by omega)
  show Calls Tryz.prog 38 _ w fun e w' => e = .returned (.int .i64 (Ba.nsT G (Ba.mX m (m.F.D i)) (Ba.mY m (m.F.D i)) G.n : Int)) ∧ Gr w w'
  have emx : Ba.mX m (m.F.D i) = (Ms.tri m (m.F.D i)).x0 + (Ms.tri m (m.F.D i)).x1 + (Ms.tri m (m.F.D i)).x2 := rfl
  have emy : Ba.mY m (m.F.D i) = (Ms.tri m (m.F.D i)).y0 + (Ms.tri m (m.F.D i)).y1 + (Ms.tri m (m.F.D i)).y2 := rfl
  rw [emx, emy] at HN ⊢
  clear h hG hv hg emx emy
  generalize Ba.nsT G _ _ G.n = ns at *
  unfold Ms.Mesh.val Ba.Face.val at *
  rw [hFA] at HT ⊢
  clear hFA
  generalize Ms.tri m (m.F.D i) = t at *
  generalize m.F.D i = f at *
  generalize m.S.A = sA at *; generalize m.S.n = sn at *; generalize m.S.c = sc at *; generalize m.F.n = fn at *; generalize m.F.c = fc at *; generalize m.F.b = fb at *; generalize m.F.o = fo at *
  generalize G.A = gA at *; generalize G.n = gn at *; generalize G.c = gc at *
  obtain ⟨x0, y0, x1, y1, x2, y2⟩ := t
  obtain ⟨fa, fb', fc', fk⟩ := f
  simp only at *
  have ib0 : (0 : Int) ≤ (i : Int) := by omega
  have ib1 : (i : Int) < (fn : Int) := by omega
  have zf := World.block_lt_of_cell? _ _ a0
  simp only at zf
  go_enter Tryz.func38, Tryz.ntmps38
  go_wp2_with fail
  -- @a
  (first | refine name_world ?_ | refine (show (∀ W, W = _ → Calls _ _ _ W _) → Calls _ _ _ _ _ from fun h => h _ rfl) ?_); intro W1 hW1
  have g1 : Gr w W1 := by rw [hW1]; exact gr_auto
  have k1_0 : W1.cell? ⟨w.heap.size, 0, none⟩ = some (.slice sA sn sc) := by rw [hW1]; first | (simp [go_sem, *]; done) | (refine Gr.at ?_ (by assumption); exact gr_auto)
  have b1_0 : w.heap.size < W1.heap.size := World.block_lt_of_cell? _ _ k1_0
  have k1_1 : W1.cell? ⟨w.heap.size, 1, none⟩ = some (.slice (some ⟨fb, fo, none⟩) fn fc) := by rw [hW1]; first | (simp [go_sem, *]; done) | (refine Gr.at ?_ (by assumption); exact gr_auto)
  have k1_2 : W1.cell? ⟨fb, fo + i * 4, none⟩ = some (.int .i64 fa) := by rw [hW1]; first | (simp [go_sem, *]; done) | (refine Gr.at ?_ (by assumption); exact gr_auto)
  have b1_2 : fb < W1.heap.size := World.block_lt_of_cell? _ _ k1_2
  have k1_3 : W1.cell? ⟨fb, fo + i * 4 + 1, none⟩ = some (.int .i64 fb') := by rw [hW1]; first | (simp [go_sem, *]; done) | (refine Gr.at ?_ (by assumption); exact gr_auto)
  have k1_4 : W1.cell? ⟨fb, fo + i * 4 + 2, none⟩ = some (.int .i64 fc') := by rw [hW1]; first | (simp [go_sem, *]; done) | (refine Gr.at ?_ (by assumption); exact gr_auto)
  have k1_5 : W1.cell? ⟨fb, fo + i * 4 + 3, none⟩ = some (.int .i64 fk) := by rw [hW1]; first | (simp [go_sem, *]; done) | (refine Gr.at ?_ (by assumption); exact gr_auto)
  clear hW1
  have s1_0 : ∀ w', Gr W1 w' → w'.cell? ⟨w.heap.size, 0, none⟩ = some (.slice sA sn sc) := fun w' hgW => Gr.at hgW k1_0
  have s1_1 : ∀ w', Gr W1 w' → w'.cell? ⟨w.heap.size, 1, none⟩ = some (.slice (some ⟨fb, fo, none⟩) fn fc) := fun w' hgW => Gr.at hgW k1_1
  have s1_2 : ∀ w', Gr W1 w' → w'.cell? ⟨fb, fo + i * 4, none⟩ = some (.int .i64 fa) := fun w' hgW => Gr.at hgW k1_2
  have s1_3 : ∀ w', Gr W1 w' → w'.cell? ⟨fb, fo + i * 4 + 1, none⟩ = some (.int .i64 fb') := fun w' hgW => Gr.at hgW k1_3
  have s1_4 : ∀ w', Gr W1 w' → w'.cell? ⟨fb, fo + i * 4 + 2, none⟩ = some (.int .i64 fc') := fun w' hgW => Gr.at hgW k1_4
  have s1_5 : ∀ w', Gr W1 w' → w'.cell? ⟨fb, fo + i * 4 + 3, none⟩ = some (.int .i64 fk) := fun w' hgW => Gr.at hgW k1_5
  first | (go_region_held3 (fun w' => Gr W1 w') (exact gr_auto) ((go_at_call 80; refine (HT.out _ (Gr.drew g1)).mono ?_; rintro e w5 ⟨B, rfl, hB, ⟨c0, c1, c2, c3, c4, c5⟩, hb5⟩; simp only [Nat.zero_add] at c0 c1 c2 c3 c4 c5))) | fail
  -- @b
  all_goals (
    have GG5 : Gr w w5 := g1.trans (Gr.trans (Gr.drew (Gr.refl _)) hb5)
    clear HT a0 a1 a2 a3
    go_wp2_with fail
    -- @c
    (first | refine name_world ?_ | refine (show (∀ W, W = _ → Calls _ _ _ W _) → Calls _ _ _ _ _ from fun h => h _ rfl) ?_); intro W6 hW6
    have g6 : Gr w W6 := by rw [hW6]; exact gr_auto
    have gb6_w5 : Gr w5 W6 := by (try clear g6); rw [hW6]; exact gr_auto
    have k6_0 : W6.cell? ⟨B, 0, none⟩ = some (.int .i64 x0) := by rw [hW6]; first | (simp [go_sem, *]; done) | (refine Gr.at ?_ (by assumption); exact gr_auto)
    have b6_0 : B < W6.heap.size := World.block_lt_of_cell? _ _ k6_0
    have k6_1 : W6.cell? ⟨B, 1, none⟩ = some (.int .i64 y0) := by rw [hW6]; first | (simp [go_sem, *]; done) | (refine Gr.at ?_ (by assumption); exact gr_auto)
    have k6_2 : W6.cell? ⟨B, 2, none⟩ = some (.int .i64 x1) := by rw [hW6]; first | (simp [go_sem, *]; done) | (refine Gr.at ?_ (by assumption); exact gr_auto)
    have k6_3 : W6.cell? ⟨B, 3, none⟩ = some (.int .i64 y1) := by rw [hW6]; first | (simp [go_sem, *]; done) | (refine Gr.at ?_ (by assumption); exact gr_auto)
    have k6_4 : W6.cell? ⟨B, 4, none⟩ = some (.int .i64 x2) := by rw [hW6]; first | (simp [go_sem, *]; done) | (refine Gr.at ?_ (by assumption); exact gr_auto)
    have k6_5 : W6.cell? ⟨B, 5, none⟩ = some (.int .i64 y2) := by rw [hW6]; first | (simp [go_sem, *]; done) | (refine Gr.at ?_ (by assumption); exact gr_auto)
    clear hW6
    have s6_0 : ∀ gw : GW W6, gw.1.cell? ⟨B, 0, none⟩ = some (.int .i64 x0) := fun gw => Gr.at gw.2 k6_0
    have s6_1 : ∀ gw : GW W6, gw.1.cell? ⟨B, 1, none⟩ = some (.int .i64 y0) := fun gw => Gr.at gw.2 k6_1
    have s6_2 : ∀ gw : GW W6, gw.1.cell? ⟨B, 2, none⟩ = some (.int .i64 x1) := fun gw => Gr.at gw.2 k6_2
    have s6_3 : ∀ gw : GW W6, gw.1.cell? ⟨B, 3, none⟩ = some (.int .i64 y1) := fun gw => Gr.at gw.2 k6_3
    have s6_4 : ∀ gw : GW W6, gw.1.cell? ⟨B, 4, none⟩ = some (.int .i64 x2) := fun gw => Gr.at gw.2 k6_4
    have s6_5 : ∀ gw : GW W6, gw.1.cell? ⟨B, 5, none⟩ = some (.int .i64 y2) := fun gw => Gr.at gw.2 k6_5
    have Q1 := Lib.hid (fun gw : GW W6 => gw_call (HN.out gw.1 (GG5.trans (gb6_w5.trans gw.2))))
    refine wp_region_gr (by kernel_rfl) (by kernel_rfl) ?_
    repeat (go_big_quiet_step ((go_at_call 81; with_reducible exact Q1.out _)))
    refine wpQuiet_nil ?_
    intro w7 hb7
    clear s6_0 s6_1 s6_2 s6_3 s6_4 s6_5
    have g7 : Gr w w7 := g6.trans hb7
    have k6_0 := Gr.at hb7 k6_0
    have k6_1 := Gr.at hb7 k6_1
    have k6_2 := Gr.at hb7 k6_2
    have k6_3 := Gr.at hb7 k6_3
    have k6_4 := Gr.at hb7 k6_4
    have k6_5 := Gr.at hb7 k6_5
    -- @d
    go_wp2_with fail
    go_ret
    exact ⟨rfl, GG5.trans (gb6_w5.trans hb7)⟩)
set_option maxRecDepth 100000 in
set_option maxHeartbeats 4000000 in
theorem rwe_no1 (m : Ms.Mesh) (P : Ba.SlI) (G : Ba.SlGauge) (k : Int) (w : World) (h : m.At w) (hP : P.At w) (hG : G.At w) (hs : Ms.smB m = false ∨ (m.S.n ≤ 60 ∧ m.F.n ≤ 60)) (hv : Ms.vlB m = false) : Calls Tryz.prog 10 #[m.val, .slice P.A P.n P.c, .slice G.A G.n G.c, .int .i64 k] w (RetWe m P G k w) := by
  have HV := Lib.hid (fun W (hW : Gr w W) => rs_valid m W ⟨h.s.gr hW, h.f.gr hW⟩ hs)
  rw [hv] at HV
  have HE := Lib.hid (fun w' (g : Gr w w') => we_none (m := m) (P := P) (G := G) (k := k) (x := 1) (by unfold Ba.weE; rw [hv]; rfl) (by decide) g)
  clear hv
  have hpm := Nat.le_trans hP.hc hP.hb; have hgm := Nat.le_trans hG.hc hG.hb; have hfm := Nat.le_trans h.f.hc h.f.hb
  unfold Ms.Mesh.val at *
  generalize m.S.A = sA at *; generalize m.S.n = sn at *; generalize m.S.c = sc at *; generalize m.F.A = fA at *; generalize m.F.n = fn at *; generalize m.F.c = fc at *
  generalize P.A = pA at *; generalize P.n = pn at *; generalize P.c = pc at *
  generalize G.A = gA at *; generalize G.n = gn at *; generalize G.c = gc at *
  go_enter Tryz.func10, Tryz.ntmps10
  go_wp2_with fail
  refine (HV.out _ (by exact gr_auto)).mono ?_
  rintro e w1 ⟨rfl, hb1⟩
  have g1 : Gr w w1 := Gr.trans (by exact gr_auto) hb1
  have d0 := Gr.at hb1 (b := w.heap.size) (o := 0) (v := .slice sA sn sc) (by simp [go_sem])
  have d1 := Gr.at hb1 (b := w.heap.size) (o := 1) (v := .slice fA fn fc) (by simp [go_sem])
  clear HV hb1
  go_wp2_with fail
  go_ret2
  exact HE.out _ g1
set_option maxRecDepth 100000 in
set_option maxHeartbeats 4000000 in
theorem rwe_no2 (m : Ms.Mesh) (P : Ba.SlI) (G : Ba.SlGauge) (k : Int) (w : World) (h : m.At w) (hP : P.At w) (hG : G.At w) (hs : Ms.smB m = false ∨ (m.S.n ≤ 60 ∧ m.F.n ≤ 60)) (hv : Ms.vlB m = true) (hg : Ba.gasB G = false) : Calls Tryz.prog 10 #[m.val, .slice P.A P.n P.c, .slice G.A G.n G.c, .int .i64 k] w (RetWe m P G k w) := by
  have HV := Lib.hid (fun W (hW : Gr w W) => rs_valid m W ⟨h.s.gr hW, h.f.gr hW⟩ hs)
  rw [hv] at HV
  have HG := Lib.hid (fun W (hh : Gr w W) => rgvals_any G W (hG.gr hh))
  rw [hg] at HG
  have HE := Lib.hid (fun w' (g : Gr w w') => we_none (m := m) (P := P) (G := G) (k := k) (x := 1) (by unfold Ba.weE; rw [hv, hg]; rfl) (by decide) g)
  clear hv hg
  have hpm := Nat.le_trans hP.hc hP.hb; have hgm := Nat.le_trans hG.hc hG.hb; have hfm := Nat.le_trans h.f.hc h.f.hb
  unfold Ms.Mesh.val at *
  generalize m.S.A = sA at *; generalize m.S.n = sn at *; generalize m.S.c = sc at *; generalize m.F.A = fA at *; generalize m.F.n = fn at *; generalize m.F.c = fc at *
  generalize P.A = pA at *; generalize P.n = pn at *; generalize P.c = pc at *
  generalize G.A = gA at *; generalize G.n = gn at *; generalize G.c = gc at *
  go_enter Tryz.func10, Tryz.ntmps10
  go_wp2_with fail
  refine (HV.out _ (by exact gr_auto)).mono ?_
  rintro e w1 ⟨rfl, hb1⟩
  have g1 : Gr w w1 := Gr.trans (by exact gr_auto) hb1
  have d0 := Gr.at hb1 (b := w.heap.size) (o := 0) (v := .slice sA sn sc) (by simp [go_sem])
  have d1 := Gr.at hb1 (b := w.heap.size) (o := 1) (v := .slice fA fn fc) (by simp [go_sem])
  clear HV hb1
  go_wp2_with fail
  refine (HG.out _ g1).mono ?_
  rintro e w2 ⟨rfl, hb2⟩
  have g2 := g1.trans hb2
  replace d0 := Gr.at hb2 d0; replace d1 := Gr.at hb2 d1
  clear HG hb2
  go_wp2_with fail
  go_ret2
  exact HE.out _ g2
set_option maxRecDepth 100000 in
set_option maxHeartbeats 4000000 in
theorem rwe_no3 (m : Ms.Mesh) (P : Ba.SlI) (G : Ba.SlGauge) (k : Int) (w : World) (h : m.At w) (hP : P.At w) (hG : G.At w) (hs : Ms.smB m = false ∨ (m.S.n ≤ 60 ∧ m.F.n ≤ 60)) (hv : Ms.vlB m = true) (hg : Ba.gasB G = true) (hn : P.n ≠ m.F.n) : Calls Tryz.prog 10 #[m.val, .slice P.A P.n P.c, .slice G.A G.n G.c, .int .i64 k] w (RetWe m P G k w) := by
  have HV := Lib.hid (fun W (hW : Gr w W) => rs_valid m W ⟨h.s.gr hW, h.f.gr hW⟩ hs)
  rw [hv] at HV
  have HG := Lib.hid (fun W (hh : Gr w W) => rgvals_any G W (hG.gr hh))
  rw [hg] at HG
  have HE := Lib.hid (fun w' (g : Gr w w') => we_none (m := m) (P := P) (G := G) (k := k) (x := 3) (by unfold Ba.weE; rw [hv, hg, if_neg hn]; rfl) (by decide) g)
  have hn2 : ¬ (P.n : Int) = (m.F.n : Int) := by omega
  clear hv hg hn
  have hpm := Nat.le_trans hP.hc hP.hb; have hgm := Nat.le_trans hG.hc hG.hb; have hfm := Nat.le_trans h.f.hc h.f.hb
  unfold Ms.Mesh.val at *
  generalize m.S.A = sA at *; generalize m.S.n = sn at *; generalize m.S.c = sc at *; generalize m.F.A = fA at *; generalize m.F.n = fn at *; generalize m.F.c = fc at *
  generalize P.A = pA at *; generalize P.n = pn at *; generalize P.c = pc at *
  generalize G.A = gA at *; generalize G.n = gn at *; generalize G.c = gc at *
  go_enter Tryz.func10, Tryz.ntmps10
  go_wp2_with fail
  refine (HV.out _ (by exact gr_auto)).mono ?_
  rintro e w1 ⟨rfl, hb1⟩
  have g1 : Gr w w1 := Gr.trans (by exact gr_auto) hb1
  have d0 := Gr.at hb1 (b := w.heap.size) (o := 0) (v := .slice sA sn sc) (by simp [go_sem])
  have d1 := Gr.at hb1 (b := w.heap.size) (o := 1) (v := .slice fA fn fc) (by simp [go_sem])
  clear HV hb1
  go_wp2_with fail
  refine (HG.out _ g1).mono ?_
  rintro e w2 ⟨rfl, hb2⟩
  have g2 := g1.trans hb2
  replace d0 := Gr.at hb2 d0; replace d1 := Gr.at hb2 d1
  clear HG hb2
  go_wp2_with fail
  go_ret2
  exact HE.out _ g2
set_option maxRecDepth 100000 in
set_option maxHeartbeats 4000000 in
theorem rwe_main (m : Ms.Mesh) (P : Ba.SlI) (G : Ba.SlGauge) (k : Int) (w : World) (h : m.At w) (hP : P.At w) (hG : G.At w) (hs : Ms.smB m = false ∨ (m.S.n ≤ 60 ∧ m.F.n ≤ 60)) (hv : Ms.vlB m = true) (hg : Ba.gasB G = true) (hn : P.n = m.F.n) : Calls Tryz.prog 10 #[m.val, .slice P.A P.n P.c, .slice G.A G.n G.c, .int .i64 k] w (RetWe m P G k w) := by
  have HV := Lib.hid (fun W (hW : Gr w W) => rs_valid m W ⟨h.s.gr hW, h.f.gr hW⟩ hs)
  rw [hv] at HV
  have HG := Lib.hid (fun W (hh : Gr w W) => rgvals_any G W (hG.gr hh))
  rw [hg] at HG
  have HE2 := Lib.hid (fun w' (g : Gr w w') (hi : (Ba.inl k && !Ba.any (Ba.badI P) P.n) = false) => we_none (m := m) (P := P) (G := G) (k := k) (x := 2) (by unfold Ba.weE; rw [hv, hg, if_pos hn, hi]; rfl) (by decide) g)
  have HBD := Lib.hid (fun i => Ba.bad_inl P i)
  have HIL := Lib.hid (fun x W => rinl_any x W)
  have hs61 : m.S.n ≤ 60 ∧ m.F.n ≤ 60 := by
    rcases hs with hs | hs
    · exfalso
      unfold Ms.vlB at hv
      rw [hs] at hv; cases hv
    · exact hs
  have hsm := hs61.2
  obtain ⟨n1, n2, hpt⟩ := Ba.gas_parts hg
  have HTW := Lib.hid (fun i (hi : i < m.F.n) W (hW : Gr w W) => rs_Twice m i W ⟨h.s.gr hW, h.f.gr hW⟩ hv hi)
  have HOF := Lib.hid (fun i (hi : i < m.F.n) W (hW : Gr w W) => rof_any m G i W ⟨h.s.gr hW, h.f.gr hW⟩ (hG.gr hW) hi (Ms.vl_fc hv hi) hg)
  have HFL := Lib.hid (fun i => show Ba.fg m G i < G.n from Ba.nsT_lt n1 (Nat.le_refl _))
  have HSK := Lib.hid (fun i (q : P.X i ≠ k) => Ba.wtS_skip (m := m) (G := G) q)
  have HSS := Lib.hid (fun i (q : P.X i = k) => Ba.wtS_same (m := m) (G := G) q)
  have HSN := Lib.hid (fun i g (q : g ≠ Ba.fg m G i) => Ba.wtS_ne (P := P.X) (k := k) q)
  have HSB := Lib.hid (fun g i hi => Ba.wtS_bd hv (P := P.X) (G := G) (k := k) g i hi)
  have HPX := Lib.hid hP.hX
  have HPA := Lib.hid hP.hA
  have hpc := hP.hc
  have HRW := Lib.hid (fun w' (r : Ba.SlI) (hr : r.At w') (rn : r.n = G.n) (hX : ∀ j, j < r.n → r.X j = Ba.wtS m P.X G k m.F.n j) (g : Gr w w') (hi : (Ba.inl k && !Ba.any (Ba.badI P) P.n) = true) => show RetWe m P G k w (.returned (.tuple #[.slice r.A r.n r.c, .int .i64 0])) w' from by
    have he : Ba.weE m P G k = 0 := by unfold Ba.weE; rw [hv, hg, if_pos hn, hi]; rfl
    exact ⟨r, by rw [he], hr, by unfold Ba.weN; rw [he, if_pos rfl]; exact rn, hX, g⟩)
  clear hpt hs hs61
  rw [hn] at HPX HPA hpc HE2 HRW ⊢
  obtain ⟨j1, hj0, hz0, hz1, hz2⟩ := info_parts info_int
  have KI := Lib.hid hj0; have KZ0 := Lib.hid hz0; have KZ1 := Lib.hid hz1; have KZ2 := Lib.hid hz2
  clear hj0 hz0 hz1 hz2 hv hg hn
  have hpm := Nat.le_trans hP.hc hP.hb; have hgm := Nat.le_trans hG.hc hG.hb; have hfm := Nat.le_trans h.f.hc h.f.hb
  unfold Ms.Mesh.val at *
  generalize m.S.A = sA at *; generalize m.S.n = sn at *; generalize m.S.c = sc at *; generalize m.F.A = fA at *; generalize m.F.n = fn at *; generalize m.F.c = fc at *
  generalize P.A = pA at *; generalize P.n = pn at *; generalize P.c = pc at *
  generalize G.A = gA at *; generalize G.n = gn at *; generalize G.c = gc at *
  go_enter Tryz.func10, Tryz.ntmps10
  go_wp2_with fail
  refine (HV.out _ (by exact gr_auto)).mono ?_
  rintro e w1 ⟨rfl, hb1⟩
  have g1 : Gr w w1 := Gr.trans (by exact gr_auto) hb1
  have d0 := Gr.at hb1 (b := w.heap.size) (o := 0) (v := .slice sA sn sc) (by simp [go_sem])
  have d1 := Gr.at hb1 (b := w.heap.size) (o := 1) (v := .slice fA fn fc) (by simp [go_sem])
  clear HV hb1
  go_wp2_with fail
  refine (HG.out _ g1).mono ?_
  rintro e w2 ⟨rfl, hb2⟩
  have g2 := g1.trans hb2
  replace d0 := Gr.at hb2 d0; replace d1 := Gr.at hb2 d1
  clear HG hb2
  go_wp2_with fail
  -- @a
  have HD2 := Lib.hid (And.intro d0 d1)
  clear d0 d1
  go_loopw [10] (fun x wr => ∃ i : Nat, i ≤ fn ∧ x = .int .i64 (i : Int) ∧ Hid (Ba.fst (Ba.badI P) i = none) ∧ Gr w2 wr) (fun x _ => fn - (intOf x).toNat)
  case atStart => exact ⟨0, Nat.zero_le _, rfl, Lib.hid rfl, Gr.refl _⟩
  case round =>
    obtain ⟨i, hi, rfl, HF, hg⟩ := hrel
    rename World => W1
    have gw := g2.trans hg
    by_cases hlt : i < fn
    · obtain rfl := HPA.out (by omega)
      have ib0 : (0 : Int) ≤ (i : Int) := by omega
      have ib1 : (i : Int) < (fn : Int) := by omega
      have p0 := Gr.at gw (HPX.out i hlt).1
      have bl := World.block_lt_of_cell? _ _ p0
      simp only at bl
      have HBi := Lib.hid (HBD.out i)
      have HIi := Lib.hid (HIL.out (P.X i))
      clear HBD HIL HTW HOF HFL HSK HSS HSN HSB HPX HPA HRW
      by_cases hm : P.X i = -1
      · have HF2 := Lib.hid (Ba.fst_miss HF.out (HBi.out.1 hm))
        clear HF HBi HIi HE2
        rw [hm] at p0
        clear hm
        -- @b
        go_wp2_with fail
        go_roundw
        case rel => exact ⟨i + 1, by omega, by go_num, HF2, hg.trans (by exact gr_auto)⟩
        case measure => simp [intOf]; omega
      · have hq := HBi.out.2 hm
        cases hq2 : Ba.inl (P.X i)
        · rw [hq2] at HIi hq
          have HAN := Lib.hid (show Ba.any (Ba.badI P) fn = true from (Ms.any_iff _ _).2 ⟨i, hlt, hq⟩)
          clear HF HBi hq hq2
          generalize P.X i = x at *
          -- @c
          go_wp2_with fail
          refine (HIi.out _).mono ?_
          rintro e w5 ⟨rfl, hb5⟩
          clear HIi
          go_wp2_with fail
          -- @d
          go_ret2
          exact HE2.out _ (gw.trans hb5) (by rw [HAN.out]; exact Bool.and_false _)
        · rw [hq2] at HIi hq
          have HF2 := Lib.hid (Ba.fst_miss HF.out hq)
          clear HF HBi hq hq2 HE2
          generalize P.X i = x at *
          go_wp2_with fail
          refine (HIi.out _).mono ?_
          rintro e w5 ⟨rfl, hb5⟩
          clear HIi p0
          go_wp2_with fail
          -- @e
          go_roundw
          case rel => exact ⟨i + 1, by omega, by go_num, HF2, hg.trans hb5⟩
          case measure => simp [intOf]; omega
    · obtain rfl : fn = i := by omega
      have hnb : Ba.any (Ba.badI P) fn = false := by unfold Ba.any; rw [HF.out]; rfl
      have HIk := Lib.hid (HIL.out k)
      clear HBD HIL HF
      rw [hnb] at HE2 HRW
      clear hnb
      cases hk : Ba.inl k
      · rw [hk] at HIk HE2
        clear HTW HOF HFL HSK HSS HSN HSB HPX HPA HRW hk
        -- @f
        go_wp2_with fail
        refine (HIk.out _).mono ?_
        rintro e w5 ⟨rfl, hb5⟩
        clear HIk
        go_wp2_with fail
        -- @g
        go_ret2
        exact HE2.out _ (gw.trans hb5) rfl
      · rw [hk] at HIk HRW
        clear HE2 hk
        -- @h
        go_wp2_with fail
        refine (HIk.out _).mono ?_
        rintro e w3 ⟨rfl, hb3⟩
        clear HIk
        have g23 := hg.trans hb3
        have g3 := gw.trans hb3
        clear hb3 hg gw
        -- @i
        go_wp2_with (at_make; refine wpList_make_full _ rfl _ _ _ rfl w.heap.size 3 j1 (.int .i64 0) 1 Tryz.underlying26 KI.out KZ0.out KZ1.out .i64 .i64 gn gn gn rfl rfl rfl rfl ?d1 ?d2 ?d3 ?_)
        case d1 => rw [KZ2.out]; omega
        case d2 => unfold maxLen; omega
        case d3 => exact Gr.size g3
        intro w4 hown hgrow
        have hrow := Lib.hid (made_row hown)
        have G34 : Gr w3 w4 := Gr.own (Gr.refl _) (Nat.le_refl _) (n := 0) (e := 3) (size := 1) (xs := []) (v := .slice none 0 0) ⟨rfl, Or.inl ⟨rfl, rfl⟩⟩ hgrow
        have g4 := g3.trans G34
        have d0 := Gr.at (g23.trans G34) HD2.out.1; have d1 := Gr.at (g23.trans G34) HD2.out.2
        have hsz3 : w.heap.size < w3.heap.size := World.block_lt_of_cell? _ _ (Gr.at g23 HD2.out.1)
        obtain ⟨R, hR⟩ : ∃ R, w3.heap.size = R := ⟨_, rfl⟩
        rw [hR] at hrow hsz3 ⊢
        have HR0 := Lib.hid (show Row w4 R gn (fun j => .int .i64 (Ba.wtS m P.X G k 0 j)) from hrow.out)
        clear hown hgrow hrow KI KZ0 KZ1 KZ2 G34 HD2
        -- @j
        go_wp2_with fail
        -- @k
        have hR2 : w.heap.size < R := hsz3
        have HD0 := Lib.hid (And.intro d0 d1)
        clear d0 d1
        go_loopw [12] (fun x wr => ∃ i : Nat, i ≤ fn ∧ x = .int .i64 (i : Int) ∧ Hid (Row wr R gn (fun j => .int .i64 (Ba.wtS m P.X G k i j))) ∧ GrX R w4 wr) (fun x _ => fn - (intOf x).toNat)
        case atStart => exact ⟨0, Nat.zero_le _, rfl, HR0, GrX.refl _ _⟩
        case round =>
          obtain ⟨i, hi, rfl, HR, hg⟩ := hrel
          rename World => W1
          have d0 := GrX.at hg (by omega) HD0.out.1; have d1 := GrX.at hg (by omega) HD0.out.2
          have gw : Gr w W1 := GrX.gr g4 (by omega) hg
          by_cases hlt : i < fn
          · obtain rfl := HPA.out (by omega)
            have ib0 : (0 : Int) ≤ (i : Int) := by omega
            have ib1 : (i : Int) < (fn : Int) := by omega
            have p0 := Gr.at gw (HPX.out i hlt).1
            have bl2 := World.block_lt_of_cell? _ _ p0
            simp only at bl2
            by_cases hpk : P.X i = k
            · have hss := HSS.out i hpk
              have HSN2 := Lib.hid (fun g q => HSN.out i g q)
              have HTi := Lib.hid (HTW.out i hlt)
              have hfl := HFL.out i
              have HOi := Lib.hid (HOF.out i hlt)
              have hb1 := HSB.out (Ba.fg m G i) i hi; have hb2 := HSB.out (Ba.fg m G i) (i + 1) hlt
              rw [hss] at hb2
              clear HTW HOF HFL HSK HSS HSN HSB HPX HPA HRW
              generalize Ms.tTn (Ms.tri m (m.F.D i)) = tv at *
              obtain ⟨fgi, hfgi⟩ : ∃ g, Ba.fg m G i = g := ⟨_, rfl⟩
              rw [hfgi] at hss HSN2 hfl HOi hb1 hb2
              have HSS2 := Lib.hid hss
              clear hfgi hss
              have bt1 : -9223372036854775808 ≤ Ba.wtS m P.X G k i fgi + tv := by omega
              have bt2 : Ba.wtS m P.X G k i fgi + tv ≤ 9223372036854775807 := by omega
              clear hb1 hb2
              rw [hpk] at p0
              have HPK := Lib.hid hpk
              clear hpk
              have kk : (k == k) = true := beq_self_eq_true k
              -- @l
              go_wp2_with fail
              -- @m
              refine (HOi.out _ gw).mono ?_
              rintro e w5 ⟨rfl, hb5⟩
              have g5 := gw.trans hb5
              replace d0 := Gr.at hb5 d0; replace d1 := Gr.at hb5 d1
              have HR5 := Lib.hid (HR.out.gr hb5)
              have hg5 := hg.grown hb5
              have r0 := (HR5.out fgi hfl).1; have r1 := (HR5.out fgi hfl).2
              have fb0 : (0 : Int) ≤ (fgi : Int) := by omega
              have fb1 : (fgi : Int) < (gn : Int) := by omega
              clear HOi hb5 p0 hg HR
              go_wp2_with fail
              -- @n
              skip
              (first | refine name_world ?_ | refine (show (∀ W, W = _ → Calls _ _ _ W _) → Calls _ _ _ _ _ from fun h => h _ rfl) ?_); intro W6 hW6
              have g6 : Gr w W6 := by rw [hW6]; exact gr_auto
              have gb6_w5 : Gr w5 W6 := by (try clear g6); rw [hW6]; exact gr_auto
              have f6_0 : W6.frozen? ⟨R, fgi, none⟩ = false := by rw [hW6]; first | (simp [go_sem, *]; done) | (refine Gr.free ?_ (by assumption) (by assumption); exact gr_auto)
              have k6_0 : W6.cell? ⟨R, fgi, none⟩ = some (.int .i64 (Ba.wtS m P.X G k i fgi)) := by rw [hW6]; first | (simp [go_sem, *]; done) | (refine Gr.at ?_ (by assumption); exact gr_auto)
              have b6_0 : R < W6.heap.size := World.block_lt_of_cell? _ _ k6_0
              have k6_1 : W6.cell? ⟨w.heap.size, 0, none⟩ = some (.slice sA sn sc) := by rw [hW6]; first | (simp [go_sem, *]; done) | (refine Gr.at ?_ (by assumption); exact gr_auto)
              have b6_1 : w.heap.size < W6.heap.size := World.block_lt_of_cell? _ _ k6_1
              have k6_2 : W6.cell? ⟨w.heap.size, 1, none⟩ = some (.slice fA fn fc) := by rw [hW6]; first | (simp [go_sem, *]; done) | (refine Gr.at ?_ (by assumption); exact gr_auto)
              clear hW6
              have s6_0 : ∀ gw : GW W6, gw.1.cell? ⟨R, fgi, none⟩ = some (.int .i64 (Ba.wtS m P.X G k i fgi)) := fun gw => Gr.at gw.2 k6_0
              have s6_1 : ∀ gw : GW W6, gw.1.cell? ⟨w.heap.size, 0, none⟩ = some (.slice sA sn sc) := fun gw => Gr.at gw.2 k6_1
              have s6_2 : ∀ gw : GW W6, gw.1.cell? ⟨w.heap.size, 1, none⟩ = some (.slice fA fn fc) := fun gw => Gr.at gw.2 k6_2
              have Q1 := Lib.hid (fun gw : GW W6 => gw_call (HTi.out gw.1 (g5.trans (gb6_w5.trans gw.2))))
              refine wp_region_gr_tail 11 (by kernel_rfl) (by kernel_rfl) ?_
              simp only [List.take_succ_cons, List.take_zero, List.drop_succ_cons, List.drop_zero]
              repeat (go_big_quiet_step ((go_at_call 39; with_reducible exact Q1.out _)))
              refine wpQuiet_nil ?_
              intro w7 hb7
              clear s6_0 s6_1 s6_2
              have g7 : Gr w w7 := g6.trans hb7
              have f6_0 := Gr.free hb7 k6_0 f6_0
              have k6_0 := Gr.at hb7 k6_0
              have k6_1 := Gr.at hb7 k6_1
              have k6_2 := Gr.at hb7 k6_2
              -- @o
              have g57 := gb6_w5.trans hb7
              have HR8 := Lib.hid (show Row (w7.setCell ⟨R, fgi, none⟩ (.int .i64 (Ba.wtS m P.X G k i fgi + tv))) R gn (fun j => .int .i64 (Ba.wtS m P.X G k (i + 1) j)) from Row.set (HR5.out.gr g57) (by show Value.int .i64 _ = _; rw [HSS2.out]) (fun j hj hne => by show Value.int .i64 _ = _; rw [HSN2.out j hne]))
              have gx8 := GrX.setCell (p := ⟨R, fgi, none⟩) (hg5.grown g57) rfl (.int .i64 (Ba.wtS m P.X G k i fgi + tv))
              clear HR5 hg5
              go_wp2_with fail
              -- @p
              go_roundw
              case rel => exact ⟨i + 1, by omega, by go_num, HR8, gx8⟩
              case measure => simp [intOf]; omega
            · have hsk := Lib.hid (HSK.out i hpk)
              clear HTW HOF HFL HSK HSS HSN HSB HPX HPA HRW
              -- @q
              go_wp2_with fail
              go_roundw
              case rel => exact ⟨i + 1, by omega, by go_num, Lib.hid (by rw [hsk.out]; exact HR.out.gr (by exact gr_auto)), hg.grown (by exact gr_auto)⟩
              case measure => simp [intOf]; omega
          · obtain rfl : fn = i := by omega
            have HR9 := Lib.hid (row_sli HR.out (by omega) (fun j hj => by have := HSB.out j fn (Nat.le_refl _); unfold Ba.i64; omega))
            clear HTW HOF HFL HSK HSS HSN HSB HPX HPA
            -- @r
            go_wp2_with fail
            -- @s
            go_ret2
            exact HRW.out _ _ HR9.out rfl (fun _ _ => rfl) gw rfl
theorem rwe_any (m : Ms.Mesh) (P : Ba.SlI) (G : Ba.SlGauge) (k : Int) (w : World) (h : m.At w) (hP : P.At w) (hG : G.At w) (hs : Ms.smB m = false ∨ (m.S.n ≤ 60 ∧ m.F.n ≤ 60)) : Calls Tryz.prog 10 #[m.val, .slice P.A P.n P.c, .slice G.A G.n G.c, .int .i64 k] w (RetWe m P G k w) := by
  cases hv : Ms.vlB m
  · exact rwe_no1 m P G k w h hP hG hs hv
  · cases hg : Ba.gasB G
    · exact rwe_no2 m P G k w h hP hG hs hv hg
    · by_cases hn : P.n = m.F.n
      · exact rwe_main m P G k w h hP hG hs hv hg hn
      · exact rwe_no3 m P G k w h hP hG hs hv hg hn
theorem we_any (m : Ms.Mesh) (P : Ba.SlI) (G : Ba.SlGauge) (k : Int) (w : World) (h : m.At w) (hP : P.At w) (hG : G.At w) (hs : Ms.smB m = false ∨ (m.S.n ≤ 60 ∧ m.F.n ≤ 60)) : Calls Tryz.prog 9 #[m.val, .slice P.A P.n P.c, .slice G.A G.n G.c, .int .i64 k] w (RetWe m P G k w) := by
  have hs1 : Ms.smB m = false ∨ (m.S.n ≤ 61 ∧ m.F.n ≤ 61) := hs.imp_right fun q => ⟨by omega, by omega⟩
  cases hv : Ms.vlB m
  · exact we_no1 m P G k w h hP hG hs1 hv
  · cases hg : Ba.gasB G
    · exact we_no2 m P G k w h hP hG hs1 hv hg
    · by_cases hn : P.n = m.F.n
      · by_cases k0 : k < 0
        · exact we_no4 m P G k w h hP hG hs1 hv hg hn k0
        · by_cases k1 : 300 ≤ k
          · exact we_no5 m P G k w h hP hG hs1 hv hg hn k0 k1
          · cases hb : Ba.any (Ba.badI P) P.n
            · have hf : m.F.n ≤ 61 := by
                rcases hs1 with q | q
                · exfalso
                  unfold Ms.vlB at hv
                  rw [q] at hv; cases hv
                · exact q.2
              exact we_ok m P G k w h hP hG hs1 hf hv hg hn k0 k1 hb
            · exact we_no6 m P G k w h hP hG hs1 hv hg hn k0 k1 hb
      · exact we_no3 m P G k w h hP hG hs1 hv hg hn
end Go.Proofs.YtajhhplgcegodaaGreatDoor
