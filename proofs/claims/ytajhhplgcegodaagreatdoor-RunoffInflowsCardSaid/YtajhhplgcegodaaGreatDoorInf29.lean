/-
  Surfaces: twice the area of a face: the program's and the reference's. (Printed by mktw.py.) No condition but what stands at each theorem.
  Land use: twice the area of a face (landuse.twice).
-/
import Derived.Test.YtajhhplgcegodaaGreatDoorInf20
import Derived.Test.YtajhhplgcegodaaGreatDoorInf28

set_option linter.unusedVariables false
set_option linter.unusedSimpArgs false
namespace Go.Proofs.YtajhhplgcegodaaGreatDoor
open Go.RowKit
attribute [local go_sem ↓] Go.wp_at_zero Go.wp_at_succ
namespace Ms
theorem idx_nil {p : Nat → Bool} {n : Nat} (h : idx p n = []) (i : Nat) (hi : i < n) : p i = false := by
  cases e : p i with
  | false => rfl
  | true =>
    have := idx_mem.2 ⟨hi, e⟩
    rw [h] at this; cases this
theorem fnd_nil {m : Mesh} : ∀ {K k : Nat}, fnd m K = [] → k < K → ∀ i, i < num m k → kd m k i = false
  | 0, k, _, h => absurd h (by omega)
  | K + 1, k, h, hk => by
    rw [fnd, List.append_eq_nil_iff] at h
    by_cases e : k = K
    · subst e
      intro i hi
      exact idx_nil (List.map_eq_nil_iff.1 h.2) i hi
    · exact fnd_nil h.1 (by omega)
theorem vl_kd {m : Mesh} (h : vlB m = true) {k i : Nat} (hk : k < 7) (hi : i < num m k) : kd m k i = false := by
  unfold vlB at h
  rw [Bool.and_eq_true, List.isEmpty_iff] at h
  exact fnd_nil h.2 hk i hi
theorem vl_fc {m : Mesh} (h : vlB m = true) {i : Nat} (hi : i < m.F.n) : fcB m (m.F.D i) = true := by
  have h3 := vl_kd h (k := 3) (i := i) (by omega) (by unfold num; rw [if_neg (by omega)]; exact hi)
  simpa [kd] using h3
theorem vl_tn {m : Mesh} (h : vlB m = true) {i : Nat} (hi : i < m.F.n) : 0 < tTn (tri m (m.F.D i)) := by
  have h4 := vl_kd h (k := 4) (i := i) (by omega) (by unfold num; rw [if_neg (by omega)]; exact hi)
  have h3 := vl_fc h hi
  simpa [kd, h3] using h4
theorem tTn_bd {t : Tri} (h : tOk t) : -2251799813685248 ≤ tTn t ∧ tTn t ≤ 2251799813685248 := tr2_bd h.1 h.2.1 h.2.2.1 h.2.2.2.1 h.2.2.2.2.1 h.2.2.2.2.2
end Ms
set_option maxRecDepth 100000 in
set_option maxHeartbeats 4000000 in
theorem rs_Twice (m : Ms.Mesh) (i : Nat) (w : World) (h : m.At w) (hv : Ms.vlB m = true) (hi : i < m.F.n) : Calls Tryz.prog 39 #[m.val, .int .i64 (i : Int)] w fun e w' => e = .returned (.int .i64 (Ms.tTn (Ms.tri m (m.F.D i)))) ∧ Gr w w' := by
  have HT := Lib.hid (fun W (hW : Gr w W) => rs_fturn m (m.F.D i) W (h.s.gr hW) (Ms.vl_fc hv hi))
  obtain ⟨⟨a0, a1, a2, a3⟩, -⟩ := h.f.hD i hi
  have HFA := h.f.hA (by omega)
  have hfc := h.f.hc; have hfb := h.f.hb
  have hbb := World.block_lt_of_cell? _ _ a0
  have ib0 : (0 : Int) ≤ (i : Int) := by omega
  have ib1 : (i : Int) < (m.F.n : Int) := by omega
  clear h hv
  generalize Ms.tTn (Ms.tri m (m.F.D i)) = TV at *
  unfold Ba.Face.val at HT
  generalize m.F.D i = f at *
  unfold Ms.Mesh.val at *
  rw [HFA] at HT ⊢
  generalize m.S.A = sA at *; generalize m.S.n = sn at *; generalize m.S.c = sc at *; generalize m.F.n = fn at *; generalize m.F.c = fc at *
  generalize m.F.b = fb at *; generalize m.F.o = fo at *
  clear HFA
  go_enter Tryz.func39, Tryz.ntmps39
  go_wp2_with fail
  obtain ⟨W1, hW1⟩ : ∃ W, w.alloc (Obj.cells #[.slice sA sn sc, .slice (some ⟨fb, fo, none⟩) fn fc] 25) = W := ⟨_, rfl⟩
  have g1 : Gr w W1 := hW1 ▸ Gr.alloc (Gr.refl w) _
  have d0 : W1.cell? ⟨w.heap.size, 0, none⟩ = some (.slice sA sn sc) := by rw [← hW1]; simp [go_sem]
  have d1 : W1.cell? ⟨w.heap.size, 1, none⟩ = some (.slice (some ⟨fb, fo, none⟩) fn fc) := by rw [← hW1]; simp [go_sem]
  replace a0 := Gr.at g1 a0; replace a1 := Gr.at g1 a1; replace a2 := Gr.at g1 a2; replace a3 := Gr.at g1 a3
  try rw [hW1]
  clear hW1
  (first | refine name_world ?_ | refine (show (∀ W, W = _ → Calls _ _ _ W _) → Calls _ _ _ _ _ from fun h => h _ rfl) ?_); intro W6 hW6
  have g6 : Gr w W6 := by rw [hW6]; exact gr_auto
  have gb6_W1 : Gr W1 W6 := by (try clear g6); rw [hW6]; exact gr_auto
  have k6_0 : W6.cell? ⟨w.heap.size, 0, none⟩ = some (.slice sA sn sc) := by rw [hW6]; first | (simp [go_sem, *]; done) | (refine Gr.at ?_ (by assumption); exact gr_auto)
  have b6_0 : w.heap.size < W6.heap.size := World.block_lt_of_cell? _ _ k6_0
  have k6_1 : W6.cell? ⟨w.heap.size, 1, none⟩ = some (.slice (some ⟨fb, fo, none⟩) fn fc) := by rw [hW6]; first | (simp [go_sem, *]; done) | (refine Gr.at ?_ (by assumption); exact gr_auto)
  have k6_2 : W6.cell? ⟨fb, fo + i * 4, none⟩ = some (.int .i64 f.a) := by rw [hW6]; first | (simp [go_sem, *]; done) | (refine Gr.at ?_ (by assumption); exact gr_auto)
  have b6_2 : fb < W6.heap.size := World.block_lt_of_cell? _ _ k6_2
  have k6_3 : W6.cell? ⟨fb, fo + i * 4 + 1, none⟩ = some (.int .i64 f.b) := by rw [hW6]; first | (simp [go_sem, *]; done) | (refine Gr.at ?_ (by assumption); exact gr_auto)
  have k6_4 : W6.cell? ⟨fb, fo + i * 4 + 2, none⟩ = some (.int .i64 f.c) := by rw [hW6]; first | (simp [go_sem, *]; done) | (refine Gr.at ?_ (by assumption); exact gr_auto)
  have k6_5 : W6.cell? ⟨fb, fo + i * 4 + 3, none⟩ = some (.int .i64 f.k) := by rw [hW6]; first | (simp [go_sem, *]; done) | (refine Gr.at ?_ (by assumption); exact gr_auto)
  clear hW6
  have s6_0 : ∀ gw : GW W6, gw.1.cell? ⟨w.heap.size, 0, none⟩ = some (.slice sA sn sc) := fun gw => Gr.at gw.2 k6_0
  have s6_1 : ∀ gw : GW W6, gw.1.cell? ⟨w.heap.size, 1, none⟩ = some (.slice (some ⟨fb, fo, none⟩) fn fc) := fun gw => Gr.at gw.2 k6_1
  have s6_2 : ∀ gw : GW W6, gw.1.cell? ⟨fb, fo + i * 4, none⟩ = some (.int .i64 f.a) := fun gw => Gr.at gw.2 k6_2
  have s6_3 : ∀ gw : GW W6, gw.1.cell? ⟨fb, fo + i * 4 + 1, none⟩ = some (.int .i64 f.b) := fun gw => Gr.at gw.2 k6_3
  have s6_4 : ∀ gw : GW W6, gw.1.cell? ⟨fb, fo + i * 4 + 2, none⟩ = some (.int .i64 f.c) := fun gw => Gr.at gw.2 k6_4
  have s6_5 : ∀ gw : GW W6, gw.1.cell? ⟨fb, fo + i * 4 + 3, none⟩ = some (.int .i64 f.k) := fun gw => Gr.at gw.2 k6_5
  have Q1 := Lib.hid (fun gw : GW W6 => gw_call (HT.out gw.1 (g1.trans (gb6_W1.trans gw.2))))
  refine wp_region_gr (by kernel_rfl) (by kernel_rfl) ?_
  repeat (go_big_quiet_step ((go_at_call 82; with_reducible exact Q1.out _)))
  refine wpQuiet_nil ?_
  intro w7 hb7
  clear s6_0 s6_1 s6_2 s6_3 s6_4 s6_5
  have g7 : Gr w w7 := g6.trans hb7
  have k6_0 := Gr.at hb7 k6_0
  have k6_1 := Gr.at hb7 k6_1
  have k6_2 := Gr.at hb7 k6_2
  have k6_3 := Gr.at hb7 k6_3
  have k6_4 := Gr.at hb7 k6_4
  have k6_5 := Gr.at hb7 k6_5
  go_wp2_with fail
  go_ret
  exact ⟨rfl, g1.trans (gb6_W1.trans hb7)⟩
end Go.Proofs.YtajhhplgcegodaaGreatDoor
set_option linter.unusedVariables false
set_option linter.unusedSimpArgs false
namespace Go.Proofs.YtajhhplgcegodaaGreatDoor
open Go.RowKit
attribute [local go_sem ↓] Go.wp_at_zero Go.wp_at_succ
set_option maxRecDepth 100000 in
set_option maxHeartbeats 4000000 in
theorem lu_twice (m : Ms.Mesh) (f : Ba.Face) (w : World) (h : m.S.At w) (hf : Ms.fcB m f = true) : Calls Tryz.prog 48 #[m.val, f.val] w fun e w' => e = .returned (.int .i64 (Ms.tTn (Ms.tri m f))) ∧ Gr w w' := by
  have tk := Ms.tri_ok hf
  unfold Ms.tOk Ms.cd at tk
  unfold Ms.fcB at hf
  simp only [Bool.and_eq_true] at hf
  obtain ⟨ia, ea, la, -⟩ := Ms.inR_parts hf.1
  obtain ⟨ib, eb, lb, -⟩ := Ms.inR_parts hf.2.1
  obtain ⟨ic, ec, lc, -⟩ := Ms.inR_parts hf.2.2.1
  clear hf
  obtain ⟨a, b, c, k⟩ := f
  simp only at ea eb ec
  subst ea; subst eb; subst ec
  obtain ⟨x0, x1, x2⟩ := (h.hD ia la).1
  obtain ⟨y0, y1, y2⟩ := (h.hD ib lb).1
  obtain ⟨z0, z1, z2⟩ := (h.hD ic lc).1
  have hA := h.hA (by omega); have hnc := h.hc; have hcb := h.hb
  have hB : m.S.b < w.heap.size := World.block_lt_of_cell? _ _ x0
  have a0 : (0 : Int) ≤ (ia : Int) := by omega
  have a1 : (ia : Int) < (m.S.n : Int) := by omega
  have b0 : (0 : Int) ≤ (ib : Int) := by omega
  have b1 : (ib : Int) < (m.S.n : Int) := by omega
  have c0 : (0 : Int) ≤ (ic : Int) := by omega
  have c1 : (ic : Int) < (m.S.n : Int) := by omega
  clear h
  unfold Ms.tTn Ms.tri Ba.Face.val Ms.Mesh.val
  unfold Ms.tri at tk
  simp only [Int.toNat_natCast] at tk ⊢
  rw [hA]
  clear hA
  generalize m.S.D ia = da at *; generalize m.S.D ib = db at *; generalize m.S.D ic = dc at *
  generalize m.S.n = sn at *; generalize m.S.c = sc at *; generalize m.S.b = sb at *; generalize m.S.o = so at *; generalize m.F.A = fA at *; generalize m.F.n = fn at *; generalize m.F.c = fc at *
  obtain ⟨ax, ay, az⟩ := da
  obtain ⟨bx, b_y, bz⟩ := db
  obtain ⟨cx, cy, cz⟩ := dc
  simp only at *
  obtain ⟨k1, k2, k3, k4, k5, k6⟩ := tk
  have m1 := Ms.mul_bd (a := bx - ax) (b := cy - ay) (by omega) (by omega)
  have m2 := Ms.mul_bd (a := b_y - ay) (b := cx - ax) (by omega) (by omega)
  go_enter Tryz.func48, Tryz.ntmps48
  go_wp2_with fail
  (first | refine name_world ?_ | refine (show (∀ W, W = _ → Calls _ _ _ W _) → Calls _ _ _ _ _ from fun h => h _ rfl) ?_); intro W1 hW1
  have g1 : Gr w W1 := by rw [hW1]; exact gr_auto
  have k1_0 : W1.cell? ⟨w.heap.size, 0, none⟩ = some (.slice (some ⟨sb, so, none⟩) sn sc) := by rw [hW1]; first | (simp [go_sem, *]; done) | (refine Gr.at ?_ (by assumption); exact gr_auto)
  have b1_0 : w.heap.size < W1.heap.size := World.block_lt_of_cell? _ _ k1_0
  have k1_1 : W1.cell? ⟨w.heap.size + 1, 0, none⟩ = some (.int .i64 (ia : Int)) := by rw [hW1]; first | (simp [go_sem, *]; done) | (refine Gr.at ?_ (by assumption); exact gr_auto)
  have b1_1 : w.heap.size + 1 < W1.heap.size := World.block_lt_of_cell? _ _ k1_1
  have k1_2 : W1.cell? ⟨w.heap.size + 1, 1, none⟩ = some (.int .i64 (ib : Int)) := by rw [hW1]; first | (simp [go_sem, *]; done) | (refine Gr.at ?_ (by assumption); exact gr_auto)
  have k1_3 : W1.cell? ⟨w.heap.size + 1, 2, none⟩ = some (.int .i64 (ic : Int)) := by rw [hW1]; first | (simp [go_sem, *]; done) | (refine Gr.at ?_ (by assumption); exact gr_auto)
  have k1_4 : W1.cell? ⟨sb, so + ia * 3, none⟩ = some (.int .i64 ax) := by rw [hW1]; first | (simp [go_sem, *]; done) | (refine Gr.at ?_ (by assumption); exact gr_auto)
  have b1_4 : sb < W1.heap.size := World.block_lt_of_cell? _ _ k1_4
  have k1_5 : W1.cell? ⟨sb, so + ia * 3 + 1, none⟩ = some (.int .i64 ay) := by rw [hW1]; first | (simp [go_sem, *]; done) | (refine Gr.at ?_ (by assumption); exact gr_auto)
  have k1_6 : W1.cell? ⟨sb, so + ia * 3 + 2, none⟩ = some (.int .i64 az) := by rw [hW1]; first | (simp [go_sem, *]; done) | (refine Gr.at ?_ (by assumption); exact gr_auto)
  have k1_7 : W1.cell? ⟨sb, so + ib * 3, none⟩ = some (.int .i64 bx) := by rw [hW1]; first | (simp [go_sem, *]; done) | (refine Gr.at ?_ (by assumption); exact gr_auto)
  have k1_8 : W1.cell? ⟨sb, so + ib * 3 + 1, none⟩ = some (.int .i64 b_y) := by rw [hW1]; first | (simp [go_sem, *]; done) | (refine Gr.at ?_ (by assumption); exact gr_auto)
  have k1_9 : W1.cell? ⟨sb, so + ib * 3 + 2, none⟩ = some (.int .i64 bz) := by rw [hW1]; first | (simp [go_sem, *]; done) | (refine Gr.at ?_ (by assumption); exact gr_auto)
  have k1_10 : W1.cell? ⟨sb, so + ic * 3, none⟩ = some (.int .i64 cx) := by rw [hW1]; first | (simp [go_sem, *]; done) | (refine Gr.at ?_ (by assumption); exact gr_auto)
  have k1_11 : W1.cell? ⟨sb, so + ic * 3 + 1, none⟩ = some (.int .i64 cy) := by rw [hW1]; first | (simp [go_sem, *]; done) | (refine Gr.at ?_ (by assumption); exact gr_auto)
  have k1_12 : W1.cell? ⟨sb, so + ic * 3 + 2, none⟩ = some (.int .i64 cz) := by rw [hW1]; first | (simp [go_sem, *]; done) | (refine Gr.at ?_ (by assumption); exact gr_auto)
  clear hW1
  have s1_0 : ∀ w', Gr W1 w' → w'.cell? ⟨w.heap.size, 0, none⟩ = some (.slice (some ⟨sb, so, none⟩) sn sc) := fun w' hgW => Gr.at hgW k1_0
  have s1_1 : ∀ w', Gr W1 w' → w'.cell? ⟨w.heap.size + 1, 0, none⟩ = some (.int .i64 (ia : Int)) := fun w' hgW => Gr.at hgW k1_1
  have s1_2 : ∀ w', Gr W1 w' → w'.cell? ⟨w.heap.size + 1, 1, none⟩ = some (.int .i64 (ib : Int)) := fun w' hgW => Gr.at hgW k1_2
  have s1_3 : ∀ w', Gr W1 w' → w'.cell? ⟨w.heap.size + 1, 2, none⟩ = some (.int .i64 (ic : Int)) := fun w' hgW => Gr.at hgW k1_3
  have s1_4 : ∀ w', Gr W1 w' → w'.cell? ⟨sb, so + ia * 3, none⟩ = some (.int .i64 ax) := fun w' hgW => Gr.at hgW k1_4
  have s1_5 : ∀ w', Gr W1 w' → w'.cell? ⟨sb, so + ia * 3 + 1, none⟩ = some (.int .i64 ay) := fun w' hgW => Gr.at hgW k1_5
  have s1_6 : ∀ w', Gr W1 w' → w'.cell? ⟨sb, so + ia * 3 + 2, none⟩ = some (.int .i64 az) := fun w' hgW => Gr.at hgW k1_6
  have s1_7 : ∀ w', Gr W1 w' → w'.cell? ⟨sb, so + ib * 3, none⟩ = some (.int .i64 bx) := fun w' hgW => Gr.at hgW k1_7
  have s1_8 : ∀ w', Gr W1 w' → w'.cell? ⟨sb, so + ib * 3 + 1, none⟩ = some (.int .i64 b_y) := fun w' hgW => Gr.at hgW k1_8
  have s1_9 : ∀ w', Gr W1 w' → w'.cell? ⟨sb, so + ib * 3 + 2, none⟩ = some (.int .i64 bz) := fun w' hgW => Gr.at hgW k1_9
  have s1_10 : ∀ w', Gr W1 w' → w'.cell? ⟨sb, so + ic * 3, none⟩ = some (.int .i64 cx) := fun w' hgW => Gr.at hgW k1_10
  have s1_11 : ∀ w', Gr W1 w' → w'.cell? ⟨sb, so + ic * 3 + 1, none⟩ = some (.int .i64 cy) := fun w' hgW => Gr.at hgW k1_11
  have s1_12 : ∀ w', Gr W1 w' → w'.cell? ⟨sb, so + ic * 3 + 2, none⟩ = some (.int .i64 cz) := fun w' hgW => Gr.at hgW k1_12
  first | (go_region_held3 (fun w' => Gr W1 w') (exact gr_auto) (skip)) | fail
  all_goals (
    go_wp2_with fail
    go_ret
    exact ⟨rfl, by exact gr_auto⟩)
end Go.Proofs.YtajhhplgcegodaaGreatDoor
