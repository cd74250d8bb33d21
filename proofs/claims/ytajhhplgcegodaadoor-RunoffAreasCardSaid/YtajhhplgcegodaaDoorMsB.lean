/-
  Surfaces: triangles, sides, the test of a corner: the program's. (Printed by mkb.py.)
-/
import Derived.Test.YtajhhplgcegodaaDoorMsA
set_option linter.unusedVariables false
set_option linter.unusedSimpArgs false
namespace Go.Proofs.YtajhhplgcegodaaDoor
open Go.RowKit
attribute [local go_sem ↓] Go.wp_at_zero Go.wp_at_succ
set_option maxRecDepth 100000 in
set_option maxHeartbeats 4000000 in
theorem ms_tri (m : Ms.Mesh) (f : Ba.Face) (w : World) (h : m.S.At w) (hf : Ms.fcB m f = true) : Calls Tryd.prog 56 #[m.val, f.val] w fun e w' => e = .returned ((Ms.tri m f).val) ∧ Gr w w' := by
  unfold Ms.fcB at hf
  simp only [Bool.and_eq_true] at hf
  obtain ⟨ia, ea, la, -⟩ := Ms.inR_parts hf.1
  obtain ⟨ib, eb, lb, -⟩ := Ms.inR_parts hf.2.1
  obtain ⟨ic, ec, lc, -⟩ := Ms.inR_parts hf.2.2.1
  clear hf
  obtain ⟨a, b, c, k⟩ := f
  simp only at ea eb ec
  subst ea; subst eb; subst ec
  have H1 := Lib.hid (fun W (hW : Gr w W) => ms_point m ia W (h.gr hW) la)
  have H2 := Lib.hid (fun W (hW : Gr w W) => ms_point m ib W (h.gr hW) lb)
  have H3 := Lib.hid (fun W (hW : Gr w W) => ms_point m ic W (h.gr hW) lc)
  clear la lb lc h
  unfold Ba.Tri.val Ms.tri Ba.Face.val
  simp only [Int.toNat_natCast]
  unfold Ms.Mesh.val at *
  generalize m.S.D ia = da at *; generalize m.S.D ib = db at *; generalize m.S.D ic = dc at *
  generalize m.S.A = sA at *; generalize m.S.n = sn at *; generalize m.S.c = sc at *; generalize m.F.A = fA at *; generalize m.F.n = fn at *; generalize m.F.c = fc at *
  go_enter Tryd.func56, Tryd.ntmps56
  go_wp2_with fail
  (first | refine name_world ?_ | refine (show (∀ W, W = _ → Calls _ _ _ W _) → Calls _ _ _ _ _ from fun h => h _ rfl) ?_); intro W1 hW1
  have g1 : Gr w W1 := by rw [hW1]; exact gr_auto
  have k1_0 : W1.cell? ⟨w.heap.size, 0, none⟩ = some (.slice sA sn sc) := by rw [hW1]; first | (simp [go_sem, *]; done) | (refine Gr.at ?_ (by assumption); exact gr_auto)
  have b1_0 : w.heap.size < W1.heap.size := World.block_lt_of_cell? _ _ k1_0
  have k1_1 : W1.cell? ⟨w.heap.size, 1, none⟩ = some (.slice fA fn fc) := by rw [hW1]; first | (simp [go_sem, *]; done) | (refine Gr.at ?_ (by assumption); exact gr_auto)
  have k1_2 : W1.cell? ⟨w.heap.size + 1, 0, none⟩ = some (.int .i64 (ia : Int)) := by rw [hW1]; first | (simp [go_sem, *]; done) | (refine Gr.at ?_ (by assumption); exact gr_auto)
  have b1_2 : w.heap.size + 1 < W1.heap.size := World.block_lt_of_cell? _ _ k1_2
  have k1_3 : W1.cell? ⟨w.heap.size + 1, 1, none⟩ = some (.int .i64 (ib : Int)) := by rw [hW1]; first | (simp [go_sem, *]; done) | (refine Gr.at ?_ (by assumption); exact gr_auto)
  have k1_4 : W1.cell? ⟨w.heap.size + 1, 2, none⟩ = some (.int .i64 (ic : Int)) := by rw [hW1]; first | (simp [go_sem, *]; done) | (refine Gr.at ?_ (by assumption); exact gr_auto)
  have f1_5 : W1.frozen? ⟨w.heap.size + 1 + 1, 0, none⟩ = false := by rw [hW1]; first | (simp [go_sem, *]; done) | (refine Gr.free ?_ (by assumption) (by assumption); exact gr_auto)
  have k1_5 : W1.cell? ⟨w.heap.size + 1 + 1, 0, none⟩ = some (.int .i64 0) := by rw [hW1]; first | (simp [go_sem, *]; done) | (refine Gr.at ?_ (by assumption); exact gr_auto)
  have b1_5 : w.heap.size + 1 + 1 < W1.heap.size := World.block_lt_of_cell? _ _ k1_5
  have f1_6 : W1.frozen? ⟨w.heap.size + 1 + 1, 1, none⟩ = false := by rw [hW1]; first | (simp [go_sem, *]; done) | (refine Gr.free ?_ (by assumption) (by assumption); exact gr_auto)
  have k1_6 : W1.cell? ⟨w.heap.size + 1 + 1, 1, none⟩ = some (.int .i64 0) := by rw [hW1]; first | (simp [go_sem, *]; done) | (refine Gr.at ?_ (by assumption); exact gr_auto)
  have f1_7 : W1.frozen? ⟨w.heap.size + 1 + 1, 2, none⟩ = false := by rw [hW1]; first | (simp [go_sem, *]; done) | (refine Gr.free ?_ (by assumption) (by assumption); exact gr_auto)
  have k1_7 : W1.cell? ⟨w.heap.size + 1 + 1, 2, none⟩ = some (.int .i64 0) := by rw [hW1]; first | (simp [go_sem, *]; done) | (refine Gr.at ?_ (by assumption); exact gr_auto)
  have f1_8 : W1.frozen? ⟨w.heap.size + 1 + 1, 3, none⟩ = false := by rw [hW1]; first | (simp [go_sem, *]; done) | (refine Gr.free ?_ (by assumption) (by assumption); exact gr_auto)
  have k1_8 : W1.cell? ⟨w.heap.size + 1 + 1, 3, none⟩ = some (.int .i64 0) := by rw [hW1]; first | (simp [go_sem, *]; done) | (refine Gr.at ?_ (by assumption); exact gr_auto)
  have f1_9 : W1.frozen? ⟨w.heap.size + 1 + 1, 4, none⟩ = false := by rw [hW1]; first | (simp [go_sem, *]; done) | (refine Gr.free ?_ (by assumption) (by assumption); exact gr_auto)
  have k1_9 : W1.cell? ⟨w.heap.size + 1 + 1, 4, none⟩ = some (.int .i64 0) := by rw [hW1]; first | (simp [go_sem, *]; done) | (refine Gr.at ?_ (by assumption); exact gr_auto)
  have f1_10 : W1.frozen? ⟨w.heap.size + 1 + 1, 5, none⟩ = false := by rw [hW1]; first | (simp [go_sem, *]; done) | (refine Gr.free ?_ (by assumption) (by assumption); exact gr_auto)
  have k1_10 : W1.cell? ⟨w.heap.size + 1 + 1, 5, none⟩ = some (.int .i64 0) := by rw [hW1]; first | (simp [go_sem, *]; done) | (refine Gr.at ?_ (by assumption); exact gr_auto)
  clear hW1
  have s1_0 : ∀ gw : GW W1, gw.1.cell? ⟨w.heap.size, 0, none⟩ = some (.slice sA sn sc) := fun gw => Gr.at gw.2 k1_0
  have s1_1 : ∀ gw : GW W1, gw.1.cell? ⟨w.heap.size, 1, none⟩ = some (.slice fA fn fc) := fun gw => Gr.at gw.2 k1_1
  have s1_2 : ∀ gw : GW W1, gw.1.cell? ⟨w.heap.size + 1, 0, none⟩ = some (.int .i64 (ia : Int)) := fun gw => Gr.at gw.2 k1_2
  have s1_3 : ∀ gw : GW W1, gw.1.cell? ⟨w.heap.size + 1, 1, none⟩ = some (.int .i64 (ib : Int)) := fun gw => Gr.at gw.2 k1_3
  have s1_4 : ∀ gw : GW W1, gw.1.cell? ⟨w.heap.size + 1, 2, none⟩ = some (.int .i64 (ic : Int)) := fun gw => Gr.at gw.2 k1_4
  have s1_5 : ∀ gw : GW W1, gw.1.cell? ⟨w.heap.size + 1 + 1, 0, none⟩ = some (.int .i64 0) := fun gw => Gr.at gw.2 k1_5
  have s1_6 : ∀ gw : GW W1, gw.1.cell? ⟨w.heap.size + 1 + 1, 1, none⟩ = some (.int .i64 0) := fun gw => Gr.at gw.2 k1_6
  have s1_7 : ∀ gw : GW W1, gw.1.cell? ⟨w.heap.size + 1 + 1, 2, none⟩ = some (.int .i64 0) := fun gw => Gr.at gw.2 k1_7
  have s1_8 : ∀ gw : GW W1, gw.1.cell? ⟨w.heap.size + 1 + 1, 3, none⟩ = some (.int .i64 0) := fun gw => Gr.at gw.2 k1_8
  have s1_9 : ∀ gw : GW W1, gw.1.cell? ⟨w.heap.size + 1 + 1, 4, none⟩ = some (.int .i64 0) := fun gw => Gr.at gw.2 k1_9
  have s1_10 : ∀ gw : GW W1, gw.1.cell? ⟨w.heap.size + 1 + 1, 5, none⟩ = some (.int .i64 0) := fun gw => Gr.at gw.2 k1_10
  have HP1 := Lib.hid (fun gw : GW W1 => gw_call (H1.out gw.1 (g1.trans gw.2)))
  have HP2 := Lib.hid (fun gw : GW W1 => gw_call (H2.out gw.1 (g1.trans gw.2)))
  have HP3 := Lib.hid (fun gw : GW W1 => gw_call (H3.out gw.1 (g1.trans gw.2)))
  refine wp_region_gr_tail 13 (by kernel_rfl) (by kernel_rfl) ?_
  simp only [List.take_succ_cons, List.take_zero, List.drop_succ_cons, List.drop_zero]
  repeat (go_big_quiet_step (first | (go_at_call 53; with_reducible exact HP1.out _) | (go_at_call 53; with_reducible exact HP2.out _) | (go_at_call 53; with_reducible exact HP3.out _)))
  refine wpQuiet_nil ?_
  intro w2 hb2
  clear s1_0 s1_1 s1_2 s1_3 s1_4 s1_5 s1_6 s1_7 s1_8 s1_9 s1_10
  have g2 : Gr w w2 := g1.trans hb2
  have f1_5 := Gr.free hb2 k1_5 f1_5
  have f1_6 := Gr.free hb2 k1_6 f1_6
  have f1_7 := Gr.free hb2 k1_7 f1_7
  have f1_8 := Gr.free hb2 k1_8 f1_8
  have f1_9 := Gr.free hb2 k1_9 f1_9
  have f1_10 := Gr.free hb2 k1_10 f1_10
  have k1_0 := Gr.at hb2 k1_0
  have k1_1 := Gr.at hb2 k1_1
  have k1_2 := Gr.at hb2 k1_2
  have k1_3 := Gr.at hb2 k1_3
  have k1_4 := Gr.at hb2 k1_4
  have k1_5 := Gr.at hb2 k1_5
  have k1_6 := Gr.at hb2 k1_6
  have k1_7 := Gr.at hb2 k1_7
  have k1_8 := Gr.at hb2 k1_8
  have k1_9 := Gr.at hb2 k1_9
  have k1_10 := Gr.at hb2 k1_10
  clear HP1 HP2 HP3 H1 H2 H3
  -- @a
  go_wp2_with fail
  -- @b
  refine bodyPost_ret (by simp [results, Tryd.results56, go_sem, k1_5, k1_6, k1_7, k1_8, k1_9, k1_10]; try rfl) rfl ?_
  exact ⟨rfl, by exact gr_auto⟩
set_option maxRecDepth 100000 in
set_option maxHeartbeats 4000000 in
theorem ms_side0 (f : Ba.Face) (w : World) : Calls Tryd.prog 58 #[f.val, .int .i64 0] w fun e w' => e = .returned (.agg #[.int .i64 f.a, .int .i64 f.b]) ∧ Gr w w' := by
  have HC := Lib.hid (fun W => ms_corners f W)
  unfold Ba.Face.val at *
  obtain ⟨a, b, c, k⟩ := f
  simp only at *
  go_enter Tryd.func58, Tryd.ntmps58
  go_wp2_with fail
  have KO := Lib.hid (fun (W : World) (hb : Gr ((w.alloc (Obj.cells #[.int .i64 a, .int .i64 b, .int .i64 c, .int .i64 k] 43)).alloc (Obj.cells #[.int .i64 0, .int .i64 0] 48)) W) => (⟨Own.gr (b := w.heap.size + 1) (o := 0) (v := .int .i64 0) ⟨by simp [go_sem], by simp [go_sem]⟩ hb, Own.gr (b := w.heap.size + 1) (o := 1) (v := .int .i64 0) ⟨by simp [go_sem], by simp [go_sem]⟩ hb⟩ : Own W (w.heap.size + 1) 0 (.int .i64 0) ∧ Own W (w.heap.size + 1) 1 (.int .i64 0)))
  -- @a0
  refine (HC.out _).mono ?_
  rintro e w1 ⟨rfl, hb1⟩
  clear HC
  obtain ⟨o0, o1⟩ := KO.out _ hb1
  have z1 := Gr.size hb1
  simp at z1
  have g1 : Gr w w1 := Gr.trans (by exact gr_auto) hb1
  clear KO hb1
  have z2 : w.heap.size + 1 < w1.heap.size := by omega
  have z3 : w.heap.size + 1 ≠ w1.heap.size := by omega
  obtain ⟨p0, f0⟩ := o0; obtain ⟨p1, f1⟩ := o1
  go_wp2_with fail
  -- @b0
  refine wp_region_tail 9 (by kernel_rfl) (by kernel_rfl) ?_
  simp only [List.take_succ_cons, List.take_zero, List.drop_succ_cons, List.drop_zero]
  repeat (go_big_quiet_step (skip))
  refine wpQuiet_nil ?_
  -- @c0
  go_wp2_with fail
  -- @d0
  refine bodyPost_ret (by simp [results, Tryd.results58, go_sem, p0, p1, z2, z3]; try rfl) rfl ?_
  exact ⟨rfl, by exact gr_auto⟩
set_option maxRecDepth 100000 in
set_option maxHeartbeats 4000000 in
theorem ms_side1 (f : Ba.Face) (w : World) : Calls Tryd.prog 58 #[f.val, .int .i64 1] w fun e w' => e = .returned (.agg #[.int .i64 f.b, .int .i64 f.c]) ∧ Gr w w' := by
  have HC := Lib.hid (fun W => ms_corners f W)
  unfold Ba.Face.val at *
  obtain ⟨a, b, c, k⟩ := f
  simp only at *
  go_enter Tryd.func58, Tryd.ntmps58
  go_wp2_with fail
  have KO := Lib.hid (fun (W : World) (hb : Gr ((w.alloc (Obj.cells #[.int .i64 a, .int .i64 b, .int .i64 c, .int .i64 k] 43)).alloc (Obj.cells #[.int .i64 0, .int .i64 0] 48)) W) => (⟨Own.gr (b := w.heap.size + 1) (o := 0) (v := .int .i64 0) ⟨by simp [go_sem], by simp [go_sem]⟩ hb, Own.gr (b := w.heap.size + 1) (o := 1) (v := .int .i64 0) ⟨by simp [go_sem], by simp [go_sem]⟩ hb⟩ : Own W (w.heap.size + 1) 0 (.int .i64 0) ∧ Own W (w.heap.size + 1) 1 (.int .i64 0)))
  -- @a1
  refine (HC.out _).mono ?_
  rintro e w1 ⟨rfl, hb1⟩
  clear HC
  obtain ⟨o0, o1⟩ := KO.out _ hb1
  have z1 := Gr.size hb1
  simp at z1
  have g1 : Gr w w1 := Gr.trans (by exact gr_auto) hb1
  clear KO hb1
  have z2 : w.heap.size + 1 < w1.heap.size := by omega
  have z3 : w.heap.size + 1 ≠ w1.heap.size := by omega
  obtain ⟨p0, f0⟩ := o0; obtain ⟨p1, f1⟩ := o1
  go_wp2_with fail
  -- @b1
  refine wp_region_tail 9 (by kernel_rfl) (by kernel_rfl) ?_
  simp only [List.take_succ_cons, List.take_zero, List.drop_succ_cons, List.drop_zero]
  repeat (go_big_quiet_step (skip))
  refine wpQuiet_nil ?_
  -- @c1
  go_wp2_with fail
  -- @d1
  refine bodyPost_ret (by simp [results, Tryd.results58, go_sem, p0, p1, z2, z3]; try rfl) rfl ?_
  exact ⟨rfl, by exact gr_auto⟩
set_option maxRecDepth 100000 in
set_option maxHeartbeats 4000000 in
theorem ms_side2 (f : Ba.Face) (w : World) : Calls Tryd.prog 58 #[f.val, .int .i64 2] w fun e w' => e = .returned (.agg #[.int .i64 f.c, .int .i64 f.a]) ∧ Gr w w' := by
  have HC := Lib.hid (fun W => ms_corners f W)
  unfold Ba.Face.val at *
  obtain ⟨a, b, c, k⟩ := f
  simp only at *
  go_enter Tryd.func58, Tryd.ntmps58
  go_wp2_with fail
  have KO := Lib.hid (fun (W : World) (hb : Gr ((w.alloc (Obj.cells #[.int .i64 a, .int .i64 b, .int .i64 c, .int .i64 k] 43)).alloc (Obj.cells #[.int .i64 0, .int .i64 0] 48)) W) => (⟨Own.gr (b := w.heap.size + 1) (o := 0) (v := .int .i64 0) ⟨by simp [go_sem], by simp [go_sem]⟩ hb, Own.gr (b := w.heap.size + 1) (o := 1) (v := .int .i64 0) ⟨by simp [go_sem], by simp [go_sem]⟩ hb⟩ : Own W (w.heap.size + 1) 0 (.int .i64 0) ∧ Own W (w.heap.size + 1) 1 (.int .i64 0)))
  -- @a2
  refine (HC.out _).mono ?_
  rintro e w1 ⟨rfl, hb1⟩
  clear HC
  obtain ⟨o0, o1⟩ := KO.out _ hb1
  have z1 := Gr.size hb1
  simp at z1
  have g1 : Gr w w1 := Gr.trans (by exact gr_auto) hb1
  clear KO hb1
  have z2 : w.heap.size + 1 < w1.heap.size := by omega
  have z3 : w.heap.size + 1 ≠ w1.heap.size := by omega
  obtain ⟨p0, f0⟩ := o0; obtain ⟨p1, f1⟩ := o1
  go_wp2_with fail
  -- @b2
  refine wp_region_tail 9 (by kernel_rfl) (by kernel_rfl) ?_
  simp only [List.take_succ_cons, List.take_zero, List.drop_succ_cons, List.drop_zero]
  repeat (go_big_quiet_step (skip))
  refine wpQuiet_nil ?_
  -- @c2
  go_wp2_with fail
  -- @d2
  refine bodyPost_ret (by simp [results, Tryd.results58, go_sem, p0, p1, z2, z3]; try rfl) rfl ?_
  exact ⟨rfl, by exact gr_auto⟩
theorem ms_side (f : Ba.Face) (k : Nat) (hk : k < 3) (w : World) : Calls Tryd.prog 58 #[f.val, .int .i64 (k : Int)] w fun e w' => e = .returned (.agg #[.int .i64 (Ms.cor f k), .int .i64 (Ms.cor f (k + 1))]) ∧ Gr w w' := by
  match k, hk with
  | 0, _ => exact ms_side0 f w
  | 1, _ => exact ms_side1 f w
  | 2, _ => exact ms_side2 f w
end Go.Proofs.YtajhhplgcegodaaDoor
