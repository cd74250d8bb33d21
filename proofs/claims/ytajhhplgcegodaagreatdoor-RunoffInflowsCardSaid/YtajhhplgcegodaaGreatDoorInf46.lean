/-
  Surfaces: the reference's tests of two triangles, and of a face's corners. (Printed by mkl.py.)
-/
import Derived.Test.YtajhhplgcegodaaGreatDoorInf28

set_option linter.unusedVariables false
set_option linter.unusedSimpArgs false
namespace Go.Proofs.YtajhhplgcegodaaGreatDoor
open Go.RowKit
attribute [local go_sem ↓] Go.wp_at_zero Go.wp_at_succ
set_option maxRecDepth 100000 in
set_option maxHeartbeats 4000000 in
theorem rs_apart (t u : Ms.Tri) (b1 b2 : Nat) (w : World) (ht : Ms.tOk t) (hu : Ms.tOk u) (h1 : t.Cells w b1 0) (h2 : u.Cells w b2 0) : Calls Tryz.prog 144 #[.slice (some ⟨b1, 0, none⟩) 3 3, .slice (some ⟨b2, 0, none⟩) 3 3] w fun e w' => e = .returned (.bool (Ms.sepB t u)) ∧ Gr w w' := by
  rw [Ms.sepB_any]
  have HL := Lib.hid (fun i => show Ms.lP t u i = Ms.lB (Ms.tX t i) (Ms.tY t i) (Ms.tX t (i + 1)) (Ms.tY t (i + 1)) u from rfl)
  generalize hP : Ms.lP t u = P at *
  clear hP
  obtain ⟨tx0, ty0, tx1, ty1, tx2, ty2⟩ := t
  obtain ⟨ux0, uy0, ux1, uy1, ux2, uy2⟩ := u
  unfold Ms.tOk at ht hu
  obtain ⟨k0, k1, k2, k3, k4, k5⟩ := h1
  obtain ⟨k6, k7, k8, k9, k10, k11⟩ := h2
  simp only [Nat.zero_add] at *
  replace ht := Lib.hid ht; replace hu := Lib.hid hu
  have z1 : b1 < w.heap.size := World.block_lt_of_cell? _ _ k0
  have z2 : b2 < w.heap.size := World.block_lt_of_cell? _ _ k6
  go_enter Tryz.func144, Tryz.ntmps144
  go_wp2_with fail
  go_loopw [5] (fun x wr => ∃ i : Nat, i ≤ 3 ∧ x = .int .i64 (i : Int) ∧ Hid (Ba.any P i = false) ∧ Gr w wr) (fun x _ => 3 - (intOf x).toNat)
  case atStart => exact ⟨0, by omega, rfl, Lib.hid rfl, Gr.refl _⟩
  case round =>
    obtain ⟨i, hi, rfl, HQ, hg⟩ := hrel
    have gr : Gr w wr := hg
    replace k0 := Gr.at hg k0
    replace k1 := Gr.at hg k1
    replace k2 := Gr.at hg k2
    replace k3 := Gr.at hg k3
    replace k4 := Gr.at hg k4
    replace k5 := Gr.at hg k5
    replace k6 := Gr.at hg k6
    replace k7 := Gr.at hg k7
    replace k8 := Gr.at hg k8
    replace k9 := Gr.at hg k9
    replace k10 := Gr.at hg k10
    replace k11 := Gr.at hg k11
    have zz := Gr.size hg
    have y0 : b1 < wr.heap.size := by omega
    have y1 : b2 < wr.heap.size := by omega
    have y2 : b1 ≠ wr.heap.size := by omega
    have y3 : b2 ≠ wr.heap.size := by omega
    have y4 : b1 ≠ wr.heap.size + 1 := by omega
    have y5 : b2 ≠ wr.heap.size + 1 := by omega
    by_cases hlt : i < 3
    · rcases (by omega : i = 0 ∨ i = 1 ∨ i = 2) with rfl | rfl | rfl
      · have HPi : P 0 = (decide (Ms.tr2 tx0 ty0 tx1 ty1 ux0 uy0 ≤ 0) && (decide (Ms.tr2 tx0 ty0 tx1 ty1 ux1 uy1 ≤ 0) && decide (Ms.tr2 tx0 ty0 tx1 ty1 ux2 uy2 ≤ 0))) := HL.out 0
        have T0 := Lib.hid (fun W => rs_turn tx0 ty0 tx1 ty1 ux0 uy0 W ht.out.1 ht.out.2.1 ht.out.2.2.1 ht.out.2.2.2.1 hu.out.1 hu.out.2.1)
        have T1 := Lib.hid (fun W => rs_turn tx0 ty0 tx1 ty1 ux1 uy1 W ht.out.1 ht.out.2.1 ht.out.2.2.1 ht.out.2.2.2.1 hu.out.2.2.1 hu.out.2.2.2.1)
        have T2 := Lib.hid (fun W => rs_turn tx0 ty0 tx1 ty1 ux2 uy2 W ht.out.1 ht.out.2.1 ht.out.2.2.1 ht.out.2.2.2.1 hu.out.2.2.2.2.1 hu.out.2.2.2.2.2)
        clear HL
        generalize Ms.tr2 tx0 ty0 tx1 ty1 ux0 uy0 = v0 at *
        generalize Ms.tr2 tx0 ty0 tx1 ty1 ux1 uy1 = v1 at *
        generalize Ms.tr2 tx0 ty0 tx1 ty1 ux2 uy2 = v2 at *
        cases q0 : decide (v0 ≤ 0)
        · rw [q0] at HPi
          have HR := Lib.hid (Ms.any_go HQ.out (by rw [HPi]; rfl))
          clear HPi HQ
          go_wp2_with fail
          go_region
          · go_wp2_with fail
            (first | refine name_world ?_ | refine (show (∀ W, W = _ → Calls _ _ _ W _) → Calls _ _ _ _ _ from fun h => h _ rfl) ?_); intro W1 hW1
            have g1 : Gr w W1 := by rw [hW1]; exact gr_auto
            have gb1_wr : Gr wr W1 := by (try clear g1); rw [hW1]; exact gr_auto
            have k1_0 : W1.cell? ⟨wr.heap.size, 0, none⟩ = some (.int .i64 tx0) := by rw [hW1]; first | (simp [go_sem, *]; done) | (refine Gr.at ?_ (by assumption); exact gr_auto)
            have b1_0 : wr.heap.size < W1.heap.size := World.block_lt_of_cell? _ _ k1_0
            have k1_1 : W1.cell? ⟨wr.heap.size, 1, none⟩ = some (.int .i64 ty0) := by rw [hW1]; first | (simp [go_sem, *]; done) | (refine Gr.at ?_ (by assumption); exact gr_auto)
            have k1_2 : W1.cell? ⟨wr.heap.size + 1, 0, none⟩ = some (.int .i64 tx1) := by rw [hW1]; first | (simp [go_sem, *]; done) | (refine Gr.at ?_ (by assumption); exact gr_auto)
            have b1_2 : wr.heap.size + 1 < W1.heap.size := World.block_lt_of_cell? _ _ k1_2
            have k1_3 : W1.cell? ⟨wr.heap.size + 1, 1, none⟩ = some (.int .i64 ty1) := by rw [hW1]; first | (simp [go_sem, *]; done) | (refine Gr.at ?_ (by assumption); exact gr_auto)
            have k1_4 : W1.cell? ⟨b2, 0, none⟩ = some (.int .i64 ux0) := by rw [hW1]; first | (simp [go_sem, *]; done) | (refine Gr.at ?_ (by assumption); exact gr_auto)
            have b1_4 : b2 < W1.heap.size := World.block_lt_of_cell? _ _ k1_4
            have k1_5 : W1.cell? ⟨b2, 1, none⟩ = some (.int .i64 uy0) := by rw [hW1]; first | (simp [go_sem, *]; done) | (refine Gr.at ?_ (by assumption); exact gr_auto)
            have k1_6 : W1.cell? ⟨b2, 2, none⟩ = some (.int .i64 ux1) := by rw [hW1]; first | (simp [go_sem, *]; done) | (refine Gr.at ?_ (by assumption); exact gr_auto)
            have k1_7 : W1.cell? ⟨b2, 3, none⟩ = some (.int .i64 uy1) := by rw [hW1]; first | (simp [go_sem, *]; done) | (refine Gr.at ?_ (by assumption); exact gr_auto)
            have k1_8 : W1.cell? ⟨b2, 4, none⟩ = some (.int .i64 ux2) := by rw [hW1]; first | (simp [go_sem, *]; done) | (refine Gr.at ?_ (by assumption); exact gr_auto)
            have k1_9 : W1.cell? ⟨b2, 5, none⟩ = some (.int .i64 uy2) := by rw [hW1]; first | (simp [go_sem, *]; done) | (refine Gr.at ?_ (by assumption); exact gr_auto)
            clear hW1
            have s1_0 : ∀ gw : GW W1, gw.1.cell? ⟨wr.heap.size, 0, none⟩ = some (.int .i64 tx0) := fun gw => Gr.at gw.2 k1_0
            have s1_1 : ∀ gw : GW W1, gw.1.cell? ⟨wr.heap.size, 1, none⟩ = some (.int .i64 ty0) := fun gw => Gr.at gw.2 k1_1
            have s1_2 : ∀ gw : GW W1, gw.1.cell? ⟨wr.heap.size + 1, 0, none⟩ = some (.int .i64 tx1) := fun gw => Gr.at gw.2 k1_2
            have s1_3 : ∀ gw : GW W1, gw.1.cell? ⟨wr.heap.size + 1, 1, none⟩ = some (.int .i64 ty1) := fun gw => Gr.at gw.2 k1_3
            have s1_4 : ∀ gw : GW W1, gw.1.cell? ⟨b2, 0, none⟩ = some (.int .i64 ux0) := fun gw => Gr.at gw.2 k1_4
            have s1_5 : ∀ gw : GW W1, gw.1.cell? ⟨b2, 1, none⟩ = some (.int .i64 uy0) := fun gw => Gr.at gw.2 k1_5
            have s1_6 : ∀ gw : GW W1, gw.1.cell? ⟨b2, 2, none⟩ = some (.int .i64 ux1) := fun gw => Gr.at gw.2 k1_6
            have s1_7 : ∀ gw : GW W1, gw.1.cell? ⟨b2, 3, none⟩ = some (.int .i64 uy1) := fun gw => Gr.at gw.2 k1_7
            have s1_8 : ∀ gw : GW W1, gw.1.cell? ⟨b2, 4, none⟩ = some (.int .i64 ux2) := fun gw => Gr.at gw.2 k1_8
            have s1_9 : ∀ gw : GW W1, gw.1.cell? ⟨b2, 5, none⟩ = some (.int .i64 uy2) := fun gw => Gr.at gw.2 k1_9
            have Q0 := Lib.hid (fun gw : GW W1 => gw_call (T0.out gw.1))
            have Q1 := Lib.hid (fun gw : GW W1 => gw_call (T1.out gw.1))
            have Q2 := Lib.hid (fun gw : GW W1 => gw_call (T2.out gw.1))
            refine wp_region_gr (by kernel_rfl) (by kernel_rfl) ?_
            repeat (go_big_quiet_step (first | (go_at_call 141; with_reducible exact Q0.out _) | (go_at_call 141; with_reducible exact Q1.out _) | (go_at_call 141; with_reducible exact Q2.out _)))
            refine wpQuiet_nil ?_
            intro w2 hb2
            clear s1_0 s1_1 s1_2 s1_3 s1_4 s1_5 s1_6 s1_7 s1_8 s1_9
            have g2 : Gr w w2 := g1.trans hb2
            have k1_0 := Gr.at hb2 k1_0
            have k1_1 := Gr.at hb2 k1_1
            have k1_2 := Gr.at hb2 k1_2
            have k1_3 := Gr.at hb2 k1_3
            have k1_4 := Gr.at hb2 k1_4
            have k1_5 := Gr.at hb2 k1_5
            have k1_6 := Gr.at hb2 k1_6
            have k1_7 := Gr.at hb2 k1_7
            have k1_8 := Gr.at hb2 k1_8
            have k1_9 := Gr.at hb2 k1_9
            go_wp2_with fail
            go_roundw
            case rel => exact ⟨1, by omega, by go_num, HR, hg.trans (gb1_wr.trans hb2)⟩
            case measure => simp [intOf]
          · go_wp2_with fail
            (first | refine name_world ?_ | refine (show (∀ W, W = _ → Calls _ _ _ W _) → Calls _ _ _ _ _ from fun h => h _ rfl) ?_); intro W1 hW1
            have g1 : Gr w W1 := by rw [hW1]; exact gr_auto
            have gb1_wr : Gr wr W1 := by (try clear g1); rw [hW1]; exact gr_auto
            have k1_0 : W1.cell? ⟨wr.heap.size + 1, 0, none⟩ = some (.int .i64 tx0) := by rw [hW1]; first | (simp [go_sem, *]; done) | (refine Gr.at ?_ (by assumption); exact gr_auto)
            have b1_0 : wr.heap.size + 1 < W1.heap.size := World.block_lt_of_cell? _ _ k1_0
            have k1_1 : W1.cell? ⟨wr.heap.size + 1, 1, none⟩ = some (.int .i64 ty0) := by rw [hW1]; first | (simp [go_sem, *]; done) | (refine Gr.at ?_ (by assumption); exact gr_auto)
            have k1_2 : W1.cell? ⟨wr.heap.size, 0, none⟩ = some (.int .i64 tx1) := by rw [hW1]; first | (simp [go_sem, *]; done) | (refine Gr.at ?_ (by assumption); exact gr_auto)
            have b1_2 : wr.heap.size < W1.heap.size := World.block_lt_of_cell? _ _ k1_2
            have k1_3 : W1.cell? ⟨wr.heap.size, 1, none⟩ = some (.int .i64 ty1) := by rw [hW1]; first | (simp [go_sem, *]; done) | (refine Gr.at ?_ (by assumption); exact gr_auto)
            have k1_4 : W1.cell? ⟨b2, 0, none⟩ = some (.int .i64 ux0) := by rw [hW1]; first | (simp [go_sem, *]; done) | (refine Gr.at ?_ (by assumption); exact gr_auto)
            have b1_4 : b2 < W1.heap.size := World.block_lt_of_cell? _ _ k1_4
            have k1_5 : W1.cell? ⟨b2, 1, none⟩ = some (.int .i64 uy0) := by rw [hW1]; first | (simp [go_sem, *]; done) | (refine Gr.at ?_ (by assumption); exact gr_auto)
            have k1_6 : W1.cell? ⟨b2, 2, none⟩ = some (.int .i64 ux1) := by rw [hW1]; first | (simp [go_sem, *]; done) | (refine Gr.at ?_ (by assumption); exact gr_auto)
            have k1_7 : W1.cell? ⟨b2, 3, none⟩ = some (.int .i64 uy1) := by rw [hW1]; first | (simp [go_sem, *]; done) | (refine Gr.at ?_ (by assumption); exact gr_auto)
            have k1_8 : W1.cell? ⟨b2, 4, none⟩ = some (.int .i64 ux2) := by rw [hW1]; first | (simp [go_sem, *]; done) | (refine Gr.at ?_ (by assumption); exact gr_auto)
            have k1_9 : W1.cell? ⟨b2, 5, none⟩ = some (.int .i64 uy2) := by rw [hW1]; first | (simp [go_sem, *]; done) | (refine Gr.at ?_ (by assumption); exact gr_auto)
            clear hW1
            have s1_0 : ∀ gw : GW W1, gw.1.cell? ⟨wr.heap.size + 1, 0, none⟩ = some (.int .i64 tx0) := fun gw => Gr.at gw.2 k1_0
            have s1_1 : ∀ gw : GW W1, gw.1.cell? ⟨wr.heap.size + 1, 1, none⟩ = some (.int .i64 ty0) := fun gw => Gr.at gw.2 k1_1
            have s1_2 : ∀ gw : GW W1, gw.1.cell? ⟨wr.heap.size, 0, none⟩ = some (.int .i64 tx1) := fun gw => Gr.at gw.2 k1_2
            have s1_3 : ∀ gw : GW W1, gw.1.cell? ⟨wr.heap.size, 1, none⟩ = some (.int .i64 ty1) := fun gw => Gr.at gw.2 k1_3
            have s1_4 : ∀ gw : GW W1, gw.1.cell? ⟨b2, 0, none⟩ = some (.int .i64 ux0) := fun gw => Gr.at gw.2 k1_4
            have s1_5 : ∀ gw : GW W1, gw.1.cell? ⟨b2, 1, none⟩ = some (.int .i64 uy0) := fun gw => Gr.at gw.2 k1_5
            have s1_6 : ∀ gw : GW W1, gw.1.cell? ⟨b2, 2, none⟩ = some (.int .i64 ux1) := fun gw => Gr.at gw.2 k1_6
            have s1_7 : ∀ gw : GW W1, gw.1.cell? ⟨b2, 3, none⟩ = some (.int .i64 uy1) := fun gw => Gr.at gw.2 k1_7
            have s1_8 : ∀ gw : GW W1, gw.1.cell? ⟨b2, 4, none⟩ = some (.int .i64 ux2) := fun gw => Gr.at gw.2 k1_8
            have s1_9 : ∀ gw : GW W1, gw.1.cell? ⟨b2, 5, none⟩ = some (.int .i64 uy2) := fun gw => Gr.at gw.2 k1_9
            have Q0 := Lib.hid (fun gw : GW W1 => gw_call (T0.out gw.1))
            have Q1 := Lib.hid (fun gw : GW W1 => gw_call (T1.out gw.1))
            have Q2 := Lib.hid (fun gw : GW W1 => gw_call (T2.out gw.1))
            refine wp_region_gr (by kernel_rfl) (by kernel_rfl) ?_
            repeat (go_big_quiet_step (first | (go_at_call 141; with_reducible exact Q0.out _) | (go_at_call 141; with_reducible exact Q1.out _) | (go_at_call 141; with_reducible exact Q2.out _)))
            refine wpQuiet_nil ?_
            intro w2 hb2
            clear s1_0 s1_1 s1_2 s1_3 s1_4 s1_5 s1_6 s1_7 s1_8 s1_9
            have g2 : Gr w w2 := g1.trans hb2
            have k1_0 := Gr.at hb2 k1_0
            have k1_1 := Gr.at hb2 k1_1
            have k1_2 := Gr.at hb2 k1_2
            have k1_3 := Gr.at hb2 k1_3
            have k1_4 := Gr.at hb2 k1_4
            have k1_5 := Gr.at hb2 k1_5
            have k1_6 := Gr.at hb2 k1_6
            have k1_7 := Gr.at hb2 k1_7
            have k1_8 := Gr.at hb2 k1_8
            have k1_9 := Gr.at hb2 k1_9
            go_wp2_with fail
            go_roundw
            case rel => exact ⟨1, by omega, by go_num, HR, hg.trans (gb1_wr.trans hb2)⟩
            case measure => simp [intOf]
        · rw [q0] at HPi
          cases q1 : decide (v1 ≤ 0)
          · rw [q1] at HPi
            have HR := Lib.hid (Ms.any_go HQ.out (by rw [HPi]; rfl))
            clear HPi HQ
            go_wp2_with fail
            go_region
            · go_wp2_with fail
              (first | refine name_world ?_ | refine (show (∀ W, W = _ → Calls _ _ _ W _) → Calls _ _ _ _ _ from fun h => h _ rfl) ?_); intro W1 hW1
              have g1 : Gr w W1 := by rw [hW1]; exact gr_auto
              have gb1_wr : Gr wr W1 := by (try clear g1); rw [hW1]; exact gr_auto
              have k1_0 : W1.cell? ⟨wr.heap.size, 0, none⟩ = some (.int .i64 tx0) := by rw [hW1]; first | (simp [go_sem, *]; done) | (refine Gr.at ?_ (by assumption); exact gr_auto)
              have b1_0 : wr.heap.size < W1.heap.size := World.block_lt_of_cell? _ _ k1_0
              have k1_1 : W1.cell? ⟨wr.heap.size, 1, none⟩ = some (.int .i64 ty0) := by rw [hW1]; first | (simp [go_sem, *]; done) | (refine Gr.at ?_ (by assumption); exact gr_auto)
              have k1_2 : W1.cell? ⟨wr.heap.size + 1, 0, none⟩ = some (.int .i64 tx1) := by rw [hW1]; first | (simp [go_sem, *]; done) | (refine Gr.at ?_ (by assumption); exact gr_auto)
              have b1_2 : wr.heap.size + 1 < W1.heap.size := World.block_lt_of_cell? _ _ k1_2
              have k1_3 : W1.cell? ⟨wr.heap.size + 1, 1, none⟩ = some (.int .i64 ty1) := by rw [hW1]; first | (simp [go_sem, *]; done) | (refine Gr.at ?_ (by assumption); exact gr_auto)
              have k1_4 : W1.cell? ⟨b2, 0, none⟩ = some (.int .i64 ux0) := by rw [hW1]; first | (simp [go_sem, *]; done) | (refine Gr.at ?_ (by assumption); exact gr_auto)
              have b1_4 : b2 < W1.heap.size := World.block_lt_of_cell? _ _ k1_4
              have k1_5 : W1.cell? ⟨b2, 1, none⟩ = some (.int .i64 uy0) := by rw [hW1]; first | (simp [go_sem, *]; done) | (refine Gr.at ?_ (by assumption); exact gr_auto)
              have k1_6 : W1.cell? ⟨b2, 2, none⟩ = some (.int .i64 ux1) := by rw [hW1]; first | (simp [go_sem, *]; done) | (refine Gr.at ?_ (by assumption); exact gr_auto)
              have k1_7 : W1.cell? ⟨b2, 3, none⟩ = some (.int .i64 uy1) := by rw [hW1]; first | (simp [go_sem, *]; done) | (refine Gr.at ?_ (by assumption); exact gr_auto)
              have k1_8 : W1.cell? ⟨b2, 4, none⟩ = some (.int .i64 ux2) := by rw [hW1]; first | (simp [go_sem, *]; done) | (refine Gr.at ?_ (by assumption); exact gr_auto)
              have k1_9 : W1.cell? ⟨b2, 5, none⟩ = some (.int .i64 uy2) := by rw [hW1]; first | (simp [go_sem, *]; done) | (refine Gr.at ?_ (by assumption); exact gr_auto)
              clear hW1
              have s1_0 : ∀ gw : GW W1, gw.1.cell? ⟨wr.heap.size, 0, none⟩ = some (.int .i64 tx0) := fun gw => Gr.at gw.2 k1_0
              have s1_1 : ∀ gw : GW W1, gw.1.cell? ⟨wr.heap.size, 1, none⟩ = some (.int .i64 ty0) := fun gw => Gr.at gw.2 k1_1
              have s1_2 : ∀ gw : GW W1, gw.1.cell? ⟨wr.heap.size + 1, 0, none⟩ = some (.int .i64 tx1) := fun gw => Gr.at gw.2 k1_2
              have s1_3 : ∀ gw : GW W1, gw.1.cell? ⟨wr.heap.size + 1, 1, none⟩ = some (.int .i64 ty1) := fun gw => Gr.at gw.2 k1_3
              have s1_4 : ∀ gw : GW W1, gw.1.cell? ⟨b2, 0, none⟩ = some (.int .i64 ux0) := fun gw => Gr.at gw.2 k1_4
              have s1_5 : ∀ gw : GW W1, gw.1.cell? ⟨b2, 1, none⟩ = some (.int .i64 uy0) := fun gw => Gr.at gw.2 k1_5
              have s1_6 : ∀ gw : GW W1, gw.1.cell? ⟨b2, 2, none⟩ = some (.int .i64 ux1) := fun gw => Gr.at gw.2 k1_6
              have s1_7 : ∀ gw : GW W1, gw.1.cell? ⟨b2, 3, none⟩ = some (.int .i64 uy1) := fun gw => Gr.at gw.2 k1_7
              have s1_8 : ∀ gw : GW W1, gw.1.cell? ⟨b2, 4, none⟩ = some (.int .i64 ux2) := fun gw => Gr.at gw.2 k1_8
              have s1_9 : ∀ gw : GW W1, gw.1.cell? ⟨b2, 5, none⟩ = some (.int .i64 uy2) := fun gw => Gr.at gw.2 k1_9
              have Q0 := Lib.hid (fun gw : GW W1 => gw_call (T0.out gw.1))
              have Q1 := Lib.hid (fun gw : GW W1 => gw_call (T1.out gw.1))
              have Q2 := Lib.hid (fun gw : GW W1 => gw_call (T2.out gw.1))
              refine wp_region_gr (by kernel_rfl) (by kernel_rfl) ?_
              repeat (go_big_quiet_step (first | (go_at_call 141; with_reducible exact Q0.out _) | (go_at_call 141; with_reducible exact Q1.out _) | (go_at_call 141; with_reducible exact Q2.out _)))
              refine wpQuiet_nil ?_
              intro w2 hb2
              clear s1_0 s1_1 s1_2 s1_3 s1_4 s1_5 s1_6 s1_7 s1_8 s1_9
              have g2 : Gr w w2 := g1.trans hb2
              have k1_0 := Gr.at hb2 k1_0
              have k1_1 := Gr.at hb2 k1_1
              have k1_2 := Gr.at hb2 k1_2
              have k1_3 := Gr.at hb2 k1_3
              have k1_4 := Gr.at hb2 k1_4
              have k1_5 := Gr.at hb2 k1_5
              have k1_6 := Gr.at hb2 k1_6
              have k1_7 := Gr.at hb2 k1_7
              have k1_8 := Gr.at hb2 k1_8
              have k1_9 := Gr.at hb2 k1_9
              go_wp2_with fail
              go_roundw
              case rel => exact ⟨1, by omega, by go_num, HR, hg.trans (gb1_wr.trans hb2)⟩
              case measure => simp [intOf]
            · go_wp2_with fail
              (first | refine name_world ?_ | refine (show (∀ W, W = _ → Calls _ _ _ W _) → Calls _ _ _ _ _ from fun h => h _ rfl) ?_); intro W1 hW1
              have g1 : Gr w W1 := by rw [hW1]; exact gr_auto
              have gb1_wr : Gr wr W1 := by (try clear g1); rw [hW1]; exact gr_auto
              have k1_0 : W1.cell? ⟨wr.heap.size + 1, 0, none⟩ = some (.int .i64 tx0) := by rw [hW1]; first | (simp [go_sem, *]; done) | (refine Gr.at ?_ (by assumption); exact gr_auto)
              have b1_0 : wr.heap.size + 1 < W1.heap.size := World.block_lt_of_cell? _ _ k1_0
              have k1_1 : W1.cell? ⟨wr.heap.size + 1, 1, none⟩ = some (.int .i64 ty0) := by rw [hW1]; first | (simp [go_sem, *]; done) | (refine Gr.at ?_ (by assumption); exact gr_auto)
              have k1_2 : W1.cell? ⟨wr.heap.size, 0, none⟩ = some (.int .i64 tx1) := by rw [hW1]; first | (simp [go_sem, *]; done) | (refine Gr.at ?_ (by assumption); exact gr_auto)
              have b1_2 : wr.heap.size < W1.heap.size := World.block_lt_of_cell? _ _ k1_2
              have k1_3 : W1.cell? ⟨wr.heap.size, 1, none⟩ = some (.int .i64 ty1) := by rw [hW1]; first | (simp [go_sem, *]; done) | (refine Gr.at ?_ (by assumption); exact gr_auto)
              have k1_4 : W1.cell? ⟨b2, 0, none⟩ = some (.int .i64 ux0) := by rw [hW1]; first | (simp [go_sem, *]; done) | (refine Gr.at ?_ (by assumption); exact gr_auto)
              have b1_4 : b2 < W1.heap.size := World.block_lt_of_cell? _ _ k1_4
              have k1_5 : W1.cell? ⟨b2, 1, none⟩ = some (.int .i64 uy0) := by rw [hW1]; first | (simp [go_sem, *]; done) | (refine Gr.at ?_ (by assumption); exact gr_auto)
              have k1_6 : W1.cell? ⟨b2, 2, none⟩ = some (.int .i64 ux1) := by rw [hW1]; first | (simp [go_sem, *]; done) | (refine Gr.at ?_ (by assumption); exact gr_auto)
              have k1_7 : W1.cell? ⟨b2, 3, none⟩ = some (.int .i64 uy1) := by rw [hW1]; first | (simp [go_sem, *]; done) | (refine Gr.at ?_ (by assumption); exact gr_auto)
              have k1_8 : W1.cell? ⟨b2, 4, none⟩ = some (.int .i64 ux2) := by rw [hW1]; first | (simp [go_sem, *]; done) | (refine Gr.at ?_ (by assumption); exact gr_auto)
              have k1_9 : W1.cell? ⟨b2, 5, none⟩ = some (.int .i64 uy2) := by rw [hW1]; first | (simp [go_sem, *]; done) | (refine Gr.at ?_ (by assumption); exact gr_auto)
              clear hW1
              have s1_0 : ∀ gw : GW W1, gw.1.cell? ⟨wr.heap.size + 1, 0, none⟩ = some (.int .i64 tx0) := fun gw => Gr.at gw.2 k1_0
              have s1_1 : ∀ gw : GW W1, gw.1.cell? ⟨wr.heap.size + 1, 1, none⟩ = some (.int .i64 ty0) := fun gw => Gr.at gw.2 k1_1
              have s1_2 : ∀ gw : GW W1, gw.1.cell? ⟨wr.heap.size, 0, none⟩ = some (.int .i64 tx1) := fun gw => Gr.at gw.2 k1_2
              have s1_3 : ∀ gw : GW W1, gw.1.cell? ⟨wr.heap.size, 1, none⟩ = some (.int .i64 ty1) := fun gw => Gr.at gw.2 k1_3
              have s1_4 : ∀ gw : GW W1, gw.1.cell? ⟨b2, 0, none⟩ = some (.int .i64 ux0) := fun gw => Gr.at gw.2 k1_4
              have s1_5 : ∀ gw : GW W1, gw.1.cell? ⟨b2, 1, none⟩ = some (.int .i64 uy0) := fun gw => Gr.at gw.2 k1_5
              have s1_6 : ∀ gw : GW W1, gw.1.cell? ⟨b2, 2, none⟩ = some (.int .i64 ux1) := fun gw => Gr.at gw.2 k1_6
              have s1_7 : ∀ gw : GW W1, gw.1.cell? ⟨b2, 3, none⟩ = some (.int .i64 uy1) := fun gw => Gr.at gw.2 k1_7
              have s1_8 : ∀ gw : GW W1, gw.1.cell? ⟨b2, 4, none⟩ = some (.int .i64 ux2) := fun gw => Gr.at gw.2 k1_8
              have s1_9 : ∀ gw : GW W1, gw.1.cell? ⟨b2, 5, none⟩ = some (.int .i64 uy2) := fun gw => Gr.at gw.2 k1_9
              have Q0 := Lib.hid (fun gw : GW W1 => gw_call (T0.out gw.1))
              have Q1 := Lib.hid (fun gw : GW W1 => gw_call (T1.out gw.1))
              have Q2 := Lib.hid (fun gw : GW W1 => gw_call (T2.out gw.1))
              refine wp_region_gr (by kernel_rfl) (by kernel_rfl) ?_
              repeat (go_big_quiet_step (first | (go_at_call 141; with_reducible exact Q0.out _) | (go_at_call 141; with_reducible exact Q1.out _) | (go_at_call 141; with_reducible exact Q2.out _)))
              refine wpQuiet_nil ?_
              intro w2 hb2
              clear s1_0 s1_1 s1_2 s1_3 s1_4 s1_5 s1_6 s1_7 s1_8 s1_9
              have g2 : Gr w w2 := g1.trans hb2
              have k1_0 := Gr.at hb2 k1_0
              have k1_1 := Gr.at hb2 k1_1
              have k1_2 := Gr.at hb2 k1_2
              have k1_3 := Gr.at hb2 k1_3
              have k1_4 := Gr.at hb2 k1_4
              have k1_5 := Gr.at hb2 k1_5
              have k1_6 := Gr.at hb2 k1_6
              have k1_7 := Gr.at hb2 k1_7
              have k1_8 := Gr.at hb2 k1_8
              have k1_9 := Gr.at hb2 k1_9
              go_wp2_with fail
              go_roundw
              case rel => exact ⟨1, by omega, by go_num, HR, hg.trans (gb1_wr.trans hb2)⟩
              case measure => simp [intOf]
          · rw [q1] at HPi
            cases q2 : decide (v2 ≤ 0)
            · rw [q2] at HPi
              have HR := Lib.hid (Ms.any_go HQ.out (by rw [HPi]; rfl))
              clear HPi HQ
              go_wp2_with fail
              go_region
              · go_wp2_with fail
                (first | refine name_world ?_ | refine (show (∀ W, W = _ → Calls _ _ _ W _) → Calls _ _ _ _ _ from fun h => h _ rfl) ?_); intro W1 hW1
                have g1 : Gr w W1 := by rw [hW1]; exact gr_auto
                have gb1_wr : Gr wr W1 := by (try clear g1); rw [hW1]; exact gr_auto
                have k1_0 : W1.cell? ⟨wr.heap.size, 0, none⟩ = some (.int .i64 tx0) := by rw [hW1]; first | (simp [go_sem, *]; done) | (refine Gr.at ?_ (by assumption); exact gr_auto)
                have b1_0 : wr.heap.size < W1.heap.size := World.block_lt_of_cell? _ _ k1_0
                have k1_1 : W1.cell? ⟨wr.heap.size, 1, none⟩ = some (.int .i64 ty0) := by rw [hW1]; first | (simp [go_sem, *]; done) | (refine Gr.at ?_ (by assumption); exact gr_auto)
                have k1_2 : W1.cell? ⟨wr.heap.size + 1, 0, none⟩ = some (.int .i64 tx1) := by rw [hW1]; first | (simp [go_sem, *]; done) | (refine Gr.at ?_ (by assumption); exact gr_auto)
                have b1_2 : wr.heap.size + 1 < W1.heap.size := World.block_lt_of_cell? _ _ k1_2
                have k1_3 : W1.cell? ⟨wr.heap.size + 1, 1, none⟩ = some (.int .i64 ty1) := by rw [hW1]; first | (simp [go_sem, *]; done) | (refine Gr.at ?_ (by assumption); exact gr_auto)
                have k1_4 : W1.cell? ⟨b2, 0, none⟩ = some (.int .i64 ux0) := by rw [hW1]; first | (simp [go_sem, *]; done) | (refine Gr.at ?_ (by assumption); exact gr_auto)
                have b1_4 : b2 < W1.heap.size := World.block_lt_of_cell? _ _ k1_4
                have k1_5 : W1.cell? ⟨b2, 1, none⟩ = some (.int .i64 uy0) := by rw [hW1]; first | (simp [go_sem, *]; done) | (refine Gr.at ?_ (by assumption); exact gr_auto)
                have k1_6 : W1.cell? ⟨b2, 2, none⟩ = some (.int .i64 ux1) := by rw [hW1]; first | (simp [go_sem, *]; done) | (refine Gr.at ?_ (by assumption); exact gr_auto)
                have k1_7 : W1.cell? ⟨b2, 3, none⟩ = some (.int .i64 uy1) := by rw [hW1]; first | (simp [go_sem, *]; done) | (refine Gr.at ?_ (by assumption); exact gr_auto)
                have k1_8 : W1.cell? ⟨b2, 4, none⟩ = some (.int .i64 ux2) := by rw [hW1]; first | (simp [go_sem, *]; done) | (refine Gr.at ?_ (by assumption); exact gr_auto)
                have k1_9 : W1.cell? ⟨b2, 5, none⟩ = some (.int .i64 uy2) := by rw [hW1]; first | (simp [go_sem, *]; done) | (refine Gr.at ?_ (by assumption); exact gr_auto)
                clear hW1
                have s1_0 : ∀ gw : GW W1, gw.1.cell? ⟨wr.heap.size, 0, none⟩ = some (.int .i64 tx0) := fun gw => Gr.at gw.2 k1_0
                have s1_1 : ∀ gw : GW W1, gw.1.cell? ⟨wr.heap.size, 1, none⟩ = some (.int .i64 ty0) := fun gw => Gr.at gw.2 k1_1
                have s1_2 : ∀ gw : GW W1, gw.1.cell? ⟨wr.heap.size + 1, 0, none⟩ = some (.int .i64 tx1) := fun gw => Gr.at gw.2 k1_2
                have s1_3 : ∀ gw : GW W1, gw.1.cell? ⟨wr.heap.size + 1, 1, none⟩ = some (.int .i64 ty1) := fun gw => Gr.at gw.2 k1_3
                have s1_4 : ∀ gw : GW W1, gw.1.cell? ⟨b2, 0, none⟩ = some (.int .i64 ux0) := fun gw => Gr.at gw.2 k1_4
                have s1_5 : ∀ gw : GW W1, gw.1.cell? ⟨b2, 1, none⟩ = some (.int .i64 uy0) := fun gw => Gr.at gw.2 k1_5
                have s1_6 : ∀ gw : GW W1, gw.1.cell? ⟨b2, 2, none⟩ = some (.int .i64 ux1) := fun gw => Gr.at gw.2 k1_6
                have s1_7 : ∀ gw : GW W1, gw.1.cell? ⟨b2, 3, none⟩ = some (.int .i64 uy1) := fun gw => Gr.at gw.2 k1_7
                have s1_8 : ∀ gw : GW W1, gw.1.cell? ⟨b2, 4, none⟩ = some (.int .i64 ux2) := fun gw => Gr.at gw.2 k1_8
                have s1_9 : ∀ gw : GW W1, gw.1.cell? ⟨b2, 5, none⟩ = some (.int .i64 uy2) := fun gw => Gr.at gw.2 k1_9
                have Q0 := Lib.hid (fun gw : GW W1 => gw_call (T0.out gw.1))
                have Q1 := Lib.hid (fun gw : GW W1 => gw_call (T1.out gw.1))
                have Q2 := Lib.hid (fun gw : GW W1 => gw_call (T2.out gw.1))
                refine wp_region_gr (by kernel_rfl) (by kernel_rfl) ?_
                repeat (go_big_quiet_step (first | (go_at_call 141; with_reducible exact Q0.out _) | (go_at_call 141; with_reducible exact Q1.out _) | (go_at_call 141; with_reducible exact Q2.out _)))
                refine wpQuiet_nil ?_
                intro w2 hb2
                clear s1_0 s1_1 s1_2 s1_3 s1_4 s1_5 s1_6 s1_7 s1_8 s1_9
                have g2 : Gr w w2 := g1.trans hb2
                have k1_0 := Gr.at hb2 k1_0
                have k1_1 := Gr.at hb2 k1_1
                have k1_2 := Gr.at hb2 k1_2
                have k1_3 := Gr.at hb2 k1_3
                have k1_4 := Gr.at hb2 k1_4
                have k1_5 := Gr.at hb2 k1_5
                have k1_6 := Gr.at hb2 k1_6
                have k1_7 := Gr.at hb2 k1_7
                have k1_8 := Gr.at hb2 k1_8
                have k1_9 := Gr.at hb2 k1_9
                go_wp2_with fail
                go_roundw
                case rel => exact ⟨1, by omega, by go_num, HR, hg.trans (gb1_wr.trans hb2)⟩
                case measure => simp [intOf]
              · go_wp2_with fail
                (first | refine name_world ?_ | refine (show (∀ W, W = _ → Calls _ _ _ W _) → Calls _ _ _ _ _ from fun h => h _ rfl) ?_); intro W1 hW1
                have g1 : Gr w W1 := by rw [hW1]; exact gr_auto
                have gb1_wr : Gr wr W1 := by (try clear g1); rw [hW1]; exact gr_auto
                have k1_0 : W1.cell? ⟨wr.heap.size + 1, 0, none⟩ = some (.int .i64 tx0) := by rw [hW1]; first | (simp [go_sem, *]; done) | (refine Gr.at ?_ (by assumption); exact gr_auto)
                have b1_0 : wr.heap.size + 1 < W1.heap.size := World.block_lt_of_cell? _ _ k1_0
                have k1_1 : W1.cell? ⟨wr.heap.size + 1, 1, none⟩ = some (.int .i64 ty0) := by rw [hW1]; first | (simp [go_sem, *]; done) | (refine Gr.at ?_ (by assumption); exact gr_auto)
                have k1_2 : W1.cell? ⟨wr.heap.size, 0, none⟩ = some (.int .i64 tx1) := by rw [hW1]; first | (simp [go_sem, *]; done) | (refine Gr.at ?_ (by assumption); exact gr_auto)
                have b1_2 : wr.heap.size < W1.heap.size := World.block_lt_of_cell? _ _ k1_2
                have k1_3 : W1.cell? ⟨wr.heap.size, 1, none⟩ = some (.int .i64 ty1) := by rw [hW1]; first | (simp [go_sem, *]; done) | (refine Gr.at ?_ (by assumption); exact gr_auto)
                have k1_4 : W1.cell? ⟨b2, 0, none⟩ = some (.int .i64 ux0) := by rw [hW1]; first | (simp [go_sem, *]; done) | (refine Gr.at ?_ (by assumption); exact gr_auto)
                have b1_4 : b2 < W1.heap.size := World.block_lt_of_cell? _ _ k1_4
                have k1_5 : W1.cell? ⟨b2, 1, none⟩ = some (.int .i64 uy0) := by rw [hW1]; first | (simp [go_sem, *]; done) | (refine Gr.at ?_ (by assumption); exact gr_auto)
                have k1_6 : W1.cell? ⟨b2, 2, none⟩ = some (.int .i64 ux1) := by rw [hW1]; first | (simp [go_sem, *]; done) | (refine Gr.at ?_ (by assumption); exact gr_auto)
                have k1_7 : W1.cell? ⟨b2, 3, none⟩ = some (.int .i64 uy1) := by rw [hW1]; first | (simp [go_sem, *]; done) | (refine Gr.at ?_ (by assumption); exact gr_auto)
                have k1_8 : W1.cell? ⟨b2, 4, none⟩ = some (.int .i64 ux2) := by rw [hW1]; first | (simp [go_sem, *]; done) | (refine Gr.at ?_ (by assumption); exact gr_auto)
                have k1_9 : W1.cell? ⟨b2, 5, none⟩ = some (.int .i64 uy2) := by rw [hW1]; first | (simp [go_sem, *]; done) | (refine Gr.at ?_ (by assumption); exact gr_auto)
                clear hW1
                have s1_0 : ∀ gw : GW W1, gw.1.cell? ⟨wr.heap.size + 1, 0, none⟩ = some (.int .i64 tx0) := fun gw => Gr.at gw.2 k1_0
                have s1_1 : ∀ gw : GW W1, gw.1.cell? ⟨wr.heap.size + 1, 1, none⟩ = some (.int .i64 ty0) := fun gw => Gr.at gw.2 k1_1
                have s1_2 : ∀ gw : GW W1, gw.1.cell? ⟨wr.heap.size, 0, none⟩ = some (.int .i64 tx1) := fun gw => Gr.at gw.2 k1_2
                have s1_3 : ∀ gw : GW W1, gw.1.cell? ⟨wr.heap.size, 1, none⟩ = some (.int .i64 ty1) := fun gw => Gr.at gw.2 k1_3
                have s1_4 : ∀ gw : GW W1, gw.1.cell? ⟨b2, 0, none⟩ = some (.int .i64 ux0) := fun gw => Gr.at gw.2 k1_4
                have s1_5 : ∀ gw : GW W1, gw.1.cell? ⟨b2, 1, none⟩ = some (.int .i64 uy0) := fun gw => Gr.at gw.2 k1_5
                have s1_6 : ∀ gw : GW W1, gw.1.cell? ⟨b2, 2, none⟩ = some (.int .i64 ux1) := fun gw => Gr.at gw.2 k1_6
                have s1_7 : ∀ gw : GW W1, gw.1.cell? ⟨b2, 3, none⟩ = some (.int .i64 uy1) := fun gw => Gr.at gw.2 k1_7
                have s1_8 : ∀ gw : GW W1, gw.1.cell? ⟨b2, 4, none⟩ = some (.int .i64 ux2) := fun gw => Gr.at gw.2 k1_8
                have s1_9 : ∀ gw : GW W1, gw.1.cell? ⟨b2, 5, none⟩ = some (.int .i64 uy2) := fun gw => Gr.at gw.2 k1_9
                have Q0 := Lib.hid (fun gw : GW W1 => gw_call (T0.out gw.1))
                have Q1 := Lib.hid (fun gw : GW W1 => gw_call (T1.out gw.1))
                have Q2 := Lib.hid (fun gw : GW W1 => gw_call (T2.out gw.1))
                refine wp_region_gr (by kernel_rfl) (by kernel_rfl) ?_
                repeat (go_big_quiet_step (first | (go_at_call 141; with_reducible exact Q0.out _) | (go_at_call 141; with_reducible exact Q1.out _) | (go_at_call 141; with_reducible exact Q2.out _)))
                refine wpQuiet_nil ?_
                intro w2 hb2
                clear s1_0 s1_1 s1_2 s1_3 s1_4 s1_5 s1_6 s1_7 s1_8 s1_9
                have g2 : Gr w w2 := g1.trans hb2
                have k1_0 := Gr.at hb2 k1_0
                have k1_1 := Gr.at hb2 k1_1
                have k1_2 := Gr.at hb2 k1_2
                have k1_3 := Gr.at hb2 k1_3
                have k1_4 := Gr.at hb2 k1_4
                have k1_5 := Gr.at hb2 k1_5
                have k1_6 := Gr.at hb2 k1_6
                have k1_7 := Gr.at hb2 k1_7
                have k1_8 := Gr.at hb2 k1_8
                have k1_9 := Gr.at hb2 k1_9
                go_wp2_with fail
                go_roundw
                case rel => exact ⟨1, by omega, by go_num, HR, hg.trans (gb1_wr.trans hb2)⟩
                case measure => simp [intOf]
            · rw [q2] at HPi
              have HR := Lib.hid (Ms.any_hit (p := P) (i := 0) (n := 3) (by rw [HPi]; rfl) (by omega))
              clear HPi HQ
              go_wp2_with fail
              go_region
              · go_wp2_with fail
                (first | refine name_world ?_ | refine (show (∀ W, W = _ → Calls _ _ _ W _) → Calls _ _ _ _ _ from fun h => h _ rfl) ?_); intro W1 hW1
                have g1 : Gr w W1 := by rw [hW1]; exact gr_auto
                have gb1_wr : Gr wr W1 := by (try clear g1); rw [hW1]; exact gr_auto
                have k1_0 : W1.cell? ⟨wr.heap.size, 0, none⟩ = some (.int .i64 tx0) := by rw [hW1]; first | (simp [go_sem, *]; done) | (refine Gr.at ?_ (by assumption); exact gr_auto)
                have b1_0 : wr.heap.size < W1.heap.size := World.block_lt_of_cell? _ _ k1_0
                have k1_1 : W1.cell? ⟨wr.heap.size, 1, none⟩ = some (.int .i64 ty0) := by rw [hW1]; first | (simp [go_sem, *]; done) | (refine Gr.at ?_ (by assumption); exact gr_auto)
                have k1_2 : W1.cell? ⟨wr.heap.size + 1, 0, none⟩ = some (.int .i64 tx1) := by rw [hW1]; first | (simp [go_sem, *]; done) | (refine Gr.at ?_ (by assumption); exact gr_auto)
                have b1_2 : wr.heap.size + 1 < W1.heap.size := World.block_lt_of_cell? _ _ k1_2
                have k1_3 : W1.cell? ⟨wr.heap.size + 1, 1, none⟩ = some (.int .i64 ty1) := by rw [hW1]; first | (simp [go_sem, *]; done) | (refine Gr.at ?_ (by assumption); exact gr_auto)
                have k1_4 : W1.cell? ⟨b2, 0, none⟩ = some (.int .i64 ux0) := by rw [hW1]; first | (simp [go_sem, *]; done) | (refine Gr.at ?_ (by assumption); exact gr_auto)
                have b1_4 : b2 < W1.heap.size := World.block_lt_of_cell? _ _ k1_4
                have k1_5 : W1.cell? ⟨b2, 1, none⟩ = some (.int .i64 uy0) := by rw [hW1]; first | (simp [go_sem, *]; done) | (refine Gr.at ?_ (by assumption); exact gr_auto)
                have k1_6 : W1.cell? ⟨b2, 2, none⟩ = some (.int .i64 ux1) := by rw [hW1]; first | (simp [go_sem, *]; done) | (refine Gr.at ?_ (by assumption); exact gr_auto)
                have k1_7 : W1.cell? ⟨b2, 3, none⟩ = some (.int .i64 uy1) := by rw [hW1]; first | (simp [go_sem, *]; done) | (refine Gr.at ?_ (by assumption); exact gr_auto)
                have k1_8 : W1.cell? ⟨b2, 4, none⟩ = some (.int .i64 ux2) := by rw [hW1]; first | (simp [go_sem, *]; done) | (refine Gr.at ?_ (by assumption); exact gr_auto)
                have k1_9 : W1.cell? ⟨b2, 5, none⟩ = some (.int .i64 uy2) := by rw [hW1]; first | (simp [go_sem, *]; done) | (refine Gr.at ?_ (by assumption); exact gr_auto)
                clear hW1
                have s1_0 : ∀ gw : GW W1, gw.1.cell? ⟨wr.heap.size, 0, none⟩ = some (.int .i64 tx0) := fun gw => Gr.at gw.2 k1_0
                have s1_1 : ∀ gw : GW W1, gw.1.cell? ⟨wr.heap.size, 1, none⟩ = some (.int .i64 ty0) := fun gw => Gr.at gw.2 k1_1
                have s1_2 : ∀ gw : GW W1, gw.1.cell? ⟨wr.heap.size + 1, 0, none⟩ = some (.int .i64 tx1) := fun gw => Gr.at gw.2 k1_2
                have s1_3 : ∀ gw : GW W1, gw.1.cell? ⟨wr.heap.size + 1, 1, none⟩ = some (.int .i64 ty1) := fun gw => Gr.at gw.2 k1_3
                have s1_4 : ∀ gw : GW W1, gw.1.cell? ⟨b2, 0, none⟩ = some (.int .i64 ux0) := fun gw => Gr.at gw.2 k1_4
                have s1_5 : ∀ gw : GW W1, gw.1.cell? ⟨b2, 1, none⟩ = some (.int .i64 uy0) := fun gw => Gr.at gw.2 k1_5
                have s1_6 : ∀ gw : GW W1, gw.1.cell? ⟨b2, 2, none⟩ = some (.int .i64 ux1) := fun gw => Gr.at gw.2 k1_6
                have s1_7 : ∀ gw : GW W1, gw.1.cell? ⟨b2, 3, none⟩ = some (.int .i64 uy1) := fun gw => Gr.at gw.2 k1_7
                have s1_8 : ∀ gw : GW W1, gw.1.cell? ⟨b2, 4, none⟩ = some (.int .i64 ux2) := fun gw => Gr.at gw.2 k1_8
                have s1_9 : ∀ gw : GW W1, gw.1.cell? ⟨b2, 5, none⟩ = some (.int .i64 uy2) := fun gw => Gr.at gw.2 k1_9
                have Q0 := Lib.hid (fun gw : GW W1 => gw_call (T0.out gw.1))
                have Q1 := Lib.hid (fun gw : GW W1 => gw_call (T1.out gw.1))
                have Q2 := Lib.hid (fun gw : GW W1 => gw_call (T2.out gw.1))
                refine wp_region_gr (by kernel_rfl) (by kernel_rfl) ?_
                repeat (go_big_quiet_step (first | (go_at_call 141; with_reducible exact Q0.out _) | (go_at_call 141; with_reducible exact Q1.out _) | (go_at_call 141; with_reducible exact Q2.out _)))
                refine wpQuiet_nil ?_
                intro w2 hb2
                clear s1_0 s1_1 s1_2 s1_3 s1_4 s1_5 s1_6 s1_7 s1_8 s1_9
                have g2 : Gr w w2 := g1.trans hb2
                have k1_0 := Gr.at hb2 k1_0
                have k1_1 := Gr.at hb2 k1_1
                have k1_2 := Gr.at hb2 k1_2
                have k1_3 := Gr.at hb2 k1_3
                have k1_4 := Gr.at hb2 k1_4
                have k1_5 := Gr.at hb2 k1_5
                have k1_6 := Gr.at hb2 k1_6
                have k1_7 := Gr.at hb2 k1_7
                have k1_8 := Gr.at hb2 k1_8
                have k1_9 := Gr.at hb2 k1_9
                go_wp2_with fail
                go_ret
                exact ⟨by rw [HR.out]; rfl, gr.trans (gb1_wr.trans hb2)⟩
              · go_wp2_with fail
                (first | refine name_world ?_ | refine (show (∀ W, W = _ → Calls _ _ _ W _) → Calls _ _ _ _ _ from fun h => h _ rfl) ?_); intro W1 hW1
                have g1 : Gr w W1 := by rw [hW1]; exact gr_auto
                have gb1_wr : Gr wr W1 := by (try clear g1); rw [hW1]; exact gr_auto
                have k1_0 : W1.cell? ⟨wr.heap.size + 1, 0, none⟩ = some (.int .i64 tx0) := by rw [hW1]; first | (simp [go_sem, *]; done) | (refine Gr.at ?_ (by assumption); exact gr_auto)
                have b1_0 : wr.heap.size + 1 < W1.heap.size := World.block_lt_of_cell? _ _ k1_0
                have k1_1 : W1.cell? ⟨wr.heap.size + 1, 1, none⟩ = some (.int .i64 ty0) := by rw [hW1]; first | (simp [go_sem, *]; done) | (refine Gr.at ?_ (by assumption); exact gr_auto)
                have k1_2 : W1.cell? ⟨wr.heap.size, 0, none⟩ = some (.int .i64 tx1) := by rw [hW1]; first | (simp [go_sem, *]; done) | (refine Gr.at ?_ (by assumption); exact gr_auto)
                have b1_2 : wr.heap.size < W1.heap.size := World.block_lt_of_cell? _ _ k1_2
                have k1_3 : W1.cell? ⟨wr.heap.size, 1, none⟩ = some (.int .i64 ty1) := by rw [hW1]; first | (simp [go_sem, *]; done) | (refine Gr.at ?_ (by assumption); exact gr_auto)
                have k1_4 : W1.cell? ⟨b2, 0, none⟩ = some (.int .i64 ux0) := by rw [hW1]; first | (simp [go_sem, *]; done) | (refine Gr.at ?_ (by assumption); exact gr_auto)
                have b1_4 : b2 < W1.heap.size := World.block_lt_of_cell? _ _ k1_4
                have k1_5 : W1.cell? ⟨b2, 1, none⟩ = some (.int .i64 uy0) := by rw [hW1]; first | (simp [go_sem, *]; done) | (refine Gr.at ?_ (by assumption); exact gr_auto)
                have k1_6 : W1.cell? ⟨b2, 2, none⟩ = some (.int .i64 ux1) := by rw [hW1]; first | (simp [go_sem, *]; done) | (refine Gr.at ?_ (by assumption); exact gr_auto)
                have k1_7 : W1.cell? ⟨b2, 3, none⟩ = some (.int .i64 uy1) := by rw [hW1]; first | (simp [go_sem, *]; done) | (refine Gr.at ?_ (by assumption); exact gr_auto)
                have k1_8 : W1.cell? ⟨b2, 4, none⟩ = some (.int .i64 ux2) := by rw [hW1]; first | (simp [go_sem, *]; done) | (refine Gr.at ?_ (by assumption); exact gr_auto)
                have k1_9 : W1.cell? ⟨b2, 5, none⟩ = some (.int .i64 uy2) := by rw [hW1]; first | (simp [go_sem, *]; done) | (refine Gr.at ?_ (by assumption); exact gr_auto)
                clear hW1
                have s1_0 : ∀ gw : GW W1, gw.1.cell? ⟨wr.heap.size + 1, 0, none⟩ = some (.int .i64 tx0) := fun gw => Gr.at gw.2 k1_0
                have s1_1 : ∀ gw : GW W1, gw.1.cell? ⟨wr.heap.size + 1, 1, none⟩ = some (.int .i64 ty0) := fun gw => Gr.at gw.2 k1_1
                have s1_2 : ∀ gw : GW W1, gw.1.cell? ⟨wr.heap.size, 0, none⟩ = some (.int .i64 tx1) := fun gw => Gr.at gw.2 k1_2
                have s1_3 : ∀ gw : GW W1, gw.1.cell? ⟨wr.heap.size, 1, none⟩ = some (.int .i64 ty1) := fun gw => Gr.at gw.2 k1_3
                have s1_4 : ∀ gw : GW W1, gw.1.cell? ⟨b2, 0, none⟩ = some (.int .i64 ux0) := fun gw => Gr.at gw.2 k1_4
                have s1_5 : ∀ gw : GW W1, gw.1.cell? ⟨b2, 1, none⟩ = some (.int .i64 uy0) := fun gw => Gr.at gw.2 k1_5
                have s1_6 : ∀ gw : GW W1, gw.1.cell? ⟨b2, 2, none⟩ = some (.int .i64 ux1) := fun gw => Gr.at gw.2 k1_6
                have s1_7 : ∀ gw : GW W1, gw.1.cell? ⟨b2, 3, none⟩ = some (.int .i64 uy1) := fun gw => Gr.at gw.2 k1_7
                have s1_8 : ∀ gw : GW W1, gw.1.cell? ⟨b2, 4, none⟩ = some (.int .i64 ux2) := fun gw => Gr.at gw.2 k1_8
                have s1_9 : ∀ gw : GW W1, gw.1.cell? ⟨b2, 5, none⟩ = some (.int .i64 uy2) := fun gw => Gr.at gw.2 k1_9
                have Q0 := Lib.hid (fun gw : GW W1 => gw_call (T0.out gw.1))
                have Q1 := Lib.hid (fun gw : GW W1 => gw_call (T1.out gw.1))
                have Q2 := Lib.hid (fun gw : GW W1 => gw_call (T2.out gw.1))
                refine wp_region_gr (by kernel_rfl) (by kernel_rfl) ?_
                repeat (go_big_quiet_step (first | (go_at_call 141; with_reducible exact Q0.out _) | (go_at_call 141; with_reducible exact Q1.out _) | (go_at_call 141; with_reducible exact Q2.out _)))
                refine wpQuiet_nil ?_
                intro w2 hb2
                clear s1_0 s1_1 s1_2 s1_3 s1_4 s1_5 s1_6 s1_7 s1_8 s1_9
                have g2 : Gr w w2 := g1.trans hb2
                have k1_0 := Gr.at hb2 k1_0
                have k1_1 := Gr.at hb2 k1_1
                have k1_2 := Gr.at hb2 k1_2
                have k1_3 := Gr.at hb2 k1_3
                have k1_4 := Gr.at hb2 k1_4
                have k1_5 := Gr.at hb2 k1_5
                have k1_6 := Gr.at hb2 k1_6
                have k1_7 := Gr.at hb2 k1_7
                have k1_8 := Gr.at hb2 k1_8
                have k1_9 := Gr.at hb2 k1_9
                go_wp2_with fail
                go_ret
                exact ⟨by rw [HR.out]; rfl, gr.trans (gb1_wr.trans hb2)⟩
      · have HPi : P 1 = (decide (Ms.tr2 tx1 ty1 tx2 ty2 ux0 uy0 ≤ 0) && (decide (Ms.tr2 tx1 ty1 tx2 ty2 ux1 uy1 ≤ 0) && decide (Ms.tr2 tx1 ty1 tx2 ty2 ux2 uy2 ≤ 0))) := HL.out 1
        have T0 := Lib.hid (fun W => rs_turn tx1 ty1 tx2 ty2 ux0 uy0 W ht.out.2.2.1 ht.out.2.2.2.1 ht.out.2.2.2.2.1 ht.out.2.2.2.2.2 hu.out.1 hu.out.2.1)
        have T1 := Lib.hid (fun W => rs_turn tx1 ty1 tx2 ty2 ux1 uy1 W ht.out.2.2.1 ht.out.2.2.2.1 ht.out.2.2.2.2.1 ht.out.2.2.2.2.2 hu.out.2.2.1 hu.out.2.2.2.1)
        have T2 := Lib.hid (fun W => rs_turn tx1 ty1 tx2 ty2 ux2 uy2 W ht.out.2.2.1 ht.out.2.2.2.1 ht.out.2.2.2.2.1 ht.out.2.2.2.2.2 hu.out.2.2.2.2.1 hu.out.2.2.2.2.2)
        clear HL
        generalize Ms.tr2 tx1 ty1 tx2 ty2 ux0 uy0 = v0 at *
        generalize Ms.tr2 tx1 ty1 tx2 ty2 ux1 uy1 = v1 at *
        generalize Ms.tr2 tx1 ty1 tx2 ty2 ux2 uy2 = v2 at *
        cases q0 : decide (v0 ≤ 0)
        · rw [q0] at HPi
          have HR := Lib.hid (Ms.any_go HQ.out (by rw [HPi]; rfl))
          clear HPi HQ
          go_wp2_with fail
          go_region
          · go_wp2_with fail
            (first | refine name_world ?_ | refine (show (∀ W, W = _ → Calls _ _ _ W _) → Calls _ _ _ _ _ from fun h => h _ rfl) ?_); intro W1 hW1
            have g1 : Gr w W1 := by rw [hW1]; exact gr_auto
            have gb1_wr : Gr wr W1 := by (try clear g1); rw [hW1]; exact gr_auto
            have k1_0 : W1.cell? ⟨wr.heap.size, 0, none⟩ = some (.int .i64 tx1) := by rw [hW1]; first | (simp [go_sem, *]; done) | (refine Gr.at ?_ (by assumption); exact gr_auto)
            have b1_0 : wr.heap.size < W1.heap.size := World.block_lt_of_cell? _ _ k1_0
            have k1_1 : W1.cell? ⟨wr.heap.size, 1, none⟩ = some (.int .i64 ty1) := by rw [hW1]; first | (simp [go_sem, *]; done) | (refine Gr.at ?_ (by assumption); exact gr_auto)
            have k1_2 : W1.cell? ⟨wr.heap.size + 1, 0, none⟩ = some (.int .i64 tx2) := by rw [hW1]; first | (simp [go_sem, *]; done) | (refine Gr.at ?_ (by assumption); exact gr_auto)
            have b1_2 : wr.heap.size + 1 < W1.heap.size := World.block_lt_of_cell? _ _ k1_2
            have k1_3 : W1.cell? ⟨wr.heap.size + 1, 1, none⟩ = some (.int .i64 ty2) := by rw [hW1]; first | (simp [go_sem, *]; done) | (refine Gr.at ?_ (by assumption); exact gr_auto)
            have k1_4 : W1.cell? ⟨b2, 0, none⟩ = some (.int .i64 ux0) := by rw [hW1]; first | (simp [go_sem, *]; done) | (refine Gr.at ?_ (by assumption); exact gr_auto)
            have b1_4 : b2 < W1.heap.size := World.block_lt_of_cell? _ _ k1_4
            have k1_5 : W1.cell? ⟨b2, 1, none⟩ = some (.int .i64 uy0) := by rw [hW1]; first | (simp [go_sem, *]; done) | (refine Gr.at ?_ (by assumption); exact gr_auto)
            have k1_6 : W1.cell? ⟨b2, 2, none⟩ = some (.int .i64 ux1) := by rw [hW1]; first | (simp [go_sem, *]; done) | (refine Gr.at ?_ (by assumption); exact gr_auto)
            have k1_7 : W1.cell? ⟨b2, 3, none⟩ = some (.int .i64 uy1) := by rw [hW1]; first | (simp [go_sem, *]; done) | (refine Gr.at ?_ (by assumption); exact gr_auto)
            have k1_8 : W1.cell? ⟨b2, 4, none⟩ = some (.int .i64 ux2) := by rw [hW1]; first | (simp [go_sem, *]; done) | (refine Gr.at ?_ (by assumption); exact gr_auto)
            have k1_9 : W1.cell? ⟨b2, 5, none⟩ = some (.int .i64 uy2) := by rw [hW1]; first | (simp [go_sem, *]; done) | (refine Gr.at ?_ (by assumption); exact gr_auto)
            clear hW1
            have s1_0 : ∀ gw : GW W1, gw.1.cell? ⟨wr.heap.size, 0, none⟩ = some (.int .i64 tx1) := fun gw => Gr.at gw.2 k1_0
            have s1_1 : ∀ gw : GW W1, gw.1.cell? ⟨wr.heap.size, 1, none⟩ = some (.int .i64 ty1) := fun gw => Gr.at gw.2 k1_1
            have s1_2 : ∀ gw : GW W1, gw.1.cell? ⟨wr.heap.size + 1, 0, none⟩ = some (.int .i64 tx2) := fun gw => Gr.at gw.2 k1_2
            have s1_3 : ∀ gw : GW W1, gw.1.cell? ⟨wr.heap.size + 1, 1, none⟩ = some (.int .i64 ty2) := fun gw => Gr.at gw.2 k1_3
            have s1_4 : ∀ gw : GW W1, gw.1.cell? ⟨b2, 0, none⟩ = some (.int .i64 ux0) := fun gw => Gr.at gw.2 k1_4
            have s1_5 : ∀ gw : GW W1, gw.1.cell? ⟨b2, 1, none⟩ = some (.int .i64 uy0) := fun gw => Gr.at gw.2 k1_5
            have s1_6 : ∀ gw : GW W1, gw.1.cell? ⟨b2, 2, none⟩ = some (.int .i64 ux1) := fun gw => Gr.at gw.2 k1_6
            have s1_7 : ∀ gw : GW W1, gw.1.cell? ⟨b2, 3, none⟩ = some (.int .i64 uy1) := fun gw => Gr.at gw.2 k1_7
            have s1_8 : ∀ gw : GW W1, gw.1.cell? ⟨b2, 4, none⟩ = some (.int .i64 ux2) := fun gw => Gr.at gw.2 k1_8
            have s1_9 : ∀ gw : GW W1, gw.1.cell? ⟨b2, 5, none⟩ = some (.int .i64 uy2) := fun gw => Gr.at gw.2 k1_9
            have Q0 := Lib.hid (fun gw : GW W1 => gw_call (T0.out gw.1))
            have Q1 := Lib.hid (fun gw : GW W1 => gw_call (T1.out gw.1))
            have Q2 := Lib.hid (fun gw : GW W1 => gw_call (T2.out gw.1))
            refine wp_region_gr (by kernel_rfl) (by kernel_rfl) ?_
            repeat (go_big_quiet_step (first | (go_at_call 141; with_reducible exact Q0.out _) | (go_at_call 141; with_reducible exact Q1.out _) | (go_at_call 141; with_reducible exact Q2.out _)))
            refine wpQuiet_nil ?_
            intro w2 hb2
            clear s1_0 s1_1 s1_2 s1_3 s1_4 s1_5 s1_6 s1_7 s1_8 s1_9
            have g2 : Gr w w2 := g1.trans hb2
            have k1_0 := Gr.at hb2 k1_0
            have k1_1 := Gr.at hb2 k1_1
            have k1_2 := Gr.at hb2 k1_2
            have k1_3 := Gr.at hb2 k1_3
            have k1_4 := Gr.at hb2 k1_4
            have k1_5 := Gr.at hb2 k1_5
            have k1_6 := Gr.at hb2 k1_6
            have k1_7 := Gr.at hb2 k1_7
            have k1_8 := Gr.at hb2 k1_8
            have k1_9 := Gr.at hb2 k1_9
            go_wp2_with fail
            go_roundw
            case rel => exact ⟨2, by omega, by go_num, HR, hg.trans (gb1_wr.trans hb2)⟩
            case measure => simp [intOf]
          · go_wp2_with fail
            (first | refine name_world ?_ | refine (show (∀ W, W = _ → Calls _ _ _ W _) → Calls _ _ _ _ _ from fun h => h _ rfl) ?_); intro W1 hW1
            have g1 : Gr w W1 := by rw [hW1]; exact gr_auto
            have gb1_wr : Gr wr W1 := by (try clear g1); rw [hW1]; exact gr_auto
            have k1_0 : W1.cell? ⟨wr.heap.size + 1, 0, none⟩ = some (.int .i64 tx1) := by rw [hW1]; first | (simp [go_sem, *]; done) | (refine Gr.at ?_ (by assumption); exact gr_auto)
            have b1_0 : wr.heap.size + 1 < W1.heap.size := World.block_lt_of_cell? _ _ k1_0
            have k1_1 : W1.cell? ⟨wr.heap.size + 1, 1, none⟩ = some (.int .i64 ty1) := by rw [hW1]; first | (simp [go_sem, *]; done) | (refine Gr.at ?_ (by assumption); exact gr_auto)
            have k1_2 : W1.cell? ⟨wr.heap.size, 0, none⟩ = some (.int .i64 tx2) := by rw [hW1]; first | (simp [go_sem, *]; done) | (refine Gr.at ?_ (by assumption); exact gr_auto)
            have b1_2 : wr.heap.size < W1.heap.size := World.block_lt_of_cell? _ _ k1_2
            have k1_3 : W1.cell? ⟨wr.heap.size, 1, none⟩ = some (.int .i64 ty2) := by rw [hW1]; first | (simp [go_sem, *]; done) | (refine Gr.at ?_ (by assumption); exact gr_auto)
            have k1_4 : W1.cell? ⟨b2, 0, none⟩ = some (.int .i64 ux0) := by rw [hW1]; first | (simp [go_sem, *]; done) | (refine Gr.at ?_ (by assumption); exact gr_auto)
            have b1_4 : b2 < W1.heap.size := World.block_lt_of_cell? _ _ k1_4
            have k1_5 : W1.cell? ⟨b2, 1, none⟩ = some (.int .i64 uy0) := by rw [hW1]; first | (simp [go_sem, *]; done) | (refine Gr.at ?_ (by assumption); exact gr_auto)
            have k1_6 : W1.cell? ⟨b2, 2, none⟩ = some (.int .i64 ux1) := by rw [hW1]; first | (simp [go_sem, *]; done) | (refine Gr.at ?_ (by assumption); exact gr_auto)
            have k1_7 : W1.cell? ⟨b2, 3, none⟩ = some (.int .i64 uy1) := by rw [hW1]; first | (simp [go_sem, *]; done) | (refine Gr.at ?_ (by assumption); exact gr_auto)
            have k1_8 : W1.cell? ⟨b2, 4, none⟩ = some (.int .i64 ux2) := by rw [hW1]; first | (simp [go_sem, *]; done) | (refine Gr.at ?_ (by assumption); exact gr_auto)
            have k1_9 : W1.cell? ⟨b2, 5, none⟩ = some (.int .i64 uy2) := by rw [hW1]; first | (simp [go_sem, *]; done) | (refine Gr.at ?_ (by assumption); exact gr_auto)
            clear hW1
            have s1_0 : ∀ gw : GW W1, gw.1.cell? ⟨wr.heap.size + 1, 0, none⟩ = some (.int .i64 tx1) := fun gw => Gr.at gw.2 k1_0
            have s1_1 : ∀ gw : GW W1, gw.1.cell? ⟨wr.heap.size + 1, 1, none⟩ = some (.int .i64 ty1) := fun gw => Gr.at gw.2 k1_1
            have s1_2 : ∀ gw : GW W1, gw.1.cell? ⟨wr.heap.size, 0, none⟩ = some (.int .i64 tx2) := fun gw => Gr.at gw.2 k1_2
            have s1_3 : ∀ gw : GW W1, gw.1.cell? ⟨wr.heap.size, 1, none⟩ = some (.int .i64 ty2) := fun gw => Gr.at gw.2 k1_3
            have s1_4 : ∀ gw : GW W1, gw.1.cell? ⟨b2, 0, none⟩ = some (.int .i64 ux0) := fun gw => Gr.at gw.2 k1_4
            have s1_5 : ∀ gw : GW W1, gw.1.cell? ⟨b2, 1, none⟩ = some (.int .i64 uy0) := fun gw => Gr.at gw.2 k1_5
            have s1_6 : ∀ gw : GW W1, gw.1.cell? ⟨b2, 2, none⟩ = some (.int .i64 ux1) := fun gw => Gr.at gw.2 k1_6
            have s1_7 : ∀ gw : GW W1, gw.1.cell? ⟨b2, 3, none⟩ = some (.int .i64 uy1) := fun gw => Gr.at gw.2 k1_7
            have s1_8 : ∀ gw : GW W1, gw.1.cell? ⟨b2, 4, none⟩ = some (.int .i64 ux2) := fun gw => Gr.at gw.2 k1_8
            have s1_9 : ∀ gw : GW W1, gw.1.cell? ⟨b2, 5, none⟩ = some (.int .i64 uy2) := fun gw => Gr.at gw.2 k1_9
            have Q0 := Lib.hid (fun gw : GW W1 => gw_call (T0.out gw.1))
            have Q1 := Lib.hid (fun gw : GW W1 => gw_call (T1.out gw.1))
            have Q2 := Lib.hid (fun gw : GW W1 => gw_call (T2.out gw.1))
            refine wp_region_gr (by kernel_rfl) (by kernel_rfl) ?_
            repeat (go_big_quiet_step (first | (go_at_call 141; with_reducible exact Q0.out _) | (go_at_call 141; with_reducible exact Q1.out _) | (go_at_call 141; with_reducible exact Q2.out _)))
            refine wpQuiet_nil ?_
            intro w2 hb2
            clear s1_0 s1_1 s1_2 s1_3 s1_4 s1_5 s1_6 s1_7 s1_8 s1_9
            have g2 : Gr w w2 := g1.trans hb2
            have k1_0 := Gr.at hb2 k1_0
            have k1_1 := Gr.at hb2 k1_1
            have k1_2 := Gr.at hb2 k1_2
            have k1_3 := Gr.at hb2 k1_3
            have k1_4 := Gr.at hb2 k1_4
            have k1_5 := Gr.at hb2 k1_5
            have k1_6 := Gr.at hb2 k1_6
            have k1_7 := Gr.at hb2 k1_7
            have k1_8 := Gr.at hb2 k1_8
            have k1_9 := Gr.at hb2 k1_9
            go_wp2_with fail
            go_roundw
            case rel => exact ⟨2, by omega, by go_num, HR, hg.trans (gb1_wr.trans hb2)⟩
            case measure => simp [intOf]
        · rw [q0] at HPi
          cases q1 : decide (v1 ≤ 0)
          · rw [q1] at HPi
            have HR := Lib.hid (Ms.any_go HQ.out (by rw [HPi]; rfl))
            clear HPi HQ
            go_wp2_with fail
            go_region
            · go_wp2_with fail
              (first | refine name_world ?_ | refine (show (∀ W, W = _ → Calls _ _ _ W _) → Calls _ _ _ _ _ from fun h => h _ rfl) ?_); intro W1 hW1
              have g1 : Gr w W1 := by rw [hW1]; exact gr_auto
              have gb1_wr : Gr wr W1 := by (try clear g1); rw [hW1]; exact gr_auto
              have k1_0 : W1.cell? ⟨wr.heap.size, 0, none⟩ = some (.int .i64 tx1) := by rw [hW1]; first | (simp [go_sem, *]; done) | (refine Gr.at ?_ (by assumption); exact gr_auto)
              have b1_0 : wr.heap.size < W1.heap.size := World.block_lt_of_cell? _ _ k1_0
              have k1_1 : W1.cell? ⟨wr.heap.size, 1, none⟩ = some (.int .i64 ty1) := by rw [hW1]; first | (simp [go_sem, *]; done) | (refine Gr.at ?_ (by assumption); exact gr_auto)
              have k1_2 : W1.cell? ⟨wr.heap.size + 1, 0, none⟩ = some (.int .i64 tx2) := by rw [hW1]; first | (simp [go_sem, *]; done) | (refine Gr.at ?_ (by assumption); exact gr_auto)
              have b1_2 : wr.heap.size + 1 < W1.heap.size := World.block_lt_of_cell? _ _ k1_2
              have k1_3 : W1.cell? ⟨wr.heap.size + 1, 1, none⟩ = some (.int .i64 ty2) := by rw [hW1]; first | (simp [go_sem, *]; done) | (refine Gr.at ?_ (by assumption); exact gr_auto)
              have k1_4 : W1.cell? ⟨b2, 0, none⟩ = some (.int .i64 ux0) := by rw [hW1]; first | (simp [go_sem, *]; done) | (refine Gr.at ?_ (by assumption); exact gr_auto)
              have b1_4 : b2 < W1.heap.size := World.block_lt_of_cell? _ _ k1_4
              have k1_5 : W1.cell? ⟨b2, 1, none⟩ = some (.int .i64 uy0) := by rw [hW1]; first | (simp [go_sem, *]; done) | (refine Gr.at ?_ (by assumption); exact gr_auto)
              have k1_6 : W1.cell? ⟨b2, 2, none⟩ = some (.int .i64 ux1) := by rw [hW1]; first | (simp [go_sem, *]; done) | (refine Gr.at ?_ (by assumption); exact gr_auto)
              have k1_7 : W1.cell? ⟨b2, 3, none⟩ = some (.int .i64 uy1) := by rw [hW1]; first | (simp [go_sem, *]; done) | (refine Gr.at ?_ (by assumption); exact gr_auto)
              have k1_8 : W1.cell? ⟨b2, 4, none⟩ = some (.int .i64 ux2) := by rw [hW1]; first | (simp [go_sem, *]; done) | (refine Gr.at ?_ (by assumption); exact gr_auto)
              have k1_9 : W1.cell? ⟨b2, 5, none⟩ = some (.int .i64 uy2) := by rw [hW1]; first | (simp [go_sem, *]; done) | (refine Gr.at ?_ (by assumption); exact gr_auto)
              clear hW1
              have s1_0 : ∀ gw : GW W1, gw.1.cell? ⟨wr.heap.size, 0, none⟩ = some (.int .i64 tx1) := fun gw => Gr.at gw.2 k1_0
              have s1_1 : ∀ gw : GW W1, gw.1.cell? ⟨wr.heap.size, 1, none⟩ = some (.int .i64 ty1) := fun gw => Gr.at gw.2 k1_1
              have s1_2 : ∀ gw : GW W1, gw.1.cell? ⟨wr.heap.size + 1, 0, none⟩ = some (.int .i64 tx2) := fun gw => Gr.at gw.2 k1_2
              have s1_3 : ∀ gw : GW W1, gw.1.cell? ⟨wr.heap.size + 1, 1, none⟩ = some (.int .i64 ty2) := fun gw => Gr.at gw.2 k1_3
              have s1_4 : ∀ gw : GW W1, gw.1.cell? ⟨b2, 0, none⟩ = some (.int .i64 ux0) := fun gw => Gr.at gw.2 k1_4
              have s1_5 : ∀ gw : GW W1, gw.1.cell? ⟨b2, 1, none⟩ = some (.int .i64 uy0) := fun gw => Gr.at gw.2 k1_5
              have s1_6 : ∀ gw : GW W1, gw.1.cell? ⟨b2, 2, none⟩ = some (.int .i64 ux1) := fun gw => Gr.at gw.2 k1_6
              have s1_7 : ∀ gw : GW W1, gw.1.cell? ⟨b2, 3, none⟩ = some (.int .i64 uy1) := fun gw => Gr.at gw.2 k1_7
              have s1_8 : ∀ gw : GW W1, gw.1.cell? ⟨b2, 4, none⟩ = some (.int .i64 ux2) := fun gw => Gr.at gw.2 k1_8
              have s1_9 : ∀ gw : GW W1, gw.1.cell? ⟨b2, 5, none⟩ = some (.int .i64 uy2) := fun gw => Gr.at gw.2 k1_9
              have Q0 := Lib.hid (fun gw : GW W1 => gw_call (T0.out gw.1))
              have Q1 := Lib.hid (fun gw : GW W1 => gw_call (T1.out gw.1))
              have Q2 := Lib.hid (fun gw : GW W1 => gw_call (T2.out gw.1))
              refine wp_region_gr (by kernel_rfl) (by kernel_rfl) ?_
              repeat (go_big_quiet_step (first | (go_at_call 141; with_reducible exact Q0.out _) | (go_at_call 141; with_reducible exact Q1.out _) | (go_at_call 141; with_reducible exact Q2.out _)))
              refine wpQuiet_nil ?_
              intro w2 hb2
              clear s1_0 s1_1 s1_2 s1_3 s1_4 s1_5 s1_6 s1_7 s1_8 s1_9
              have g2 : Gr w w2 := g1.trans hb2
              have k1_0 := Gr.at hb2 k1_0
              have k1_1 := Gr.at hb2 k1_1
              have k1_2 := Gr.at hb2 k1_2
              have k1_3 := Gr.at hb2 k1_3
              have k1_4 := Gr.at hb2 k1_4
              have k1_5 := Gr.at hb2 k1_5
              have k1_6 := Gr.at hb2 k1_6
              have k1_7 := Gr.at hb2 k1_7
              have k1_8 := Gr.at hb2 k1_8
              have k1_9 := Gr.at hb2 k1_9
              go_wp2_with fail
              go_roundw
              case rel => exact ⟨2, by omega, by go_num, HR, hg.trans (gb1_wr.trans hb2)⟩
              case measure => simp [intOf]
            · go_wp2_with fail
              (first | refine name_world ?_ | refine (show (∀ W, W = _ → Calls _ _ _ W _) → Calls _ _ _ _ _ from fun h => h _ rfl) ?_); intro W1 hW1
              have g1 : Gr w W1 := by rw [hW1]; exact gr_auto
              have gb1_wr : Gr wr W1 := by (try clear g1); rw [hW1]; exact gr_auto
              have k1_0 : W1.cell? ⟨wr.heap.size + 1, 0, none⟩ = some (.int .i64 tx1) := by rw [hW1]; first | (simp [go_sem, *]; done) | (refine Gr.at ?_ (by assumption); exact gr_auto)
              have b1_0 : wr.heap.size + 1 < W1.heap.size := World.block_lt_of_cell? _ _ k1_0
              have k1_1 : W1.cell? ⟨wr.heap.size + 1, 1, none⟩ = some (.int .i64 ty1) := by rw [hW1]; first | (simp [go_sem, *]; done) | (refine Gr.at ?_ (by assumption); exact gr_auto)
              have k1_2 : W1.cell? ⟨wr.heap.size, 0, none⟩ = some (.int .i64 tx2) := by rw [hW1]; first | (simp [go_sem, *]; done) | (refine Gr.at ?_ (by assumption); exact gr_auto)
              have b1_2 : wr.heap.size < W1.heap.size := World.block_lt_of_cell? _ _ k1_2
              have k1_3 : W1.cell? ⟨wr.heap.size, 1, none⟩ = some (.int .i64 ty2) := by rw [hW1]; first | (simp [go_sem, *]; done) | (refine Gr.at ?_ (by assumption); exact gr_auto)
              have k1_4 : W1.cell? ⟨b2, 0, none⟩ = some (.int .i64 ux0) := by rw [hW1]; first | (simp [go_sem, *]; done) | (refine Gr.at ?_ (by assumption); exact gr_auto)
              have b1_4 : b2 < W1.heap.size := World.block_lt_of_cell? _ _ k1_4
              have k1_5 : W1.cell? ⟨b2, 1, none⟩ = some (.int .i64 uy0) := by rw [hW1]; first | (simp [go_sem, *]; done) | (refine Gr.at ?_ (by assumption); exact gr_auto)
              have k1_6 : W1.cell? ⟨b2, 2, none⟩ = some (.int .i64 ux1) := by rw [hW1]; first | (simp [go_sem, *]; done) | (refine Gr.at ?_ (by assumption); exact gr_auto)
              have k1_7 : W1.cell? ⟨b2, 3, none⟩ = some (.int .i64 uy1) := by rw [hW1]; first | (simp [go_sem, *]; done) | (refine Gr.at ?_ (by assumption); exact gr_auto)
              have k1_8 : W1.cell? ⟨b2, 4, none⟩ = some (.int .i64 ux2) := by rw [hW1]; first | (simp [go_sem, *]; done) | (refine Gr.at ?_ (by assumption); exact gr_auto)
              have k1_9 : W1.cell? ⟨b2, 5, none⟩ = some (.int .i64 uy2) := by rw [hW1]; first | (simp [go_sem, *]; done) | (refine Gr.at ?_ (by assumption); exact gr_auto)
              clear hW1
              have s1_0 : ∀ gw : GW W1, gw.1.cell? ⟨wr.heap.size + 1, 0, none⟩ = some (.int .i64 tx1) := fun gw => Gr.at gw.2 k1_0
              have s1_1 : ∀ gw : GW W1, gw.1.cell? ⟨wr.heap.size + 1, 1, none⟩ = some (.int .i64 ty1) := fun gw => Gr.at gw.2 k1_1
              have s1_2 : ∀ gw : GW W1, gw.1.cell? ⟨wr.heap.size, 0, none⟩ = some (.int .i64 tx2) := fun gw => Gr.at gw.2 k1_2
              have s1_3 : ∀ gw : GW W1, gw.1.cell? ⟨wr.heap.size, 1, none⟩ = some (.int .i64 ty2) := fun gw => Gr.at gw.2 k1_3
              have s1_4 : ∀ gw : GW W1, gw.1.cell? ⟨b2, 0, none⟩ = some (.int .i64 ux0) := fun gw => Gr.at gw.2 k1_4
              have s1_5 : ∀ gw : GW W1, gw.1.cell? ⟨b2, 1, none⟩ = some (.int .i64 uy0) := fun gw => Gr.at gw.2 k1_5
              have s1_6 : ∀ gw : GW W1, gw.1.cell? ⟨b2, 2, none⟩ = some (.int .i64 ux1) := fun gw => Gr.at gw.2 k1_6
              have s1_7 : ∀ gw : GW W1, gw.1.cell? ⟨b2, 3, none⟩ = some (.int .i64 uy1) := fun gw => Gr.at gw.2 k1_7
              have s1_8 : ∀ gw : GW W1, gw.1.cell? ⟨b2, 4, none⟩ = some (.int .i64 ux2) := fun gw => Gr.at gw.2 k1_8
              have s1_9 : ∀ gw : GW W1, gw.1.cell? ⟨b2, 5, none⟩ = some (.int .i64 uy2) := fun gw => Gr.at gw.2 k1_9
              have Q0 := Lib.hid (fun gw : GW W1 => gw_call (T0.out gw.1))
              have Q1 := Lib.hid (fun gw : GW W1 => gw_call (T1.out gw.1))
              have Q2 := Lib.hid (fun gw : GW W1 => gw_call (T2.out gw.1))
              refine wp_region_gr (by kernel_rfl) (by kernel_rfl) ?_
              repeat (go_big_quiet_step (first | (go_at_call 141; with_reducible exact Q0.out _) | (go_at_call 141; with_reducible exact Q1.out _) | (go_at_call 141; with_reducible exact Q2.out _)))
              refine wpQuiet_nil ?_
              intro w2 hb2
              clear s1_0 s1_1 s1_2 s1_3 s1_4 s1_5 s1_6 s1_7 s1_8 s1_9
              have g2 : Gr w w2 := g1.trans hb2
              have k1_0 := Gr.at hb2 k1_0
              have k1_1 := Gr.at hb2 k1_1
              have k1_2 := Gr.at hb2 k1_2
              have k1_3 := Gr.at hb2 k1_3
              have k1_4 := Gr.at hb2 k1_4
              have k1_5 := Gr.at hb2 k1_5
              have k1_6 := Gr.at hb2 k1_6
              have k1_7 := Gr.at hb2 k1_7
              have k1_8 := Gr.at hb2 k1_8
              have k1_9 := Gr.at hb2 k1_9
              go_wp2_with fail
              go_roundw
              case rel => exact ⟨2, by omega, by go_num, HR, hg.trans (gb1_wr.trans hb2)⟩
              case measure => simp [intOf]
          · rw [q1] at HPi
            cases q2 : decide (v2 ≤ 0)
            · rw [q2] at HPi
              have HR := Lib.hid (Ms.any_go HQ.out (by rw [HPi]; rfl))
              clear HPi HQ
              go_wp2_with fail
              go_region
              · go_wp2_with fail
                (first | refine name_world ?_ | refine (show (∀ W, W = _ → Calls _ _ _ W _) → Calls _ _ _ _ _ from fun h => h _ rfl) ?_); intro W1 hW1
                have g1 : Gr w W1 := by rw [hW1]; exact gr_auto
                have gb1_wr : Gr wr W1 := by (try clear g1); rw [hW1]; exact gr_auto
                have k1_0 : W1.cell? ⟨wr.heap.size, 0, none⟩ = some (.int .i64 tx1) := by rw [hW1]; first | (simp [go_sem, *]; done) | (refine Gr.at ?_ (by assumption); exact gr_auto)
                have b1_0 : wr.heap.size < W1.heap.size := World.block_lt_of_cell? _ _ k1_0
                have k1_1 : W1.cell? ⟨wr.heap.size, 1, none⟩ = some (.int .i64 ty1) := by rw [hW1]; first | (simp [go_sem, *]; done) | (refine Gr.at ?_ (by assumption); exact gr_auto)
                have k1_2 : W1.cell? ⟨wr.heap.size + 1, 0, none⟩ = some (.int .i64 tx2) := by rw [hW1]; first | (simp [go_sem, *]; done) | (refine Gr.at ?_ (by assumption); exact gr_auto)
                have b1_2 : wr.heap.size + 1 < W1.heap.size := World.block_lt_of_cell? _ _ k1_2
                have k1_3 : W1.cell? ⟨wr.heap.size + 1, 1, none⟩ = some (.int .i64 ty2) := by rw [hW1]; first | (simp [go_sem, *]; done) | (refine Gr.at ?_ (by assumption); exact gr_auto)
                have k1_4 : W1.cell? ⟨b2, 0, none⟩ = some (.int .i64 ux0) := by rw [hW1]; first | (simp [go_sem, *]; done) | (refine Gr.at ?_ (by assumption); exact gr_auto)
                have b1_4 : b2 < W1.heap.size := World.block_lt_of_cell? _ _ k1_4
                have k1_5 : W1.cell? ⟨b2, 1, none⟩ = some (.int .i64 uy0) := by rw [hW1]; first | (simp [go_sem, *]; done) | (refine Gr.at ?_ (by assumption); exact gr_auto)
                have k1_6 : W1.cell? ⟨b2, 2, none⟩ = some (.int .i64 ux1) := by rw [hW1]; first | (simp [go_sem, *]; done) | (refine Gr.at ?_ (by assumption); exact gr_auto)
                have k1_7 : W1.cell? ⟨b2, 3, none⟩ = some (.int .i64 uy1) := by rw [hW1]; first | (simp [go_sem, *]; done) | (refine Gr.at ?_ (by assumption); exact gr_auto)
                have k1_8 : W1.cell? ⟨b2, 4, none⟩ = some (.int .i64 ux2) := by rw [hW1]; first | (simp [go_sem, *]; done) | (refine Gr.at ?_ (by assumption); exact gr_auto)
                have k1_9 : W1.cell? ⟨b2, 5, none⟩ = some (.int .i64 uy2) := by rw [hW1]; first | (simp [go_sem, *]; done) | (refine Gr.at ?_ (by assumption); exact gr_auto)
                clear hW1
                have s1_0 : ∀ gw : GW W1, gw.1.cell? ⟨wr.heap.size, 0, none⟩ = some (.int .i64 tx1) := fun gw => Gr.at gw.2 k1_0
                have s1_1 : ∀ gw : GW W1, gw.1.cell? ⟨wr.heap.size, 1, none⟩ = some (.int .i64 ty1) := fun gw => Gr.at gw.2 k1_1
                have s1_2 : ∀ gw : GW W1, gw.1.cell? ⟨wr.heap.size + 1, 0, none⟩ = some (.int .i64 tx2) := fun gw => Gr.at gw.2 k1_2
                have s1_3 : ∀ gw : GW W1, gw.1.cell? ⟨wr.heap.size + 1, 1, none⟩ = some (.int .i64 ty2) := fun gw => Gr.at gw.2 k1_3
                have s1_4 : ∀ gw : GW W1, gw.1.cell? ⟨b2, 0, none⟩ = some (.int .i64 ux0) := fun gw => Gr.at gw.2 k1_4
                have s1_5 : ∀ gw : GW W1, gw.1.cell? ⟨b2, 1, none⟩ = some (.int .i64 uy0) := fun gw => Gr.at gw.2 k1_5
                have s1_6 : ∀ gw : GW W1, gw.1.cell? ⟨b2, 2, none⟩ = some (.int .i64 ux1) := fun gw => Gr.at gw.2 k1_6
                have s1_7 : ∀ gw : GW W1, gw.1.cell? ⟨b2, 3, none⟩ = some (.int .i64 uy1) := fun gw => Gr.at gw.2 k1_7
                have s1_8 : ∀ gw : GW W1, gw.1.cell? ⟨b2, 4, none⟩ = some (.int .i64 ux2) := fun gw => Gr.at gw.2 k1_8
                have s1_9 : ∀ gw : GW W1, gw.1.cell? ⟨b2, 5, none⟩ = some (.int .i64 uy2) := fun gw => Gr.at gw.2 k1_9
                have Q0 := Lib.hid (fun gw : GW W1 => gw_call (T0.out gw.1))
                have Q1 := Lib.hid (fun gw : GW W1 => gw_call (T1.out gw.1))
                have Q2 := Lib.hid (fun gw : GW W1 => gw_call (T2.out gw.1))
                refine wp_region_gr (by kernel_rfl) (by kernel_rfl) ?_
                repeat (go_big_quiet_step (first | (go_at_call 141; with_reducible exact Q0.out _) | (go_at_call 141; with_reducible exact Q1.out _) | (go_at_call 141; with_reducible exact Q2.out _)))
                refine wpQuiet_nil ?_
                intro w2 hb2
                clear s1_0 s1_1 s1_2 s1_3 s1_4 s1_5 s1_6 s1_7 s1_8 s1_9
                have g2 : Gr w w2 := g1.trans hb2
                have k1_0 := Gr.at hb2 k1_0
                have k1_1 := Gr.at hb2 k1_1
                have k1_2 := Gr.at hb2 k1_2
                have k1_3 := Gr.at hb2 k1_3
                have k1_4 := Gr.at hb2 k1_4
                have k1_5 := Gr.at hb2 k1_5
                have k1_6 := Gr.at hb2 k1_6
                have k1_7 := Gr.at hb2 k1_7
                have k1_8 := Gr.at hb2 k1_8
                have k1_9 := Gr.at hb2 k1_9
                go_wp2_with fail
                go_roundw
                case rel => exact ⟨2, by omega, by go_num, HR, hg.trans (gb1_wr.trans hb2)⟩
                case measure => simp [intOf]
              · go_wp2_with fail
                (first | refine name_world ?_ | refine (show (∀ W, W = _ → Calls _ _ _ W _) → Calls _ _ _ _ _ from fun h => h _ rfl) ?_); intro W1 hW1
                have g1 : Gr w W1 := by rw [hW1]; exact gr_auto
                have gb1_wr : Gr wr W1 := by (try clear g1); rw [hW1]; exact gr_auto
                have k1_0 : W1.cell? ⟨wr.heap.size + 1, 0, none⟩ = some (.int .i64 tx1) := by rw [hW1]; first | (simp [go_sem, *]; done) | (refine Gr.at ?_ (by assumption); exact gr_auto)
                have b1_0 : wr.heap.size + 1 < W1.heap.size := World.block_lt_of_cell? _ _ k1_0
                have k1_1 : W1.cell? ⟨wr.heap.size + 1, 1, none⟩ = some (.int .i64 ty1) := by rw [hW1]; first | (simp [go_sem, *]; done) | (refine Gr.at ?_ (by assumption); exact gr_auto)
                have k1_2 : W1.cell? ⟨wr.heap.size, 0, none⟩ = some (.int .i64 tx2) := by rw [hW1]; first | (simp [go_sem, *]; done) | (refine Gr.at ?_ (by assumption); exact gr_auto)
                have b1_2 : wr.heap.size < W1.heap.size := World.block_lt_of_cell? _ _ k1_2
                have k1_3 : W1.cell? ⟨wr.heap.size, 1, none⟩ = some (.int .i64 ty2) := by rw [hW1]; first | (simp [go_sem, *]; done) | (refine Gr.at ?_ (by assumption); exact gr_auto)
                have k1_4 : W1.cell? ⟨b2, 0, none⟩ = some (.int .i64 ux0) := by rw [hW1]; first | (simp [go_sem, *]; done) | (refine Gr.at ?_ (by assumption); exact gr_auto)
                have b1_4 : b2 < W1.heap.size := World.block_lt_of_cell? _ _ k1_4
                have k1_5 : W1.cell? ⟨b2, 1, none⟩ = some (.int .i64 uy0) := by rw [hW1]; first | (simp [go_sem, *]; done) | (refine Gr.at ?_ (by assumption); exact gr_auto)
                have k1_6 : W1.cell? ⟨b2, 2, none⟩ = some (.int .i64 ux1) := by rw [hW1]; first | (simp [go_sem, *]; done) | (refine Gr.at ?_ (by assumption); exact gr_auto)
                have k1_7 : W1.cell? ⟨b2, 3, none⟩ = some (.int .i64 uy1) := by rw [hW1]; first | (simp [go_sem, *]; done) | (refine Gr.at ?_ (by assumption); exact gr_auto)
                have k1_8 : W1.cell? ⟨b2, 4, none⟩ = some (.int .i64 ux2) := by rw [hW1]; first | (simp [go_sem, *]; done) | (refine Gr.at ?_ (by assumption); exact gr_auto)
                have k1_9 : W1.cell? ⟨b2, 5, none⟩ = some (.int .i64 uy2) := by rw [hW1]; first | (simp [go_sem, *]; done) | (refine Gr.at ?_ (by assumption); exact gr_auto)
                clear hW1
                have s1_0 : ∀ gw : GW W1, gw.1.cell? ⟨wr.heap.size + 1, 0, none⟩ = some (.int .i64 tx1) := fun gw => Gr.at gw.2 k1_0
                have s1_1 : ∀ gw : GW W1, gw.1.cell? ⟨wr.heap.size + 1, 1, none⟩ = some (.int .i64 ty1) := fun gw => Gr.at gw.2 k1_1
                have s1_2 : ∀ gw : GW W1, gw.1.cell? ⟨wr.heap.size, 0, none⟩ = some (.int .i64 tx2) := fun gw => Gr.at gw.2 k1_2
                have s1_3 : ∀ gw : GW W1, gw.1.cell? ⟨wr.heap.size, 1, none⟩ = some (.int .i64 ty2) := fun gw => Gr.at gw.2 k1_3
                have s1_4 : ∀ gw : GW W1, gw.1.cell? ⟨b2, 0, none⟩ = some (.int .i64 ux0) := fun gw => Gr.at gw.2 k1_4
                have s1_5 : ∀ gw : GW W1, gw.1.cell? ⟨b2, 1, none⟩ = some (.int .i64 uy0) := fun gw => Gr.at gw.2 k1_5
                have s1_6 : ∀ gw : GW W1, gw.1.cell? ⟨b2, 2, none⟩ = some (.int .i64 ux1) := fun gw => Gr.at gw.2 k1_6
                have s1_7 : ∀ gw : GW W1, gw.1.cell? ⟨b2, 3, none⟩ = some (.int .i64 uy1) := fun gw => Gr.at gw.2 k1_7
                have s1_8 : ∀ gw : GW W1, gw.1.cell? ⟨b2, 4, none⟩ = some (.int .i64 ux2) := fun gw => Gr.at gw.2 k1_8
                have s1_9 : ∀ gw : GW W1, gw.1.cell? ⟨b2, 5, none⟩ = some (.int .i64 uy2) := fun gw => Gr.at gw.2 k1_9
                have Q0 := Lib.hid (fun gw : GW W1 => gw_call (T0.out gw.1))
                have Q1 := Lib.hid (fun gw : GW W1 => gw_call (T1.out gw.1))
                have Q2 := Lib.hid (fun gw : GW W1 => gw_call (T2.out gw.1))
                refine wp_region_gr (by kernel_rfl) (by kernel_rfl) ?_
                repeat (go_big_quiet_step (first | (go_at_call 141; with_reducible exact Q0.out _) | (go_at_call 141; with_reducible exact Q1.out _) | (go_at_call 141; with_reducible exact Q2.out _)))
                refine wpQuiet_nil ?_
                intro w2 hb2
                clear s1_0 s1_1 s1_2 s1_3 s1_4 s1_5 s1_6 s1_7 s1_8 s1_9
                have g2 : Gr w w2 := g1.trans hb2
                have k1_0 := Gr.at hb2 k1_0
                have k1_1 := Gr.at hb2 k1_1
                have k1_2 := Gr.at hb2 k1_2
                have k1_3 := Gr.at hb2 k1_3
                have k1_4 := Gr.at hb2 k1_4
                have k1_5 := Gr.at hb2 k1_5
                have k1_6 := Gr.at hb2 k1_6
                have k1_7 := Gr.at hb2 k1_7
                have k1_8 := Gr.at hb2 k1_8
                have k1_9 := Gr.at hb2 k1_9
                go_wp2_with fail
                go_roundw
                case rel => exact ⟨2, by omega, by go_num, HR, hg.trans (gb1_wr.trans hb2)⟩
                case measure => simp [intOf]
            · rw [q2] at HPi
              have HR := Lib.hid (Ms.any_hit (p := P) (i := 1) (n := 3) (by rw [HPi]; rfl) (by omega))
              clear HPi HQ
              go_wp2_with fail
              go_region
              · go_wp2_with fail
                (first | refine name_world ?_ | refine (show (∀ W, W = _ → Calls _ _ _ W _) → Calls _ _ _ _ _ from fun h => h _ rfl) ?_); intro W1 hW1
                have g1 : Gr w W1 := by rw [hW1]; exact gr_auto
                have gb1_wr : Gr wr W1 := by (try clear g1); rw [hW1]; exact gr_auto
                have k1_0 : W1.cell? ⟨wr.heap.size, 0, none⟩ = some (.int .i64 tx1) := by rw [hW1]; first | (simp [go_sem, *]; done) | (refine Gr.at ?_ (by assumption); exact gr_auto)
                have b1_0 : wr.heap.size < W1.heap.size := World.block_lt_of_cell? _ _ k1_0
                have k1_1 : W1.cell? ⟨wr.heap.size, 1, none⟩ = some (.int .i64 ty1) := by rw [hW1]; first | (simp [go_sem, *]; done) | (refine Gr.at ?_ (by assumption); exact gr_auto)
                have k1_2 : W1.cell? ⟨wr.heap.size + 1, 0, none⟩ = some (.int .i64 tx2) := by rw [hW1]; first | (simp [go_sem, *]; done) | (refine Gr.at ?_ (by assumption); exact gr_auto)
                have b1_2 : wr.heap.size + 1 < W1.heap.size := World.block_lt_of_cell? _ _ k1_2
                have k1_3 : W1.cell? ⟨wr.heap.size + 1, 1, none⟩ = some (.int .i64 ty2) := by rw [hW1]; first | (simp [go_sem, *]; done) | (refine Gr.at ?_ (by assumption); exact gr_auto)
                have k1_4 : W1.cell? ⟨b2, 0, none⟩ = some (.int .i64 ux0) := by rw [hW1]; first | (simp [go_sem, *]; done) | (refine Gr.at ?_ (by assumption); exact gr_auto)
                have b1_4 : b2 < W1.heap.size := World.block_lt_of_cell? _ _ k1_4
                have k1_5 : W1.cell? ⟨b2, 1, none⟩ = some (.int .i64 uy0) := by rw [hW1]; first | (simp [go_sem, *]; done) | (refine Gr.at ?_ (by assumption); exact gr_auto)
                have k1_6 : W1.cell? ⟨b2, 2, none⟩ = some (.int .i64 ux1) := by rw [hW1]; first | (simp [go_sem, *]; done) | (refine Gr.at ?_ (by assumption); exact gr_auto)
                have k1_7 : W1.cell? ⟨b2, 3, none⟩ = some (.int .i64 uy1) := by rw [hW1]; first | (simp [go_sem, *]; done) | (refine Gr.at ?_ (by assumption); exact gr_auto)
                have k1_8 : W1.cell? ⟨b2, 4, none⟩ = some (.int .i64 ux2) := by rw [hW1]; first | (simp [go_sem, *]; done) | (refine Gr.at ?_ (by assumption); exact gr_auto)
                have k1_9 : W1.cell? ⟨b2, 5, none⟩ = some (.int .i64 uy2) := by rw [hW1]; first | (simp [go_sem, *]; done) | (refine Gr.at ?_ (by assumption); exact gr_auto)
                clear hW1
                have s1_0 : ∀ gw : GW W1, gw.1.cell? ⟨wr.heap.size, 0, none⟩ = some (.int .i64 tx1) := fun gw => Gr.at gw.2 k1_0
                have s1_1 : ∀ gw : GW W1, gw.1.cell? ⟨wr.heap.size, 1, none⟩ = some (.int .i64 ty1) := fun gw => Gr.at gw.2 k1_1
                have s1_2 : ∀ gw : GW W1, gw.1.cell? ⟨wr.heap.size + 1, 0, none⟩ = some (.int .i64 tx2) := fun gw => Gr.at gw.2 k1_2
                have s1_3 : ∀ gw : GW W1, gw.1.cell? ⟨wr.heap.size + 1, 1, none⟩ = some (.int .i64 ty2) := fun gw => Gr.at gw.2 k1_3
                have s1_4 : ∀ gw : GW W1, gw.1.cell? ⟨b2, 0, none⟩ = some (.int .i64 ux0) := fun gw => Gr.at gw.2 k1_4
                have s1_5 : ∀ gw : GW W1, gw.1.cell? ⟨b2, 1, none⟩ = some (.int .i64 uy0) := fun gw => Gr.at gw.2 k1_5
                have s1_6 : ∀ gw : GW W1, gw.1.cell? ⟨b2, 2, none⟩ = some (.int .i64 ux1) := fun gw => Gr.at gw.2 k1_6
                have s1_7 : ∀ gw : GW W1, gw.1.cell? ⟨b2, 3, none⟩ = some (.int .i64 uy1) := fun gw => Gr.at gw.2 k1_7
                have s1_8 : ∀ gw : GW W1, gw.1.cell? ⟨b2, 4, none⟩ = some (.int .i64 ux2) := fun gw => Gr.at gw.2 k1_8
                have s1_9 : ∀ gw : GW W1, gw.1.cell? ⟨b2, 5, none⟩ = some (.int .i64 uy2) := fun gw => Gr.at gw.2 k1_9
                have Q0 := Lib.hid (fun gw : GW W1 => gw_call (T0.out gw.1))
                have Q1 := Lib.hid (fun gw : GW W1 => gw_call (T1.out gw.1))
                have Q2 := Lib.hid (fun gw : GW W1 => gw_call (T2.out gw.1))
                refine wp_region_gr (by kernel_rfl) (by kernel_rfl) ?_
                repeat (go_big_quiet_step (first | (go_at_call 141; with_reducible exact Q0.out _) | (go_at_call 141; with_reducible exact Q1.out _) | (go_at_call 141; with_reducible exact Q2.out _)))
                refine wpQuiet_nil ?_
                intro w2 hb2
                clear s1_0 s1_1 s1_2 s1_3 s1_4 s1_5 s1_6 s1_7 s1_8 s1_9
                have g2 : Gr w w2 := g1.trans hb2
                have k1_0 := Gr.at hb2 k1_0
                have k1_1 := Gr.at hb2 k1_1
                have k1_2 := Gr.at hb2 k1_2
                have k1_3 := Gr.at hb2 k1_3
                have k1_4 := Gr.at hb2 k1_4
                have k1_5 := Gr.at hb2 k1_5
                have k1_6 := Gr.at hb2 k1_6
                have k1_7 := Gr.at hb2 k1_7
                have k1_8 := Gr.at hb2 k1_8
                have k1_9 := Gr.at hb2 k1_9
                go_wp2_with fail
                go_ret
                exact ⟨by rw [HR.out]; rfl, gr.trans (gb1_wr.trans hb2)⟩
              · go_wp2_with fail
                (first | refine name_world ?_ | refine (show (∀ W, W = _ → Calls _ _ _ W _) → Calls _ _ _ _ _ from fun h => h _ rfl) ?_); intro W1 hW1
                have g1 : Gr w W1 := by rw [hW1]; exact gr_auto
                have gb1_wr : Gr wr W1 := by (try clear g1); rw [hW1]; exact gr_auto
                have k1_0 : W1.cell? ⟨wr.heap.size + 1, 0, none⟩ = some (.int .i64 tx1) := by rw [hW1]; first | (simp [go_sem, *]; done) | (refine Gr.at ?_ (by assumption); exact gr_auto)
                have b1_0 : wr.heap.size + 1 < W1.heap.size := World.block_lt_of_cell? _ _ k1_0
                have k1_1 : W1.cell? ⟨wr.heap.size + 1, 1, none⟩ = some (.int .i64 ty1) := by rw [hW1]; first | (simp [go_sem, *]; done) | (refine Gr.at ?_ (by assumption); exact gr_auto)
                have k1_2 : W1.cell? ⟨wr.heap.size, 0, none⟩ = some (.int .i64 tx2) := by rw [hW1]; first | (simp [go_sem, *]; done) | (refine Gr.at ?_ (by assumption); exact gr_auto)
                have b1_2 : wr.heap.size < W1.heap.size := World.block_lt_of_cell? _ _ k1_2
                have k1_3 : W1.cell? ⟨wr.heap.size, 1, none⟩ = some (.int .i64 ty2) := by rw [hW1]; first | (simp [go_sem, *]; done) | (refine Gr.at ?_ (by assumption); exact gr_auto)
                have k1_4 : W1.cell? ⟨b2, 0, none⟩ = some (.int .i64 ux0) := by rw [hW1]; first | (simp [go_sem, *]; done) | (refine Gr.at ?_ (by assumption); exact gr_auto)
                have b1_4 : b2 < W1.heap.size := World.block_lt_of_cell? _ _ k1_4
                have k1_5 : W1.cell? ⟨b2, 1, none⟩ = some (.int .i64 uy0) := by rw [hW1]; first | (simp [go_sem, *]; done) | (refine Gr.at ?_ (by assumption); exact gr_auto)
                have k1_6 : W1.cell? ⟨b2, 2, none⟩ = some (.int .i64 ux1) := by rw [hW1]; first | (simp [go_sem, *]; done) | (refine Gr.at ?_ (by assumption); exact gr_auto)
                have k1_7 : W1.cell? ⟨b2, 3, none⟩ = some (.int .i64 uy1) := by rw [hW1]; first | (simp [go_sem, *]; done) | (refine Gr.at ?_ (by assumption); exact gr_auto)
                have k1_8 : W1.cell? ⟨b2, 4, none⟩ = some (.int .i64 ux2) := by rw [hW1]; first | (simp [go_sem, *]; done) | (refine Gr.at ?_ (by assumption); exact gr_auto)
                have k1_9 : W1.cell? ⟨b2, 5, none⟩ = some (.int .i64 uy2) := by rw [hW1]; first | (simp [go_sem, *]; done) | (refine Gr.at ?_ (by assumption); exact gr_auto)
                clear hW1
                have s1_0 : ∀ gw : GW W1, gw.1.cell? ⟨wr.heap.size + 1, 0, none⟩ = some (.int .i64 tx1) := fun gw => Gr.at gw.2 k1_0
                have s1_1 : ∀ gw : GW W1, gw.1.cell? ⟨wr.heap.size + 1, 1, none⟩ = some (.int .i64 ty1) := fun gw => Gr.at gw.2 k1_1
                have s1_2 : ∀ gw : GW W1, gw.1.cell? ⟨wr.heap.size, 0, none⟩ = some (.int .i64 tx2) := fun gw => Gr.at gw.2 k1_2
                have s1_3 : ∀ gw : GW W1, gw.1.cell? ⟨wr.heap.size, 1, none⟩ = some (.int .i64 ty2) := fun gw => Gr.at gw.2 k1_3
                have s1_4 : ∀ gw : GW W1, gw.1.cell? ⟨b2, 0, none⟩ = some (.int .i64 ux0) := fun gw => Gr.at gw.2 k1_4
                have s1_5 : ∀ gw : GW W1, gw.1.cell? ⟨b2, 1, none⟩ = some (.int .i64 uy0) := fun gw => Gr.at gw.2 k1_5
                have s1_6 : ∀ gw : GW W1, gw.1.cell? ⟨b2, 2, none⟩ = some (.int .i64 ux1) := fun gw => Gr.at gw.2 k1_6
                have s1_7 : ∀ gw : GW W1, gw.1.cell? ⟨b2, 3, none⟩ = some (.int .i64 uy1) := fun gw => Gr.at gw.2 k1_7
                have s1_8 : ∀ gw : GW W1, gw.1.cell? ⟨b2, 4, none⟩ = some (.int .i64 ux2) := fun gw => Gr.at gw.2 k1_8
                have s1_9 : ∀ gw : GW W1, gw.1.cell? ⟨b2, 5, none⟩ = some (.int .i64 uy2) := fun gw => Gr.at gw.2 k1_9
                have Q0 := Lib.hid (fun gw : GW W1 => gw_call (T0.out gw.1))
                have Q1 := Lib.hid (fun gw : GW W1 => gw_call (T1.out gw.1))
                have Q2 := Lib.hid (fun gw : GW W1 => gw_call (T2.out gw.1))
                refine wp_region_gr (by kernel_rfl) (by kernel_rfl) ?_
                repeat (go_big_quiet_step (first | (go_at_call 141; with_reducible exact Q0.out _) | (go_at_call 141; with_reducible exact Q1.out _) | (go_at_call 141; with_reducible exact Q2.out _)))
                refine wpQuiet_nil ?_
                intro w2 hb2
                clear s1_0 s1_1 s1_2 s1_3 s1_4 s1_5 s1_6 s1_7 s1_8 s1_9
                have g2 : Gr w w2 := g1.trans hb2
                have k1_0 := Gr.at hb2 k1_0
                have k1_1 := Gr.at hb2 k1_1
                have k1_2 := Gr.at hb2 k1_2
                have k1_3 := Gr.at hb2 k1_3
                have k1_4 := Gr.at hb2 k1_4
                have k1_5 := Gr.at hb2 k1_5
                have k1_6 := Gr.at hb2 k1_6
                have k1_7 := Gr.at hb2 k1_7
                have k1_8 := Gr.at hb2 k1_8
                have k1_9 := Gr.at hb2 k1_9
                go_wp2_with fail
                go_ret
                exact ⟨by rw [HR.out]; rfl, gr.trans (gb1_wr.trans hb2)⟩
      · have HPi : P 2 = (decide (Ms.tr2 tx2 ty2 tx0 ty0 ux0 uy0 ≤ 0) && (decide (Ms.tr2 tx2 ty2 tx0 ty0 ux1 uy1 ≤ 0) && decide (Ms.tr2 tx2 ty2 tx0 ty0 ux2 uy2 ≤ 0))) := HL.out 2
        have T0 := Lib.hid (fun W => rs_turn tx2 ty2 tx0 ty0 ux0 uy0 W ht.out.2.2.2.2.1 ht.out.2.2.2.2.2 ht.out.1 ht.out.2.1 hu.out.1 hu.out.2.1)
        have T1 := Lib.hid (fun W => rs_turn tx2 ty2 tx0 ty0 ux1 uy1 W ht.out.2.2.2.2.1 ht.out.2.2.2.2.2 ht.out.1 ht.out.2.1 hu.out.2.2.1 hu.out.2.2.2.1)
        have T2 := Lib.hid (fun W => rs_turn tx2 ty2 tx0 ty0 ux2 uy2 W ht.out.2.2.2.2.1 ht.out.2.2.2.2.2 ht.out.1 ht.out.2.1 hu.out.2.2.2.2.1 hu.out.2.2.2.2.2)
        clear HL
        generalize Ms.tr2 tx2 ty2 tx0 ty0 ux0 uy0 = v0 at *
        generalize Ms.tr2 tx2 ty2 tx0 ty0 ux1 uy1 = v1 at *
        generalize Ms.tr2 tx2 ty2 tx0 ty0 ux2 uy2 = v2 at *
        cases q0 : decide (v0 ≤ 0)
        · rw [q0] at HPi
          have HR := Lib.hid (Ms.any_go HQ.out (by rw [HPi]; rfl))
          clear HPi HQ
          go_wp2_with fail
          go_region
          · go_wp2_with fail
            (first | refine name_world ?_ | refine (show (∀ W, W = _ → Calls _ _ _ W _) → Calls _ _ _ _ _ from fun h => h _ rfl) ?_); intro W1 hW1
            have g1 : Gr w W1 := by rw [hW1]; exact gr_auto
            have gb1_wr : Gr wr W1 := by (try clear g1); rw [hW1]; exact gr_auto
            have k1_0 : W1.cell? ⟨wr.heap.size, 0, none⟩ = some (.int .i64 tx2) := by rw [hW1]; first | (simp [go_sem, *]; done) | (refine Gr.at ?_ (by assumption); exact gr_auto)
            have b1_0 : wr.heap.size < W1.heap.size := World.block_lt_of_cell? _ _ k1_0
            have k1_1 : W1.cell? ⟨wr.heap.size, 1, none⟩ = some (.int .i64 ty2) := by rw [hW1]; first | (simp [go_sem, *]; done) | (refine Gr.at ?_ (by assumption); exact gr_auto)
            have k1_2 : W1.cell? ⟨wr.heap.size + 1, 0, none⟩ = some (.int .i64 tx0) := by rw [hW1]; first | (simp [go_sem, *]; done) | (refine Gr.at ?_ (by assumption); exact gr_auto)
            have b1_2 : wr.heap.size + 1 < W1.heap.size := World.block_lt_of_cell? _ _ k1_2
            have k1_3 : W1.cell? ⟨wr.heap.size + 1, 1, none⟩ = some (.int .i64 ty0) := by rw [hW1]; first | (simp [go_sem, *]; done) | (refine Gr.at ?_ (by assumption); exact gr_auto)
            have k1_4 : W1.cell? ⟨b2, 0, none⟩ = some (.int .i64 ux0) := by rw [hW1]; first | (simp [go_sem, *]; done) | (refine Gr.at ?_ (by assumption); exact gr_auto)
            have b1_4 : b2 < W1.heap.size := World.block_lt_of_cell? _ _ k1_4
            have k1_5 : W1.cell? ⟨b2, 1, none⟩ = some (.int .i64 uy0) := by rw [hW1]; first | (simp [go_sem, *]; done) | (refine Gr.at ?_ (by assumption); exact gr_auto)
            have k1_6 : W1.cell? ⟨b2, 2, none⟩ = some (.int .i64 ux1) := by rw [hW1]; first | (simp [go_sem, *]; done) | (refine Gr.at ?_ (by assumption); exact gr_auto)
            have k1_7 : W1.cell? ⟨b2, 3, none⟩ = some (.int .i64 uy1) := by rw [hW1]; first | (simp [go_sem, *]; done) | (refine Gr.at ?_ (by assumption); exact gr_auto)
            have k1_8 : W1.cell? ⟨b2, 4, none⟩ = some (.int .i64 ux2) := by rw [hW1]; first | (simp [go_sem, *]; done) | (refine Gr.at ?_ (by assumption); exact gr_auto)
            have k1_9 : W1.cell? ⟨b2, 5, none⟩ = some (.int .i64 uy2) := by rw [hW1]; first | (simp [go_sem, *]; done) | (refine Gr.at ?_ (by assumption); exact gr_auto)
            clear hW1
            have s1_0 : ∀ gw : GW W1, gw.1.cell? ⟨wr.heap.size, 0, none⟩ = some (.int .i64 tx2) := fun gw => Gr.at gw.2 k1_0
            have s1_1 : ∀ gw : GW W1, gw.1.cell? ⟨wr.heap.size, 1, none⟩ = some (.int .i64 ty2) := fun gw => Gr.at gw.2 k1_1
            have s1_2 : ∀ gw : GW W1, gw.1.cell? ⟨wr.heap.size + 1, 0, none⟩ = some (.int .i64 tx0) := fun gw => Gr.at gw.2 k1_2
            have s1_3 : ∀ gw : GW W1, gw.1.cell? ⟨wr.heap.size + 1, 1, none⟩ = some (.int .i64 ty0) := fun gw => Gr.at gw.2 k1_3
            have s1_4 : ∀ gw : GW W1, gw.1.cell? ⟨b2, 0, none⟩ = some (.int .i64 ux0) := fun gw => Gr.at gw.2 k1_4
            have s1_5 : ∀ gw : GW W1, gw.1.cell? ⟨b2, 1, none⟩ = some (.int .i64 uy0) := fun gw => Gr.at gw.2 k1_5
            have s1_6 : ∀ gw : GW W1, gw.1.cell? ⟨b2, 2, none⟩ = some (.int .i64 ux1) := fun gw => Gr.at gw.2 k1_6
            have s1_7 : ∀ gw : GW W1, gw.1.cell? ⟨b2, 3, none⟩ = some (.int .i64 uy1) := fun gw => Gr.at gw.2 k1_7
            have s1_8 : ∀ gw : GW W1, gw.1.cell? ⟨b2, 4, none⟩ = some (.int .i64 ux2) := fun gw => Gr.at gw.2 k1_8
            have s1_9 : ∀ gw : GW W1, gw.1.cell? ⟨b2, 5, none⟩ = some (.int .i64 uy2) := fun gw => Gr.at gw.2 k1_9
            have Q0 := Lib.hid (fun gw : GW W1 => gw_call (T0.out gw.1))
            have Q1 := Lib.hid (fun gw : GW W1 => gw_call (T1.out gw.1))
            have Q2 := Lib.hid (fun gw : GW W1 => gw_call (T2.out gw.1))
            refine wp_region_gr (by kernel_rfl) (by kernel_rfl) ?_
            repeat (go_big_quiet_step (first | (go_at_call 141; with_reducible exact Q0.out _) | (go_at_call 141; with_reducible exact Q1.out _) | (go_at_call 141; with_reducible exact Q2.out _)))
            refine wpQuiet_nil ?_
            intro w2 hb2
            clear s1_0 s1_1 s1_2 s1_3 s1_4 s1_5 s1_6 s1_7 s1_8 s1_9
            have g2 : Gr w w2 := g1.trans hb2
            have k1_0 := Gr.at hb2 k1_0
            have k1_1 := Gr.at hb2 k1_1
            have k1_2 := Gr.at hb2 k1_2
            have k1_3 := Gr.at hb2 k1_3
            have k1_4 := Gr.at hb2 k1_4
            have k1_5 := Gr.at hb2 k1_5
            have k1_6 := Gr.at hb2 k1_6
            have k1_7 := Gr.at hb2 k1_7
            have k1_8 := Gr.at hb2 k1_8
            have k1_9 := Gr.at hb2 k1_9
            go_wp2_with fail
            go_roundw
            case rel => exact ⟨3, by omega, by go_num, HR, hg.trans (gb1_wr.trans hb2)⟩
            case measure => simp [intOf]
          · go_wp2_with fail
            (first | refine name_world ?_ | refine (show (∀ W, W = _ → Calls _ _ _ W _) → Calls _ _ _ _ _ from fun h => h _ rfl) ?_); intro W1 hW1
            have g1 : Gr w W1 := by rw [hW1]; exact gr_auto
            have gb1_wr : Gr wr W1 := by (try clear g1); rw [hW1]; exact gr_auto
            have k1_0 : W1.cell? ⟨wr.heap.size + 1, 0, none⟩ = some (.int .i64 tx2) := by rw [hW1]; first | (simp [go_sem, *]; done) | (refine Gr.at ?_ (by assumption); exact gr_auto)
            have b1_0 : wr.heap.size + 1 < W1.heap.size := World.block_lt_of_cell? _ _ k1_0
            have k1_1 : W1.cell? ⟨wr.heap.size + 1, 1, none⟩ = some (.int .i64 ty2) := by rw [hW1]; first | (simp [go_sem, *]; done) | (refine Gr.at ?_ (by assumption); exact gr_auto)
            have k1_2 : W1.cell? ⟨wr.heap.size, 0, none⟩ = some (.int .i64 tx0) := by rw [hW1]; first | (simp [go_sem, *]; done) | (refine Gr.at ?_ (by assumption); exact gr_auto)
            have b1_2 : wr.heap.size < W1.heap.size := World.block_lt_of_cell? _ _ k1_2
            have k1_3 : W1.cell? ⟨wr.heap.size, 1, none⟩ = some (.int .i64 ty0) := by rw [hW1]; first | (simp [go_sem, *]; done) | (refine Gr.at ?_ (by assumption); exact gr_auto)
            have k1_4 : W1.cell? ⟨b2, 0, none⟩ = some (.int .i64 ux0) := by rw [hW1]; first | (simp [go_sem, *]; done) | (refine Gr.at ?_ (by assumption); exact gr_auto)
            have b1_4 : b2 < W1.heap.size := World.block_lt_of_cell? _ _ k1_4
            have k1_5 : W1.cell? ⟨b2, 1, none⟩ = some (.int .i64 uy0) := by rw [hW1]; first | (simp [go_sem, *]; done) | (refine Gr.at ?_ (by assumption); exact gr_auto)
            have k1_6 : W1.cell? ⟨b2, 2, none⟩ = some (.int .i64 ux1) := by rw [hW1]; first | (simp [go_sem, *]; done) | (refine Gr.at ?_ (by assumption); exact gr_auto)
            have k1_7 : W1.cell? ⟨b2, 3, none⟩ = some (.int .i64 uy1) := by rw [hW1]; first | (simp [go_sem, *]; done) | (refine Gr.at ?_ (by assumption); exact gr_auto)
            have k1_8 : W1.cell? ⟨b2, 4, none⟩ = some (.int .i64 ux2) := by rw [hW1]; first | (simp [go_sem, *]; done) | (refine Gr.at ?_ (by assumption); exact gr_auto)
            have k1_9 : W1.cell? ⟨b2, 5, none⟩ = some (.int .i64 uy2) := by rw [hW1]; first | (simp [go_sem, *]; done) | (refine Gr.at ?_ (by assumption); exact gr_auto)
            clear hW1
            have s1_0 : ∀ gw : GW W1, gw.1.cell? ⟨wr.heap.size + 1, 0, none⟩ = some (.int .i64 tx2) := fun gw => Gr.at gw.2 k1_0
            have s1_1 : ∀ gw : GW W1, gw.1.cell? ⟨wr.heap.size + 1, 1, none⟩ = some (.int .i64 ty2) := fun gw => Gr.at gw.2 k1_1
            have s1_2 : ∀ gw : GW W1, gw.1.cell? ⟨wr.heap.size, 0, none⟩ = some (.int .i64 tx0) := fun gw => Gr.at gw.2 k1_2
            have s1_3 : ∀ gw : GW W1, gw.1.cell? ⟨wr.heap.size, 1, none⟩ = some (.int .i64 ty0) := fun gw => Gr.at gw.2 k1_3
            have s1_4 : ∀ gw : GW W1, gw.1.cell? ⟨b2, 0, none⟩ = some (.int .i64 ux0) := fun gw => Gr.at gw.2 k1_4
            have s1_5 : ∀ gw : GW W1, gw.1.cell? ⟨b2, 1, none⟩ = some (.int .i64 uy0) := fun gw => Gr.at gw.2 k1_5
            have s1_6 : ∀ gw : GW W1, gw.1.cell? ⟨b2, 2, none⟩ = some (.int .i64 ux1) := fun gw => Gr.at gw.2 k1_6
            have s1_7 : ∀ gw : GW W1, gw.1.cell? ⟨b2, 3, none⟩ = some (.int .i64 uy1) := fun gw => Gr.at gw.2 k1_7
            have s1_8 : ∀ gw : GW W1, gw.1.cell? ⟨b2, 4, none⟩ = some (.int .i64 ux2) := fun gw => Gr.at gw.2 k1_8
            have s1_9 : ∀ gw : GW W1, gw.1.cell? ⟨b2, 5, none⟩ = some (.int .i64 uy2) := fun gw => Gr.at gw.2 k1_9
            have Q0 := Lib.hid (fun gw : GW W1 => gw_call (T0.out gw.1))
            have Q1 := Lib.hid (fun gw : GW W1 => gw_call (T1.out gw.1))
            have Q2 := Lib.hid (fun gw : GW W1 => gw_call (T2.out gw.1))
            refine wp_region_gr (by kernel_rfl) (by kernel_rfl) ?_
            repeat (go_big_quiet_step (first | (go_at_call 141; with_reducible exact Q0.out _) | (go_at_call 141; with_reducible exact Q1.out _) | (go_at_call 141; with_reducible exact Q2.out _)))
            refine wpQuiet_nil ?_
            intro w2 hb2
            clear s1_0 s1_1 s1_2 s1_3 s1_4 s1_5 s1_6 s1_7 s1_8 s1_9
            have g2 : Gr w w2 := g1.trans hb2
            have k1_0 := Gr.at hb2 k1_0
            have k1_1 := Gr.at hb2 k1_1
            have k1_2 := Gr.at hb2 k1_2
            have k1_3 := Gr.at hb2 k1_3
            have k1_4 := Gr.at hb2 k1_4
            have k1_5 := Gr.at hb2 k1_5
            have k1_6 := Gr.at hb2 k1_6
            have k1_7 := Gr.at hb2 k1_7
            have k1_8 := Gr.at hb2 k1_8
            have k1_9 := Gr.at hb2 k1_9
            go_wp2_with fail
            go_roundw
            case rel => exact ⟨3, by omega, by go_num, HR, hg.trans (gb1_wr.trans hb2)⟩
            case measure => simp [intOf]
        · rw [q0] at HPi
          cases q1 : decide (v1 ≤ 0)
          · rw [q1] at HPi
            have HR := Lib.hid (Ms.any_go HQ.out (by rw [HPi]; rfl))
            clear HPi HQ
            go_wp2_with fail
            go_region
            · go_wp2_with fail
              (first | refine name_world ?_ | refine (show (∀ W, W = _ → Calls _ _ _ W _) → Calls _ _ _ _ _ from fun h => h _ rfl) ?_); intro W1 hW1
              have g1 : Gr w W1 := by rw [hW1]; exact gr_auto
              have gb1_wr : Gr wr W1 := by (try clear g1); rw [hW1]; exact gr_auto
              have k1_0 : W1.cell? ⟨wr.heap.size, 0, none⟩ = some (.int .i64 tx2) := by rw [hW1]; first | (simp [go_sem, *]; done) | (refine Gr.at ?_ (by assumption); exact gr_auto)
              have b1_0 : wr.heap.size < W1.heap.size := World.block_lt_of_cell? _ _ k1_0
              have k1_1 : W1.cell? ⟨wr.heap.size, 1, none⟩ = some (.int .i64 ty2) := by rw [hW1]; first | (simp [go_sem, *]; done) | (refine Gr.at ?_ (by assumption); exact gr_auto)
              have k1_2 : W1.cell? ⟨wr.heap.size + 1, 0, none⟩ = some (.int .i64 tx0) := by rw [hW1]; first | (simp [go_sem, *]; done) | (refine Gr.at ?_ (by assumption); exact gr_auto)
              have b1_2 : wr.heap.size + 1 < W1.heap.size := World.block_lt_of_cell? _ _ k1_2
              have k1_3 : W1.cell? ⟨wr.heap.size + 1, 1, none⟩ = some (.int .i64 ty0) := by rw [hW1]; first | (simp [go_sem, *]; done) | (refine Gr.at ?_ (by assumption); exact gr_auto)
              have k1_4 : W1.cell? ⟨b2, 0, none⟩ = some (.int .i64 ux0) := by rw [hW1]; first | (simp [go_sem, *]; done) | (refine Gr.at ?_ (by assumption); exact gr_auto)
              have b1_4 : b2 < W1.heap.size := World.block_lt_of_cell? _ _ k1_4
              have k1_5 : W1.cell? ⟨b2, 1, none⟩ = some (.int .i64 uy0) := by rw [hW1]; first | (simp [go_sem, *]; done) | (refine Gr.at ?_ (by assumption); exact gr_auto)
              have k1_6 : W1.cell? ⟨b2, 2, none⟩ = some (.int .i64 ux1) := by rw [hW1]; first | (simp [go_sem, *]; done) | (refine Gr.at ?_ (by assumption); exact gr_auto)
              have k1_7 : W1.cell? ⟨b2, 3, none⟩ = some (.int .i64 uy1) := by rw [hW1]; first | (simp [go_sem, *]; done) | (refine Gr.at ?_ (by assumption); exact gr_auto)
              have k1_8 : W1.cell? ⟨b2, 4, none⟩ = some (.int .i64 ux2) := by rw [hW1]; first | (simp [go_sem, *]; done) | (refine Gr.at ?_ (by assumption); exact gr_auto)
              have k1_9 : W1.cell? ⟨b2, 5, none⟩ = some (.int .i64 uy2) := by rw [hW1]; first | (simp [go_sem, *]; done) | (refine Gr.at ?_ (by assumption); exact gr_auto)
              clear hW1
              have s1_0 : ∀ gw : GW W1, gw.1.cell? ⟨wr.heap.size, 0, none⟩ = some (.int .i64 tx2) := fun gw => Gr.at gw.2 k1_0
              have s1_1 : ∀ gw : GW W1, gw.1.cell? ⟨wr.heap.size, 1, none⟩ = some (.int .i64 ty2) := fun gw => Gr.at gw.2 k1_1
              have s1_2 : ∀ gw : GW W1, gw.1.cell? ⟨wr.heap.size + 1, 0, none⟩ = some (.int .i64 tx0) := fun gw => Gr.at gw.2 k1_2
              have s1_3 : ∀ gw : GW W1, gw.1.cell? ⟨wr.heap.size + 1, 1, none⟩ = some (.int .i64 ty0) := fun gw => Gr.at gw.2 k1_3
              have s1_4 : ∀ gw : GW W1, gw.1.cell? ⟨b2, 0, none⟩ = some (.int .i64 ux0) := fun gw => Gr.at gw.2 k1_4
              have s1_5 : ∀ gw : GW W1, gw.1.cell? ⟨b2, 1, none⟩ = some (.int .i64 uy0) := fun gw => Gr.at gw.2 k1_5
              have s1_6 : ∀ gw : GW W1, gw.1.cell? ⟨b2, 2, none⟩ = some (.int .i64 ux1) := fun gw => Gr.at gw.2 k1_6
              have s1_7 : ∀ gw : GW W1, gw.1.cell? ⟨b2, 3, none⟩ = some (.int .i64 uy1) := fun gw => Gr.at gw.2 k1_7
              have s1_8 : ∀ gw : GW W1, gw.1.cell? ⟨b2, 4, none⟩ = some (.int .i64 ux2) := fun gw => Gr.at gw.2 k1_8
              have s1_9 : ∀ gw : GW W1, gw.1.cell? ⟨b2, 5, none⟩ = some (.int .i64 uy2) := fun gw => Gr.at gw.2 k1_9
              have Q0 := Lib.hid (fun gw : GW W1 => gw_call (T0.out gw.1))
              have Q1 := Lib.hid (fun gw : GW W1 => gw_call (T1.out gw.1))
              have Q2 := Lib.hid (fun gw : GW W1 => gw_call (T2.out gw.1))
              refine wp_region_gr (by kernel_rfl) (by kernel_rfl) ?_
              repeat (go_big_quiet_step (first | (go_at_call 141; with_reducible exact Q0.out _) | (go_at_call 141; with_reducible exact Q1.out _) | (go_at_call 141; with_reducible exact Q2.out _)))
              refine wpQuiet_nil ?_
              intro w2 hb2
              clear s1_0 s1_1 s1_2 s1_3 s1_4 s1_5 s1_6 s1_7 s1_8 s1_9
              have g2 : Gr w w2 := g1.trans hb2
              have k1_0 := Gr.at hb2 k1_0
              have k1_1 := Gr.at hb2 k1_1
              have k1_2 := Gr.at hb2 k1_2
              have k1_3 := Gr.at hb2 k1_3
              have k1_4 := Gr.at hb2 k1_4
              have k1_5 := Gr.at hb2 k1_5
              have k1_6 := Gr.at hb2 k1_6
              have k1_7 := Gr.at hb2 k1_7
              have k1_8 := Gr.at hb2 k1_8
              have k1_9 := Gr.at hb2 k1_9
              go_wp2_with fail
              go_roundw
              case rel => exact ⟨3, by omega, by go_num, HR, hg.trans (gb1_wr.trans hb2)⟩
              case measure => simp [intOf]
            · go_wp2_with fail
              (first | refine name_world ?_ | refine (show (∀ W, W = _ → Calls _ _ _ W _) → Calls _ _ _ _ _ from fun h => h _ rfl) ?_); intro W1 hW1
              have g1 : Gr w W1 := by rw [hW1]; exact gr_auto
              have gb1_wr : Gr wr W1 := by (try clear g1); rw [hW1]; exact gr_auto
              have k1_0 : W1.cell? ⟨wr.heap.size + 1, 0, none⟩ = some (.int .i64 tx2) := by rw [hW1]; first | (simp [go_sem, *]; done) | (refine Gr.at ?_ (by assumption); exact gr_auto)
              have b1_0 : wr.heap.size + 1 < W1.heap.size := World.block_lt_of_cell? _ _ k1_0
              have k1_1 : W1.cell? ⟨wr.heap.size + 1, 1, none⟩ = some (.int .i64 ty2) := by rw [hW1]; first | (simp [go_sem, *]; done) | (refine Gr.at ?_ (by assumption); exact gr_auto)
              have k1_2 : W1.cell? ⟨wr.heap.size, 0, none⟩ = some (.int .i64 tx0) := by rw [hW1]; first | (simp [go_sem, *]; done) | (refine Gr.at ?_ (by assumption); exact gr_auto)
              have b1_2 : wr.heap.size < W1.heap.size := World.block_lt_of_cell? _ _ k1_2
              have k1_3 : W1.cell? ⟨wr.heap.size, 1, none⟩ = some (.int .i64 ty0) := by rw [hW1]; first | (simp [go_sem, *]; done) | (refine Gr.at ?_ (by assumption); exact gr_auto)
              have k1_4 : W1.cell? ⟨b2, 0, none⟩ = some (.int .i64 ux0) := by rw [hW1]; first | (simp [go_sem, *]; done) | (refine Gr.at ?_ (by assumption); exact gr_auto)
              have b1_4 : b2 < W1.heap.size := World.block_lt_of_cell? _ _ k1_4
              have k1_5 : W1.cell? ⟨b2, 1, none⟩ = some (.int .i64 uy0) := by rw [hW1]; first | (simp [go_sem, *]; done) | (refine Gr.at ?_ (by assumption); exact gr_auto)
              have k1_6 : W1.cell? ⟨b2, 2, none⟩ = some (.int .i64 ux1) := by rw [hW1]; first | (simp [go_sem, *]; done) | (refine Gr.at ?_ (by assumption); exact gr_auto)
              have k1_7 : W1.cell? ⟨b2, 3, none⟩ = some (.int .i64 uy1) := by rw [hW1]; first | (simp [go_sem, *]; done) | (refine Gr.at ?_ (by assumption); exact gr_auto)
              have k1_8 : W1.cell? ⟨b2, 4, none⟩ = some (.int .i64 ux2) := by rw [hW1]; first | (simp [go_sem, *]; done) | (refine Gr.at ?_ (by assumption); exact gr_auto)
              have k1_9 : W1.cell? ⟨b2, 5, none⟩ = some (.int .i64 uy2) := by rw [hW1]; first | (simp [go_sem, *]; done) | (refine Gr.at ?_ (by assumption); exact gr_auto)
              clear hW1
              have s1_0 : ∀ gw : GW W1, gw.1.cell? ⟨wr.heap.size + 1, 0, none⟩ = some (.int .i64 tx2) := fun gw => Gr.at gw.2 k1_0
              have s1_1 : ∀ gw : GW W1, gw.1.cell? ⟨wr.heap.size + 1, 1, none⟩ = some (.int .i64 ty2) := fun gw => Gr.at gw.2 k1_1
              have s1_2 : ∀ gw : GW W1, gw.1.cell? ⟨wr.heap.size, 0, none⟩ = some (.int .i64 tx0) := fun gw => Gr.at gw.2 k1_2
              have s1_3 : ∀ gw : GW W1, gw.1.cell? ⟨wr.heap.size, 1, none⟩ = some (.int .i64 ty0) := fun gw => Gr.at gw.2 k1_3
              have s1_4 : ∀ gw : GW W1, gw.1.cell? ⟨b2, 0, none⟩ = some (.int .i64 ux0) := fun gw => Gr.at gw.2 k1_4
              have s1_5 : ∀ gw : GW W1, gw.1.cell? ⟨b2, 1, none⟩ = some (.int .i64 uy0) := fun gw => Gr.at gw.2 k1_5
              have s1_6 : ∀ gw : GW W1, gw.1.cell? ⟨b2, 2, none⟩ = some (.int .i64 ux1) := fun gw => Gr.at gw.2 k1_6
              have s1_7 : ∀ gw : GW W1, gw.1.cell? ⟨b2, 3, none⟩ = some (.int .i64 uy1) := fun gw => Gr.at gw.2 k1_7
              have s1_8 : ∀ gw : GW W1, gw.1.cell? ⟨b2, 4, none⟩ = some (.int .i64 ux2) := fun gw => Gr.at gw.2 k1_8
              have s1_9 : ∀ gw : GW W1, gw.1.cell? ⟨b2, 5, none⟩ = some (.int .i64 uy2) := fun gw => Gr.at gw.2 k1_9
              have Q0 := Lib.hid (fun gw : GW W1 => gw_call (T0.out gw.1))
              have Q1 := Lib.hid (fun gw : GW W1 => gw_call (T1.out gw.1))
              have Q2 := Lib.hid (fun gw : GW W1 => gw_call (T2.out gw.1))
              refine wp_region_gr (by kernel_rfl) (by kernel_rfl) ?_
              repeat (go_big_quiet_step (first | (go_at_call 141; with_reducible exact Q0.out _) | (go_at_call 141; with_reducible exact Q1.out _) | (go_at_call 141; with_reducible exact Q2.out _)))
              refine wpQuiet_nil ?_
              intro w2 hb2
              clear s1_0 s1_1 s1_2 s1_3 s1_4 s1_5 s1_6 s1_7 s1_8 s1_9
              have g2 : Gr w w2 := g1.trans hb2
              have k1_0 := Gr.at hb2 k1_0
              have k1_1 := Gr.at hb2 k1_1
              have k1_2 := Gr.at hb2 k1_2
              have k1_3 := Gr.at hb2 k1_3
              have k1_4 := Gr.at hb2 k1_4
              have k1_5 := Gr.at hb2 k1_5
              have k1_6 := Gr.at hb2 k1_6
              have k1_7 := Gr.at hb2 k1_7
              have k1_8 := Gr.at hb2 k1_8
              have k1_9 := Gr.at hb2 k1_9
              go_wp2_with fail
              go_roundw
              case rel => exact ⟨3, by omega, by go_num, HR, hg.trans (gb1_wr.trans hb2)⟩
              case measure => simp [intOf]
          · rw [q1] at HPi
            cases q2 : decide (v2 ≤ 0)
            · rw [q2] at HPi
              have HR := Lib.hid (Ms.any_go HQ.out (by rw [HPi]; rfl))
              clear HPi HQ
              go_wp2_with fail
              go_region
              · go_wp2_with fail
                (first | refine name_world ?_ | refine (show (∀ W, W = _ → Calls _ _ _ W _) → Calls _ _ _ _ _ from fun h => h _ rfl) ?_); intro W1 hW1
                have g1 : Gr w W1 := by rw [hW1]; exact gr_auto
                have gb1_wr : Gr wr W1 := by (try clear g1); rw [hW1]; exact gr_auto
                have k1_0 : W1.cell? ⟨wr.heap.size, 0, none⟩ = some (.int .i64 tx2) := by rw [hW1]; first | (simp [go_sem, *]; done) | (refine Gr.at ?_ (by assumption); exact gr_auto)
                have b1_0 : wr.heap.size < W1.heap.size := World.block_lt_of_cell? _ _ k1_0
                have k1_1 : W1.cell? ⟨wr.heap.size, 1, none⟩ = some (.int .i64 ty2) := by rw [hW1]; first | (simp [go_sem, *]; done) | (refine Gr.at ?_ (by assumption); exact gr_auto)
                have k1_2 : W1.cell? ⟨wr.heap.size + 1, 0, none⟩ = some (.int .i64 tx0) := by rw [hW1]; first | (simp [go_sem, *]; done) | (refine Gr.at ?_ (by assumption); exact gr_auto)
                have b1_2 : wr.heap.size + 1 < W1.heap.size := World.block_lt_of_cell? _ _ k1_2
                have k1_3 : W1.cell? ⟨wr.heap.size + 1, 1, none⟩ = some (.int .i64 ty0) := by rw [hW1]; first | (simp [go_sem, *]; done) | (refine Gr.at ?_ (by assumption); exact gr_auto)
                have k1_4 : W1.cell? ⟨b2, 0, none⟩ = some (.int .i64 ux0) := by rw [hW1]; first | (simp [go_sem, *]; done) | (refine Gr.at ?_ (by assumption); exact gr_auto)
                have b1_4 : b2 < W1.heap.size := World.block_lt_of_cell? _ _ k1_4
                have k1_5 : W1.cell? ⟨b2, 1, none⟩ = some (.int .i64 uy0) := by rw [hW1]; first | (simp [go_sem, *]; done) | (refine Gr.at ?_ (by assumption); exact gr_auto)
                have k1_6 : W1.cell? ⟨b2, 2, none⟩ = some (.int .i64 ux1) := by rw [hW1]; first | (simp [go_sem, *]; done) | (refine Gr.at ?_ (by assumption); exact gr_auto)
                have k1_7 : W1.cell? ⟨b2, 3, none⟩ = some (.int .i64 uy1) := by rw [hW1]; first | (simp [go_sem, *]; done) | (refine Gr.at ?_ (by assumption); exact gr_auto)
                have k1_8 : W1.cell? ⟨b2, 4, none⟩ = some (.int .i64 ux2) := by rw [hW1]; first | (simp [go_sem, *]; done) | (refine Gr.at ?_ (by assumption); exact gr_auto)
                have k1_9 : W1.cell? ⟨b2, 5, none⟩ = some (.int .i64 uy2) := by rw [hW1]; first | (simp [go_sem, *]; done) | (refine Gr.at ?_ (by assumption); exact gr_auto)
                clear hW1
                have s1_0 : ∀ gw : GW W1, gw.1.cell? ⟨wr.heap.size, 0, none⟩ = some (.int .i64 tx2) := fun gw => Gr.at gw.2 k1_0
                have s1_1 : ∀ gw : GW W1, gw.1.cell? ⟨wr.heap.size, 1, none⟩ = some (.int .i64 ty2) := fun gw => Gr.at gw.2 k1_1
                have s1_2 : ∀ gw : GW W1, gw.1.cell? ⟨wr.heap.size + 1, 0, none⟩ = some (.int .i64 tx0) := fun gw => Gr.at gw.2 k1_2
                have s1_3 : ∀ gw : GW W1, gw.1.cell? ⟨wr.heap.size + 1, 1, none⟩ = some (.int .i64 ty0) := fun gw => Gr.at gw.2 k1_3
                have s1_4 : ∀ gw : GW W1, gw.1.cell? ⟨b2, 0, none⟩ = some (.int .i64 ux0) := fun gw => Gr.at gw.2 k1_4
                have s1_5 : ∀ gw : GW W1, gw.1.cell? ⟨b2, 1, none⟩ = some (.int .i64 uy0) := fun gw => Gr.at gw.2 k1_5
                have s1_6 : ∀ gw : GW W1, gw.1.cell? ⟨b2, 2, none⟩ = some (.int .i64 ux1) := fun gw => Gr.at gw.2 k1_6
                have s1_7 : ∀ gw : GW W1, gw.1.cell? ⟨b2, 3, none⟩ = some (.int .i64 uy1) := fun gw => Gr.at gw.2 k1_7
                have s1_8 : ∀ gw : GW W1, gw.1.cell? ⟨b2, 4, none⟩ = some (.int .i64 ux2) := fun gw => Gr.at gw.2 k1_8
                have s1_9 : ∀ gw : GW W1, gw.1.cell? ⟨b2, 5, none⟩ = some (.int .i64 uy2) := fun gw => Gr.at gw.2 k1_9
                have Q0 := Lib.hid (fun gw : GW W1 => gw_call (T0.out gw.1))
                have Q1 := Lib.hid (fun gw : GW W1 => gw_call (T1.out gw.1))
                have Q2 := Lib.hid (fun gw : GW W1 => gw_call (T2.out gw.1))
                refine wp_region_gr (by kernel_rfl) (by kernel_rfl) ?_
                repeat (go_big_quiet_step (first | (go_at_call 141; with_reducible exact Q0.out _) | (go_at_call 141; with_reducible exact Q1.out _) | (go_at_call 141; with_reducible exact Q2.out _)))
                refine wpQuiet_nil ?_
                intro w2 hb2
                clear s1_0 s1_1 s1_2 s1_3 s1_4 s1_5 s1_6 s1_7 s1_8 s1_9
                have g2 : Gr w w2 := g1.trans hb2
                have k1_0 := Gr.at hb2 k1_0
                have k1_1 := Gr.at hb2 k1_1
                have k1_2 := Gr.at hb2 k1_2
                have k1_3 := Gr.at hb2 k1_3
                have k1_4 := Gr.at hb2 k1_4
                have k1_5 := Gr.at hb2 k1_5
                have k1_6 := Gr.at hb2 k1_6
                have k1_7 := Gr.at hb2 k1_7
                have k1_8 := Gr.at hb2 k1_8
                have k1_9 := Gr.at hb2 k1_9
                go_wp2_with fail
                go_roundw
                case rel => exact ⟨3, by omega, by go_num, HR, hg.trans (gb1_wr.trans hb2)⟩
                case measure => simp [intOf]
              · go_wp2_with fail
                (first | refine name_world ?_ | refine (show (∀ W, W = _ → Calls _ _ _ W _) → Calls _ _ _ _ _ from fun h => h _ rfl) ?_); intro W1 hW1
                have g1 : Gr w W1 := by rw [hW1]; exact gr_auto
                have gb1_wr : Gr wr W1 := by (try clear g1); rw [hW1]; exact gr_auto
                have k1_0 : W1.cell? ⟨wr.heap.size + 1, 0, none⟩ = some (.int .i64 tx2) := by rw [hW1]; first | (simp [go_sem, *]; done) | (refine Gr.at ?_ (by assumption); exact gr_auto)
                have b1_0 : wr.heap.size + 1 < W1.heap.size := World.block_lt_of_cell? _ _ k1_0
                have k1_1 : W1.cell? ⟨wr.heap.size + 1, 1, none⟩ = some (.int .i64 ty2) := by rw [hW1]; first | (simp [go_sem, *]; done) | (refine Gr.at ?_ (by assumption); exact gr_auto)
                have k1_2 : W1.cell? ⟨wr.heap.size, 0, none⟩ = some (.int .i64 tx0) := by rw [hW1]; first | (simp [go_sem, *]; done) | (refine Gr.at ?_ (by assumption); exact gr_auto)
                have b1_2 : wr.heap.size < W1.heap.size := World.block_lt_of_cell? _ _ k1_2
                have k1_3 : W1.cell? ⟨wr.heap.size, 1, none⟩ = some (.int .i64 ty0) := by rw [hW1]; first | (simp [go_sem, *]; done) | (refine Gr.at ?_ (by assumption); exact gr_auto)
                have k1_4 : W1.cell? ⟨b2, 0, none⟩ = some (.int .i64 ux0) := by rw [hW1]; first | (simp [go_sem, *]; done) | (refine Gr.at ?_ (by assumption); exact gr_auto)
                have b1_4 : b2 < W1.heap.size := World.block_lt_of_cell? _ _ k1_4
                have k1_5 : W1.cell? ⟨b2, 1, none⟩ = some (.int .i64 uy0) := by rw [hW1]; first | (simp [go_sem, *]; done) | (refine Gr.at ?_ (by assumption); exact gr_auto)
                have k1_6 : W1.cell? ⟨b2, 2, none⟩ = some (.int .i64 ux1) := by rw [hW1]; first | (simp [go_sem, *]; done) | (refine Gr.at ?_ (by assumption); exact gr_auto)
                have k1_7 : W1.cell? ⟨b2, 3, none⟩ = some (.int .i64 uy1) := by rw [hW1]; first | (simp [go_sem, *]; done) | (refine Gr.at ?_ (by assumption); exact gr_auto)
                have k1_8 : W1.cell? ⟨b2, 4, none⟩ = some (.int .i64 ux2) := by rw [hW1]; first | (simp [go_sem, *]; done) | (refine Gr.at ?_ (by assumption); exact gr_auto)
                have k1_9 : W1.cell? ⟨b2, 5, none⟩ = some (.int .i64 uy2) := by rw [hW1]; first | (simp [go_sem, *]; done) | (refine Gr.at ?_ (by assumption); exact gr_auto)
                clear hW1
                have s1_0 : ∀ gw : GW W1, gw.1.cell? ⟨wr.heap.size + 1, 0, none⟩ = some (.int .i64 tx2) := fun gw => Gr.at gw.2 k1_0
                have s1_1 : ∀ gw : GW W1, gw.1.cell? ⟨wr.heap.size + 1, 1, none⟩ = some (.int .i64 ty2) := fun gw => Gr.at gw.2 k1_1
                have s1_2 : ∀ gw : GW W1, gw.1.cell? ⟨wr.heap.size, 0, none⟩ = some (.int .i64 tx0) := fun gw => Gr.at gw.2 k1_2
                have s1_3 : ∀ gw : GW W1, gw.1.cell? ⟨wr.heap.size, 1, none⟩ = some (.int .i64 ty0) := fun gw => Gr.at gw.2 k1_3
                have s1_4 : ∀ gw : GW W1, gw.1.cell? ⟨b2, 0, none⟩ = some (.int .i64 ux0) := fun gw => Gr.at gw.2 k1_4
                have s1_5 : ∀ gw : GW W1, gw.1.cell? ⟨b2, 1, none⟩ = some (.int .i64 uy0) := fun gw => Gr.at gw.2 k1_5
                have s1_6 : ∀ gw : GW W1, gw.1.cell? ⟨b2, 2, none⟩ = some (.int .i64 ux1) := fun gw => Gr.at gw.2 k1_6
                have s1_7 : ∀ gw : GW W1, gw.1.cell? ⟨b2, 3, none⟩ = some (.int .i64 uy1) := fun gw => Gr.at gw.2 k1_7
                have s1_8 : ∀ gw : GW W1, gw.1.cell? ⟨b2, 4, none⟩ = some (.int .i64 ux2) := fun gw => Gr.at gw.2 k1_8
                have s1_9 : ∀ gw : GW W1, gw.1.cell? ⟨b2, 5, none⟩ = some (.int .i64 uy2) := fun gw => Gr.at gw.2 k1_9
                have Q0 := Lib.hid (fun gw : GW W1 => gw_call (T0.out gw.1))
                have Q1 := Lib.hid (fun gw : GW W1 => gw_call (T1.out gw.1))
                have Q2 := Lib.hid (fun gw : GW W1 => gw_call (T2.out gw.1))
                refine wp_region_gr (by kernel_rfl) (by kernel_rfl) ?_
                repeat (go_big_quiet_step (first | (go_at_call 141; with_reducible exact Q0.out _) | (go_at_call 141; with_reducible exact Q1.out _) | (go_at_call 141; with_reducible exact Q2.out _)))
                refine wpQuiet_nil ?_
                intro w2 hb2
                clear s1_0 s1_1 s1_2 s1_3 s1_4 s1_5 s1_6 s1_7 s1_8 s1_9
                have g2 : Gr w w2 := g1.trans hb2
                have k1_0 := Gr.at hb2 k1_0
                have k1_1 := Gr.at hb2 k1_1
                have k1_2 := Gr.at hb2 k1_2
                have k1_3 := Gr.at hb2 k1_3
                have k1_4 := Gr.at hb2 k1_4
                have k1_5 := Gr.at hb2 k1_5
                have k1_6 := Gr.at hb2 k1_6
                have k1_7 := Gr.at hb2 k1_7
                have k1_8 := Gr.at hb2 k1_8
                have k1_9 := Gr.at hb2 k1_9
                go_wp2_with fail
                go_roundw
                case rel => exact ⟨3, by omega, by go_num, HR, hg.trans (gb1_wr.trans hb2)⟩
                case measure => simp [intOf]
            · rw [q2] at HPi
              have HR := Lib.hid (Ms.any_hit (p := P) (i := 2) (n := 3) (by rw [HPi]; rfl) (by omega))
              clear HPi HQ
              go_wp2_with fail
              go_region
              · go_wp2_with fail
                (first | refine name_world ?_ | refine (show (∀ W, W = _ → Calls _ _ _ W _) → Calls _ _ _ _ _ from fun h => h _ rfl) ?_); intro W1 hW1
                have g1 : Gr w W1 := by rw [hW1]; exact gr_auto
                have gb1_wr : Gr wr W1 := by (try clear g1); rw [hW1]; exact gr_auto
                have k1_0 : W1.cell? ⟨wr.heap.size, 0, none⟩ = some (.int .i64 tx2) := by rw [hW1]; first | (simp [go_sem, *]; done) | (refine Gr.at ?_ (by assumption); exact gr_auto)
                have b1_0 : wr.heap.size < W1.heap.size := World.block_lt_of_cell? _ _ k1_0
                have k1_1 : W1.cell? ⟨wr.heap.size, 1, none⟩ = some (.int .i64 ty2) := by rw [hW1]; first | (simp [go_sem, *]; done) | (refine Gr.at ?_ (by assumption); exact gr_auto)
                have k1_2 : W1.cell? ⟨wr.heap.size + 1, 0, none⟩ = some (.int .i64 tx0) := by rw [hW1]; first | (simp [go_sem, *]; done) | (refine Gr.at ?_ (by assumption); exact gr_auto)
                have b1_2 : wr.heap.size + 1 < W1.heap.size := World.block_lt_of_cell? _ _ k1_2
                have k1_3 : W1.cell? ⟨wr.heap.size + 1, 1, none⟩ = some (.int .i64 ty0) := by rw [hW1]; first | (simp [go_sem, *]; done) | (refine Gr.at ?_ (by assumption); exact gr_auto)
                have k1_4 : W1.cell? ⟨b2, 0, none⟩ = some (.int .i64 ux0) := by rw [hW1]; first | (simp [go_sem, *]; done) | (refine Gr.at ?_ (by assumption); exact gr_auto)
                have b1_4 : b2 < W1.heap.size := World.block_lt_of_cell? _ _ k1_4
                have k1_5 : W1.cell? ⟨b2, 1, none⟩ = some (.int .i64 uy0) := by rw [hW1]; first | (simp [go_sem, *]; done) | (refine Gr.at ?_ (by assumption); exact gr_auto)
                have k1_6 : W1.cell? ⟨b2, 2, none⟩ = some (.int .i64 ux1) := by rw [hW1]; first | (simp [go_sem, *]; done) | (refine Gr.at ?_ (by assumption); exact gr_auto)
                have k1_7 : W1.cell? ⟨b2, 3, none⟩ = some (.int .i64 uy1) := by rw [hW1]; first | (simp [go_sem, *]; done) | (refine Gr.at ?_ (by assumption); exact gr_auto)
                have k1_8 : W1.cell? ⟨b2, 4, none⟩ = some (.int .i64 ux2) := by rw [hW1]; first | (simp [go_sem, *]; done) | (refine Gr.at ?_ (by assumption); exact gr_auto)
                have k1_9 : W1.cell? ⟨b2, 5, none⟩ = some (.int .i64 uy2) := by rw [hW1]; first | (simp [go_sem, *]; done) | (refine Gr.at ?_ (by assumption); exact gr_auto)
                clear hW1
                have s1_0 : ∀ gw : GW W1, gw.1.cell? ⟨wr.heap.size, 0, none⟩ = some (.int .i64 tx2) := fun gw => Gr.at gw.2 k1_0
                have s1_1 : ∀ gw : GW W1, gw.1.cell? ⟨wr.heap.size, 1, none⟩ = some (.int .i64 ty2) := fun gw => Gr.at gw.2 k1_1
                have s1_2 : ∀ gw : GW W1, gw.1.cell? ⟨wr.heap.size + 1, 0, none⟩ = some (.int .i64 tx0) := fun gw => Gr.at gw.2 k1_2
                have s1_3 : ∀ gw : GW W1, gw.1.cell? ⟨wr.heap.size + 1, 1, none⟩ = some (.int .i64 ty0) := fun gw => Gr.at gw.2 k1_3
                have s1_4 : ∀ gw : GW W1, gw.1.cell? ⟨b2, 0, none⟩ = some (.int .i64 ux0) := fun gw => Gr.at gw.2 k1_4
                have s1_5 : ∀ gw : GW W1, gw.1.cell? ⟨b2, 1, none⟩ = some (.int .i64 uy0) := fun gw => Gr.at gw.2 k1_5
                have s1_6 : ∀ gw : GW W1, gw.1.cell? ⟨b2, 2, none⟩ = some (.int .i64 ux1) := fun gw => Gr.at gw.2 k1_6
                have s1_7 : ∀ gw : GW W1, gw.1.cell? ⟨b2, 3, none⟩ = some (.int .i64 uy1) := fun gw => Gr.at gw.2 k1_7
                have s1_8 : ∀ gw : GW W1, gw.1.cell? ⟨b2, 4, none⟩ = some (.int .i64 ux2) := fun gw => Gr.at gw.2 k1_8
                have s1_9 : ∀ gw : GW W1, gw.1.cell? ⟨b2, 5, none⟩ = some (.int .i64 uy2) := fun gw => Gr.at gw.2 k1_9
                have Q0 := Lib.hid (fun gw : GW W1 => gw_call (T0.out gw.1))
                have Q1 := Lib.hid (fun gw : GW W1 => gw_call (T1.out gw.1))
                have Q2 := Lib.hid (fun gw : GW W1 => gw_call (T2.out gw.1))
                refine wp_region_gr (by kernel_rfl) (by kernel_rfl) ?_
                repeat (go_big_quiet_step (first | (go_at_call 141; with_reducible exact Q0.out _) | (go_at_call 141; with_reducible exact Q1.out _) | (go_at_call 141; with_reducible exact Q2.out _)))
                refine wpQuiet_nil ?_
                intro w2 hb2
                clear s1_0 s1_1 s1_2 s1_3 s1_4 s1_5 s1_6 s1_7 s1_8 s1_9
                have g2 : Gr w w2 := g1.trans hb2
                have k1_0 := Gr.at hb2 k1_0
                have k1_1 := Gr.at hb2 k1_1
                have k1_2 := Gr.at hb2 k1_2
                have k1_3 := Gr.at hb2 k1_3
                have k1_4 := Gr.at hb2 k1_4
                have k1_5 := Gr.at hb2 k1_5
                have k1_6 := Gr.at hb2 k1_6
                have k1_7 := Gr.at hb2 k1_7
                have k1_8 := Gr.at hb2 k1_8
                have k1_9 := Gr.at hb2 k1_9
                go_wp2_with fail
                go_ret
                exact ⟨by rw [HR.out]; rfl, gr.trans (gb1_wr.trans hb2)⟩
              · go_wp2_with fail
                (first | refine name_world ?_ | refine (show (∀ W, W = _ → Calls _ _ _ W _) → Calls _ _ _ _ _ from fun h => h _ rfl) ?_); intro W1 hW1
                have g1 : Gr w W1 := by rw [hW1]; exact gr_auto
                have gb1_wr : Gr wr W1 := by (try clear g1); rw [hW1]; exact gr_auto
                have k1_0 : W1.cell? ⟨wr.heap.size + 1, 0, none⟩ = some (.int .i64 tx2) := by rw [hW1]; first | (simp [go_sem, *]; done) | (refine Gr.at ?_ (by assumption); exact gr_auto)
                have b1_0 : wr.heap.size + 1 < W1.heap.size := World.block_lt_of_cell? _ _ k1_0
                have k1_1 : W1.cell? ⟨wr.heap.size + 1, 1, none⟩ = some (.int .i64 ty2) := by rw [hW1]; first | (simp [go_sem, *]; done) | (refine Gr.at ?_ (by assumption); exact gr_auto)
                have k1_2 : W1.cell? ⟨wr.heap.size, 0, none⟩ = some (.int .i64 tx0) := by rw [hW1]; first | (simp [go_sem, *]; done) | (refine Gr.at ?_ (by assumption); exact gr_auto)
                have b1_2 : wr.heap.size < W1.heap.size := World.block_lt_of_cell? _ _ k1_2
                have k1_3 : W1.cell? ⟨wr.heap.size, 1, none⟩ = some (.int .i64 ty0) := by rw [hW1]; first | (simp [go_sem, *]; done) | (refine Gr.at ?_ (by assumption); exact gr_auto)
                have k1_4 : W1.cell? ⟨b2, 0, none⟩ = some (.int .i64 ux0) := by rw [hW1]; first | (simp [go_sem, *]; done) | (refine Gr.at ?_ (by assumption); exact gr_auto)
                have b1_4 : b2 < W1.heap.size := World.block_lt_of_cell? _ _ k1_4
                have k1_5 : W1.cell? ⟨b2, 1, none⟩ = some (.int .i64 uy0) := by rw [hW1]; first | (simp [go_sem, *]; done) | (refine Gr.at ?_ (by assumption); exact gr_auto)
                have k1_6 : W1.cell? ⟨b2, 2, none⟩ = some (.int .i64 ux1) := by rw [hW1]; first | (simp [go_sem, *]; done) | (refine Gr.at ?_ (by assumption); exact gr_auto)
                have k1_7 : W1.cell? ⟨b2, 3, none⟩ = some (.int .i64 uy1) := by rw [hW1]; first | (simp [go_sem, *]; done) | (refine Gr.at ?_ (by assumption); exact gr_auto)
                have k1_8 : W1.cell? ⟨b2, 4, none⟩ = some (.int .i64 ux2) := by rw [hW1]; first | (simp [go_sem, *]; done) | (refine Gr.at ?_ (by assumption); exact gr_auto)
                have k1_9 : W1.cell? ⟨b2, 5, none⟩ = some (.int .i64 uy2) := by rw [hW1]; first | (simp [go_sem, *]; done) | (refine Gr.at ?_ (by assumption); exact gr_auto)
                clear hW1
                have s1_0 : ∀ gw : GW W1, gw.1.cell? ⟨wr.heap.size + 1, 0, none⟩ = some (.int .i64 tx2) := fun gw => Gr.at gw.2 k1_0
                have s1_1 : ∀ gw : GW W1, gw.1.cell? ⟨wr.heap.size + 1, 1, none⟩ = some (.int .i64 ty2) := fun gw => Gr.at gw.2 k1_1
                have s1_2 : ∀ gw : GW W1, gw.1.cell? ⟨wr.heap.size, 0, none⟩ = some (.int .i64 tx0) := fun gw => Gr.at gw.2 k1_2
                have s1_3 : ∀ gw : GW W1, gw.1.cell? ⟨wr.heap.size, 1, none⟩ = some (.int .i64 ty0) := fun gw => Gr.at gw.2 k1_3
                have s1_4 : ∀ gw : GW W1, gw.1.cell? ⟨b2, 0, none⟩ = some (.int .i64 ux0) := fun gw => Gr.at gw.2 k1_4
                have s1_5 : ∀ gw : GW W1, gw.1.cell? ⟨b2, 1, none⟩ = some (.int .i64 uy0) := fun gw => Gr.at gw.2 k1_5
                have s1_6 : ∀ gw : GW W1, gw.1.cell? ⟨b2, 2, none⟩ = some (.int .i64 ux1) := fun gw => Gr.at gw.2 k1_6
                have s1_7 : ∀ gw : GW W1, gw.1.cell? ⟨b2, 3, none⟩ = some (.int .i64 uy1) := fun gw => Gr.at gw.2 k1_7
                have s1_8 : ∀ gw : GW W1, gw.1.cell? ⟨b2, 4, none⟩ = some (.int .i64 ux2) := fun gw => Gr.at gw.2 k1_8
                have s1_9 : ∀ gw : GW W1, gw.1.cell? ⟨b2, 5, none⟩ = some (.int .i64 uy2) := fun gw => Gr.at gw.2 k1_9
                have Q0 := Lib.hid (fun gw : GW W1 => gw_call (T0.out gw.1))
                have Q1 := Lib.hid (fun gw : GW W1 => gw_call (T1.out gw.1))
                have Q2 := Lib.hid (fun gw : GW W1 => gw_call (T2.out gw.1))
                refine wp_region_gr (by kernel_rfl) (by kernel_rfl) ?_
                repeat (go_big_quiet_step (first | (go_at_call 141; with_reducible exact Q0.out _) | (go_at_call 141; with_reducible exact Q1.out _) | (go_at_call 141; with_reducible exact Q2.out _)))
                refine wpQuiet_nil ?_
                intro w2 hb2
                clear s1_0 s1_1 s1_2 s1_3 s1_4 s1_5 s1_6 s1_7 s1_8 s1_9
                have g2 : Gr w w2 := g1.trans hb2
                have k1_0 := Gr.at hb2 k1_0
                have k1_1 := Gr.at hb2 k1_1
                have k1_2 := Gr.at hb2 k1_2
                have k1_3 := Gr.at hb2 k1_3
                have k1_4 := Gr.at hb2 k1_4
                have k1_5 := Gr.at hb2 k1_5
                have k1_6 := Gr.at hb2 k1_6
                have k1_7 := Gr.at hb2 k1_7
                have k1_8 := Gr.at hb2 k1_8
                have k1_9 := Gr.at hb2 k1_9
                go_wp2_with fail
                go_ret
                exact ⟨by rw [HR.out]; rfl, gr.trans (gb1_wr.trans hb2)⟩
    · obtain rfl : i = 3 := by omega
      have HR := Lib.hid HQ.out
      clear HQ HL
      go_wp2_with fail
      go_ret
      exact ⟨by rw [HR.out]; rfl, gr⟩
set_option maxRecDepth 100000 in
set_option maxHeartbeats 4000000 in
theorem rs_over (m : Ms.Mesh) (f g : Ba.Face) (w : World) (h : m.S.At w) (hf : Ms.fcB m f = true) (hg : Ms.fcB m g = true) : Calls Tryz.prog 90 #[m.val, f.val, g.val] w fun e w' => e = .returned (.bool (Ms.ovB (Ms.tri m f) (Ms.tri m g))) ∧ Gr w w' := by
  have HF := Lib.hid (fun W (hW : Gr w W) => rs_tri m f W (h.gr hW) hf); have HG := Lib.hid (fun W (hW : Gr w W) => rs_tri m g W (h.gr hW) hg)
  have htk := Ms.tri_ok hf; have huk := Ms.tri_ok hg
  unfold RetTri at HF HG
  unfold Ms.ovB
  obtain ⟨t, ht⟩ : ∃ t, Ms.tri m f = t := ⟨_, rfl⟩
  obtain ⟨u, hu⟩ : ∃ u, Ms.tri m g = u := ⟨_, rfl⟩
  rw [ht] at HF htk ⊢
  rw [hu] at HG huk ⊢
  have HS1 := Lib.hid (fun b1 b2 W (c1 : t.Cells W b1 0) (c2 : u.Cells W b2 0) => rs_apart t u b1 b2 W htk huk c1 c2)
  have HS2 := Lib.hid (fun b1 b2 W (c1 : t.Cells W b1 0) (c2 : u.Cells W b2 0) => rs_apart u t b2 b1 W huk htk c2 c1)
  clear h hf hg ht hu htk huk
  generalize Ms.sepB t u = p at *
  generalize Ms.sepB u t = q at *
  unfold Ms.Mesh.val Ba.Face.val at *
  generalize m.S.A = sA at *; generalize m.S.n = sn at *; generalize m.S.c = sc at *; generalize m.F.A = fA at *; generalize m.F.n = fn at *; generalize m.F.c = fc at *
  obtain ⟨fa, fb, fc', fk⟩ := f
  obtain ⟨ga, gb, gc, gk⟩ := g
  simp only at *
  go_enter Tryz.func90, Tryz.ntmps90
  go_wp2_with fail
  refine name_world ?_; intro W1 hW1
  have g1 : Gr w W1 := by rw [hW1]; exact gr_auto
  have k1_0 : ∀ w', Gr W1 w' → w'.cell? ⟨w.heap.size, 0, none⟩ = some (.slice sA sn sc) := fun w' hgW => by first | exact (Gr.at hgW (by rw [hW1]; simp [go_sem, *]))
  have k1_1 : ∀ w', Gr W1 w' → w'.cell? ⟨w.heap.size, 1, none⟩ = some (.slice fA fn fc) := fun w' hgW => by first | exact (Gr.at hgW (by rw [hW1]; simp [go_sem, *]))
  have k1_2 : ∀ w', Gr W1 w' → w'.cell? ⟨w.heap.size + 1, 0, none⟩ = some (.int .i64 fa) := fun w' hgW => by first | exact (Gr.at hgW (by rw [hW1]; simp [go_sem, *]))
  have k1_3 : ∀ w', Gr W1 w' → w'.cell? ⟨w.heap.size + 1, 1, none⟩ = some (.int .i64 fb) := fun w' hgW => by first | exact (Gr.at hgW (by rw [hW1]; simp [go_sem, *]))
  have k1_4 : ∀ w', Gr W1 w' → w'.cell? ⟨w.heap.size + 1, 2, none⟩ = some (.int .i64 fc') := fun w' hgW => by first | exact (Gr.at hgW (by rw [hW1]; simp [go_sem, *]))
  have k1_5 : ∀ w', Gr W1 w' → w'.cell? ⟨w.heap.size + 1, 3, none⟩ = some (.int .i64 fk) := fun w' hgW => by first | exact (Gr.at hgW (by rw [hW1]; simp [go_sem, *]))
  have k1_6 : ∀ w', Gr W1 w' → w'.cell? ⟨w.heap.size + 2, 0, none⟩ = some (.int .i64 ga) := fun w' hgW => by first | exact (Gr.at hgW (by rw [hW1]; simp [go_sem, *]))
  have k1_7 : ∀ w', Gr W1 w' → w'.cell? ⟨w.heap.size + 2, 1, none⟩ = some (.int .i64 gb) := fun w' hgW => by first | exact (Gr.at hgW (by rw [hW1]; simp [go_sem, *]))
  have k1_8 : ∀ w', Gr W1 w' → w'.cell? ⟨w.heap.size + 2, 2, none⟩ = some (.int .i64 gc) := fun w' hgW => by first | exact (Gr.at hgW (by rw [hW1]; simp [go_sem, *]))
  have k1_9 : ∀ w', Gr W1 w' → w'.cell? ⟨w.heap.size + 2, 3, none⟩ = some (.int .i64 gk) := fun w' hgW => by first | exact (Gr.at hgW (by rw [hW1]; simp [go_sem, *]))
  clear hW1
  have zW1 := Gr.size g1
  go_region_held3 (fun w' => Gr W1 w') (exact gr_auto) (first | (go_at_call 80; with_reducible refine (HF.out _ (g1.trans (by exact gr_auto))).mono ?_; rintro e w2 ⟨B1, rfl, hB1, hc1, hb2⟩) | (go_at_call 80; with_reducible refine (HG.out _ (g1.trans (by exact gr_auto))).mono ?_; rintro e w3 ⟨B2, rfl, hB2, hc2, hb3⟩))
  have g3 := g1.trans (by assumption : Gr W1 w3)
  have hc3 := Ba.Tri.Cells.gr hc1 hb3
  have S1 := Lib.hid (HS1.out B1 B2 w3 hc3 hc2)
  have S2 := Lib.hid (fun W (hW : Gr w3 W) => HS2.out B1 B2 W (Ba.Tri.Cells.gr hc3 hW) (Ba.Tri.Cells.gr hc2 hW))
  clear HS1 HS2 HF HG hc1 hc2 hc3 hb2 hb3 hB1 hB2
  cases p
  · go_wp2_with fail
    refine S1.out.mono ?_
    rintro e w4 ⟨rfl, hb4⟩
    go_wp2_with fail
    refine (S2.out _ hb4).mono ?_
    rintro e w5 ⟨rfl, hb5⟩
    go_wp2_with fail
    go_ret
    exact ⟨rfl, g3.trans (hb4.trans hb5)⟩
  · go_wp2_with fail
    refine S1.out.mono ?_
    rintro e w4 ⟨rfl, hb4⟩
    go_wp2_with fail
    go_ret
    exact ⟨rfl, g3.trans hb4⟩
end Go.Proofs.YtajhhplgcegodaaGreatDoor
