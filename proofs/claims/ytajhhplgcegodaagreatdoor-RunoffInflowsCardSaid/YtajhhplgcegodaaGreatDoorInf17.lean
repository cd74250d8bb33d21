/-
  Surfaces: the test whether a side separates two triangles. (Printed by mkc.py.)
-/
import Derived.Test.YtajhhplgcegodaaGreatDoorInf07
import Derived.Deep.RegionHeld3
set_option linter.unusedVariables false
set_option linter.unusedSimpArgs false
namespace Go.Proofs.YtajhhplgcegodaaGreatDoor
open Go.RowKit
attribute [local go_sem ↓] Go.wp_at_zero Go.wp_at_succ
namespace Ms
def tX (t : Tri) (k : Nat) : Int := match k % 3 with | 0 => t.x0 | 1 => t.x1 | _ => t.x2
def tY (t : Tri) (k : Nat) : Int := match k % 3 with | 0 => t.y0 | 1 => t.y1 | _ => t.y2
def lP (t u : Tri) (i : Nat) : Bool := lB (tX t i) (tY t i) (tX t (i + 1)) (tY t (i + 1)) u
theorem sepB_any (t u : Tri) : sepB t u = Ba.any (lP t u) 3 := by
  rw [any_succ, any_succ, any_succ]
  show (_ || (_ || _)) = (((false || _) || _) || _)
  rw [Bool.false_or, Bool.or_assoc]; rfl
end Ms
set_option maxRecDepth 100000 in
set_option maxHeartbeats 4000000 in
theorem ms_sep (t u : Ms.Tri) (w : World) (ht : Ms.tOk t) (hu : Ms.tOk u) : Calls Tryz.prog 136 #[t.val, u.val] w fun e w' => e = .returned (.bool (Ms.sepB t u)) ∧ Gr w w' := by
  rw [Ms.sepB_any]
  have HL := Lib.hid (fun i => show Ms.lP t u i = Ms.lB (Ms.tX t i) (Ms.tY t i) (Ms.tX t (i + 1)) (Ms.tY t (i + 1)) u from rfl)
  generalize hP : Ms.lP t u = P at *
  clear hP
  obtain ⟨tx0, ty0, tx1, ty1, tx2, ty2⟩ := t
  obtain ⟨ux0, uy0, ux1, uy1, ux2, uy2⟩ := u
  unfold Ba.Tri.val
  unfold Ms.tOk at ht hu
  simp only at ht hu ⊢
  replace ht := Lib.hid ht; replace hu := Lib.hid hu
  go_enter Tryz.func136, Tryz.ntmps136
  go_wp2_with fail
  (first | refine name_world ?_ | refine (show (∀ W, W = _ → Calls _ _ _ W _) → Calls _ _ _ _ _ from fun h => h _ rfl) ?_); intro W0 hW0
  have g0 : Gr w W0 := by rw [hW0]; exact gr_auto
  have k0_0 : W0.cell? ⟨w.heap.size, 0, none⟩ = some (.int .i64 tx0) := by rw [hW0]; first | (simp [go_sem, *]; done) | (refine Gr.at ?_ (by assumption); exact gr_auto)
  have b0_0 : w.heap.size < W0.heap.size := World.block_lt_of_cell? _ _ k0_0
  have k0_1 : W0.cell? ⟨w.heap.size, 1, none⟩ = some (.int .i64 ty0) := by rw [hW0]; first | (simp [go_sem, *]; done) | (refine Gr.at ?_ (by assumption); exact gr_auto)
  have k0_2 : W0.cell? ⟨w.heap.size, 2, none⟩ = some (.int .i64 tx1) := by rw [hW0]; first | (simp [go_sem, *]; done) | (refine Gr.at ?_ (by assumption); exact gr_auto)
  have k0_3 : W0.cell? ⟨w.heap.size, 3, none⟩ = some (.int .i64 ty1) := by rw [hW0]; first | (simp [go_sem, *]; done) | (refine Gr.at ?_ (by assumption); exact gr_auto)
  have k0_4 : W0.cell? ⟨w.heap.size, 4, none⟩ = some (.int .i64 tx2) := by rw [hW0]; first | (simp [go_sem, *]; done) | (refine Gr.at ?_ (by assumption); exact gr_auto)
  have k0_5 : W0.cell? ⟨w.heap.size, 5, none⟩ = some (.int .i64 ty2) := by rw [hW0]; first | (simp [go_sem, *]; done) | (refine Gr.at ?_ (by assumption); exact gr_auto)
  have k0_6 : W0.cell? ⟨w.heap.size + 1, 0, none⟩ = some (.int .i64 ux0) := by rw [hW0]; first | (simp [go_sem, *]; done) | (refine Gr.at ?_ (by assumption); exact gr_auto)
  have b0_6 : w.heap.size + 1 < W0.heap.size := World.block_lt_of_cell? _ _ k0_6
  have k0_7 : W0.cell? ⟨w.heap.size + 1, 1, none⟩ = some (.int .i64 uy0) := by rw [hW0]; first | (simp [go_sem, *]; done) | (refine Gr.at ?_ (by assumption); exact gr_auto)
  have k0_8 : W0.cell? ⟨w.heap.size + 1, 2, none⟩ = some (.int .i64 ux1) := by rw [hW0]; first | (simp [go_sem, *]; done) | (refine Gr.at ?_ (by assumption); exact gr_auto)
  have k0_9 : W0.cell? ⟨w.heap.size + 1, 3, none⟩ = some (.int .i64 uy1) := by rw [hW0]; first | (simp [go_sem, *]; done) | (refine Gr.at ?_ (by assumption); exact gr_auto)
  have k0_10 : W0.cell? ⟨w.heap.size + 1, 4, none⟩ = some (.int .i64 ux2) := by rw [hW0]; first | (simp [go_sem, *]; done) | (refine Gr.at ?_ (by assumption); exact gr_auto)
  have k0_11 : W0.cell? ⟨w.heap.size + 1, 5, none⟩ = some (.int .i64 uy2) := by rw [hW0]; first | (simp [go_sem, *]; done) | (refine Gr.at ?_ (by assumption); exact gr_auto)
  clear hW0
  go_loopw [8] (fun x wr => ∃ i : Nat, i ≤ 3 ∧ x = .int .i64 (i : Int) ∧ Hid (Ba.any P i = false) ∧ Gr W0 wr) (fun x _ => 3 - (intOf x).toNat)
  case atStart => exact ⟨0, by omega, rfl, Lib.hid rfl, Gr.refl _⟩
  case round =>
    obtain ⟨i, hi, rfl, HQ, hg⟩ := hrel
    have gr : Gr w wr := g0.trans hg
    replace k0_0 := Gr.at hg k0_0
    replace k0_1 := Gr.at hg k0_1
    replace k0_2 := Gr.at hg k0_2
    replace k0_3 := Gr.at hg k0_3
    replace k0_4 := Gr.at hg k0_4
    replace k0_5 := Gr.at hg k0_5
    replace k0_6 := Gr.at hg k0_6
    replace k0_7 := Gr.at hg k0_7
    replace k0_8 := Gr.at hg k0_8
    replace k0_9 := Gr.at hg k0_9
    replace k0_10 := Gr.at hg k0_10
    replace k0_11 := Gr.at hg k0_11
    have zz := Gr.size hg
    have y0 : w.heap.size < wr.heap.size := by omega
    have y1 : w.heap.size + 1 < wr.heap.size := by omega
    have y2 : w.heap.size ≠ wr.heap.size := by omega
    have y3 : w.heap.size + 1 ≠ wr.heap.size := by omega
    have y4 : w.heap.size ≠ wr.heap.size + 1 := by omega
    have y5 : w.heap.size + 1 ≠ wr.heap.size + 1 := by omega
    by_cases hlt : i < 3
    · rcases (by omega : i = 0 ∨ i = 1 ∨ i = 2) with rfl | rfl | rfl
      · have HPi : P 0 = (decide (Ms.tr2 tx0 ty0 tx1 ty1 ux0 uy0 ≤ 0) && (decide (Ms.tr2 tx0 ty0 tx1 ty1 ux1 uy1 ≤ 0) && decide (Ms.tr2 tx0 ty0 tx1 ty1 ux2 uy2 ≤ 0))) := HL.out 0
        have T0 := Lib.hid (fun W => ms_turn tx0 ty0 tx1 ty1 ux0 uy0 W ht.out.1 ht.out.2.1 ht.out.2.2.1 ht.out.2.2.2.1 hu.out.1 hu.out.2.1)
        have T1 := Lib.hid (fun W => ms_turn tx0 ty0 tx1 ty1 ux1 uy1 W ht.out.1 ht.out.2.1 ht.out.2.2.1 ht.out.2.2.2.1 hu.out.2.2.1 hu.out.2.2.2.1)
        have T2 := Lib.hid (fun W => ms_turn tx0 ty0 tx1 ty1 ux2 uy2 W ht.out.1 ht.out.2.1 ht.out.2.2.1 ht.out.2.2.2.1 hu.out.2.2.2.2.1 hu.out.2.2.2.2.2)
        clear HL
        generalize Ms.tr2 tx0 ty0 tx1 ty1 ux0 uy0 = v0 at *
        generalize Ms.tr2 tx0 ty0 tx1 ty1 ux1 uy1 = v1 at *
        generalize Ms.tr2 tx0 ty0 tx1 ty1 ux2 uy2 = v2 at *
        cases q0 : decide (v0 ≤ 0)
        · rw [q0] at HPi
          have HR := Lib.hid (Ms.any_go HQ.out (by rw [HPi]; rfl))
          clear HPi HQ
          go_wp2_with fail
          go_region
          · go_wp2_with fail
            (first | refine name_world ?_ | refine (show (∀ W, W = _ → Calls _ _ _ W _) → Calls _ _ _ _ _ from fun h => h _ rfl) ?_); intro W1 hW1
            have g1 : Gr w W1 := by rw [hW1]; exact gr_auto
            have gb1_wr : Gr wr W1 := by (try clear g1); rw [hW1]; exact gr_auto
            have k1_0 : W1.cell? ⟨wr.heap.size, 0, none⟩ = some (.int .i64 tx0) := by rw [hW1]; first | (simp [go_sem, *]; done) | (refine Gr.at ?_ (by assumption); exact gr_auto)
            have b1_0 : wr.heap.size < W1.heap.size := World.block_lt_of_cell? _ _ k1_0
            have k1_1 : W1.cell? ⟨wr.heap.size, 1, none⟩ = some (.int .i64 ty0) := by rw [hW1]; first | (simp [go_sem, *]; done) | (refine Gr.at ?_ (by assumption); exact gr_auto)
            have k1_2 : W1.cell? ⟨wr.heap.size + 1, 0, none⟩ = some (.int .i64 tx1) := by rw [hW1]; first | (simp [go_sem, *]; done) | (refine Gr.at ?_ (by assumption); exact gr_auto)
            have b1_2 : wr.heap.size + 1 < W1.heap.size := World.block_lt_of_cell? _ _ k1_2
            have k1_3 : W1.cell? ⟨wr.heap.size + 1, 1, none⟩ = some (.int .i64 ty1) := by rw [hW1]; first | (simp [go_sem, *]; done) | (refine Gr.at ?_ (by assumption); exact gr_auto)
            have k1_4 : W1.cell? ⟨w.heap.size + 1, 0, none⟩ = some (.int .i64 ux0) := by rw [hW1]; first | (simp [go_sem, *]; done) | (refine Gr.at ?_ (by assumption); exact gr_auto)
            have b1_4 : w.heap.size + 1 < W1.heap.size := World.block_lt_of_cell? _ _ k1_4
            have k1_5 : W1.cell? ⟨w.heap.size + 1, 1, none⟩ = some (.int .i64 uy0) := by rw [hW1]; first | (simp [go_sem, *]; done) | (refine Gr.at ?_ (by assumption); exact gr_auto)
            have k1_6 : W1.cell? ⟨w.heap.size + 1, 2, none⟩ = some (.int .i64 ux1) := by rw [hW1]; first | (simp [go_sem, *]; done) | (refine Gr.at ?_ (by assumption); exact gr_auto)
            have k1_7 : W1.cell? ⟨w.heap.size + 1, 3, none⟩ = some (.int .i64 uy1) := by rw [hW1]; first | (simp [go_sem, *]; done) | (refine Gr.at ?_ (by assumption); exact gr_auto)
            have k1_8 : W1.cell? ⟨w.heap.size + 1, 4, none⟩ = some (.int .i64 ux2) := by rw [hW1]; first | (simp [go_sem, *]; done) | (refine Gr.at ?_ (by assumption); exact gr_auto)
            have k1_9 : W1.cell? ⟨w.heap.size + 1, 5, none⟩ = some (.int .i64 uy2) := by rw [hW1]; first | (simp [go_sem, *]; done) | (refine Gr.at ?_ (by assumption); exact gr_auto)
            clear hW1
            refine (T0.out _).mono ?_
            rintro e w2 ⟨rfl, hb2⟩
            go_wp2_with fail
            go_roundw
            case rel => exact ⟨1, by omega, by go_num, HR, hg.trans (Gr.trans gb1_wr hb2)⟩
            case measure => simp [intOf]
          · go_wp2_with fail
            (first | refine name_world ?_ | refine (show (∀ W, W = _ → Calls _ _ _ W _) → Calls _ _ _ _ _ from fun h => h _ rfl) ?_); intro W1 hW1
            have g1 : Gr w W1 := by rw [hW1]; exact gr_auto
            have gb1_wr : Gr wr W1 := by (try clear g1); rw [hW1]; exact gr_auto
            have k1_0 : W1.cell? ⟨wr.heap.size + 1, 0, none⟩ = some (.int .i64 tx0) := by rw [hW1]; first | (simp [go_sem, *]; done) | (refine Gr.at ?_ (by assumption); exact gr_auto)
            have b1_0 : wr.heap.size + 1 < W1.heap.size := World.block_lt_of_cell? _ _ k1_0
            have k1_1 : W1.cell? ⟨wr.heap.size + 1, 1, none⟩ = some (.int .i64 ty0) := by rw [hW1]; first | (simp [go_sem, *]; done) | (refine Gr.at ?_ (by assumption); exact gr_auto)
            have k1_2 : W1.cell? ⟨wr.heap.size, 0, none⟩ = some (.int .i64 tx1) := by rw [hW1]; first | (simp [go_sem, *]; done) | (refine Gr.at ?_ (by assumption); exact gr_auto)
            have b1_2 : wr.heap.size < W1.heap.size := World.block_lt_of_cell? _ _ k1_2
            have k1_3 : W1.cell? ⟨wr.heap.size, 1, none⟩ = some (.int .i64 ty1) := by rw [hW1]; first | (simp [go_sem, *]; done) | (refine Gr.at ?_ (by assumption); exact gr_auto)
            have k1_4 : W1.cell? ⟨w.heap.size + 1, 0, none⟩ = some (.int .i64 ux0) := by rw [hW1]; first | (simp [go_sem, *]; done) | (refine Gr.at ?_ (by assumption); exact gr_auto)
            have b1_4 : w.heap.size + 1 < W1.heap.size := World.block_lt_of_cell? _ _ k1_4
            have k1_5 : W1.cell? ⟨w.heap.size + 1, 1, none⟩ = some (.int .i64 uy0) := by rw [hW1]; first | (simp [go_sem, *]; done) | (refine Gr.at ?_ (by assumption); exact gr_auto)
            have k1_6 : W1.cell? ⟨w.heap.size + 1, 2, none⟩ = some (.int .i64 ux1) := by rw [hW1]; first | (simp [go_sem, *]; done) | (refine Gr.at ?_ (by assumption); exact gr_auto)
            have k1_7 : W1.cell? ⟨w.heap.size + 1, 3, none⟩ = some (.int .i64 uy1) := by rw [hW1]; first | (simp [go_sem, *]; done) | (refine Gr.at ?_ (by assumption); exact gr_auto)
            have k1_8 : W1.cell? ⟨w.heap.size + 1, 4, none⟩ = some (.int .i64 ux2) := by rw [hW1]; first | (simp [go_sem, *]; done) | (refine Gr.at ?_ (by assumption); exact gr_auto)
            have k1_9 : W1.cell? ⟨w.heap.size + 1, 5, none⟩ = some (.int .i64 uy2) := by rw [hW1]; first | (simp [go_sem, *]; done) | (refine Gr.at ?_ (by assumption); exact gr_auto)
            clear hW1
            refine (T0.out _).mono ?_
            rintro e w2 ⟨rfl, hb2⟩
            go_wp2_with fail
            go_roundw
            case rel => exact ⟨1, by omega, by go_num, HR, hg.trans (Gr.trans gb1_wr hb2)⟩
            case measure => simp [intOf]
        · rw [q0] at HPi
          cases q1 : decide (v1 ≤ 0)
          · rw [q1] at HPi
            have HR := Lib.hid (Ms.any_go HQ.out (by rw [HPi]; rfl))
            clear HPi HQ
            go_wp2_with fail
            go_region
            · go_wp2_with fail
              (first | refine name_world ?_ | refine (show (∀ W, W = _ → Calls _ _ _ W _) → Calls _ _ _ _ _ from fun h => h _ rfl) ?_); intro W1 hW1
              have g1 : Gr w W1 := by rw [hW1]; exact gr_auto
              have gb1_wr : Gr wr W1 := by (try clear g1); rw [hW1]; exact gr_auto
              have k1_0 : W1.cell? ⟨wr.heap.size, 0, none⟩ = some (.int .i64 tx0) := by rw [hW1]; first | (simp [go_sem, *]; done) | (refine Gr.at ?_ (by assumption); exact gr_auto)
              have b1_0 : wr.heap.size < W1.heap.size := World.block_lt_of_cell? _ _ k1_0
              have k1_1 : W1.cell? ⟨wr.heap.size, 1, none⟩ = some (.int .i64 ty0) := by rw [hW1]; first | (simp [go_sem, *]; done) | (refine Gr.at ?_ (by assumption); exact gr_auto)
              have k1_2 : W1.cell? ⟨wr.heap.size + 1, 0, none⟩ = some (.int .i64 tx1) := by rw [hW1]; first | (simp [go_sem, *]; done) | (refine Gr.at ?_ (by assumption); exact gr_auto)
              have b1_2 : wr.heap.size + 1 < W1.heap.size := World.block_lt_of_cell? _ _ k1_2
              have k1_3 : W1.cell? ⟨wr.heap.size + 1, 1, none⟩ = some (.int .i64 ty1) := by rw [hW1]; first | (simp [go_sem, *]; done) | (refine Gr.at ?_ (by assumption); exact gr_auto)
              have k1_4 : W1.cell? ⟨w.heap.size + 1, 0, none⟩ = some (.int .i64 ux0) := by rw [hW1]; first | (simp [go_sem, *]; done) | (refine Gr.at ?_ (by assumption); exact gr_auto)
              have b1_4 : w.heap.size + 1 < W1.heap.size := World.block_lt_of_cell? _ _ k1_4
              have k1_5 : W1.cell? ⟨w.heap.size + 1, 1, none⟩ = some (.int .i64 uy0) := by rw [hW1]; first | (simp [go_sem, *]; done) | (refine Gr.at ?_ (by assumption); exact gr_auto)
              have k1_6 : W1.cell? ⟨w.heap.size + 1, 2, none⟩ = some (.int .i64 ux1) := by rw [hW1]; first | (simp [go_sem, *]; done) | (refine Gr.at ?_ (by assumption); exact gr_auto)
              have k1_7 : W1.cell? ⟨w.heap.size + 1, 3, none⟩ = some (.int .i64 uy1) := by rw [hW1]; first | (simp [go_sem, *]; done) | (refine Gr.at ?_ (by assumption); exact gr_auto)
              have k1_8 : W1.cell? ⟨w.heap.size + 1, 4, none⟩ = some (.int .i64 ux2) := by rw [hW1]; first | (simp [go_sem, *]; done) | (refine Gr.at ?_ (by assumption); exact gr_auto)
              have k1_9 : W1.cell? ⟨w.heap.size + 1, 5, none⟩ = some (.int .i64 uy2) := by rw [hW1]; first | (simp [go_sem, *]; done) | (refine Gr.at ?_ (by assumption); exact gr_auto)
              clear hW1
              refine (T0.out _).mono ?_
              rintro e w2 ⟨rfl, hb2⟩
              replace k1_0 := Gr.at hb2 k1_0; replace k1_1 := Gr.at hb2 k1_1; replace k1_2 := Gr.at hb2 k1_2; replace k1_3 := Gr.at hb2 k1_3; replace k1_4 := Gr.at hb2 k1_4; replace k1_5 := Gr.at hb2 k1_5; replace k1_6 := Gr.at hb2 k1_6; replace k1_7 := Gr.at hb2 k1_7; replace k1_8 := Gr.at hb2 k1_8; replace k1_9 := Gr.at hb2 k1_9
              go_wp2_with fail
              refine (T1.out _).mono ?_
              rintro e w3 ⟨rfl, hb3⟩
              go_wp2_with fail
              go_roundw
              case rel => exact ⟨1, by omega, by go_num, HR, hg.trans (Gr.trans (Gr.trans gb1_wr hb2) hb3)⟩
              case measure => simp [intOf]
            · go_wp2_with fail
              (first | refine name_world ?_ | refine (show (∀ W, W = _ → Calls _ _ _ W _) → Calls _ _ _ _ _ from fun h => h _ rfl) ?_); intro W1 hW1
              have g1 : Gr w W1 := by rw [hW1]; exact gr_auto
              have gb1_wr : Gr wr W1 := by (try clear g1); rw [hW1]; exact gr_auto
              have k1_0 : W1.cell? ⟨wr.heap.size + 1, 0, none⟩ = some (.int .i64 tx0) := by rw [hW1]; first | (simp [go_sem, *]; done) | (refine Gr.at ?_ (by assumption); exact gr_auto)
              have b1_0 : wr.heap.size + 1 < W1.heap.size := World.block_lt_of_cell? _ _ k1_0
              have k1_1 : W1.cell? ⟨wr.heap.size + 1, 1, none⟩ = some (.int .i64 ty0) := by rw [hW1]; first | (simp [go_sem, *]; done) | (refine Gr.at ?_ (by assumption); exact gr_auto)
              have k1_2 : W1.cell? ⟨wr.heap.size, 0, none⟩ = some (.int .i64 tx1) := by rw [hW1]; first | (simp [go_sem, *]; done) | (refine Gr.at ?_ (by assumption); exact gr_auto)
              have b1_2 : wr.heap.size < W1.heap.size := World.block_lt_of_cell? _ _ k1_2
              have k1_3 : W1.cell? ⟨wr.heap.size, 1, none⟩ = some (.int .i64 ty1) := by rw [hW1]; first | (simp [go_sem, *]; done) | (refine Gr.at ?_ (by assumption); exact gr_auto)
              have k1_4 : W1.cell? ⟨w.heap.size + 1, 0, none⟩ = some (.int .i64 ux0) := by rw [hW1]; first | (simp [go_sem, *]; done) | (refine Gr.at ?_ (by assumption); exact gr_auto)
              have b1_4 : w.heap.size + 1 < W1.heap.size := World.block_lt_of_cell? _ _ k1_4
              have k1_5 : W1.cell? ⟨w.heap.size + 1, 1, none⟩ = some (.int .i64 uy0) := by rw [hW1]; first | (simp [go_sem, *]; done) | (refine Gr.at ?_ (by assumption); exact gr_auto)
              have k1_6 : W1.cell? ⟨w.heap.size + 1, 2, none⟩ = some (.int .i64 ux1) := by rw [hW1]; first | (simp [go_sem, *]; done) | (refine Gr.at ?_ (by assumption); exact gr_auto)
              have k1_7 : W1.cell? ⟨w.heap.size + 1, 3, none⟩ = some (.int .i64 uy1) := by rw [hW1]; first | (simp [go_sem, *]; done) | (refine Gr.at ?_ (by assumption); exact gr_auto)
              have k1_8 : W1.cell? ⟨w.heap.size + 1, 4, none⟩ = some (.int .i64 ux2) := by rw [hW1]; first | (simp [go_sem, *]; done) | (refine Gr.at ?_ (by assumption); exact gr_auto)
              have k1_9 : W1.cell? ⟨w.heap.size + 1, 5, none⟩ = some (.int .i64 uy2) := by rw [hW1]; first | (simp [go_sem, *]; done) | (refine Gr.at ?_ (by assumption); exact gr_auto)
              clear hW1
              refine (T0.out _).mono ?_
              rintro e w2 ⟨rfl, hb2⟩
              replace k1_0 := Gr.at hb2 k1_0; replace k1_1 := Gr.at hb2 k1_1; replace k1_2 := Gr.at hb2 k1_2; replace k1_3 := Gr.at hb2 k1_3; replace k1_4 := Gr.at hb2 k1_4; replace k1_5 := Gr.at hb2 k1_5; replace k1_6 := Gr.at hb2 k1_6; replace k1_7 := Gr.at hb2 k1_7; replace k1_8 := Gr.at hb2 k1_8; replace k1_9 := Gr.at hb2 k1_9
              go_wp2_with fail
              refine (T1.out _).mono ?_
              rintro e w3 ⟨rfl, hb3⟩
              go_wp2_with fail
              go_roundw
              case rel => exact ⟨1, by omega, by go_num, HR, hg.trans (Gr.trans (Gr.trans gb1_wr hb2) hb3)⟩
              case measure => simp [intOf]
          · rw [q1] at HPi
            cases q2 : decide (v2 ≤ 0)
            · rw [q2] at HPi
              have HR := Lib.hid (Ms.any_go HQ.out (by rw [HPi]; rfl))
              clear HPi HQ
              go_wp2_with fail
              go_region
              · go_wp2_with fail
                (first | refine name_world ?_ | refine (show (∀ W, W = _ → Calls _ _ _ W _) → Calls _ _ _ _ _ from fun h => h _ rfl) ?_); intro W1 hW1
                have g1 : Gr w W1 := by rw [hW1]; exact gr_auto
                have gb1_wr : Gr wr W1 := by (try clear g1); rw [hW1]; exact gr_auto
                have k1_0 : W1.cell? ⟨wr.heap.size, 0, none⟩ = some (.int .i64 tx0) := by rw [hW1]; first | (simp [go_sem, *]; done) | (refine Gr.at ?_ (by assumption); exact gr_auto)
                have b1_0 : wr.heap.size < W1.heap.size := World.block_lt_of_cell? _ _ k1_0
                have k1_1 : W1.cell? ⟨wr.heap.size, 1, none⟩ = some (.int .i64 ty0) := by rw [hW1]; first | (simp [go_sem, *]; done) | (refine Gr.at ?_ (by assumption); exact gr_auto)
                have k1_2 : W1.cell? ⟨wr.heap.size + 1, 0, none⟩ = some (.int .i64 tx1) := by rw [hW1]; first | (simp [go_sem, *]; done) | (refine Gr.at ?_ (by assumption); exact gr_auto)
                have b1_2 : wr.heap.size + 1 < W1.heap.size := World.block_lt_of_cell? _ _ k1_2
                have k1_3 : W1.cell? ⟨wr.heap.size + 1, 1, none⟩ = some (.int .i64 ty1) := by rw [hW1]; first | (simp [go_sem, *]; done) | (refine Gr.at ?_ (by assumption); exact gr_auto)
                have k1_4 : W1.cell? ⟨w.heap.size + 1, 0, none⟩ = some (.int .i64 ux0) := by rw [hW1]; first | (simp [go_sem, *]; done) | (refine Gr.at ?_ (by assumption); exact gr_auto)
                have b1_4 : w.heap.size + 1 < W1.heap.size := World.block_lt_of_cell? _ _ k1_4
                have k1_5 : W1.cell? ⟨w.heap.size + 1, 1, none⟩ = some (.int .i64 uy0) := by rw [hW1]; first | (simp [go_sem, *]; done) | (refine Gr.at ?_ (by assumption); exact gr_auto)
                have k1_6 : W1.cell? ⟨w.heap.size + 1, 2, none⟩ = some (.int .i64 ux1) := by rw [hW1]; first | (simp [go_sem, *]; done) | (refine Gr.at ?_ (by assumption); exact gr_auto)
                have k1_7 : W1.cell? ⟨w.heap.size + 1, 3, none⟩ = some (.int .i64 uy1) := by rw [hW1]; first | (simp [go_sem, *]; done) | (refine Gr.at ?_ (by assumption); exact gr_auto)
                have k1_8 : W1.cell? ⟨w.heap.size + 1, 4, none⟩ = some (.int .i64 ux2) := by rw [hW1]; first | (simp [go_sem, *]; done) | (refine Gr.at ?_ (by assumption); exact gr_auto)
                have k1_9 : W1.cell? ⟨w.heap.size + 1, 5, none⟩ = some (.int .i64 uy2) := by rw [hW1]; first | (simp [go_sem, *]; done) | (refine Gr.at ?_ (by assumption); exact gr_auto)
                clear hW1
                refine (T0.out _).mono ?_
                rintro e w2 ⟨rfl, hb2⟩
                replace k1_0 := Gr.at hb2 k1_0; replace k1_1 := Gr.at hb2 k1_1; replace k1_2 := Gr.at hb2 k1_2; replace k1_3 := Gr.at hb2 k1_3; replace k1_4 := Gr.at hb2 k1_4; replace k1_5 := Gr.at hb2 k1_5; replace k1_6 := Gr.at hb2 k1_6; replace k1_7 := Gr.at hb2 k1_7; replace k1_8 := Gr.at hb2 k1_8; replace k1_9 := Gr.at hb2 k1_9
                go_wp2_with fail
                refine (T1.out _).mono ?_
                rintro e w3 ⟨rfl, hb3⟩
                replace k1_0 := Gr.at hb3 k1_0; replace k1_1 := Gr.at hb3 k1_1; replace k1_2 := Gr.at hb3 k1_2; replace k1_3 := Gr.at hb3 k1_3; replace k1_4 := Gr.at hb3 k1_4; replace k1_5 := Gr.at hb3 k1_5; replace k1_6 := Gr.at hb3 k1_6; replace k1_7 := Gr.at hb3 k1_7; replace k1_8 := Gr.at hb3 k1_8; replace k1_9 := Gr.at hb3 k1_9
                go_wp2_with fail
                refine (T2.out _).mono ?_
                rintro e w4 ⟨rfl, hb4⟩
                go_wp2_with fail
                go_roundw
                case rel => exact ⟨1, by omega, by go_num, HR, hg.trans (Gr.trans (Gr.trans (Gr.trans gb1_wr hb2) hb3) hb4)⟩
                case measure => simp [intOf]
              · go_wp2_with fail
                (first | refine name_world ?_ | refine (show (∀ W, W = _ → Calls _ _ _ W _) → Calls _ _ _ _ _ from fun h => h _ rfl) ?_); intro W1 hW1
                have g1 : Gr w W1 := by rw [hW1]; exact gr_auto
                have gb1_wr : Gr wr W1 := by (try clear g1); rw [hW1]; exact gr_auto
                have k1_0 : W1.cell? ⟨wr.heap.size + 1, 0, none⟩ = some (.int .i64 tx0) := by rw [hW1]; first | (simp [go_sem, *]; done) | (refine Gr.at ?_ (by assumption); exact gr_auto)
                have b1_0 : wr.heap.size + 1 < W1.heap.size := World.block_lt_of_cell? _ _ k1_0
                have k1_1 : W1.cell? ⟨wr.heap.size + 1, 1, none⟩ = some (.int .i64 ty0) := by rw [hW1]; first | (simp [go_sem, *]; done) | (refine Gr.at ?_ (by assumption); exact gr_auto)
                have k1_2 : W1.cell? ⟨wr.heap.size, 0, none⟩ = some (.int .i64 tx1) := by rw [hW1]; first | (simp [go_sem, *]; done) | (refine Gr.at ?_ (by assumption); exact gr_auto)
                have b1_2 : wr.heap.size < W1.heap.size := World.block_lt_of_cell? _ _ k1_2
                have k1_3 : W1.cell? ⟨wr.heap.size, 1, none⟩ = some (.int .i64 ty1) := by rw [hW1]; first | (simp [go_sem, *]; done) | (refine Gr.at ?_ (by assumption); exact gr_auto)
                have k1_4 : W1.cell? ⟨w.heap.size + 1, 0, none⟩ = some (.int .i64 ux0) := by rw [hW1]; first | (simp [go_sem, *]; done) | (refine Gr.at ?_ (by assumption); exact gr_auto)
                have b1_4 : w.heap.size + 1 < W1.heap.size := World.block_lt_of_cell? _ _ k1_4
                have k1_5 : W1.cell? ⟨w.heap.size + 1, 1, none⟩ = some (.int .i64 uy0) := by rw [hW1]; first | (simp [go_sem, *]; done) | (refine Gr.at ?_ (by assumption); exact gr_auto)
                have k1_6 : W1.cell? ⟨w.heap.size + 1, 2, none⟩ = some (.int .i64 ux1) := by rw [hW1]; first | (simp [go_sem, *]; done) | (refine Gr.at ?_ (by assumption); exact gr_auto)
                have k1_7 : W1.cell? ⟨w.heap.size + 1, 3, none⟩ = some (.int .i64 uy1) := by rw [hW1]; first | (simp [go_sem, *]; done) | (refine Gr.at ?_ (by assumption); exact gr_auto)
                have k1_8 : W1.cell? ⟨w.heap.size + 1, 4, none⟩ = some (.int .i64 ux2) := by rw [hW1]; first | (simp [go_sem, *]; done) | (refine Gr.at ?_ (by assumption); exact gr_auto)
                have k1_9 : W1.cell? ⟨w.heap.size + 1, 5, none⟩ = some (.int .i64 uy2) := by rw [hW1]; first | (simp [go_sem, *]; done) | (refine Gr.at ?_ (by assumption); exact gr_auto)
                clear hW1
                refine (T0.out _).mono ?_
                rintro e w2 ⟨rfl, hb2⟩
                replace k1_0 := Gr.at hb2 k1_0; replace k1_1 := Gr.at hb2 k1_1; replace k1_2 := Gr.at hb2 k1_2; replace k1_3 := Gr.at hb2 k1_3; replace k1_4 := Gr.at hb2 k1_4; replace k1_5 := Gr.at hb2 k1_5; replace k1_6 := Gr.at hb2 k1_6; replace k1_7 := Gr.at hb2 k1_7; replace k1_8 := Gr.at hb2 k1_8; replace k1_9 := Gr.at hb2 k1_9
                go_wp2_with fail
                refine (T1.out _).mono ?_
                rintro e w3 ⟨rfl, hb3⟩
                replace k1_0 := Gr.at hb3 k1_0; replace k1_1 := Gr.at hb3 k1_1; replace k1_2 := Gr.at hb3 k1_2; replace k1_3 := Gr.at hb3 k1_3; replace k1_4 := Gr.at hb3 k1_4; replace k1_5 := Gr.at hb3 k1_5; replace k1_6 := Gr.at hb3 k1_6; replace k1_7 := Gr.at hb3 k1_7; replace k1_8 := Gr.at hb3 k1_8; replace k1_9 := Gr.at hb3 k1_9
                go_wp2_with fail
                refine (T2.out _).mono ?_
                rintro e w4 ⟨rfl, hb4⟩
                go_wp2_with fail
                go_roundw
                case rel => exact ⟨1, by omega, by go_num, HR, hg.trans (Gr.trans (Gr.trans (Gr.trans gb1_wr hb2) hb3) hb4)⟩
                case measure => simp [intOf]
            · rw [q2] at HPi
              have HR := Lib.hid (Ms.any_hit (p := P) (i := 0) (n := 3) (by rw [HPi]; rfl) (by omega))
              clear HPi HQ
              go_wp2_with fail
              go_region
              · go_wp2_with fail
                (first | refine name_world ?_ | refine (show (∀ W, W = _ → Calls _ _ _ W _) → Calls _ _ _ _ _ from fun h => h _ rfl) ?_); intro W1 hW1
                have g1 : Gr w W1 := by rw [hW1]; exact gr_auto
                have gb1_wr : Gr wr W1 := by (try clear g1); rw [hW1]; exact gr_auto
                have k1_0 : W1.cell? ⟨wr.heap.size, 0, none⟩ = some (.int .i64 tx0) := by rw [hW1]; first | (simp [go_sem, *]; done) | (refine Gr.at ?_ (by assumption); exact gr_auto)
                have b1_0 : wr.heap.size < W1.heap.size := World.block_lt_of_cell? _ _ k1_0
                have k1_1 : W1.cell? ⟨wr.heap.size, 1, none⟩ = some (.int .i64 ty0) := by rw [hW1]; first | (simp [go_sem, *]; done) | (refine Gr.at ?_ (by assumption); exact gr_auto)
                have k1_2 : W1.cell? ⟨wr.heap.size + 1, 0, none⟩ = some (.int .i64 tx1) := by rw [hW1]; first | (simp [go_sem, *]; done) | (refine Gr.at ?_ (by assumption); exact gr_auto)
                have b1_2 : wr.heap.size + 1 < W1.heap.size := World.block_lt_of_cell? _ _ k1_2
                have k1_3 : W1.cell? ⟨wr.heap.size + 1, 1, none⟩ = some (.int .i64 ty1) := by rw [hW1]; first | (simp [go_sem, *]; done) | (refine Gr.at ?_ (by assumption); exact gr_auto)
                have k1_4 : W1.cell? ⟨w.heap.size + 1, 0, none⟩ = some (.int .i64 ux0) := by rw [hW1]; first | (simp [go_sem, *]; done) | (refine Gr.at ?_ (by assumption); exact gr_auto)
                have b1_4 : w.heap.size + 1 < W1.heap.size := World.block_lt_of_cell? _ _ k1_4
                have k1_5 : W1.cell? ⟨w.heap.size + 1, 1, none⟩ = some (.int .i64 uy0) := by rw [hW1]; first | (simp [go_sem, *]; done) | (refine Gr.at ?_ (by assumption); exact gr_auto)
                have k1_6 : W1.cell? ⟨w.heap.size + 1, 2, none⟩ = some (.int .i64 ux1) := by rw [hW1]; first | (simp [go_sem, *]; done) | (refine Gr.at ?_ (by assumption); exact gr_auto)
                have k1_7 : W1.cell? ⟨w.heap.size + 1, 3, none⟩ = some (.int .i64 uy1) := by rw [hW1]; first | (simp [go_sem, *]; done) | (refine Gr.at ?_ (by assumption); exact gr_auto)
                have k1_8 : W1.cell? ⟨w.heap.size + 1, 4, none⟩ = some (.int .i64 ux2) := by rw [hW1]; first | (simp [go_sem, *]; done) | (refine Gr.at ?_ (by assumption); exact gr_auto)
                have k1_9 : W1.cell? ⟨w.heap.size + 1, 5, none⟩ = some (.int .i64 uy2) := by rw [hW1]; first | (simp [go_sem, *]; done) | (refine Gr.at ?_ (by assumption); exact gr_auto)
                clear hW1
                refine (T0.out _).mono ?_
                rintro e w2 ⟨rfl, hb2⟩
                replace k1_0 := Gr.at hb2 k1_0; replace k1_1 := Gr.at hb2 k1_1; replace k1_2 := Gr.at hb2 k1_2; replace k1_3 := Gr.at hb2 k1_3; replace k1_4 := Gr.at hb2 k1_4; replace k1_5 := Gr.at hb2 k1_5; replace k1_6 := Gr.at hb2 k1_6; replace k1_7 := Gr.at hb2 k1_7; replace k1_8 := Gr.at hb2 k1_8; replace k1_9 := Gr.at hb2 k1_9
                go_wp2_with fail
                refine (T1.out _).mono ?_
                rintro e w3 ⟨rfl, hb3⟩
                replace k1_0 := Gr.at hb3 k1_0; replace k1_1 := Gr.at hb3 k1_1; replace k1_2 := Gr.at hb3 k1_2; replace k1_3 := Gr.at hb3 k1_3; replace k1_4 := Gr.at hb3 k1_4; replace k1_5 := Gr.at hb3 k1_5; replace k1_6 := Gr.at hb3 k1_6; replace k1_7 := Gr.at hb3 k1_7; replace k1_8 := Gr.at hb3 k1_8; replace k1_9 := Gr.at hb3 k1_9
                go_wp2_with fail
                refine (T2.out _).mono ?_
                rintro e w4 ⟨rfl, hb4⟩
                go_wp2_with fail
                go_ret
                exact ⟨by rw [HR.out]; rfl, gr.trans (Gr.trans (Gr.trans (Gr.trans gb1_wr hb2) hb3) hb4)⟩
              · go_wp2_with fail
                (first | refine name_world ?_ | refine (show (∀ W, W = _ → Calls _ _ _ W _) → Calls _ _ _ _ _ from fun h => h _ rfl) ?_); intro W1 hW1
                have g1 : Gr w W1 := by rw [hW1]; exact gr_auto
                have gb1_wr : Gr wr W1 := by (try clear g1); rw [hW1]; exact gr_auto
                have k1_0 : W1.cell? ⟨wr.heap.size + 1, 0, none⟩ = some (.int .i64 tx0) := by rw [hW1]; first | (simp [go_sem, *]; done) | (refine Gr.at ?_ (by assumption); exact gr_auto)
                have b1_0 : wr.heap.size + 1 < W1.heap.size := World.block_lt_of_cell? _ _ k1_0
                have k1_1 : W1.cell? ⟨wr.heap.size + 1, 1, none⟩ = some (.int .i64 ty0) := by rw [hW1]; first | (simp [go_sem, *]; done) | (refine Gr.at ?_ (by assumption); exact gr_auto)
                have k1_2 : W1.cell? ⟨wr.heap.size, 0, none⟩ = some (.int .i64 tx1) := by rw [hW1]; first | (simp [go_sem, *]; done) | (refine Gr.at ?_ (by assumption); exact gr_auto)
                have b1_2 : wr.heap.size < W1.heap.size := World.block_lt_of_cell? _ _ k1_2
                have k1_3 : W1.cell? ⟨wr.heap.size, 1, none⟩ = some (.int .i64 ty1) := by rw [hW1]; first | (simp [go_sem, *]; done) | (refine Gr.at ?_ (by assumption); exact gr_auto)
                have k1_4 : W1.cell? ⟨w.heap.size + 1, 0, none⟩ = some (.int .i64 ux0) := by rw [hW1]; first | (simp [go_sem, *]; done) | (refine Gr.at ?_ (by assumption); exact gr_auto)
                have b1_4 : w.heap.size + 1 < W1.heap.size := World.block_lt_of_cell? _ _ k1_4
                have k1_5 : W1.cell? ⟨w.heap.size + 1, 1, none⟩ = some (.int .i64 uy0) := by rw [hW1]; first | (simp [go_sem, *]; done) | (refine Gr.at ?_ (by assumption); exact gr_auto)
                have k1_6 : W1.cell? ⟨w.heap.size + 1, 2, none⟩ = some (.int .i64 ux1) := by rw [hW1]; first | (simp [go_sem, *]; done) | (refine Gr.at ?_ (by assumption); exact gr_auto)
                have k1_7 : W1.cell? ⟨w.heap.size + 1, 3, none⟩ = some (.int .i64 uy1) := by rw [hW1]; first | (simp [go_sem, *]; done) | (refine Gr.at ?_ (by assumption); exact gr_auto)
                have k1_8 : W1.cell? ⟨w.heap.size + 1, 4, none⟩ = some (.int .i64 ux2) := by rw [hW1]; first | (simp [go_sem, *]; done) | (refine Gr.at ?_ (by assumption); exact gr_auto)
                have k1_9 : W1.cell? ⟨w.heap.size + 1, 5, none⟩ = some (.int .i64 uy2) := by rw [hW1]; first | (simp [go_sem, *]; done) | (refine Gr.at ?_ (by assumption); exact gr_auto)
                clear hW1
                refine (T0.out _).mono ?_
                rintro e w2 ⟨rfl, hb2⟩
                replace k1_0 := Gr.at hb2 k1_0; replace k1_1 := Gr.at hb2 k1_1; replace k1_2 := Gr.at hb2 k1_2; replace k1_3 := Gr.at hb2 k1_3; replace k1_4 := Gr.at hb2 k1_4; replace k1_5 := Gr.at hb2 k1_5; replace k1_6 := Gr.at hb2 k1_6; replace k1_7 := Gr.at hb2 k1_7; replace k1_8 := Gr.at hb2 k1_8; replace k1_9 := Gr.at hb2 k1_9
                go_wp2_with fail
                refine (T1.out _).mono ?_
                rintro e w3 ⟨rfl, hb3⟩
                replace k1_0 := Gr.at hb3 k1_0; replace k1_1 := Gr.at hb3 k1_1; replace k1_2 := Gr.at hb3 k1_2; replace k1_3 := Gr.at hb3 k1_3; replace k1_4 := Gr.at hb3 k1_4; replace k1_5 := Gr.at hb3 k1_5; replace k1_6 := Gr.at hb3 k1_6; replace k1_7 := Gr.at hb3 k1_7; replace k1_8 := Gr.at hb3 k1_8; replace k1_9 := Gr.at hb3 k1_9
                go_wp2_with fail
                refine (T2.out _).mono ?_
                rintro e w4 ⟨rfl, hb4⟩
                go_wp2_with fail
                go_ret
                exact ⟨by rw [HR.out]; rfl, gr.trans (Gr.trans (Gr.trans (Gr.trans gb1_wr hb2) hb3) hb4)⟩
      · have HPi : P 1 = (decide (Ms.tr2 tx1 ty1 tx2 ty2 ux0 uy0 ≤ 0) && (decide (Ms.tr2 tx1 ty1 tx2 ty2 ux1 uy1 ≤ 0) && decide (Ms.tr2 tx1 ty1 tx2 ty2 ux2 uy2 ≤ 0))) := HL.out 1
        have T0 := Lib.hid (fun W => ms_turn tx1 ty1 tx2 ty2 ux0 uy0 W ht.out.2.2.1 ht.out.2.2.2.1 ht.out.2.2.2.2.1 ht.out.2.2.2.2.2 hu.out.1 hu.out.2.1)
        have T1 := Lib.hid (fun W => ms_turn tx1 ty1 tx2 ty2 ux1 uy1 W ht.out.2.2.1 ht.out.2.2.2.1 ht.out.2.2.2.2.1 ht.out.2.2.2.2.2 hu.out.2.2.1 hu.out.2.2.2.1)
        have T2 := Lib.hid (fun W => ms_turn tx1 ty1 tx2 ty2 ux2 uy2 W ht.out.2.2.1 ht.out.2.2.2.1 ht.out.2.2.2.2.1 ht.out.2.2.2.2.2 hu.out.2.2.2.2.1 hu.out.2.2.2.2.2)
        clear HL
        generalize Ms.tr2 tx1 ty1 tx2 ty2 ux0 uy0 = v0 at *
        generalize Ms.tr2 tx1 ty1 tx2 ty2 ux1 uy1 = v1 at *
        generalize Ms.tr2 tx1 ty1 tx2 ty2 ux2 uy2 = v2 at *
        cases q0 : decide (v0 ≤ 0)
        · rw [q0] at HPi
          have HR := Lib.hid (Ms.any_go HQ.out (by rw [HPi]; rfl))
          clear HPi HQ
          go_wp2_with fail
          go_region
          · go_wp2_with fail
            (first | refine name_world ?_ | refine (show (∀ W, W = _ → Calls _ _ _ W _) → Calls _ _ _ _ _ from fun h => h _ rfl) ?_); intro W1 hW1
            have g1 : Gr w W1 := by rw [hW1]; exact gr_auto
            have gb1_wr : Gr wr W1 := by (try clear g1); rw [hW1]; exact gr_auto
            have k1_0 : W1.cell? ⟨wr.heap.size, 0, none⟩ = some (.int .i64 tx1) := by rw [hW1]; first | (simp [go_sem, *]; done) | (refine Gr.at ?_ (by assumption); exact gr_auto)
            have b1_0 : wr.heap.size < W1.heap.size := World.block_lt_of_cell? _ _ k1_0
            have k1_1 : W1.cell? ⟨wr.heap.size, 1, none⟩ = some (.int .i64 ty1) := by rw [hW1]; first | (simp [go_sem, *]; done) | (refine Gr.at ?_ (by assumption); exact gr_auto)
            have k1_2 : W1.cell? ⟨wr.heap.size + 1, 0, none⟩ = some (.int .i64 tx2) := by rw [hW1]; first | (simp [go_sem, *]; done) | (refine Gr.at ?_ (by assumption); exact gr_auto)
            have b1_2 : wr.heap.size + 1 < W1.heap.size := World.block_lt_of_cell? _ _ k1_2
            have k1_3 : W1.cell? ⟨wr.heap.size + 1, 1, none⟩ = some (.int .i64 ty2) := by rw [hW1]; first | (simp [go_sem, *]; done) | (refine Gr.at ?_ (by assumption); exact gr_auto)
            have k1_4 : W1.cell? ⟨w.heap.size + 1, 0, none⟩ = some (.int .i64 ux0) := by rw [hW1]; first | (simp [go_sem, *]; done) | (refine Gr.at ?_ (by assumption); exact gr_auto)
            have b1_4 : w.heap.size + 1 < W1.heap.size := World.block_lt_of_cell? _ _ k1_4
            have k1_5 : W1.cell? ⟨w.heap.size + 1, 1, none⟩ = some (.int .i64 uy0) := by rw [hW1]; first | (simp [go_sem, *]; done) | (refine Gr.at ?_ (by assumption); exact gr_auto)
            have k1_6 : W1.cell? ⟨w.heap.size + 1, 2, none⟩ = some (.int .i64 ux1) := by rw [hW1]; first | (simp [go_sem, *]; done) | (refine Gr.at ?_ (by assumption); exact gr_auto)
            have k1_7 : W1.cell? ⟨w.heap.size + 1, 3, none⟩ = some (.int .i64 uy1) := by rw [hW1]; first | (simp [go_sem, *]; done) | (refine Gr.at ?_ (by assumption); exact gr_auto)
            have k1_8 : W1.cell? ⟨w.heap.size + 1, 4, none⟩ = some (.int .i64 ux2) := by rw [hW1]; first | (simp [go_sem, *]; done) | (refine Gr.at ?_ (by assumption); exact gr_auto)
            have k1_9 : W1.cell? ⟨w.heap.size + 1, 5, none⟩ = some (.int .i64 uy2) := by rw [hW1]; first | (simp [go_sem, *]; done) | (refine Gr.at ?_ (by assumption); exact gr_auto)
            clear hW1
            refine (T0.out _).mono ?_
            rintro e w2 ⟨rfl, hb2⟩
            go_wp2_with fail
            go_roundw
            case rel => exact ⟨2, by omega, by go_num, HR, hg.trans (Gr.trans gb1_wr hb2)⟩
            case measure => simp [intOf]
          · go_wp2_with fail
            (first | refine name_world ?_ | refine (show (∀ W, W = _ → Calls _ _ _ W _) → Calls _ _ _ _ _ from fun h => h _ rfl) ?_); intro W1 hW1
            have g1 : Gr w W1 := by rw [hW1]; exact gr_auto
            have gb1_wr : Gr wr W1 := by (try clear g1); rw [hW1]; exact gr_auto
            have k1_0 : W1.cell? ⟨wr.heap.size + 1, 0, none⟩ = some (.int .i64 tx1) := by rw [hW1]; first | (simp [go_sem, *]; done) | (refine Gr.at ?_ (by assumption); exact gr_auto)
            have b1_0 : wr.heap.size + 1 < W1.heap.size := World.block_lt_of_cell? _ _ k1_0
            have k1_1 : W1.cell? ⟨wr.heap.size + 1, 1, none⟩ = some (.int .i64 ty1) := by rw [hW1]; first | (simp [go_sem, *]; done) | (refine Gr.at ?_ (by assumption); exact gr_auto)
            have k1_2 : W1.cell? ⟨wr.heap.size, 0, none⟩ = some (.int .i64 tx2) := by rw [hW1]; first | (simp [go_sem, *]; done) | (refine Gr.at ?_ (by assumption); exact gr_auto)
            have b1_2 : wr.heap.size < W1.heap.size := World.block_lt_of_cell? _ _ k1_2
            have k1_3 : W1.cell? ⟨wr.heap.size, 1, none⟩ = some (.int .i64 ty2) := by rw [hW1]; first | (simp [go_sem, *]; done) | (refine Gr.at ?_ (by assumption); exact gr_auto)
            have k1_4 : W1.cell? ⟨w.heap.size + 1, 0, none⟩ = some (.int .i64 ux0) := by rw [hW1]; first | (simp [go_sem, *]; done) | (refine Gr.at ?_ (by assumption); exact gr_auto)
            have b1_4 : w.heap.size + 1 < W1.heap.size := World.block_lt_of_cell? _ _ k1_4
            have k1_5 : W1.cell? ⟨w.heap.size + 1, 1, none⟩ = some (.int .i64 uy0) := by rw [hW1]; first | (simp [go_sem, *]; done) | (refine Gr.at ?_ (by assumption); exact gr_auto)
            have k1_6 : W1.cell? ⟨w.heap.size + 1, 2, none⟩ = some (.int .i64 ux1) := by rw [hW1]; first | (simp [go_sem, *]; done) | (refine Gr.at ?_ (by assumption); exact gr_auto)
            have k1_7 : W1.cell? ⟨w.heap.size + 1, 3, none⟩ = some (.int .i64 uy1) := by rw [hW1]; first | (simp [go_sem, *]; done) | (refine Gr.at ?_ (by assumption); exact gr_auto)
            have k1_8 : W1.cell? ⟨w.heap.size + 1, 4, none⟩ = some (.int .i64 ux2) := by rw [hW1]; first | (simp [go_sem, *]; done) | (refine Gr.at ?_ (by assumption); exact gr_auto)
            have k1_9 : W1.cell? ⟨w.heap.size + 1, 5, none⟩ = some (.int .i64 uy2) := by rw [hW1]; first | (simp [go_sem, *]; done) | (refine Gr.at ?_ (by assumption); exact gr_auto)
            clear hW1
            refine (T0.out _).mono ?_
            rintro e w2 ⟨rfl, hb2⟩
            go_wp2_with fail
            go_roundw
            case rel => exact ⟨2, by omega, by go_num, HR, hg.trans (Gr.trans gb1_wr hb2)⟩
            case measure => simp [intOf]
        · rw [q0] at HPi
          cases q1 : decide (v1 ≤ 0)
          · rw [q1] at HPi
            have HR := Lib.hid (Ms.any_go HQ.out (by rw [HPi]; rfl))
            clear HPi HQ
            go_wp2_with fail
            go_region
            · go_wp2_with fail
              (first | refine name_world ?_ | refine (show (∀ W, W = _ → Calls _ _ _ W _) → Calls _ _ _ _ _ from fun h => h _ rfl) ?_); intro W1 hW1
              have g1 : Gr w W1 := by rw [hW1]; exact gr_auto
              have gb1_wr : Gr wr W1 := by (try clear g1); rw [hW1]; exact gr_auto
              have k1_0 : W1.cell? ⟨wr.heap.size, 0, none⟩ = some (.int .i64 tx1) := by rw [hW1]; first | (simp [go_sem, *]; done) | (refine Gr.at ?_ (by assumption); exact gr_auto)
              have b1_0 : wr.heap.size < W1.heap.size := World.block_lt_of_cell? _ _ k1_0
              have k1_1 : W1.cell? ⟨wr.heap.size, 1, none⟩ = some (.int .i64 ty1) := by rw [hW1]; first | (simp [go_sem, *]; done) | (refine Gr.at ?_ (by assumption); exact gr_auto)
              have k1_2 : W1.cell? ⟨wr.heap.size + 1, 0, none⟩ = some (.int .i64 tx2) := by rw [hW1]; first | (simp [go_sem, *]; done) | (refine Gr.at ?_ (by assumption); exact gr_auto)
              have b1_2 : wr.heap.size + 1 < W1.heap.size := World.block_lt_of_cell? _ _ k1_2
              have k1_3 : W1.cell? ⟨wr.heap.size + 1, 1, none⟩ = some (.int .i64 ty2) := by rw [hW1]; first | (simp [go_sem, *]; done) | (refine Gr.at ?_ (by assumption); exact gr_auto)
              have k1_4 : W1.cell? ⟨w.heap.size + 1, 0, none⟩ = some (.int .i64 ux0) := by rw [hW1]; first | (simp [go_sem, *]; done) | (refine Gr.at ?_ (by assumption); exact gr_auto)
              have b1_4 : w.heap.size + 1 < W1.heap.size := World.block_lt_of_cell? _ _ k1_4
              have k1_5 : W1.cell? ⟨w.heap.size + 1, 1, none⟩ = some (.int .i64 uy0) := by rw [hW1]; first | (simp [go_sem, *]; done) | (refine Gr.at ?_ (by assumption); exact gr_auto)
              have k1_6 : W1.cell? ⟨w.heap.size + 1, 2, none⟩ = some (.int .i64 ux1) := by rw [hW1]; first | (simp [go_sem, *]; done) | (refine Gr.at ?_ (by assumption); exact gr_auto)
              have k1_7 : W1.cell? ⟨w.heap.size + 1, 3, none⟩ = some (.int .i64 uy1) := by rw [hW1]; first | (simp [go_sem, *]; done) | (refine Gr.at ?_ (by assumption); exact gr_auto)
              have k1_8 : W1.cell? ⟨w.heap.size + 1, 4, none⟩ = some (.int .i64 ux2) := by rw [hW1]; first | (simp [go_sem, *]; done) | (refine Gr.at ?_ (by assumption); exact gr_auto)
              have k1_9 : W1.cell? ⟨w.heap.size + 1, 5, none⟩ = some (.int .i64 uy2) := by rw [hW1]; first | (simp [go_sem, *]; done) | (refine Gr.at ?_ (by assumption); exact gr_auto)
              clear hW1
              refine (T0.out _).mono ?_
              rintro e w2 ⟨rfl, hb2⟩
              replace k1_0 := Gr.at hb2 k1_0; replace k1_1 := Gr.at hb2 k1_1; replace k1_2 := Gr.at hb2 k1_2; replace k1_3 := Gr.at hb2 k1_3; replace k1_4 := Gr.at hb2 k1_4; replace k1_5 := Gr.at hb2 k1_5; replace k1_6 := Gr.at hb2 k1_6; replace k1_7 := Gr.at hb2 k1_7; replace k1_8 := Gr.at hb2 k1_8; replace k1_9 := Gr.at hb2 k1_9
              go_wp2_with fail
              refine (T1.out _).mono ?_
              rintro e w3 ⟨rfl, hb3⟩
              go_wp2_with fail
              go_roundw
              case rel => exact ⟨2, by omega, by go_num, HR, hg.trans (Gr.trans (Gr.trans gb1_wr hb2) hb3)⟩
              case measure => simp [intOf]
            · go_wp2_with fail
              (first | refine name_world ?_ | refine (show (∀ W, W = _ → Calls _ _ _ W _) → Calls _ _ _ _ _ from fun h => h _ rfl) ?_); intro W1 hW1
              have g1 : Gr w W1 := by rw [hW1]; exact gr_auto
              have gb1_wr : Gr wr W1 := by (try clear g1); rw [hW1]; exact gr_auto
              have k1_0 : W1.cell? ⟨wr.heap.size + 1, 0, none⟩ = some (.int .i64 tx1) := by rw [hW1]; first | (simp [go_sem, *]; done) | (refine Gr.at ?_ (by assumption); exact gr_auto)
              have b1_0 : wr.heap.size + 1 < W1.heap.size := World.block_lt_of_cell? _ _ k1_0
              have k1_1 : W1.cell? ⟨wr.heap.size + 1, 1, none⟩ = some (.int .i64 ty1) := by rw [hW1]; first | (simp [go_sem, *]; done) | (refine Gr.at ?_ (by assumption); exact gr_auto)
              have k1_2 : W1.cell? ⟨wr.heap.size, 0, none⟩ = some (.int .i64 tx2) := by rw [hW1]; first | (simp [go_sem, *]; done) | (refine Gr.at ?_ (by assumption); exact gr_auto)
              have b1_2 : wr.heap.size < W1.heap.size := World.block_lt_of_cell? _ _ k1_2
              have k1_3 : W1.cell? ⟨wr.heap.size, 1, none⟩ = some (.int .i64 ty2) := by rw [hW1]; first | (simp [go_sem, *]; done) | (refine Gr.at ?_ (by assumption); exact gr_auto)
              have k1_4 : W1.cell? ⟨w.heap.size + 1, 0, none⟩ = some (.int .i64 ux0) := by rw [hW1]; first | (simp [go_sem, *]; done) | (refine Gr.at ?_ (by assumption); exact gr_auto)
              have b1_4 : w.heap.size + 1 < W1.heap.size := World.block_lt_of_cell? _ _ k1_4
              have k1_5 : W1.cell? ⟨w.heap.size + 1, 1, none⟩ = some (.int .i64 uy0) := by rw [hW1]; first | (simp [go_sem, *]; done) | (refine Gr.at ?_ (by assumption); exact gr_auto)
              have k1_6 : W1.cell? ⟨w.heap.size + 1, 2, none⟩ = some (.int .i64 ux1) := by rw [hW1]; first | (simp [go_sem, *]; done) | (refine Gr.at ?_ (by assumption); exact gr_auto)
              have k1_7 : W1.cell? ⟨w.heap.size + 1, 3, none⟩ = some (.int .i64 uy1) := by rw [hW1]; first | (simp [go_sem, *]; done) | (refine Gr.at ?_ (by assumption); exact gr_auto)
              have k1_8 : W1.cell? ⟨w.heap.size + 1, 4, none⟩ = some (.int .i64 ux2) := by rw [hW1]; first | (simp [go_sem, *]; done) | (refine Gr.at ?_ (by assumption); exact gr_auto)
              have k1_9 : W1.cell? ⟨w.heap.size + 1, 5, none⟩ = some (.int .i64 uy2) := by rw [hW1]; first | (simp [go_sem, *]; done) | (refine Gr.at ?_ (by assumption); exact gr_auto)
              clear hW1
              refine (T0.out _).mono ?_
              rintro e w2 ⟨rfl, hb2⟩
              replace k1_0 := Gr.at hb2 k1_0; replace k1_1 := Gr.at hb2 k1_1; replace k1_2 := Gr.at hb2 k1_2; replace k1_3 := Gr.at hb2 k1_3; replace k1_4 := Gr.at hb2 k1_4; replace k1_5 := Gr.at hb2 k1_5; replace k1_6 := Gr.at hb2 k1_6; replace k1_7 := Gr.at hb2 k1_7; replace k1_8 := Gr.at hb2 k1_8; replace k1_9 := Gr.at hb2 k1_9
              go_wp2_with fail
              refine (T1.out _).mono ?_
              rintro e w3 ⟨rfl, hb3⟩
              go_wp2_with fail
              go_roundw
              case rel => exact ⟨2, by omega, by go_num, HR, hg.trans (Gr.trans (Gr.trans gb1_wr hb2) hb3)⟩
              case measure => simp [intOf]
          · rw [q1] at HPi
            cases q2 : decide (v2 ≤ 0)
            · rw [q2] at HPi
              have HR := Lib.hid (Ms.any_go HQ.out (by rw [HPi]; rfl))
              clear HPi HQ
              go_wp2_with fail
              go_region
              · go_wp2_with fail
                (first | refine name_world ?_ | refine (show (∀ W, W = _ → Calls _ _ _ W _) → Calls _ _ _ _ _ from fun h => h _ rfl) ?_); intro W1 hW1
                have g1 : Gr w W1 := by rw [hW1]; exact gr_auto
                have gb1_wr : Gr wr W1 := by (try clear g1); rw [hW1]; exact gr_auto
                have k1_0 : W1.cell? ⟨wr.heap.size, 0, none⟩ = some (.int .i64 tx1) := by rw [hW1]; first | (simp [go_sem, *]; done) | (refine Gr.at ?_ (by assumption); exact gr_auto)
                have b1_0 : wr.heap.size < W1.heap.size := World.block_lt_of_cell? _ _ k1_0
                have k1_1 : W1.cell? ⟨wr.heap.size, 1, none⟩ = some (.int .i64 ty1) := by rw [hW1]; first | (simp [go_sem, *]; done) | (refine Gr.at ?_ (by assumption); exact gr_auto)
                have k1_2 : W1.cell? ⟨wr.heap.size + 1, 0, none⟩ = some (.int .i64 tx2) := by rw [hW1]; first | (simp [go_sem, *]; done) | (refine Gr.at ?_ (by assumption); exact gr_auto)
                have b1_2 : wr.heap.size + 1 < W1.heap.size := World.block_lt_of_cell? _ _ k1_2
                have k1_3 : W1.cell? ⟨wr.heap.size + 1, 1, none⟩ = some (.int .i64 ty2) := by rw [hW1]; first | (simp [go_sem, *]; done) | (refine Gr.at ?_ (by assumption); exact gr_auto)
                have k1_4 : W1.cell? ⟨w.heap.size + 1, 0, none⟩ = some (.int .i64 ux0) := by rw [hW1]; first | (simp [go_sem, *]; done) | (refine Gr.at ?_ (by assumption); exact gr_auto)
                have b1_4 : w.heap.size + 1 < W1.heap.size := World.block_lt_of_cell? _ _ k1_4
                have k1_5 : W1.cell? ⟨w.heap.size + 1, 1, none⟩ = some (.int .i64 uy0) := by rw [hW1]; first | (simp [go_sem, *]; done) | (refine Gr.at ?_ (by assumption); exact gr_auto)
                have k1_6 : W1.cell? ⟨w.heap.size + 1, 2, none⟩ = some (.int .i64 ux1) := by rw [hW1]; first | (simp [go_sem, *]; done) | (refine Gr.at ?_ (by assumption); exact gr_auto)
                have k1_7 : W1.cell? ⟨w.heap.size + 1, 3, none⟩ = some (.int .i64 uy1) := by rw [hW1]; first | (simp [go_sem, *]; done) | (refine Gr.at ?_ (by assumption); exact gr_auto)
                have k1_8 : W1.cell? ⟨w.heap.size + 1, 4, none⟩ = some (.int .i64 ux2) := by rw [hW1]; first | (simp [go_sem, *]; done) | (refine Gr.at ?_ (by assumption); exact gr_auto)
                have k1_9 : W1.cell? ⟨w.heap.size + 1, 5, none⟩ = some (.int .i64 uy2) := by rw [hW1]; first | (simp [go_sem, *]; done) | (refine Gr.at ?_ (by assumption); exact gr_auto)
                clear hW1
                refine (T0.out _).mono ?_
                rintro e w2 ⟨rfl, hb2⟩
                replace k1_0 := Gr.at hb2 k1_0; replace k1_1 := Gr.at hb2 k1_1; replace k1_2 := Gr.at hb2 k1_2; replace k1_3 := Gr.at hb2 k1_3; replace k1_4 := Gr.at hb2 k1_4; replace k1_5 := Gr.at hb2 k1_5; replace k1_6 := Gr.at hb2 k1_6; replace k1_7 := Gr.at hb2 k1_7; replace k1_8 := Gr.at hb2 k1_8; replace k1_9 := Gr.at hb2 k1_9
                go_wp2_with fail
                refine (T1.out _).mono ?_
                rintro e w3 ⟨rfl, hb3⟩
                replace k1_0 := Gr.at hb3 k1_0; replace k1_1 := Gr.at hb3 k1_1; replace k1_2 := Gr.at hb3 k1_2; replace k1_3 := Gr.at hb3 k1_3; replace k1_4 := Gr.at hb3 k1_4; replace k1_5 := Gr.at hb3 k1_5; replace k1_6 := Gr.at hb3 k1_6; replace k1_7 := Gr.at hb3 k1_7; replace k1_8 := Gr.at hb3 k1_8; replace k1_9 := Gr.at hb3 k1_9
                go_wp2_with fail
                refine (T2.out _).mono ?_
                rintro e w4 ⟨rfl, hb4⟩
                go_wp2_with fail
                go_roundw
                case rel => exact ⟨2, by omega, by go_num, HR, hg.trans (Gr.trans (Gr.trans (Gr.trans gb1_wr hb2) hb3) hb4)⟩
                case measure => simp [intOf]
              · go_wp2_with fail
                (first | refine name_world ?_ | refine (show (∀ W, W = _ → Calls _ _ _ W _) → Calls _ _ _ _ _ from fun h => h _ rfl) ?_); intro W1 hW1
                have g1 : Gr w W1 := by rw [hW1]; exact gr_auto
                have gb1_wr : Gr wr W1 := by (try clear g1); rw [hW1]; exact gr_auto
                have k1_0 : W1.cell? ⟨wr.heap.size + 1, 0, none⟩ = some (.int .i64 tx1) := by rw [hW1]; first | (simp [go_sem, *]; done) | (refine Gr.at ?_ (by assumption); exact gr_auto)
                have b1_0 : wr.heap.size + 1 < W1.heap.size := World.block_lt_of_cell? _ _ k1_0
                have k1_1 : W1.cell? ⟨wr.heap.size + 1, 1, none⟩ = some (.int .i64 ty1) := by rw [hW1]; first | (simp [go_sem, *]; done) | (refine Gr.at ?_ (by assumption); exact gr_auto)
                have k1_2 : W1.cell? ⟨wr.heap.size, 0, none⟩ = some (.int .i64 tx2) := by rw [hW1]; first | (simp [go_sem, *]; done) | (refine Gr.at ?_ (by assumption); exact gr_auto)
                have b1_2 : wr.heap.size < W1.heap.size := World.block_lt_of_cell? _ _ k1_2
                have k1_3 : W1.cell? ⟨wr.heap.size, 1, none⟩ = some (.int .i64 ty2) := by rw [hW1]; first | (simp [go_sem, *]; done) | (refine Gr.at ?_ (by assumption); exact gr_auto)
                have k1_4 : W1.cell? ⟨w.heap.size + 1, 0, none⟩ = some (.int .i64 ux0) := by rw [hW1]; first | (simp [go_sem, *]; done) | (refine Gr.at ?_ (by assumption); exact gr_auto)
                have b1_4 : w.heap.size + 1 < W1.heap.size := World.block_lt_of_cell? _ _ k1_4
                have k1_5 : W1.cell? ⟨w.heap.size + 1, 1, none⟩ = some (.int .i64 uy0) := by rw [hW1]; first | (simp [go_sem, *]; done) | (refine Gr.at ?_ (by assumption); exact gr_auto)
                have k1_6 : W1.cell? ⟨w.heap.size + 1, 2, none⟩ = some (.int .i64 ux1) := by rw [hW1]; first | (simp [go_sem, *]; done) | (refine Gr.at ?_ (by assumption); exact gr_auto)
                have k1_7 : W1.cell? ⟨w.heap.size + 1, 3, none⟩ = some (.int .i64 uy1) := by rw [hW1]; first | (simp [go_sem, *]; done) | (refine Gr.at ?_ (by assumption); exact gr_auto)
                have k1_8 : W1.cell? ⟨w.heap.size + 1, 4, none⟩ = some (.int .i64 ux2) := by rw [hW1]; first | (simp [go_sem, *]; done) | (refine Gr.at ?_ (by assumption); exact gr_auto)
                have k1_9 : W1.cell? ⟨w.heap.size + 1, 5, none⟩ = some (.int .i64 uy2) := by rw [hW1]; first | (simp [go_sem, *]; done) | (refine Gr.at ?_ (by assumption); exact gr_auto)
                clear hW1
                refine (T0.out _).mono ?_
                rintro e w2 ⟨rfl, hb2⟩
                replace k1_0 := Gr.at hb2 k1_0; replace k1_1 := Gr.at hb2 k1_1; replace k1_2 := Gr.at hb2 k1_2; replace k1_3 := Gr.at hb2 k1_3; replace k1_4 := Gr.at hb2 k1_4; replace k1_5 := Gr.at hb2 k1_5; replace k1_6 := Gr.at hb2 k1_6; replace k1_7 := Gr.at hb2 k1_7; replace k1_8 := Gr.at hb2 k1_8; replace k1_9 := Gr.at hb2 k1_9
                go_wp2_with fail
                refine (T1.out _).mono ?_
                rintro e w3 ⟨rfl, hb3⟩
                replace k1_0 := Gr.at hb3 k1_0; replace k1_1 := Gr.at hb3 k1_1; replace k1_2 := Gr.at hb3 k1_2; replace k1_3 := Gr.at hb3 k1_3; replace k1_4 := Gr.at hb3 k1_4; replace k1_5 := Gr.at hb3 k1_5; replace k1_6 := Gr.at hb3 k1_6; replace k1_7 := Gr.at hb3 k1_7; replace k1_8 := Gr.at hb3 k1_8; replace k1_9 := Gr.at hb3 k1_9
                go_wp2_with fail
                refine (T2.out _).mono ?_
                rintro e w4 ⟨rfl, hb4⟩
                go_wp2_with fail
                go_roundw
                case rel => exact ⟨2, by omega, by go_num, HR, hg.trans (Gr.trans (Gr.trans (Gr.trans gb1_wr hb2) hb3) hb4)⟩
                case measure => simp [intOf]
            · rw [q2] at HPi
              have HR := Lib.hid (Ms.any_hit (p := P) (i := 1) (n := 3) (by rw [HPi]; rfl) (by omega))
              clear HPi HQ
              go_wp2_with fail
              go_region
              · go_wp2_with fail
                (first | refine name_world ?_ | refine (show (∀ W, W = _ → Calls _ _ _ W _) → Calls _ _ _ _ _ from fun h => h _ rfl) ?_); intro W1 hW1
                have g1 : Gr w W1 := by rw [hW1]; exact gr_auto
                have gb1_wr : Gr wr W1 := by (try clear g1); rw [hW1]; exact gr_auto
                have k1_0 : W1.cell? ⟨wr.heap.size, 0, none⟩ = some (.int .i64 tx1) := by rw [hW1]; first | (simp [go_sem, *]; done) | (refine Gr.at ?_ (by assumption); exact gr_auto)
                have b1_0 : wr.heap.size < W1.heap.size := World.block_lt_of_cell? _ _ k1_0
                have k1_1 : W1.cell? ⟨wr.heap.size, 1, none⟩ = some (.int .i64 ty1) := by rw [hW1]; first | (simp [go_sem, *]; done) | (refine Gr.at ?_ (by assumption); exact gr_auto)
                have k1_2 : W1.cell? ⟨wr.heap.size + 1, 0, none⟩ = some (.int .i64 tx2) := by rw [hW1]; first | (simp [go_sem, *]; done) | (refine Gr.at ?_ (by assumption); exact gr_auto)
                have b1_2 : wr.heap.size + 1 < W1.heap.size := World.block_lt_of_cell? _ _ k1_2
                have k1_3 : W1.cell? ⟨wr.heap.size + 1, 1, none⟩ = some (.int .i64 ty2) := by rw [hW1]; first | (simp [go_sem, *]; done) | (refine Gr.at ?_ (by assumption); exact gr_auto)
                have k1_4 : W1.cell? ⟨w.heap.size + 1, 0, none⟩ = some (.int .i64 ux0) := by rw [hW1]; first | (simp [go_sem, *]; done) | (refine Gr.at ?_ (by assumption); exact gr_auto)
                have b1_4 : w.heap.size + 1 < W1.heap.size := World.block_lt_of_cell? _ _ k1_4
                have k1_5 : W1.cell? ⟨w.heap.size + 1, 1, none⟩ = some (.int .i64 uy0) := by rw [hW1]; first | (simp [go_sem, *]; done) | (refine Gr.at ?_ (by assumption); exact gr_auto)
                have k1_6 : W1.cell? ⟨w.heap.size + 1, 2, none⟩ = some (.int .i64 ux1) := by rw [hW1]; first | (simp [go_sem, *]; done) | (refine Gr.at ?_ (by assumption); exact gr_auto)
                have k1_7 : W1.cell? ⟨w.heap.size + 1, 3, none⟩ = some (.int .i64 uy1) := by rw [hW1]; first | (simp [go_sem, *]; done) | (refine Gr.at ?_ (by assumption); exact gr_auto)
                have k1_8 : W1.cell? ⟨w.heap.size + 1, 4, none⟩ = some (.int .i64 ux2) := by rw [hW1]; first | (simp [go_sem, *]; done) | (refine Gr.at ?_ (by assumption); exact gr_auto)
                have k1_9 : W1.cell? ⟨w.heap.size + 1, 5, none⟩ = some (.int .i64 uy2) := by rw [hW1]; first | (simp [go_sem, *]; done) | (refine Gr.at ?_ (by assumption); exact gr_auto)
                clear hW1
                refine (T0.out _).mono ?_
                rintro e w2 ⟨rfl, hb2⟩
                replace k1_0 := Gr.at hb2 k1_0; replace k1_1 := Gr.at hb2 k1_1; replace k1_2 := Gr.at hb2 k1_2; replace k1_3 := Gr.at hb2 k1_3; replace k1_4 := Gr.at hb2 k1_4; replace k1_5 := Gr.at hb2 k1_5; replace k1_6 := Gr.at hb2 k1_6; replace k1_7 := Gr.at hb2 k1_7; replace k1_8 := Gr.at hb2 k1_8; replace k1_9 := Gr.at hb2 k1_9
                go_wp2_with fail
                refine (T1.out _).mono ?_
                rintro e w3 ⟨rfl, hb3⟩
                replace k1_0 := Gr.at hb3 k1_0; replace k1_1 := Gr.at hb3 k1_1; replace k1_2 := Gr.at hb3 k1_2; replace k1_3 := Gr.at hb3 k1_3; replace k1_4 := Gr.at hb3 k1_4; replace k1_5 := Gr.at hb3 k1_5; replace k1_6 := Gr.at hb3 k1_6; replace k1_7 := Gr.at hb3 k1_7; replace k1_8 := Gr.at hb3 k1_8; replace k1_9 := Gr.at hb3 k1_9
                go_wp2_with fail
                refine (T2.out _).mono ?_
                rintro e w4 ⟨rfl, hb4⟩
                go_wp2_with fail
                go_ret
                exact ⟨by rw [HR.out]; rfl, gr.trans (Gr.trans (Gr.trans (Gr.trans gb1_wr hb2) hb3) hb4)⟩
              · go_wp2_with fail
                (first | refine name_world ?_ | refine (show (∀ W, W = _ → Calls _ _ _ W _) → Calls _ _ _ _ _ from fun h => h _ rfl) ?_); intro W1 hW1
                have g1 : Gr w W1 := by rw [hW1]; exact gr_auto
                have gb1_wr : Gr wr W1 := by (try clear g1); rw [hW1]; exact gr_auto
                have k1_0 : W1.cell? ⟨wr.heap.size + 1, 0, none⟩ = some (.int .i64 tx1) := by rw [hW1]; first | (simp [go_sem, *]; done) | (refine Gr.at ?_ (by assumption); exact gr_auto)
                have b1_0 : wr.heap.size + 1 < W1.heap.size := World.block_lt_of_cell? _ _ k1_0
                have k1_1 : W1.cell? ⟨wr.heap.size + 1, 1, none⟩ = some (.int .i64 ty1) := by rw [hW1]; first | (simp [go_sem, *]; done) | (refine Gr.at ?_ (by assumption); exact gr_auto)
                have k1_2 : W1.cell? ⟨wr.heap.size, 0, none⟩ = some (.int .i64 tx2) := by rw [hW1]; first | (simp [go_sem, *]; done) | (refine Gr.at ?_ (by assumption); exact gr_auto)
                have b1_2 : wr.heap.size < W1.heap.size := World.block_lt_of_cell? _ _ k1_2
                have k1_3 : W1.cell? ⟨wr.heap.size, 1, none⟩ = some (.int .i64 ty2) := by rw [hW1]; first | (simp [go_sem, *]; done) | (refine Gr.at ?_ (by assumption); exact gr_auto)
                have k1_4 : W1.cell? ⟨w.heap.size + 1, 0, none⟩ = some (.int .i64 ux0) := by rw [hW1]; first | (simp [go_sem, *]; done) | (refine Gr.at ?_ (by assumption); exact gr_auto)
                have b1_4 : w.heap.size + 1 < W1.heap.size := World.block_lt_of_cell? _ _ k1_4
                have k1_5 : W1.cell? ⟨w.heap.size + 1, 1, none⟩ = some (.int .i64 uy0) := by rw [hW1]; first | (simp [go_sem, *]; done) | (refine Gr.at ?_ (by assumption); exact gr_auto)
                have k1_6 : W1.cell? ⟨w.heap.size + 1, 2, none⟩ = some (.int .i64 ux1) := by rw [hW1]; first | (simp [go_sem, *]; done) | (refine Gr.at ?_ (by assumption); exact gr_auto)
                have k1_7 : W1.cell? ⟨w.heap.size + 1, 3, none⟩ = some (.int .i64 uy1) := by rw [hW1]; first | (simp [go_sem, *]; done) | (refine Gr.at ?_ (by assumption); exact gr_auto)
                have k1_8 : W1.cell? ⟨w.heap.size + 1, 4, none⟩ = some (.int .i64 ux2) := by rw [hW1]; first | (simp [go_sem, *]; done) | (refine Gr.at ?_ (by assumption); exact gr_auto)
                have k1_9 : W1.cell? ⟨w.heap.size + 1, 5, none⟩ = some (.int .i64 uy2) := by rw [hW1]; first | (simp [go_sem, *]; done) | (refine Gr.at ?_ (by assumption); exact gr_auto)
                clear hW1
                refine (T0.out _).mono ?_
                rintro e w2 ⟨rfl, hb2⟩
                replace k1_0 := Gr.at hb2 k1_0; replace k1_1 := Gr.at hb2 k1_1; replace k1_2 := Gr.at hb2 k1_2; replace k1_3 := Gr.at hb2 k1_3; replace k1_4 := Gr.at hb2 k1_4; replace k1_5 := Gr.at hb2 k1_5; replace k1_6 := Gr.at hb2 k1_6; replace k1_7 := Gr.at hb2 k1_7; replace k1_8 := Gr.at hb2 k1_8; replace k1_9 := Gr.at hb2 k1_9
                go_wp2_with fail
                refine (T1.out _).mono ?_
                rintro e w3 ⟨rfl, hb3⟩
                replace k1_0 := Gr.at hb3 k1_0; replace k1_1 := Gr.at hb3 k1_1; replace k1_2 := Gr.at hb3 k1_2; replace k1_3 := Gr.at hb3 k1_3; replace k1_4 := Gr.at hb3 k1_4; replace k1_5 := Gr.at hb3 k1_5; replace k1_6 := Gr.at hb3 k1_6; replace k1_7 := Gr.at hb3 k1_7; replace k1_8 := Gr.at hb3 k1_8; replace k1_9 := Gr.at hb3 k1_9
                go_wp2_with fail
                refine (T2.out _).mono ?_
                rintro e w4 ⟨rfl, hb4⟩
                go_wp2_with fail
                go_ret
                exact ⟨by rw [HR.out]; rfl, gr.trans (Gr.trans (Gr.trans (Gr.trans gb1_wr hb2) hb3) hb4)⟩
      · have HPi : P 2 = (decide (Ms.tr2 tx2 ty2 tx0 ty0 ux0 uy0 ≤ 0) && (decide (Ms.tr2 tx2 ty2 tx0 ty0 ux1 uy1 ≤ 0) && decide (Ms.tr2 tx2 ty2 tx0 ty0 ux2 uy2 ≤ 0))) := HL.out 2
        have T0 := Lib.hid (fun W => ms_turn tx2 ty2 tx0 ty0 ux0 uy0 W ht.out.2.2.2.2.1 ht.out.2.2.2.2.2 ht.out.1 ht.out.2.1 hu.out.1 hu.out.2.1)
        have T1 := Lib.hid (fun W => ms_turn tx2 ty2 tx0 ty0 ux1 uy1 W ht.out.2.2.2.2.1 ht.out.2.2.2.2.2 ht.out.1 ht.out.2.1 hu.out.2.2.1 hu.out.2.2.2.1)
        have T2 := Lib.hid (fun W => ms_turn tx2 ty2 tx0 ty0 ux2 uy2 W ht.out.2.2.2.2.1 ht.out.2.2.2.2.2 ht.out.1 ht.out.2.1 hu.out.2.2.2.2.1 hu.out.2.2.2.2.2)
        clear HL
        generalize Ms.tr2 tx2 ty2 tx0 ty0 ux0 uy0 = v0 at *
        generalize Ms.tr2 tx2 ty2 tx0 ty0 ux1 uy1 = v1 at *
        generalize Ms.tr2 tx2 ty2 tx0 ty0 ux2 uy2 = v2 at *
        cases q0 : decide (v0 ≤ 0)
        · rw [q0] at HPi
          have HR := Lib.hid (Ms.any_go HQ.out (by rw [HPi]; rfl))
          clear HPi HQ
          go_wp2_with fail
          go_region
          · go_wp2_with fail
            (first | refine name_world ?_ | refine (show (∀ W, W = _ → Calls _ _ _ W _) → Calls _ _ _ _ _ from fun h => h _ rfl) ?_); intro W1 hW1
            have g1 : Gr w W1 := by rw [hW1]; exact gr_auto
            have gb1_wr : Gr wr W1 := by (try clear g1); rw [hW1]; exact gr_auto
            have k1_0 : W1.cell? ⟨wr.heap.size, 0, none⟩ = some (.int .i64 tx2) := by rw [hW1]; first | (simp [go_sem, *]; done) | (refine Gr.at ?_ (by assumption); exact gr_auto)
            have b1_0 : wr.heap.size < W1.heap.size := World.block_lt_of_cell? _ _ k1_0
            have k1_1 : W1.cell? ⟨wr.heap.size, 1, none⟩ = some (.int .i64 ty2) := by rw [hW1]; first | (simp [go_sem, *]; done) | (refine Gr.at ?_ (by assumption); exact gr_auto)
            have k1_2 : W1.cell? ⟨wr.heap.size + 1, 0, none⟩ = some (.int .i64 tx0) := by rw [hW1]; first | (simp [go_sem, *]; done) | (refine Gr.at ?_ (by assumption); exact gr_auto)
            have b1_2 : wr.heap.size + 1 < W1.heap.size := World.block_lt_of_cell? _ _ k1_2
            have k1_3 : W1.cell? ⟨wr.heap.size + 1, 1, none⟩ = some (.int .i64 ty0) := by rw [hW1]; first | (simp [go_sem, *]; done) | (refine Gr.at ?_ (by assumption); exact gr_auto)
            have k1_4 : W1.cell? ⟨w.heap.size + 1, 0, none⟩ = some (.int .i64 ux0) := by rw [hW1]; first | (simp [go_sem, *]; done) | (refine Gr.at ?_ (by assumption); exact gr_auto)
            have b1_4 : w.heap.size + 1 < W1.heap.size := World.block_lt_of_cell? _ _ k1_4
            have k1_5 : W1.cell? ⟨w.heap.size + 1, 1, none⟩ = some (.int .i64 uy0) := by rw [hW1]; first | (simp [go_sem, *]; done) | (refine Gr.at ?_ (by assumption); exact gr_auto)
            have k1_6 : W1.cell? ⟨w.heap.size + 1, 2, none⟩ = some (.int .i64 ux1) := by rw [hW1]; first | (simp [go_sem, *]; done) | (refine Gr.at ?_ (by assumption); exact gr_auto)
            have k1_7 : W1.cell? ⟨w.heap.size + 1, 3, none⟩ = some (.int .i64 uy1) := by rw [hW1]; first | (simp [go_sem, *]; done) | (refine Gr.at ?_ (by assumption); exact gr_auto)
            have k1_8 : W1.cell? ⟨w.heap.size + 1, 4, none⟩ = some (.int .i64 ux2) := by rw [hW1]; first | (simp [go_sem, *]; done) | (refine Gr.at ?_ (by assumption); exact gr_auto)
            have k1_9 : W1.cell? ⟨w.heap.size + 1, 5, none⟩ = some (.int .i64 uy2) := by rw [hW1]; first | (simp [go_sem, *]; done) | (refine Gr.at ?_ (by assumption); exact gr_auto)
            clear hW1
            refine (T0.out _).mono ?_
            rintro e w2 ⟨rfl, hb2⟩
            go_wp2_with fail
            go_roundw
            case rel => exact ⟨3, by omega, by go_num, HR, hg.trans (Gr.trans gb1_wr hb2)⟩
            case measure => simp [intOf]
          · go_wp2_with fail
            (first | refine name_world ?_ | refine (show (∀ W, W = _ → Calls _ _ _ W _) → Calls _ _ _ _ _ from fun h => h _ rfl) ?_); intro W1 hW1
            have g1 : Gr w W1 := by rw [hW1]; exact gr_auto
            have gb1_wr : Gr wr W1 := by (try clear g1); rw [hW1]; exact gr_auto
            have k1_0 : W1.cell? ⟨wr.heap.size + 1, 0, none⟩ = some (.int .i64 tx2) := by rw [hW1]; first | (simp [go_sem, *]; done) | (refine Gr.at ?_ (by assumption); exact gr_auto)
            have b1_0 : wr.heap.size + 1 < W1.heap.size := World.block_lt_of_cell? _ _ k1_0
            have k1_1 : W1.cell? ⟨wr.heap.size + 1, 1, none⟩ = some (.int .i64 ty2) := by rw [hW1]; first | (simp [go_sem, *]; done) | (refine Gr.at ?_ (by assumption); exact gr_auto)
            have k1_2 : W1.cell? ⟨wr.heap.size, 0, none⟩ = some (.int .i64 tx0) := by rw [hW1]; first | (simp [go_sem, *]; done) | (refine Gr.at ?_ (by assumption); exact gr_auto)
            have b1_2 : wr.heap.size < W1.heap.size := World.block_lt_of_cell? _ _ k1_2
            have k1_3 : W1.cell? ⟨wr.heap.size, 1, none⟩ = some (.int .i64 ty0) := by rw [hW1]; first | (simp [go_sem, *]; done) | (refine Gr.at ?_ (by assumption); exact gr_auto)
            have k1_4 : W1.cell? ⟨w.heap.size + 1, 0, none⟩ = some (.int .i64 ux0) := by rw [hW1]; first | (simp [go_sem, *]; done) | (refine Gr.at ?_ (by assumption); exact gr_auto)
            have b1_4 : w.heap.size + 1 < W1.heap.size := World.block_lt_of_cell? _ _ k1_4
            have k1_5 : W1.cell? ⟨w.heap.size + 1, 1, none⟩ = some (.int .i64 uy0) := by rw [hW1]; first | (simp [go_sem, *]; done) | (refine Gr.at ?_ (by assumption); exact gr_auto)
            have k1_6 : W1.cell? ⟨w.heap.size + 1, 2, none⟩ = some (.int .i64 ux1) := by rw [hW1]; first | (simp [go_sem, *]; done) | (refine Gr.at ?_ (by assumption); exact gr_auto)
            have k1_7 : W1.cell? ⟨w.heap.size + 1, 3, none⟩ = some (.int .i64 uy1) := by rw [hW1]; first | (simp [go_sem, *]; done) | (refine Gr.at ?_ (by assumption); exact gr_auto)
            have k1_8 : W1.cell? ⟨w.heap.size + 1, 4, none⟩ = some (.int .i64 ux2) := by rw [hW1]; first | (simp [go_sem, *]; done) | (refine Gr.at ?_ (by assumption); exact gr_auto)
            have k1_9 : W1.cell? ⟨w.heap.size + 1, 5, none⟩ = some (.int .i64 uy2) := by rw [hW1]; first | (simp [go_sem, *]; done) | (refine Gr.at ?_ (by assumption); exact gr_auto)
            clear hW1
            refine (T0.out _).mono ?_
            rintro e w2 ⟨rfl, hb2⟩
            go_wp2_with fail
            go_roundw
            case rel => exact ⟨3, by omega, by go_num, HR, hg.trans (Gr.trans gb1_wr hb2)⟩
            case measure => simp [intOf]
        · rw [q0] at HPi
          cases q1 : decide (v1 ≤ 0)
          · rw [q1] at HPi
            have HR := Lib.hid (Ms.any_go HQ.out (by rw [HPi]; rfl))
            clear HPi HQ
            go_wp2_with fail
            go_region
            · go_wp2_with fail
              (first | refine name_world ?_ | refine (show (∀ W, W = _ → Calls _ _ _ W _) → Calls _ _ _ _ _ from fun h => h _ rfl) ?_); intro W1 hW1
              have g1 : Gr w W1 := by rw [hW1]; exact gr_auto
              have gb1_wr : Gr wr W1 := by (try clear g1); rw [hW1]; exact gr_auto
              have k1_0 : W1.cell? ⟨wr.heap.size, 0, none⟩ = some (.int .i64 tx2) := by rw [hW1]; first | (simp [go_sem, *]; done) | (refine Gr.at ?_ (by assumption); exact gr_auto)
              have b1_0 : wr.heap.size < W1.heap.size := World.block_lt_of_cell? _ _ k1_0
              have k1_1 : W1.cell? ⟨wr.heap.size, 1, none⟩ = some (.int .i64 ty2) := by rw [hW1]; first | (simp [go_sem, *]; done) | (refine Gr.at ?_ (by assumption); exact gr_auto)
              have k1_2 : W1.cell? ⟨wr.heap.size + 1, 0, none⟩ = some (.int .i64 tx0) := by rw [hW1]; first | (simp [go_sem, *]; done) | (refine Gr.at ?_ (by assumption); exact gr_auto)
              have b1_2 : wr.heap.size + 1 < W1.heap.size := World.block_lt_of_cell? _ _ k1_2
              have k1_3 : W1.cell? ⟨wr.heap.size + 1, 1, none⟩ = some (.int .i64 ty0) := by rw [hW1]; first | (simp [go_sem, *]; done) | (refine Gr.at ?_ (by assumption); exact gr_auto)
              have k1_4 : W1.cell? ⟨w.heap.size + 1, 0, none⟩ = some (.int .i64 ux0) := by rw [hW1]; first | (simp [go_sem, *]; done) | (refine Gr.at ?_ (by assumption); exact gr_auto)
              have b1_4 : w.heap.size + 1 < W1.heap.size := World.block_lt_of_cell? _ _ k1_4
              have k1_5 : W1.cell? ⟨w.heap.size + 1, 1, none⟩ = some (.int .i64 uy0) := by rw [hW1]; first | (simp [go_sem, *]; done) | (refine Gr.at ?_ (by assumption); exact gr_auto)
              have k1_6 : W1.cell? ⟨w.heap.size + 1, 2, none⟩ = some (.int .i64 ux1) := by rw [hW1]; first | (simp [go_sem, *]; done) | (refine Gr.at ?_ (by assumption); exact gr_auto)
              have k1_7 : W1.cell? ⟨w.heap.size + 1, 3, none⟩ = some (.int .i64 uy1) := by rw [hW1]; first | (simp [go_sem, *]; done) | (refine Gr.at ?_ (by assumption); exact gr_auto)
              have k1_8 : W1.cell? ⟨w.heap.size + 1, 4, none⟩ = some (.int .i64 ux2) := by rw [hW1]; first | (simp [go_sem, *]; done) | (refine Gr.at ?_ (by assumption); exact gr_auto)
              have k1_9 : W1.cell? ⟨w.heap.size + 1, 5, none⟩ = some (.int .i64 uy2) := by rw [hW1]; first | (simp [go_sem, *]; done) | (refine Gr.at ?_ (by assumption); exact gr_auto)
              clear hW1
              refine (T0.out _).mono ?_
              rintro e w2 ⟨rfl, hb2⟩
              replace k1_0 := Gr.at hb2 k1_0; replace k1_1 := Gr.at hb2 k1_1; replace k1_2 := Gr.at hb2 k1_2; replace k1_3 := Gr.at hb2 k1_3; replace k1_4 := Gr.at hb2 k1_4; replace k1_5 := Gr.at hb2 k1_5; replace k1_6 := Gr.at hb2 k1_6; replace k1_7 := Gr.at hb2 k1_7; replace k1_8 := Gr.at hb2 k1_8; replace k1_9 := Gr.at hb2 k1_9
              go_wp2_with fail
              refine (T1.out _).mono ?_
              rintro e w3 ⟨rfl, hb3⟩
              go_wp2_with fail
              go_roundw
              case rel => exact ⟨3, by omega, by go_num, HR, hg.trans (Gr.trans (Gr.trans gb1_wr hb2) hb3)⟩
              case measure => simp [intOf]
            · go_wp2_with fail
              (first | refine name_world ?_ | refine (show (∀ W, W = _ → Calls _ _ _ W _) → Calls _ _ _ _ _ from fun h => h _ rfl) ?_); intro W1 hW1
              have g1 : Gr w W1 := by rw [hW1]; exact gr_auto
              have gb1_wr : Gr wr W1 := by (try clear g1); rw [hW1]; exact gr_auto
              have k1_0 : W1.cell? ⟨wr.heap.size + 1, 0, none⟩ = some (.int .i64 tx2) := by rw [hW1]; first | (simp [go_sem, *]; done) | (refine Gr.at ?_ (by assumption); exact gr_auto)
              have b1_0 : wr.heap.size + 1 < W1.heap.size := World.block_lt_of_cell? _ _ k1_0
              have k1_1 : W1.cell? ⟨wr.heap.size + 1, 1, none⟩ = some (.int .i64 ty2) := by rw [hW1]; first | (simp [go_sem, *]; done) | (refine Gr.at ?_ (by assumption); exact gr_auto)
              have k1_2 : W1.cell? ⟨wr.heap.size, 0, none⟩ = some (.int .i64 tx0) := by rw [hW1]; first | (simp [go_sem, *]; done) | (refine Gr.at ?_ (by assumption); exact gr_auto)
              have b1_2 : wr.heap.size < W1.heap.size := World.block_lt_of_cell? _ _ k1_2
              have k1_3 : W1.cell? ⟨wr.heap.size, 1, none⟩ = some (.int .i64 ty0) := by rw [hW1]; first | (simp [go_sem, *]; done) | (refine Gr.at ?_ (by assumption); exact gr_auto)
              have k1_4 : W1.cell? ⟨w.heap.size + 1, 0, none⟩ = some (.int .i64 ux0) := by rw [hW1]; first | (simp [go_sem, *]; done) | (refine Gr.at ?_ (by assumption); exact gr_auto)
              have b1_4 : w.heap.size + 1 < W1.heap.size := World.block_lt_of_cell? _ _ k1_4
              have k1_5 : W1.cell? ⟨w.heap.size + 1, 1, none⟩ = some (.int .i64 uy0) := by rw [hW1]; first | (simp [go_sem, *]; done) | (refine Gr.at ?_ (by assumption); exact gr_auto)
              have k1_6 : W1.cell? ⟨w.heap.size + 1, 2, none⟩ = some (.int .i64 ux1) := by rw [hW1]; first | (simp [go_sem, *]; done) | (refine Gr.at ?_ (by assumption); exact gr_auto)
              have k1_7 : W1.cell? ⟨w.heap.size + 1, 3, none⟩ = some (.int .i64 uy1) := by rw [hW1]; first | (simp [go_sem, *]; done) | (refine Gr.at ?_ (by assumption); exact gr_auto)
              have k1_8 : W1.cell? ⟨w.heap.size + 1, 4, none⟩ = some (.int .i64 ux2) := by rw [hW1]; first | (simp [go_sem, *]; done) | (refine Gr.at ?_ (by assumption); exact gr_auto)
              have k1_9 : W1.cell? ⟨w.heap.size + 1, 5, none⟩ = some (.int .i64 uy2) := by rw [hW1]; first | (simp [go_sem, *]; done) | (refine Gr.at ?_ (by assumption); exact gr_auto)
              clear hW1
              refine (T0.out _).mono ?_
              rintro e w2 ⟨rfl, hb2⟩
              replace k1_0 := Gr.at hb2 k1_0; replace k1_1 := Gr.at hb2 k1_1; replace k1_2 := Gr.at hb2 k1_2; replace k1_3 := Gr.at hb2 k1_3; replace k1_4 := Gr.at hb2 k1_4; replace k1_5 := Gr.at hb2 k1_5; replace k1_6 := Gr.at hb2 k1_6; replace k1_7 := Gr.at hb2 k1_7; replace k1_8 := Gr.at hb2 k1_8; replace k1_9 := Gr.at hb2 k1_9
              go_wp2_with fail
              refine (T1.out _).mono ?_
              rintro e w3 ⟨rfl, hb3⟩
              go_wp2_with fail
              go_roundw
              case rel => exact ⟨3, by omega, by go_num, HR, hg.trans (Gr.trans (Gr.trans gb1_wr hb2) hb3)⟩
              case measure => simp [intOf]
          · rw [q1] at HPi
            cases q2 : decide (v2 ≤ 0)
            · rw [q2] at HPi
              have HR := Lib.hid (Ms.any_go HQ.out (by rw [HPi]; rfl))
              clear HPi HQ
              go_wp2_with fail
              go_region
              · go_wp2_with fail
                (first | refine name_world ?_ | refine (show (∀ W, W = _ → Calls _ _ _ W _) → Calls _ _ _ _ _ from fun h => h _ rfl) ?_); intro W1 hW1
                have g1 : Gr w W1 := by rw [hW1]; exact gr_auto
                have gb1_wr : Gr wr W1 := by (try clear g1); rw [hW1]; exact gr_auto
                have k1_0 : W1.cell? ⟨wr.heap.size, 0, none⟩ = some (.int .i64 tx2) := by rw [hW1]; first | (simp [go_sem, *]; done) | (refine Gr.at ?_ (by assumption); exact gr_auto)
                have b1_0 : wr.heap.size < W1.heap.size := World.block_lt_of_cell? _ _ k1_0
                have k1_1 : W1.cell? ⟨wr.heap.size, 1, none⟩ = some (.int .i64 ty2) := by rw [hW1]; first | (simp [go_sem, *]; done) | (refine Gr.at ?_ (by assumption); exact gr_auto)
                have k1_2 : W1.cell? ⟨wr.heap.size + 1, 0, none⟩ = some (.int .i64 tx0) := by rw [hW1]; first | (simp [go_sem, *]; done) | (refine Gr.at ?_ (by assumption); exact gr_auto)
                have b1_2 : wr.heap.size + 1 < W1.heap.size := World.block_lt_of_cell? _ _ k1_2
                have k1_3 : W1.cell? ⟨wr.heap.size + 1, 1, none⟩ = some (.int .i64 ty0) := by rw [hW1]; first | (simp [go_sem, *]; done) | (refine Gr.at ?_ (by assumption); exact gr_auto)
                have k1_4 : W1.cell? ⟨w.heap.size + 1, 0, none⟩ = some (.int .i64 ux0) := by rw [hW1]; first | (simp [go_sem, *]; done) | (refine Gr.at ?_ (by assumption); exact gr_auto)
                have b1_4 : w.heap.size + 1 < W1.heap.size := World.block_lt_of_cell? _ _ k1_4
                have k1_5 : W1.cell? ⟨w.heap.size + 1, 1, none⟩ = some (.int .i64 uy0) := by rw [hW1]; first | (simp [go_sem, *]; done) | (refine Gr.at ?_ (by assumption); exact gr_auto)
                have k1_6 : W1.cell? ⟨w.heap.size + 1, 2, none⟩ = some (.int .i64 ux1) := by rw [hW1]; first | (simp [go_sem, *]; done) | (refine Gr.at ?_ (by assumption); exact gr_auto)
                have k1_7 : W1.cell? ⟨w.heap.size + 1, 3, none⟩ = some (.int .i64 uy1) := by rw [hW1]; first | (simp [go_sem, *]; done) | (refine Gr.at ?_ (by assumption); exact gr_auto)
                have k1_8 : W1.cell? ⟨w.heap.size + 1, 4, none⟩ = some (.int .i64 ux2) := by rw [hW1]; first | (simp [go_sem, *]; done) | (refine Gr.at ?_ (by assumption); exact gr_auto)
                have k1_9 : W1.cell? ⟨w.heap.size + 1, 5, none⟩ = some (.int .i64 uy2) := by rw [hW1]; first | (simp [go_sem, *]; done) | (refine Gr.at ?_ (by assumption); exact gr_auto)
                clear hW1
                refine (T0.out _).mono ?_
                rintro e w2 ⟨rfl, hb2⟩
                replace k1_0 := Gr.at hb2 k1_0; replace k1_1 := Gr.at hb2 k1_1; replace k1_2 := Gr.at hb2 k1_2; replace k1_3 := Gr.at hb2 k1_3; replace k1_4 := Gr.at hb2 k1_4; replace k1_5 := Gr.at hb2 k1_5; replace k1_6 := Gr.at hb2 k1_6; replace k1_7 := Gr.at hb2 k1_7; replace k1_8 := Gr.at hb2 k1_8; replace k1_9 := Gr.at hb2 k1_9
                go_wp2_with fail
                refine (T1.out _).mono ?_
                rintro e w3 ⟨rfl, hb3⟩
                replace k1_0 := Gr.at hb3 k1_0; replace k1_1 := Gr.at hb3 k1_1; replace k1_2 := Gr.at hb3 k1_2; replace k1_3 := Gr.at hb3 k1_3; replace k1_4 := Gr.at hb3 k1_4; replace k1_5 := Gr.at hb3 k1_5; replace k1_6 := Gr.at hb3 k1_6; replace k1_7 := Gr.at hb3 k1_7; replace k1_8 := Gr.at hb3 k1_8; replace k1_9 := Gr.at hb3 k1_9
                go_wp2_with fail
                refine (T2.out _).mono ?_
                rintro e w4 ⟨rfl, hb4⟩
                go_wp2_with fail
                go_roundw
                case rel => exact ⟨3, by omega, by go_num, HR, hg.trans (Gr.trans (Gr.trans (Gr.trans gb1_wr hb2) hb3) hb4)⟩
                case measure => simp [intOf]
              · go_wp2_with fail
                (first | refine name_world ?_ | refine (show (∀ W, W = _ → Calls _ _ _ W _) → Calls _ _ _ _ _ from fun h => h _ rfl) ?_); intro W1 hW1
                have g1 : Gr w W1 := by rw [hW1]; exact gr_auto
                have gb1_wr : Gr wr W1 := by (try clear g1); rw [hW1]; exact gr_auto
                have k1_0 : W1.cell? ⟨wr.heap.size + 1, 0, none⟩ = some (.int .i64 tx2) := by rw [hW1]; first | (simp [go_sem, *]; done) | (refine Gr.at ?_ (by assumption); exact gr_auto)
                have b1_0 : wr.heap.size + 1 < W1.heap.size := World.block_lt_of_cell? _ _ k1_0
                have k1_1 : W1.cell? ⟨wr.heap.size + 1, 1, none⟩ = some (.int .i64 ty2) := by rw [hW1]; first | (simp [go_sem, *]; done) | (refine Gr.at ?_ (by assumption); exact gr_auto)
                have k1_2 : W1.cell? ⟨wr.heap.size, 0, none⟩ = some (.int .i64 tx0) := by rw [hW1]; first | (simp [go_sem, *]; done) | (refine Gr.at ?_ (by assumption); exact gr_auto)
                have b1_2 : wr.heap.size < W1.heap.size := World.block_lt_of_cell? _ _ k1_2
                have k1_3 : W1.cell? ⟨wr.heap.size, 1, none⟩ = some (.int .i64 ty0) := by rw [hW1]; first | (simp [go_sem, *]; done) | (refine Gr.at ?_ (by assumption); exact gr_auto)
                have k1_4 : W1.cell? ⟨w.heap.size + 1, 0, none⟩ = some (.int .i64 ux0) := by rw [hW1]; first | (simp [go_sem, *]; done) | (refine Gr.at ?_ (by assumption); exact gr_auto)
                have b1_4 : w.heap.size + 1 < W1.heap.size := World.block_lt_of_cell? _ _ k1_4
                have k1_5 : W1.cell? ⟨w.heap.size + 1, 1, none⟩ = some (.int .i64 uy0) := by rw [hW1]; first | (simp [go_sem, *]; done) | (refine Gr.at ?_ (by assumption); exact gr_auto)
                have k1_6 : W1.cell? ⟨w.heap.size + 1, 2, none⟩ = some (.int .i64 ux1) := by rw [hW1]; first | (simp [go_sem, *]; done) | (refine Gr.at ?_ (by assumption); exact gr_auto)
                have k1_7 : W1.cell? ⟨w.heap.size + 1, 3, none⟩ = some (.int .i64 uy1) := by rw [hW1]; first | (simp [go_sem, *]; done) | (refine Gr.at ?_ (by assumption); exact gr_auto)
                have k1_8 : W1.cell? ⟨w.heap.size + 1, 4, none⟩ = some (.int .i64 ux2) := by rw [hW1]; first | (simp [go_sem, *]; done) | (refine Gr.at ?_ (by assumption); exact gr_auto)
                have k1_9 : W1.cell? ⟨w.heap.size + 1, 5, none⟩ = some (.int .i64 uy2) := by rw [hW1]; first | (simp [go_sem, *]; done) | (refine Gr.at ?_ (by assumption); exact gr_auto)
                clear hW1
                refine (T0.out _).mono ?_
                rintro e w2 ⟨rfl, hb2⟩
                replace k1_0 := Gr.at hb2 k1_0; replace k1_1 := Gr.at hb2 k1_1; replace k1_2 := Gr.at hb2 k1_2; replace k1_3 := Gr.at hb2 k1_3; replace k1_4 := Gr.at hb2 k1_4; replace k1_5 := Gr.at hb2 k1_5; replace k1_6 := Gr.at hb2 k1_6; replace k1_7 := Gr.at hb2 k1_7; replace k1_8 := Gr.at hb2 k1_8; replace k1_9 := Gr.at hb2 k1_9
                go_wp2_with fail
                refine (T1.out _).mono ?_
                rintro e w3 ⟨rfl, hb3⟩
                replace k1_0 := Gr.at hb3 k1_0; replace k1_1 := Gr.at hb3 k1_1; replace k1_2 := Gr.at hb3 k1_2; replace k1_3 := Gr.at hb3 k1_3; replace k1_4 := Gr.at hb3 k1_4; replace k1_5 := Gr.at hb3 k1_5; replace k1_6 := Gr.at hb3 k1_6; replace k1_7 := Gr.at hb3 k1_7; replace k1_8 := Gr.at hb3 k1_8; replace k1_9 := Gr.at hb3 k1_9
                go_wp2_with fail
                refine (T2.out _).mono ?_
                rintro e w4 ⟨rfl, hb4⟩
                go_wp2_with fail
                go_roundw
                case rel => exact ⟨3, by omega, by go_num, HR, hg.trans (Gr.trans (Gr.trans (Gr.trans gb1_wr hb2) hb3) hb4)⟩
                case measure => simp [intOf]
            · rw [q2] at HPi
              have HR := Lib.hid (Ms.any_hit (p := P) (i := 2) (n := 3) (by rw [HPi]; rfl) (by omega))
              clear HPi HQ
              go_wp2_with fail
              go_region
              · go_wp2_with fail
                (first | refine name_world ?_ | refine (show (∀ W, W = _ → Calls _ _ _ W _) → Calls _ _ _ _ _ from fun h => h _ rfl) ?_); intro W1 hW1
                have g1 : Gr w W1 := by rw [hW1]; exact gr_auto
                have gb1_wr : Gr wr W1 := by (try clear g1); rw [hW1]; exact gr_auto
                have k1_0 : W1.cell? ⟨wr.heap.size, 0, none⟩ = some (.int .i64 tx2) := by rw [hW1]; first | (simp [go_sem, *]; done) | (refine Gr.at ?_ (by assumption); exact gr_auto)
                have b1_0 : wr.heap.size < W1.heap.size := World.block_lt_of_cell? _ _ k1_0
                have k1_1 : W1.cell? ⟨wr.heap.size, 1, none⟩ = some (.int .i64 ty2) := by rw [hW1]; first | (simp [go_sem, *]; done) | (refine Gr.at ?_ (by assumption); exact gr_auto)
                have k1_2 : W1.cell? ⟨wr.heap.size + 1, 0, none⟩ = some (.int .i64 tx0) := by rw [hW1]; first | (simp [go_sem, *]; done) | (refine Gr.at ?_ (by assumption); exact gr_auto)
                have b1_2 : wr.heap.size + 1 < W1.heap.size := World.block_lt_of_cell? _ _ k1_2
                have k1_3 : W1.cell? ⟨wr.heap.size + 1, 1, none⟩ = some (.int .i64 ty0) := by rw [hW1]; first | (simp [go_sem, *]; done) | (refine Gr.at ?_ (by assumption); exact gr_auto)
                have k1_4 : W1.cell? ⟨w.heap.size + 1, 0, none⟩ = some (.int .i64 ux0) := by rw [hW1]; first | (simp [go_sem, *]; done) | (refine Gr.at ?_ (by assumption); exact gr_auto)
                have b1_4 : w.heap.size + 1 < W1.heap.size := World.block_lt_of_cell? _ _ k1_4
                have k1_5 : W1.cell? ⟨w.heap.size + 1, 1, none⟩ = some (.int .i64 uy0) := by rw [hW1]; first | (simp [go_sem, *]; done) | (refine Gr.at ?_ (by assumption); exact gr_auto)
                have k1_6 : W1.cell? ⟨w.heap.size + 1, 2, none⟩ = some (.int .i64 ux1) := by rw [hW1]; first | (simp [go_sem, *]; done) | (refine Gr.at ?_ (by assumption); exact gr_auto)
                have k1_7 : W1.cell? ⟨w.heap.size + 1, 3, none⟩ = some (.int .i64 uy1) := by rw [hW1]; first | (simp [go_sem, *]; done) | (refine Gr.at ?_ (by assumption); exact gr_auto)
                have k1_8 : W1.cell? ⟨w.heap.size + 1, 4, none⟩ = some (.int .i64 ux2) := by rw [hW1]; first | (simp [go_sem, *]; done) | (refine Gr.at ?_ (by assumption); exact gr_auto)
                have k1_9 : W1.cell? ⟨w.heap.size + 1, 5, none⟩ = some (.int .i64 uy2) := by rw [hW1]; first | (simp [go_sem, *]; done) | (refine Gr.at ?_ (by assumption); exact gr_auto)
                clear hW1
                refine (T0.out _).mono ?_
                rintro e w2 ⟨rfl, hb2⟩
                replace k1_0 := Gr.at hb2 k1_0; replace k1_1 := Gr.at hb2 k1_1; replace k1_2 := Gr.at hb2 k1_2; replace k1_3 := Gr.at hb2 k1_3; replace k1_4 := Gr.at hb2 k1_4; replace k1_5 := Gr.at hb2 k1_5; replace k1_6 := Gr.at hb2 k1_6; replace k1_7 := Gr.at hb2 k1_7; replace k1_8 := Gr.at hb2 k1_8; replace k1_9 := Gr.at hb2 k1_9
                go_wp2_with fail
                refine (T1.out _).mono ?_
                rintro e w3 ⟨rfl, hb3⟩
                replace k1_0 := Gr.at hb3 k1_0; replace k1_1 := Gr.at hb3 k1_1; replace k1_2 := Gr.at hb3 k1_2; replace k1_3 := Gr.at hb3 k1_3; replace k1_4 := Gr.at hb3 k1_4; replace k1_5 := Gr.at hb3 k1_5; replace k1_6 := Gr.at hb3 k1_6; replace k1_7 := Gr.at hb3 k1_7; replace k1_8 := Gr.at hb3 k1_8; replace k1_9 := Gr.at hb3 k1_9
                go_wp2_with fail
                refine (T2.out _).mono ?_
                rintro e w4 ⟨rfl, hb4⟩
                go_wp2_with fail
                go_ret
                exact ⟨by rw [HR.out]; rfl, gr.trans (Gr.trans (Gr.trans (Gr.trans gb1_wr hb2) hb3) hb4)⟩
              · go_wp2_with fail
                (first | refine name_world ?_ | refine (show (∀ W, W = _ → Calls _ _ _ W _) → Calls _ _ _ _ _ from fun h => h _ rfl) ?_); intro W1 hW1
                have g1 : Gr w W1 := by rw [hW1]; exact gr_auto
                have gb1_wr : Gr wr W1 := by (try clear g1); rw [hW1]; exact gr_auto
                have k1_0 : W1.cell? ⟨wr.heap.size + 1, 0, none⟩ = some (.int .i64 tx2) := by rw [hW1]; first | (simp [go_sem, *]; done) | (refine Gr.at ?_ (by assumption); exact gr_auto)
                have b1_0 : wr.heap.size + 1 < W1.heap.size := World.block_lt_of_cell? _ _ k1_0
                have k1_1 : W1.cell? ⟨wr.heap.size + 1, 1, none⟩ = some (.int .i64 ty2) := by rw [hW1]; first | (simp [go_sem, *]; done) | (refine Gr.at ?_ (by assumption); exact gr_auto)
                have k1_2 : W1.cell? ⟨wr.heap.size, 0, none⟩ = some (.int .i64 tx0) := by rw [hW1]; first | (simp [go_sem, *]; done) | (refine Gr.at ?_ (by assumption); exact gr_auto)
                have b1_2 : wr.heap.size < W1.heap.size := World.block_lt_of_cell? _ _ k1_2
                have k1_3 : W1.cell? ⟨wr.heap.size, 1, none⟩ = some (.int .i64 ty0) := by rw [hW1]; first | (simp [go_sem, *]; done) | (refine Gr.at ?_ (by assumption); exact gr_auto)
                have k1_4 : W1.cell? ⟨w.heap.size + 1, 0, none⟩ = some (.int .i64 ux0) := by rw [hW1]; first | (simp [go_sem, *]; done) | (refine Gr.at ?_ (by assumption); exact gr_auto)
                have b1_4 : w.heap.size + 1 < W1.heap.size := World.block_lt_of_cell? _ _ k1_4
                have k1_5 : W1.cell? ⟨w.heap.size + 1, 1, none⟩ = some (.int .i64 uy0) := by rw [hW1]; first | (simp [go_sem, *]; done) | (refine Gr.at ?_ (by assumption); exact gr_auto)
                have k1_6 : W1.cell? ⟨w.heap.size + 1, 2, none⟩ = some (.int .i64 ux1) := by rw [hW1]; first | (simp [go_sem, *]; done) | (refine Gr.at ?_ (by assumption); exact gr_auto)
                have k1_7 : W1.cell? ⟨w.heap.size + 1, 3, none⟩ = some (.int .i64 uy1) := by rw [hW1]; first | (simp [go_sem, *]; done) | (refine Gr.at ?_ (by assumption); exact gr_auto)
                have k1_8 : W1.cell? ⟨w.heap.size + 1, 4, none⟩ = some (.int .i64 ux2) := by rw [hW1]; first | (simp [go_sem, *]; done) | (refine Gr.at ?_ (by assumption); exact gr_auto)
                have k1_9 : W1.cell? ⟨w.heap.size + 1, 5, none⟩ = some (.int .i64 uy2) := by rw [hW1]; first | (simp [go_sem, *]; done) | (refine Gr.at ?_ (by assumption); exact gr_auto)
                clear hW1
                refine (T0.out _).mono ?_
                rintro e w2 ⟨rfl, hb2⟩
                replace k1_0 := Gr.at hb2 k1_0; replace k1_1 := Gr.at hb2 k1_1; replace k1_2 := Gr.at hb2 k1_2; replace k1_3 := Gr.at hb2 k1_3; replace k1_4 := Gr.at hb2 k1_4; replace k1_5 := Gr.at hb2 k1_5; replace k1_6 := Gr.at hb2 k1_6; replace k1_7 := Gr.at hb2 k1_7; replace k1_8 := Gr.at hb2 k1_8; replace k1_9 := Gr.at hb2 k1_9
                go_wp2_with fail
                refine (T1.out _).mono ?_
                rintro e w3 ⟨rfl, hb3⟩
                replace k1_0 := Gr.at hb3 k1_0; replace k1_1 := Gr.at hb3 k1_1; replace k1_2 := Gr.at hb3 k1_2; replace k1_3 := Gr.at hb3 k1_3; replace k1_4 := Gr.at hb3 k1_4; replace k1_5 := Gr.at hb3 k1_5; replace k1_6 := Gr.at hb3 k1_6; replace k1_7 := Gr.at hb3 k1_7; replace k1_8 := Gr.at hb3 k1_8; replace k1_9 := Gr.at hb3 k1_9
                go_wp2_with fail
                refine (T2.out _).mono ?_
                rintro e w4 ⟨rfl, hb4⟩
                go_wp2_with fail
                go_ret
                exact ⟨by rw [HR.out]; rfl, gr.trans (Gr.trans (Gr.trans (Gr.trans gb1_wr hb2) hb3) hb4)⟩
    · obtain rfl : i = 3 := by omega
      have HR := Lib.hid HQ.out
      clear HQ HL
      go_wp2_with fail
      go_ret
      exact ⟨by rw [HR.out]; rfl, gr⟩
end Go.Proofs.YtajhhplgcegodaaGreatDoor
