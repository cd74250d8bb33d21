/-
  Tables: table.piece, table.Floor. (Printed by mkblb.py.)
-/
import Derived.Test.YtllkiadedaghoaaGreatCb04

set_option linter.unusedVariables false
set_option linter.unusedSimpArgs false
namespace Go.Proofs.YtllkiadedaghoaaGreat
open Go.RowKit
attribute [local go_sem ↓] Go.wp_at_zero Go.wp_at_succ
theorem wrap_in (x : Int) (h : -9223372036854775808 ≤ x ∧ x ≤ 9223372036854775807) : IntKind.i64.wrap x = x := by rw [IntKind.wrap_i64]; omega
def RetPc (v : Int) (w : World) (e : Ending) (w' : World) : Prop := ∃ r d, e = .returned (.tuple #[.int .i64 v, .int .i64 r, .int .i64 d]) ∧ Gr w w'
set_option maxRecDepth 100000 in
set_option maxHeartbeats 4000000 in
theorem piece_hit (b o n c : Nat) (x : Int) (k : Nat) (w : World) (v : Int) (hn : n ≤ 100) (hk : k < n) (hc : w.cell? ⟨b, o + k * 2 + 1, none⟩ = some (.int .i64 v)) (HB : Hid (∀ W, Gr w W → Calls Tryz.prog 176 #[.slice (some ⟨b, o, none⟩) n c, .int .i64 x, .func (.func 177) #[] #[]] W fun e w' => e = .returned (.tuple #[.int .i64 (k : Int), .bool true]) ∧ Gr W w')) : Calls Tryz.prog 161 #[.slice (some ⟨b, o, none⟩) n c, .int .i64 x] w (RetPc v w) := by
  have ib0 : (0 : Int) ≤ (k : Int) := by omega
  have ib1 : (k : Int) < (n : Int) := by omega
  go_enter Tryz.func161, Tryz.ntmps161
  go_wp2_with fail
  refine (HB.out _ gr_auto).mono ?_
  rintro e w1 ⟨rfl, hb⟩
  have g1 : Gr w w1 := gr_auto
  clear hb HB
  replace hc := Gr.at g1 hc
  go_wp2_with fail
  go_ret3
  exact ⟨_, _, rfl, g1⟩
set_option maxRecDepth 100000 in
set_option maxHeartbeats 4000000 in
theorem piece_low (b o n c : Nat) (x : Int) (w : World) (v : Int) (hn : n ≤ 100) (hn0 : 0 < n) (hc : w.cell? ⟨b, o + 1, none⟩ = some (.int .i64 v)) (HB : Hid (∀ W, Gr w W → Calls Tryz.prog 176 #[.slice (some ⟨b, o, none⟩) n c, .int .i64 x, .func (.func 177) #[] #[]] W fun e w' => e = .returned (.tuple #[.int .i64 0, .bool false]) ∧ Gr W w')) : Calls Tryz.prog 161 #[.slice (some ⟨b, o, none⟩) n c, .int .i64 x] w (RetPc v w) := by
  have ib1 : (0 : Int) < (n : Int) := by omega
  have hc0 : w.cell? ⟨b, o + 0 * 2 + 1, none⟩ = some (.int .i64 v) := by rw [Nat.zero_mul, Nat.add_zero]; exact hc
  go_enter Tryz.func161, Tryz.ntmps161
  go_wp2_with fail
  refine (HB.out _ gr_auto).mono ?_
  rintro e w1 ⟨rfl, hb⟩
  have g1 : Gr w w1 := gr_auto
  clear hb HB
  replace hc := Gr.at g1 hc; replace hc0 := Gr.at g1 hc0
  go_wp2_with fail
  go_ret3
  exact ⟨_, _, rfl, g1⟩
set_option maxRecDepth 100000 in
set_option maxHeartbeats 4000000 in
theorem piece_high (b o n c : Nat) (x : Int) (k : Nat) (w : World) (v : Int) (hn : n ≤ 100) (hk : k + 1 = n) (hc : w.cell? ⟨b, o + k * 2 + 1, none⟩ = some (.int .i64 v)) (HB : Hid (∀ W, Gr w W → Calls Tryz.prog 176 #[.slice (some ⟨b, o, none⟩) n c, .int .i64 x, .func (.func 177) #[] #[]] W fun e w' => e = .returned (.tuple #[.int .i64 (n : Int), .bool false]) ∧ Gr W w')) : Calls Tryz.prog 161 #[.slice (some ⟨b, o, none⟩) n c, .int .i64 x] w (RetPc v w) := by
  have ib0 : (0 : Int) ≤ (k : Int) := by omega
  have ib1 : (k : Int) < (n : Int) := by omega
  have t0 : ((n : Int) == 0) = false := beq_eq_false_iff_ne.2 (by omega)
  have t1 : ¬ (n : Int) = 0 := by omega
  subst hk
  go_enter Tryz.func161, Tryz.ntmps161
  go_wp2_with fail
  refine (HB.out _ gr_auto).mono ?_
  rintro e w1 ⟨rfl, hb⟩
  have g1 : Gr w w1 := gr_auto
  clear hb HB
  replace hc := Gr.at g1 hc
  go_wp2_with fail
  go_ret3
  exact ⟨_, _, rfl, g1⟩
set_option maxRecDepth 100000 in
set_option maxHeartbeats 4000000 in
theorem piece_mid (b o n c : Nat) (x : Int) (k : Nat) (w : World) (ax ay bx b2 q : Int) (hn : n ≤ 100) (hk : k + 1 < n) (c0 : w.cell? ⟨b, o + k * 2, none⟩ = some (.int .i64 ax)) (c1 : w.cell? ⟨b, o + k * 2 + 1, none⟩ = some (.int .i64 ay)) (c2 : w.cell? ⟨b, o + (k + 1) * 2, none⟩ = some (.int .i64 bx)) (c3 : w.cell? ⟨b, o + (k + 1) * 2 + 1, none⟩ = some (.int .i64 b2))
    (hax : -1125899906842624 ≤ ax ∧ ax ≤ 1125899906842624) (hay : -1125899906842624 ≤ ay ∧ ay ≤ 1125899906842624) (hbx : -1125899906842624 ≤ bx ∧ bx ≤ 1125899906842624) (hb2 : -1125899906842624 ≤ b2 ∧ b2 ≤ 1125899906842624) (hx : ax < x ∧ x < bx) (hy : ay ≤ b2) (hq : (b2 - ay) * (x - ax) / (bx - ax) = q) (HB : Hid (∀ W, Gr w W → Calls Tryz.prog 176 #[.slice (some ⟨b, o, none⟩) n c, .int .i64 x, .func (.func 177) #[] #[]] W fun e w' => e = .returned (.tuple #[.int .i64 ((k + 1 : Nat) : Int), .bool false]) ∧ Gr W w')) : Calls Tryz.prog 161 #[.slice (some ⟨b, o, none⟩) n c, .int .i64 x] w (RetPc (ay + q) w) := by
  have hql := Ba.quot_le (u := b2 - ay) (a := x - ax) (d := bx - ax) (by omega) (by omega) (by omega) (by omega)
  rw [hq] at hql
  have u0 : Ba.i64 (b2 - ay) := by unfold Ba.i64; omega
  have a0 : Ba.i64 (x - ax) := by unfold Ba.i64; omega
  have d0 : Ba.i64 (bx - ax) := by unfold Ba.i64; omega
  have q0 : Ba.i64 q := by unfold Ba.i64; omega
  have HS := Lib.hid (fun W => scale_ex (b2 - ay) (x - ax) (bx - ax) q W u0 a0 (by omega) (by omega) hq (by omega) (by omega))
  have HP1 := Lib.hid (fun W => prod_ex (b2 - ay) (x - ax) W u0 a0)
  have HP2 := Lib.hid (fun W => prod_ex q (bx - ax) W q0 d0)
  have HSu := Lib.hid (fun h l k m W hv hv2 => subw_ex h l k m W hv hv2)
  have HIn := Lib.hid (fun h l W hv => intw_ex h l W hv)
  have t0 : ((k : Int) + 1 == 0) = false := beq_eq_false_iff_ne.2 (by omega)
  have t1 : ¬ (k : Int) + 1 = 0 := by omega
  have t2 : ((k : Int) + 1 == (n : Int)) = false := beq_eq_false_iff_ne.2 (by omega)
  have t3 : ¬ (k : Int) + 1 = (n : Int) := by omega
  have ib0 : (0 : Int) ≤ (k : Int) := by omega
  have ib1 : (k : Int) < (n : Int) := by omega
  have ib2 : (0 : Int) ≤ (k : Int) + 1 := by omega
  have ib3 : (k : Int) + 1 < (n : Int) := by omega
  have ib4 : k < n := by omega
  have hw0 : IntKind.i64.wrap (k : Int) = (k : Int) := wrap_in _ (by omega)
  have hw1 : IntKind.i64.wrap ((k : Int) + 1 - 1) = (k : Int) := by rw [Int.add_sub_cancel]; exact hw0
  clear u0 a0 d0 q0 hq
  go_enter Tryz.func161, Tryz.ntmps161
  go_wp2_with fail
  refine (HB.out _ gr_auto).mono ?_
  rintro e w1 ⟨rfl, hb⟩
  have g1 : Gr w w1 := gr_auto
  clear hb HB
  replace c0 := Gr.at g1 c0; replace c1 := Gr.at g1 c1; replace c2 := Gr.at g1 c2; replace c3 := Gr.at g1 c3
  have bl := World.block_lt_of_cell? _ _ c0
  simp only [] at bl
  go_upto_region 6 with fail
  (first | refine name_world ?_ | refine (show (∀ W, W = _ → Calls _ _ _ W _) → Calls _ _ _ _ _ from fun h => h _ rfl) ?_); intro W2 hW2
  have g2 : Gr w W2 := by rw [hW2]; exact gr_auto
  have k2_0 : W2.cell? ⟨b, o + k * 2, none⟩ = some (.int .i64 ax) := by rw [hW2]; first | (simp [go_sem, *]; done) | (refine Gr.at ?_ (by assumption); exact gr_auto)
  have b2_0 : b < W2.heap.size := World.block_lt_of_cell? _ _ k2_0
  have k2_1 : W2.cell? ⟨b, o + k * 2 + 1, none⟩ = some (.int .i64 ay) := by rw [hW2]; first | (simp [go_sem, *]; done) | (refine Gr.at ?_ (by assumption); exact gr_auto)
  have k2_2 : W2.cell? ⟨b, o + (k + 1) * 2, none⟩ = some (.int .i64 bx) := by rw [hW2]; first | (simp [go_sem, *]; done) | (refine Gr.at ?_ (by assumption); exact gr_auto)
  have k2_3 : W2.cell? ⟨b, o + (k + 1) * 2 + 1, none⟩ = some (.int .i64 b2) := by rw [hW2]; first | (simp [go_sem, *]; done) | (refine Gr.at ?_ (by assumption); exact gr_auto)
  clear hW2
  have s2_0 : ∀ w', Gr W2 w' → w'.cell? ⟨b, o + k * 2, none⟩ = some (.int .i64 ax) := fun w' hgW => Gr.at hgW k2_0
  have s2_1 : ∀ w', Gr W2 w' → w'.cell? ⟨b, o + k * 2 + 1, none⟩ = some (.int .i64 ay) := fun w' hgW => Gr.at hgW k2_1
  have s2_2 : ∀ w', Gr W2 w' → w'.cell? ⟨b, o + (k + 1) * 2, none⟩ = some (.int .i64 bx) := fun w' hgW => Gr.at hgW k2_2
  have s2_3 : ∀ w', Gr W2 w' → w'.cell? ⟨b, o + (k + 1) * 2 + 1, none⟩ = some (.int .i64 b2) := fun w' hgW => Gr.at hgW k2_3
  first | (go_region_held3 (fun w' => Gr W2 w') (exact gr_auto) (skip)) | fail
  · go_upto_region 7 with fail
    refine name_world ?_
    intro W3 hW3
    have g3 : Gr w W3 := by rw [hW3]; exact gr_auto
    have pa0 : W3.cell? ⟨W2.heap.size, 0, none⟩ = some (.int .i64 ax) := by rw [hW3]; simp [go_sem]
    have pa1 : W3.cell? ⟨W2.heap.size, 1, none⟩ = some (.int .i64 ay) := by rw [hW3]; simp [go_sem]
    have pb0 : W3.cell? ⟨W2.heap.size + 1, 0, none⟩ = some (.int .i64 bx) := by rw [hW3]; simp [go_sem]
    have pb1 : W3.cell? ⟨W2.heap.size + 1, 1, none⟩ = some (.int .i64 b2) := by rw [hW3]; simp [go_sem]
    obtain ⟨B, hB⟩ : ∃ B, W2.heap.size = B := ⟨_, rfl⟩
    obtain ⟨B', hB'⟩ : ∃ B', W2.heap.size + 1 = B' := ⟨_, rfl⟩
    rw [hB] at pa0 pa1; rw [hB'] at pb0 pb1
    rw [hB', hB]
    clear hW3 hB hB' k2_0 k2_1 k2_2 k2_3 s2_0 s2_1 s2_2 s2_3
    (first | refine name_world ?_ | refine (show (∀ W, W = _ → Calls _ _ _ W _) → Calls _ _ _ _ _ from fun h => h _ rfl) ?_); intro W4 hW4
    have g4 : Gr w W4 := by rw [hW4]; exact gr_auto
    have k4_0 : W4.cell? ⟨B, 0, none⟩ = some (.int .i64 ax) := by rw [hW4]; first | (simp [go_sem, *]; done) | (refine Gr.at ?_ (by assumption); exact gr_auto)
    have b4_0 : B < W4.heap.size := World.block_lt_of_cell? _ _ k4_0
    have k4_1 : W4.cell? ⟨B, 1, none⟩ = some (.int .i64 ay) := by rw [hW4]; first | (simp [go_sem, *]; done) | (refine Gr.at ?_ (by assumption); exact gr_auto)
    have k4_2 : W4.cell? ⟨B', 0, none⟩ = some (.int .i64 bx) := by rw [hW4]; first | (simp [go_sem, *]; done) | (refine Gr.at ?_ (by assumption); exact gr_auto)
    have b4_2 : B' < W4.heap.size := World.block_lt_of_cell? _ _ k4_2
    have k4_3 : W4.cell? ⟨B', 1, none⟩ = some (.int .i64 b2) := by rw [hW4]; first | (simp [go_sem, *]; done) | (refine Gr.at ?_ (by assumption); exact gr_auto)
    clear hW4
    have s4_0 : ∀ gw : GW W4, gw.1.cell? ⟨B, 0, none⟩ = some (.int .i64 ax) := fun gw => Gr.at gw.2 k4_0
    have s4_1 : ∀ gw : GW W4, gw.1.cell? ⟨B, 1, none⟩ = some (.int .i64 ay) := fun gw => Gr.at gw.2 k4_1
    have s4_2 : ∀ gw : GW W4, gw.1.cell? ⟨B', 0, none⟩ = some (.int .i64 bx) := fun gw => Gr.at gw.2 k4_2
    have s4_3 : ∀ gw : GW W4, gw.1.cell? ⟨B', 1, none⟩ = some (.int .i64 b2) := fun gw => Gr.at gw.2 k4_3
    have hnn := Nat.le_refl 0
    refine wp_region_gr (by kernel_rfl) (by kernel_rfl) ?_
    repeat (go_big_quiet_step (skip))
    refine wpQuiet_nil ?_
    intro w5 hb5
    clear s4_0 s4_1 s4_2 s4_3
    have g5 : Gr w w5 := g4.trans hb5
    have k4_0 := Gr.at hb5 k4_0
    have k4_1 := Gr.at hb5 k4_1
    have k4_2 := Gr.at hb5 k4_2
    have k4_3 := Gr.at hb5 k4_3
    go_wp2_with fail
    refine (HS.out _).mono ?_
    rintro e w6 ⟨hi, kk, rfl, hb⟩
    have g6 := g5.trans hb
    have pa1 := Gr.at hb k4_1
    clear hb HS k4_0 k4_1 k4_2 k4_3
    go_wp2_with fail
    refine (HP1.out _).mono ?_
    rintro e w7 ⟨h7, l7, k7, rfl, hv7, hb⟩
    have g7 := g6.trans hb
    replace pa1 := Gr.at hb pa1
    have bl7 := World.block_lt_of_cell? _ _ pa1
    simp only [] at bl7
    clear hb HP1 g6
    go_wp2_with fail
    refine (HP2.out _).mono ?_
    rintro e w8 ⟨h8, l8, k8, rfl, hv8, hb⟩
    have g8 : Gr w w8 := Gr.trans gr_auto hb
    have pa1 := Gr.at ((Gr.alloc (Gr.refl _) _).trans hb) pa1
    have pc0 := Gr.at hb (show World.cell? _ ⟨w7.heap.size, 0, none⟩ = some (.int .i64 h7) from by simp [go_sem])
    have pc1 := Gr.at hb (show World.cell? _ ⟨w7.heap.size, 1, none⟩ = some (.int .i64 l7) from by simp [go_sem])
    have z8 := Gr.size hb
    have bl8 := World.block_lt_of_cell? _ _ pa1
    have bl8b := World.block_lt_of_cell? _ _ pc0
    simp only [] at bl8 bl8b
    have HSx := Lib.hid (fun W => HSu.out h7 l7 h8 l8 W hv7 hv8)
    clear hb HP2 HSu z8
    go_wp2_with fail
    refine (HSx.out _).mono ?_
    rintro e w9 ⟨h9, l9, k9, rfl, hv9, hb⟩
    have g9 : Gr w w9 := Gr.trans gr_auto hb
    have pa1 := Gr.at ((Gr.alloc (Gr.refl _) _).trans hb) pa1
    have bl9 := World.block_lt_of_cell? _ _ pa1
    simp only [] at bl9
    have HIx := Lib.hid (fun W => HIn.out h9 l9 W hv9)
    clear hb HSx HIn
    go_wp2_with fail
    refine (HIx.out _).mono ?_
    rintro e w10 ⟨q10, k10, rfl, hb⟩
    have g10 : Gr w w10 := Gr.trans gr_auto hb
    have pa1 := Gr.at ((Gr.alloc (Gr.refl _) _).trans hb) pa1
    clear hb HIx
    go_wp2_with fail
    go_ret3
    exact ⟨_, _, rfl, g10⟩
  · go_upto_region 7 with fail
    refine name_world ?_
    intro W3 hW3
    have g3 : Gr w W3 := by rw [hW3]; exact gr_auto
    have pa0 : W3.cell? ⟨W2.heap.size + 1, 0, none⟩ = some (.int .i64 ax) := by rw [hW3]; simp [go_sem]
    have pa1 : W3.cell? ⟨W2.heap.size + 1, 1, none⟩ = some (.int .i64 ay) := by rw [hW3]; simp [go_sem]
    have pb0 : W3.cell? ⟨W2.heap.size, 0, none⟩ = some (.int .i64 bx) := by rw [hW3]; simp [go_sem]
    have pb1 : W3.cell? ⟨W2.heap.size, 1, none⟩ = some (.int .i64 b2) := by rw [hW3]; simp [go_sem]
    obtain ⟨B, hB⟩ : ∃ B, W2.heap.size + 1 = B := ⟨_, rfl⟩
    obtain ⟨B', hB'⟩ : ∃ B', W2.heap.size = B' := ⟨_, rfl⟩
    rw [hB] at pa0 pa1; rw [hB'] at pb0 pb1
    rw [hB, hB']
    clear hW3 hB hB' k2_0 k2_1 k2_2 k2_3 s2_0 s2_1 s2_2 s2_3
    -- @@d
    (first | refine name_world ?_ | refine (show (∀ W, W = _ → Calls _ _ _ W _) → Calls _ _ _ _ _ from fun h => h _ rfl) ?_); intro W4 hW4
    have g4 : Gr w W4 := by rw [hW4]; exact gr_auto
    have k4_0 : W4.cell? ⟨B, 0, none⟩ = some (.int .i64 ax) := by rw [hW4]; first | (simp [go_sem, *]; done) | (refine Gr.at ?_ (by assumption); exact gr_auto)
    have b4_0 : B < W4.heap.size := World.block_lt_of_cell? _ _ k4_0
    have k4_1 : W4.cell? ⟨B, 1, none⟩ = some (.int .i64 ay) := by rw [hW4]; first | (simp [go_sem, *]; done) | (refine Gr.at ?_ (by assumption); exact gr_auto)
    have k4_2 : W4.cell? ⟨B', 0, none⟩ = some (.int .i64 bx) := by rw [hW4]; first | (simp [go_sem, *]; done) | (refine Gr.at ?_ (by assumption); exact gr_auto)
    have b4_2 : B' < W4.heap.size := World.block_lt_of_cell? _ _ k4_2
    have k4_3 : W4.cell? ⟨B', 1, none⟩ = some (.int .i64 b2) := by rw [hW4]; first | (simp [go_sem, *]; done) | (refine Gr.at ?_ (by assumption); exact gr_auto)
    clear hW4
    have s4_0 : ∀ gw : GW W4, gw.1.cell? ⟨B, 0, none⟩ = some (.int .i64 ax) := fun gw => Gr.at gw.2 k4_0
    have s4_1 : ∀ gw : GW W4, gw.1.cell? ⟨B, 1, none⟩ = some (.int .i64 ay) := fun gw => Gr.at gw.2 k4_1
    have s4_2 : ∀ gw : GW W4, gw.1.cell? ⟨B', 0, none⟩ = some (.int .i64 bx) := fun gw => Gr.at gw.2 k4_2
    have s4_3 : ∀ gw : GW W4, gw.1.cell? ⟨B', 1, none⟩ = some (.int .i64 b2) := fun gw => Gr.at gw.2 k4_3
    have hnn := Nat.le_refl 0
    refine wp_region_gr (by kernel_rfl) (by kernel_rfl) ?_
    repeat (go_big_quiet_step (skip))
    refine wpQuiet_nil ?_
    intro w5 hb5
    clear s4_0 s4_1 s4_2 s4_3
    have g5 : Gr w w5 := g4.trans hb5
    have k4_0 := Gr.at hb5 k4_0
    have k4_1 := Gr.at hb5 k4_1
    have k4_2 := Gr.at hb5 k4_2
    have k4_3 := Gr.at hb5 k4_3
    -- @@e
    go_wp2_with fail
    -- @@f
    refine (HS.out _).mono ?_
    rintro e w6 ⟨hi, kk, rfl, hb⟩
    have g6 := g5.trans hb
    have pa1 := Gr.at hb k4_1
    clear hb HS k4_0 k4_1 k4_2 k4_3
    go_wp2_with fail
    -- @@g
    refine (HP1.out _).mono ?_
    rintro e w7 ⟨h7, l7, k7, rfl, hv7, hb⟩
    have g7 := g6.trans hb
    replace pa1 := Gr.at hb pa1
    have bl7 := World.block_lt_of_cell? _ _ pa1
    simp only [] at bl7
    clear hb HP1 g6
    go_wp2_with fail
    -- @@h
    refine (HP2.out _).mono ?_
    rintro e w8 ⟨h8, l8, k8, rfl, hv8, hb⟩
    have g8 : Gr w w8 := Gr.trans gr_auto hb
    have pa1 := Gr.at ((Gr.alloc (Gr.refl _) _).trans hb) pa1
    have pc0 := Gr.at hb (show World.cell? _ ⟨w7.heap.size, 0, none⟩ = some (.int .i64 h7) from by simp [go_sem])
    have pc1 := Gr.at hb (show World.cell? _ ⟨w7.heap.size, 1, none⟩ = some (.int .i64 l7) from by simp [go_sem])
    have z8 := Gr.size hb
    have bl8 := World.block_lt_of_cell? _ _ pa1
    have bl8b := World.block_lt_of_cell? _ _ pc0
    simp only [] at bl8 bl8b
    have HSx := Lib.hid (fun W => HSu.out h7 l7 h8 l8 W hv7 hv8)
    clear hb HP2 HSu z8
    go_wp2_with fail
    -- @@i
    refine (HSx.out _).mono ?_
    rintro e w9 ⟨h9, l9, k9, rfl, hv9, hb⟩
    have g9 : Gr w w9 := Gr.trans gr_auto hb
    have pa1 := Gr.at ((Gr.alloc (Gr.refl _) _).trans hb) pa1
    have bl9 := World.block_lt_of_cell? _ _ pa1
    simp only [] at bl9
    have HIx := Lib.hid (fun W => HIn.out h9 l9 W hv9)
    clear hb HSx HIn
    go_wp2_with fail
    -- @@j
    refine (HIx.out _).mono ?_
    rintro e w10 ⟨q10, k10, rfl, hb⟩
    have g10 : Gr w w10 := Gr.trans gr_auto hb
    have pa1 := Gr.at ((Gr.alloc (Gr.refl _) _).trans hb) pa1
    clear hb HIx
    go_wp2_with fail
    go_ret3
    exact ⟨_, _, rfl, g10⟩
theorem Ba.kns_split {X Y : Nat → Int} (x : Int) : ∀ {n : Nat}, Ba.kns X Y n = true → ∃ k, k ≤ n ∧ (∀ i, i < k → X i < x) ∧ (∀ i, k ≤ i → i < n → x ≤ X i)
  | 0, _ => ⟨0, Nat.le_refl _, fun i h => absurd h (Nat.not_lt_zero _), fun i _ h => absurd h (Nat.not_lt_zero _)⟩
  | n + 1, h => by
    have h' := h
    rw [Ba.kns, Bool.and_eq_true] at h
    obtain ⟨k, hk, h1, h2⟩ := Ba.kns_split x h.1
    by_cases q : X n < x
    · exact ⟨n + 1, Nat.le_refl _, fun i hi => by have := (Ba.kns_pair h' (i := i) (j := n) (by omega) (by omega)).1; omega, fun i a b => by omega⟩
    · exact ⟨k, by omega, h1, fun i a b => by
        by_cases e : i = n
        · subst e; omega
        · exact h2 i a (by omega)⟩
theorem piece_any (s : Ba.SlK) (x : Int) (w : World) (h : s.At w) (hv : Ba.tblB s = true) : Calls Tryz.prog 161 #[.slice s.A s.n s.c, .int .i64 x] w (RetPc (Ba.tV s x) w) := by
  obtain ⟨hn1, hn2, hs⟩ := Ba.tbl_parts hv
  have HB := fun W (hW : Gr w W) => bsf_any s x W (h.gr hW) hv
  obtain ⟨k, hk, h1, h2⟩ := Ba.kns_split x hs
  rw [Ba.ltC_is hk h1 h2] at HB
  have hA := h.hA (by omega)
  rw [hA] at HB ⊢
  have hX := h.hX
  by_cases q : k < s.n ∧ s.X k = x
  · rw [show (decide (k < s.n) && (s.X k == x)) = true from by rw [decide_eq_true q.1, q.2]; simp] at HB
    rw [Ba.tV_hit hv q.1 q.2]
    exact piece_hit s.b s.o s.n s.c x k w (s.Y k) hn2 q.1 (hX k q.1).1.2 (Lib.hid HB)
  · rw [show (decide (k < s.n) && (s.X k == x)) = false from by
      rw [Bool.eq_false_iff, ne_eq, Bool.and_eq_true, decide_eq_true_eq, beq_iff_eq]; exact q] at HB
    have h3 : ∀ i, k ≤ i → i < s.n → x < s.X i := fun i a b => by
      by_cases e : i = k
      · subst e
        have := h2 i (Nat.le_refl _) b
        have : s.X i ≠ x := fun c => q ⟨b, c⟩
        omega
      · have c1 := h2 k (Nat.le_refl _) (by omega)
        have c2 := Ba.kns_less hs (i := k) (j := i) (by omega) b
        omega
    by_cases k0 : k = 0
    · subst k0
      rw [Ba.tV_low fun i hi => h3 i (Nat.zero_le _) hi]
      have c0 := (hX 0 (by omega)).1.2
      rw [Nat.zero_mul, Nat.add_zero] at c0
      exact piece_low s.b s.o s.n s.c x w (s.Y 0) hn2 (by omega) c0 (Lib.hid HB)
    by_cases kn : k = s.n
    · subst kn
      rw [Ba.tV_high hn1 fun i hi => by have := h1 i hi; omega]
      exact piece_high s.b s.o s.n s.c x (s.n - 1) w (s.Y (s.n - 1)) hn2 (by omega) (hX (s.n - 1) (by omega)).1.2 (Lib.hid HB)
    · obtain ⟨j, rfl⟩ : ∃ j, k = j + 1 := ⟨k - 1, by omega⟩
      rw [Ba.tV_mid (k := j) (by omega) (fun i hi => by have := h1 i hi; omega) h3]
      have f1 := Ba.kns_fits hs (k := j) (by omega)
      have f2 := Ba.kns_fits hs (k := j + 1) (by omega)
      exact piece_mid s.b s.o s.n s.c x j w (s.X j) (s.Y j) (s.X (j + 1)) (s.Y (j + 1)) _ hn2 (by omega) (hX j (by omega)).1.1 (hX j (by omega)).1.2 (hX (j + 1) (by omega)).1.1 (hX (j + 1) (by omega)).1.2 f1.1 f1.2 f2.1 f2.2 ⟨h1 j (by omega), h3 (j + 1) (Nat.le_refl _) (by omega)⟩ (Ba.kns_step hs (k := j) (by omega)).2 rfl (Lib.hid HB)
set_option maxRecDepth 100000 in
set_option maxHeartbeats 4000000 in
theorem tfloor_any (s : Ba.SlK) (x : Int) (w : World) (h : s.At w) (hv : Ba.tblB s = true) : Calls Tryz.prog 131 #[.slice s.A s.n s.c, .int .i64 x] w fun e w' => e = .returned (.tuple #[.int .i64 (Ba.tV s x), .int .i64 0]) ∧ Gr w w' := by
  have HT := Lib.hid (fun W (hW : Gr w W) => table_any s W (h.gr hW))
  rw [hv] at HT
  have HP := Lib.hid (fun W (hW : Gr w W) => piece_any s x W (h.gr hW) hv)
  clear h hv
  generalize Ba.tV s x = RES at *
  generalize s.A = A at *; generalize s.n = n at *; generalize s.c = c at *
  go_enter Tryz.func131, Tryz.ntmps131
  go_wp2_with fail
  refine (HT.out _ gr_auto).mono ?_
  rintro e w1 ⟨rfl, hb⟩
  have g1 : Gr w w1 := gr_auto
  clear hb
  go_wp2_with fail
  refine (HP.out _ g1).mono ?_
  rintro e w2 ⟨r, d, rfl, hb⟩
  have g2 := g1.trans hb
  clear hb
  go_wp2_with fail
  go_ret2
  exact ⟨rfl, g2⟩
end Go.Proofs.YtllkiadedaghoaaGreat
