/-
  Tables and nodes: the reference's values. (Printed by mkble.py.)
-/
import Derived.Test.YtllkiadedaghoaaGreatCb06
import Derived.Test.YtllkiadedaghoaaGreatCb03
import Derived.Test.YtllkiadedaghoaaGreatCm02

set_option linter.unusedVariables false
set_option linter.unusedSimpArgs false
namespace Go.Proofs.YtllkiadedaghoaaGreat
open Go.RowKit
attribute [local go_sem ↓] Go.wp_at_zero Go.wp_at_succ
set_option maxRecDepth 100000 in
set_option maxHeartbeats 4000000 in
theorem rfloorof_any (n m d q : Int) (w : World) (n0 : -9223372036854775808 ≤ n) (n1 : n ≤ 9223372036854775807) (m0 : -9223372036854775808 ≤ m) (m1 : m ≤ 9223372036854775807) (d0 : 0 < d) (d1 : d ≤ 9223372036854775807) (hq : n * m / d = q) (q0 : 0 ≤ q) (q1 : q ≤ 9223372036854775807) : Calls Tryz.prog 163 #[.int .i64 n, .int .i64 m, .int .i64 d] w fun e w' => e = .returned (.int .i64 q) ∧ Gr w w' := by
  have mb := Wd.mul_bound (Wd.mag_le n0 n1) (Wd.mag_le m0 m1)
  have ph : Wd.hi (n * m) ≤ 18446744073709551614 := by have := Wd.mag_nonneg (n * m); unfold Wd.hi; omega
  have bh : Wd.hi d ≤ 18446744073709551615 := by have h1 := Wd.mag_le (show -9223372036854775808 ≤ d by omega) d1; have h2 := Wd.mag_nonneg d; unfold Wd.hi; omega
  have HT := Lib.hid (fun W => rtimes_any n m W n0 n1 m0 m1)
  have HO := Lib.hid (fun W => rofint_any d W (by omega) d1)
  have HD := Lib.hid (fun W => rdown_any (n * m) d W ph bh (by omega))
  have eq : Wd.flr (n * m) d = q := by unfold Wd.flr; rw [if_pos d0]; exact hq
  have HI := Lib.hid (fun W => risint_any q W)
  have fq : Wd.fits q = true := by unfold Wd.fits; simp; omega
  rw [Wd.low_fits fq, fq] at HI
  rw [eq] at HD
  clear mb ph bh n0 n1 m0 m1 d0 d1 eq fq hq
  generalize n * m = p at *
  go_enter Tryz.func163, Tryz.ntmps163
  go_wp2_with fail
  refine (HT.out _).mono ?_
  rintro e w1 ⟨rfl, hb1⟩
  go_wp2_with fail
  refine (HO.out _).mono ?_
  rintro e w2 ⟨rfl, hb2⟩
  go_wp2_with fail
  refine (HD.out _).mono ?_
  rintro e w3 ⟨rfl, hb3⟩
  go_wp2_with fail
  refine (HI.out _).mono ?_
  rintro e w4 ⟨rfl, hb4⟩
  clear HT HO HD HI
  go_wp2_with fail
  go_ret
  exact ⟨rfl, hb1.trans (hb2.trans (hb3.trans hb4))⟩
namespace Ba
theorem leC_yes {X : Nat → Int} {x : Int} {i : Nat} (h : ∀ j, j ≤ i → X j ≤ x) : leC X x (i + 1) = i + 1 := cntB_all fun j hj => decide_eq_true (h j (by omega))
theorem leC_no {X : Nat → Int} {x : Int} {i : Nat} (h : ¬ X i ≤ x) : leC X x (i + 1) = leC X x i := by
  show cntB _ (i + 1) = _
  rw [cntB, decide_eq_false h]; rfl
end Ba
set_option maxRecDepth 100000 in
set_option maxHeartbeats 4000000 in
theorem rbefore_any (s : Ba.SlK) (x : Int) (w : World) (h : s.At w) (hv : Ba.tblB s = true) : Calls Tryz.prog 162 #[.slice s.A s.n s.c, .int .i64 x] w fun e w' => e = .returned (.int .i64 ((Ba.leC s.X x s.n : Int) - 1)) ∧ Gr w w' := by
  obtain ⟨hn1, hn2, hs⟩ := Ba.tbl_parts hv
  have hA := h.hA (by omega)
  have HX := Lib.hid h.hX
  have HY := Lib.hid (fun i (hi : i < s.n) (hx : s.X i ≤ x) => show (Ba.leC s.X x (i + 1) : Int) - 1 = (i : Int) from by
    rw [Ba.leC_yes fun j hj => by have := (Ba.kns_pair hs hj hi).1; omega]; omega)
  have HN := Lib.hid (fun i (hx : ¬ s.X i ≤ x) => show (Ba.leC s.X x (i + 1) : Int) - 1 = (Ba.leC s.X x i : Int) - 1 from by rw [Ba.leC_no hx])
  have H0 := Lib.hid (show (-1 : Int) = (Ba.leC s.X x 0 : Int) - 1 from rfl)
  obtain ⟨V, hV⟩ : ∃ V : Nat → Int, V = fun i => (Ba.leC s.X x i : Int) - 1 := ⟨_, rfl⟩
  have e1 : ∀ i, (Ba.leC s.X x i : Int) - 1 = V i := fun i => by rw [hV]
  simp only [e1] at HY HN H0 ⊢
  clear h hv hs hV e1
  cases s with | mk A n c b o X Y =>
  simp only [] at *
  subst hA
  go_enter Tryz.func162, Tryz.ntmps162
  go_wp2_with fail
  go_loopw [5, 6] (fun u v wr => ∃ i : Nat, i ≤ n ∧ (∃ z, Hid (z = V i) ∧ u = .int .i64 z) ∧ v = .int .i64 (i : Int) ∧ Gr w wr) (fun _ v _ => n - (intOf v).toNat)
  case atStart => exact ⟨0, Nat.zero_le _, ⟨-1, H0, rfl⟩, rfl, Gr.refl _⟩
  case round =>
    obtain ⟨i, hi, ⟨z, HZ, rfl⟩, rfl, hg⟩ := hrel
    by_cases hlt : i < n
    · obtain ⟨⟨a0, a1⟩, -, -⟩ := HX.out i hlt
      replace a0 := Gr.at hg a0; replace a1 := Gr.at hg a1
      have ib0 : (0 : Int) ≤ (i : Int) := by omega
      have ib1 : (i : Int) < (n : Int) := by omega
      have HYi := Lib.hid (HY.out i hlt); have HNi := Lib.hid (HN.out i)
      obtain ⟨xi, hxi⟩ : ∃ xi, X i = xi := ⟨_, rfl⟩
      rw [hxi] at a0 HYi HNi
      clear HX HY HN H0 hxi a1
      by_cases hc : xi ≤ x
      · have HP := Lib.hid (HYi.out hc).symm
        clear HYi HNi HZ
        go_wp2_with fail
        go_roundw
        case rel => exact ⟨i + 1, by omega, ⟨(i : Int), HP, rfl⟩, by go_num, hg⟩
        case measure => simp [intOf]; omega
      · have HP := Lib.hid (HZ.out.trans (HNi.out (by omega)).symm)
        clear HYi HNi HZ
        go_wp2_with fail
        go_roundw
        case rel => exact ⟨i + 1, by omega, ⟨z, HP, rfl⟩, by go_num, hg⟩
        case measure => simp [intOf]; omega
    · obtain rfl : n = i := by omega
      clear HX HY HN H0
      go_wp2_with fail
      go_ret
      exact ⟨ret_int HZ.out, hg⟩
set_option maxRecDepth 100000 in
set_option maxHeartbeats 4000000 in
theorem rval_low (b o n c : Nat) (x : Int) (w : World) (v : Int) (hn : n ≤ 100) (hn0 : 0 < n) (hc : w.cell? ⟨b, o + 1, none⟩ = some (.int .i64 v)) (HB : Hid (∀ W, Gr w W → Calls Tryz.prog 162 #[.slice (some ⟨b, o, none⟩) n c, .int .i64 x] W fun e w' => e = .returned (.int .i64 (-1)) ∧ Gr W w')) : Calls Tryz.prog 133 #[.slice (some ⟨b, o, none⟩) n c, .int .i64 x] w (RetPc v w) := by
  have ib1 : (0 : Int) < (n : Int) := by omega
  have hc0 : w.cell? ⟨b, o + 0 * 2 + 1, none⟩ = some (.int .i64 v) := by rw [Nat.zero_mul, Nat.add_zero]; exact hc
  go_enter Tryz.func133, Tryz.ntmps133
  go_wp2_with fail
  refine (HB.out _ gr_auto).mono ?_
  rintro e w1 ⟨rfl, hb⟩
  have g1 : Gr w w1 := gr_auto
  clear hb HB
  replace hc := Gr.at g1 hc; replace hc0 := Gr.at g1 hc0
  go_wp2_with fail
  go_ret3
  exact ⟨_, _, rfl, g1⟩
set_option maxRecDepth 100000 in
set_option maxHeartbeats 4000000 in
theorem rval_high (b o n c : Nat) (x : Int) (k : Nat) (w : World) (v : Int) (hn : n ≤ 100) (hk : n = k + 1) (hc : w.cell? ⟨b, o + k * 2 + 1, none⟩ = some (.int .i64 v)) (HB : Hid (∀ W, Gr w W → Calls Tryz.prog 162 #[.slice (some ⟨b, o, none⟩) n c, .int .i64 x] W fun e w' => e = .returned (.int .i64 (k : Int)) ∧ Gr W w')) : Calls Tryz.prog 133 #[.slice (some ⟨b, o, none⟩) n c, .int .i64 x] w (RetPc v w) := by
  have ib0 : (0 : Int) ≤ (k : Int) := by omega
  subst hk
  have ib2 : ¬ (k : Int) < 0 := by omega
  have ib1 : (k : Int) < (k : Int) + 1 := by omega
  go_enter Tryz.func133, Tryz.ntmps133
  go_wp2_with fail
  refine (HB.out _ gr_auto).mono ?_
  rintro e w1 ⟨rfl, hb⟩
  have g1 : Gr w w1 := gr_auto
  clear hb HB
  replace hc := Gr.at g1 hc
  go_wp2_with fail
  go_ret3
  exact ⟨_, _, rfl, g1⟩
set_option maxRecDepth 100000 in
set_option maxHeartbeats 4000000 in
theorem rval_mid (b o n c : Nat) (x : Int) (k : Nat) (w : World) (ax ay bx b2 q : Int) (hn : n ≤ 100) (hk : k + 1 < n) (c0 : w.cell? ⟨b, o + k * 2, none⟩ = some (.int .i64 ax)) (c1 : w.cell? ⟨b, o + k * 2 + 1, none⟩ = some (.int .i64 ay)) (c2 : w.cell? ⟨b, o + (k + 1) * 2, none⟩ = some (.int .i64 bx)) (c3 : w.cell? ⟨b, o + (k + 1) * 2 + 1, none⟩ = some (.int .i64 b2))
    (hax : -1125899906842624 ≤ ax ∧ ax ≤ 1125899906842624) (hay : -1125899906842624 ≤ ay ∧ ay ≤ 1125899906842624) (hbx : -1125899906842624 ≤ bx ∧ bx ≤ 1125899906842624) (hb2 : -1125899906842624 ≤ b2 ∧ b2 ≤ 1125899906842624) (hx : ax ≤ x ∧ x < bx) (hy : ay ≤ b2) (hq : (b2 - ay) * (x - ax) / (bx - ax) = q) (HB : Hid (∀ W, Gr w W → Calls Tryz.prog 162 #[.slice (some ⟨b, o, none⟩) n c, .int .i64 x] W fun e w' => e = .returned (.int .i64 (k : Int)) ∧ Gr W w')) : Calls Tryz.prog 133 #[.slice (some ⟨b, o, none⟩) n c, .int .i64 x] w (RetPc (ay + q) w) := by
  have hql := Ba.quot_le (u := b2 - ay) (a := x - ax) (d := bx - ax) (by omega) (by omega) (by omega) (by omega)
  rw [hq] at hql
  have HF := Lib.hid (fun W => rfloorof_any (b2 - ay) (x - ax) (bx - ax) q W (by omega) (by omega) (by omega) (by omega) (by omega) (by omega) hq (by omega) (by omega))
  have ib0 : (0 : Int) ≤ (k : Int) := by omega
  have ib1 : (k : Int) < (n : Int) := by omega
  have ib2 : (0 : Int) ≤ (k : Int) + 1 := by omega
  have ib3 : (k : Int) + 1 < (n : Int) := by omega
  have ib4 : k < n := by omega
  have ib5 : ¬ (k : Int) < 0 := by omega
  have hw0 : IntKind.i64.wrap (k : Int) = (k : Int) := wrap_in _ (by omega)
  have hw1 : IntKind.i64.wrap ((k : Int) + 1) = (k : Int) + 1 := wrap_in _ (by omega)
  have hw2 : IntKind.i64.wrap (bx - ax) = bx - ax := wrap_in _ (by omega)
  have hw3 : IntKind.i64.wrap (b2 - ay) = b2 - ay := wrap_in _ (by omega)
  have hw4 : IntKind.i64.wrap (x - ax) = x - ax := wrap_in _ (by omega)
  have hw5 : IntKind.i64.wrap (ay + q) = ay + q := wrap_in _ (by omega)
  have t0 : ((k : Int) == (n : Int) - 1) = false := beq_eq_false_iff_ne.2 (by omega)
  have t1 : ¬ (k : Int) = (n : Int) - 1 := by omega
  have t2 : decide ((k : Int) < 0) = false := decide_eq_false ib5
  have c2' : w.cell? ⟨b, o + (k * 2 + 2), none⟩ = some (.int .i64 bx) := by rw [show o + (k * 2 + 2) = o + (k + 1) * 2 by omega]; exact c2
  clear hq
  go_enter Tryz.func133, Tryz.ntmps133
  go_wp2_with fail
  refine (HB.out _ gr_auto).mono ?_
  rintro e w1 ⟨rfl, hb⟩
  have g1 : Gr w w1 := gr_auto
  clear hb HB
  replace c0 := Gr.at g1 c0; replace c1 := Gr.at g1 c1; replace c2 := Gr.at g1 c2; replace c3 := Gr.at g1 c3
  clear c2'
  go_upto_region 6 with fail
  (first | refine name_world ?_ | refine (show (∀ W, W = _ → Calls _ _ _ W _) → Calls _ _ _ _ _ from fun h => h _ rfl) ?_); intro W2 hW2
  have g2 : Gr w W2 := by rw [hW2]; exact gr_auto
  have k2_0 : W2.cell? ⟨b, o + k * 2, none⟩ = some (.int .i64 ax) := by rw [hW2]; first | (simp [go_sem, *]; done) | (refine Gr.at ?_ (by assumption); exact gr_auto)
  have b2_0 : b < W2.heap.size := World.block_lt_of_cell? _ _ k2_0
  have k2_1 : W2.cell? ⟨b, o + k * 2 + 1, none⟩ = some (.int .i64 ay) := by rw [hW2]; first | (simp [go_sem, *]; done) | (refine Gr.at ?_ (by assumption); exact gr_auto)
  have k2_2 : W2.cell? ⟨b, o + (k + 1) * 2, none⟩ = some (.int .i64 bx) := by rw [hW2]; first | (simp [go_sem, *]; done) | (refine Gr.at ?_ (by assumption); exact gr_auto)
  have k2_3 : W2.cell? ⟨b, o + (k + 1) * 2 + 1, none⟩ = some (.int .i64 b2) := by rw [hW2]; first | (simp [go_sem, *]; done) | (refine Gr.at ?_ (by assumption); exact gr_auto)
  clear hW2
  have s2_0 : ∀ gw : GW W2, gw.1.cell? ⟨b, o + k * 2, none⟩ = some (.int .i64 ax) := fun gw => Gr.at gw.2 k2_0
  have s2_1 : ∀ gw : GW W2, gw.1.cell? ⟨b, o + k * 2 + 1, none⟩ = some (.int .i64 ay) := fun gw => Gr.at gw.2 k2_1
  have s2_2 : ∀ gw : GW W2, gw.1.cell? ⟨b, o + (k + 1) * 2, none⟩ = some (.int .i64 bx) := fun gw => Gr.at gw.2 k2_2
  have s2_3 : ∀ gw : GW W2, gw.1.cell? ⟨b, o + (k + 1) * 2 + 1, none⟩ = some (.int .i64 b2) := fun gw => Gr.at gw.2 k2_3
  have hnn := Nat.le_refl 0
  refine wp_region_gr (by kernel_rfl) (by kernel_rfl) ?_
  repeat (go_big_quiet_step (skip))
  refine wpQuiet_nil ?_
  intro w3 hb3
  clear s2_0 s2_1 s2_2 s2_3
  have g3 : Gr w w3 := g2.trans hb3
  have k2_0 := Gr.at hb3 k2_0
  have k2_1 := Gr.at hb3 k2_1
  have k2_2 := Gr.at hb3 k2_2
  have k2_3 := Gr.at hb3 k2_3
  clear c0 c1 c2 c3
  go_upto_region 7 with fail
  (first | refine name_world ?_ | refine (show (∀ W, W = _ → Calls _ _ _ W _) → Calls _ _ _ _ _ from fun h => h _ rfl) ?_); intro W4 hW4
  have g4 : Gr w W4 := by rw [hW4]; exact gr_auto
  have k4_0 : W4.cell? ⟨b, o + k * 2, none⟩ = some (.int .i64 ax) := by rw [hW4]; first | (simp [go_sem, *]; done) | (refine Gr.at ?_ (by assumption); exact gr_auto)
  have b4_0 : b < W4.heap.size := World.block_lt_of_cell? _ _ k4_0
  have k4_1 : W4.cell? ⟨b, o + k * 2 + 1, none⟩ = some (.int .i64 ay) := by rw [hW4]; first | (simp [go_sem, *]; done) | (refine Gr.at ?_ (by assumption); exact gr_auto)
  have k4_2 : W4.cell? ⟨b, o + (k + 1) * 2, none⟩ = some (.int .i64 bx) := by rw [hW4]; first | (simp [go_sem, *]; done) | (refine Gr.at ?_ (by assumption); exact gr_auto)
  have k4_3 : W4.cell? ⟨b, o + (k + 1) * 2 + 1, none⟩ = some (.int .i64 b2) := by rw [hW4]; first | (simp [go_sem, *]; done) | (refine Gr.at ?_ (by assumption); exact gr_auto)
  clear hW4
  have s4_0 : ∀ gw : GW W4, gw.1.cell? ⟨b, o + k * 2, none⟩ = some (.int .i64 ax) := fun gw => Gr.at gw.2 k4_0
  have s4_1 : ∀ gw : GW W4, gw.1.cell? ⟨b, o + k * 2 + 1, none⟩ = some (.int .i64 ay) := fun gw => Gr.at gw.2 k4_1
  have s4_2 : ∀ gw : GW W4, gw.1.cell? ⟨b, o + (k + 1) * 2, none⟩ = some (.int .i64 bx) := fun gw => Gr.at gw.2 k4_2
  have s4_3 : ∀ gw : GW W4, gw.1.cell? ⟨b, o + (k + 1) * 2 + 1, none⟩ = some (.int .i64 b2) := fun gw => Gr.at gw.2 k4_3
  have hnn := Nat.le_refl 0
  refine wp_region_gr (by kernel_rfl) (by kernel_rfl) ?_
  repeat (go_big_quiet_step (skip))
  refine wpQuiet_nil ?_
  intro w5 hb5
  clear s4_0 s4_1 s4_2 s4_3
  have g5 : Gr w w5 := g4.trans hb5
  have k4_0 := Gr.at hb5 k4_0
  have k4_1 := Gr.at hb5 k4_1
  have k4_2 := Gr.at hb5 k4_2
  have k4_3 := Gr.at hb5 k4_3
  go_wp2_with fail
  refine (HF.out _).mono ?_
  rintro e w6 ⟨rfl, hb⟩
  have g6 := g5.trans hb
  have p0 := Gr.at hb k4_0; have p1 := Gr.at hb k4_1; have p2 := Gr.at hb k4_2; have p3 := Gr.at hb k4_3
  clear hb HF
  go_upto_region 9 with fail
  (first | refine name_world ?_ | refine (show (∀ W, W = _ → Calls _ _ _ W _) → Calls _ _ _ _ _ from fun h => h _ rfl) ?_); intro W7 hW7
  have g7 : Gr w W7 := by rw [hW7]; exact gr_auto
  have k7_0 : W7.cell? ⟨b, o + k * 2, none⟩ = some (.int .i64 ax) := by rw [hW7]; first | (simp [go_sem, *]; done) | (refine Gr.at ?_ (by assumption); exact gr_auto)
  have b7_0 : b < W7.heap.size := World.block_lt_of_cell? _ _ k7_0
  have k7_1 : W7.cell? ⟨b, o + k * 2 + 1, none⟩ = some (.int .i64 ay) := by rw [hW7]; first | (simp [go_sem, *]; done) | (refine Gr.at ?_ (by assumption); exact gr_auto)
  have k7_2 : W7.cell? ⟨b, o + (k + 1) * 2, none⟩ = some (.int .i64 bx) := by rw [hW7]; first | (simp [go_sem, *]; done) | (refine Gr.at ?_ (by assumption); exact gr_auto)
  have k7_3 : W7.cell? ⟨b, o + (k + 1) * 2 + 1, none⟩ = some (.int .i64 b2) := by rw [hW7]; first | (simp [go_sem, *]; done) | (refine Gr.at ?_ (by assumption); exact gr_auto)
  clear hW7
  have s7_0 : ∀ gw : GW W7, gw.1.cell? ⟨b, o + k * 2, none⟩ = some (.int .i64 ax) := fun gw => Gr.at gw.2 k7_0
  have s7_1 : ∀ gw : GW W7, gw.1.cell? ⟨b, o + k * 2 + 1, none⟩ = some (.int .i64 ay) := fun gw => Gr.at gw.2 k7_1
  have s7_2 : ∀ gw : GW W7, gw.1.cell? ⟨b, o + (k + 1) * 2, none⟩ = some (.int .i64 bx) := fun gw => Gr.at gw.2 k7_2
  have s7_3 : ∀ gw : GW W7, gw.1.cell? ⟨b, o + (k + 1) * 2 + 1, none⟩ = some (.int .i64 b2) := fun gw => Gr.at gw.2 k7_3
  have hnn := Nat.le_refl 0
  refine wp_region_gr (by kernel_rfl) (by kernel_rfl) ?_
  repeat (go_big_quiet_step (skip))
  refine wpQuiet_nil ?_
  intro w8 hb8
  clear s7_0 s7_1 s7_2 s7_3
  have g8 : Gr w w8 := g7.trans hb8
  have k7_0 := Gr.at hb8 k7_0
  have k7_1 := Gr.at hb8 k7_1
  have k7_2 := Gr.at hb8 k7_2
  have k7_3 := Gr.at hb8 k7_3
  go_wp2_with fail
  go_ret3
  exact ⟨_, _, rfl, g8⟩
theorem rvalue_any (s : Ba.SlK) (x : Int) (w : World) (h : s.At w) (hv : Ba.tblB s = true) : Calls Tryz.prog 133 #[.slice s.A s.n s.c, .int .i64 x] w (RetPc (Ba.tV s x) w) := by
  obtain ⟨hn1, hn2, hs⟩ := Ba.tbl_parts hv
  have HB := fun W (hW : Gr w W) => rbefore_any s x W (h.gr hW) hv
  have hA := h.hA (by omega)
  rw [hA] at HB ⊢
  have hX := h.hX
  obtain ⟨k, hk, h1, h2⟩ : ∃ k, k ≤ s.n ∧ (∀ i, i < k → s.X i ≤ x) ∧ (∀ i, k ≤ i → i < s.n → x < s.X i) := by
    obtain ⟨k, hk, h1, h2⟩ := Ba.kns_split (x + 1) hs
    exact ⟨k, hk, fun i hi => by have := h1 i hi; omega, fun i a b => by have := h2 i a b; omega⟩
  rw [Ba.leC_is hk h1 h2] at HB
  by_cases k0 : k = 0
  · subst k0
    rw [Ba.tV_low fun i hi => h2 i (Nat.zero_le _) hi]
    have c0 := (hX 0 (by omega)).1.2
    rw [Nat.zero_mul, Nat.add_zero] at c0
    exact rval_low s.b s.o s.n s.c x w (s.Y 0) hn2 (by omega) c0 (Lib.hid HB)
  by_cases kn : k = s.n
  · subst kn
    rw [Ba.tV_high hn1 h1]
    rw [show ((s.n : Nat) : Int) - 1 = ((s.n - 1 : Nat) : Int) by omega] at HB
    exact rval_high s.b s.o s.n s.c x (s.n - 1) w (s.Y (s.n - 1)) hn2 (by omega) (hX (s.n - 1) (by omega)).1.2 (Lib.hid HB)
  · obtain ⟨j, rfl⟩ : ∃ j, k = j + 1 := ⟨k - 1, by omega⟩
    rw [Ba.tV_mid (k := j) (by omega) h1 h2]
    rw [show ((j + 1 : Nat) : Int) - 1 = (j : Int) by omega] at HB
    have f1 := Ba.kns_fits hs (k := j) (by omega)
    have f2 := Ba.kns_fits hs (k := j + 1) (by omega)
    exact rval_mid s.b s.o s.n s.c x j w (s.X j) (s.Y j) (s.X (j + 1)) (s.Y (j + 1)) _ hn2 (by omega) (hX j (by omega)).1.1 (hX j (by omega)).1.2 (hX (j + 1) (by omega)).1.1 (hX (j + 1) (by omega)).1.2 f1.1 f1.2 f2.1 f2.2 ⟨h1 j (by omega), h2 (j + 1) (Nat.le_refl _) (by omega)⟩ (Ba.kns_step hs (k := j) (by omega)).2 rfl (Lib.hid HB)
set_option maxRecDepth 100000 in
set_option maxHeartbeats 4000000 in
theorem rtfloor_any (s : Ba.SlK) (x : Int) (w : World) (h : s.At w) (hv : Ba.tblB s = true) : Calls Tryz.prog 110 #[.slice s.A s.n s.c, .int .i64 x] w fun e w' => e = .returned (.int .i64 (Ba.tV s x)) ∧ Gr w w' := by
  have HP := Lib.hid (fun W (hW : Gr w W) => rvalue_any s x W (h.gr hW) hv)
  clear h hv
  generalize Ba.tV s x = RES at *
  generalize s.A = A at *; generalize s.n = n at *; generalize s.c = c at *
  go_enter Tryz.func110, Tryz.ntmps110
  go_wp2_with fail
  refine (HP.out _ gr_auto).mono ?_
  rintro e w2 ⟨r, d, rfl, hb⟩
  have g2 : Gr w w2 := gr_auto
  clear hb
  go_wp2_with fail
  go_ret
  exact ⟨rfl, g2⟩
set_option maxRecDepth 100000 in
set_option maxHeartbeats 4000000 in
theorem rVol29_any (d : Ba.Node) (lv : Int) (w : World) (hd : d.Ok w) (hr : Ba.rnode d = true) (hk : d.kd ≠ 3) (h0 : d.iv ≤ lv) (h1 : lv ≤ d.gr) : Calls Tryz.prog 82 #[d.val, .int .i64 lv] w fun e w' => e = .returned (.int .i64 (Ba.tV d.sh (lv - d.iv))) ∧ Gr w w' := by
  obtain ⟨b0, b1, b2, ht, -, -⟩ := Ba.rnode_parts hr hk
  obtain ⟨-, -, -, -, -, -, -, hs⟩ := hd
  have HF := Lib.hid (fun W (hW : Gr w W) => rtfloor_any d.sh (lv - d.iv) W (hs.gr hW) ht)
  have e1 : IntKind.i64.wrap (lv - d.iv) = lv - d.iv := wrap_in _ (by omega)
  generalize Ba.tV d.sh (lv - d.iv) = RES at *
  clear hs ht hr
  unfold Ba.Node.val at *
  generalize d.sh.A = A at *; generalize d.sh.n = n at *; generalize d.sh.c = c at *
  cases d with | mk nm kd ax ay iv gr sh pr rs =>
  simp only [] at *
  have t0 : (kd == 3) = false := beq_eq_false_iff_ne.2 hk
  clear hk
  go_enter Tryz.func82, Tryz.ntmps82
  go_wp2_with fail
  refine (HF.out _ gr_auto).mono ?_
  rintro e w1 ⟨rfl, hb⟩
  have g1 : Gr w w1 := gr_auto
  clear hb
  go_wp2_with fail
  go_ret
  exact ⟨rfl, g1⟩
theorem Ba.cutL_ref {d : Ba.Node} (h : d.iv < d.gr) (lv : Int) : min (max lv d.iv) d.gr = Ba.cutL d lv := by unfold Ba.cutL; omega
set_option maxRecDepth 100000 in
set_option maxHeartbeats 4000000 in
theorem rVol53_any (d : Ba.Node) (lv : Int) (w : World) (hd : d.Ok w) (hr : Ba.rnode d = true) (hk : d.kd ≠ 3) : Calls Tryz.prog 45 #[d.val, .int .i64 lv] w fun e w' => e = .returned (.int .i64 (Ba.volN d lv)) ∧ Gr w w' := by
  obtain ⟨b0, b1, b2, ht, -, -⟩ := Ba.rnode_parts hr hk
  have hc := Ba.cutL_bd b2 lv
  have HV := Lib.hid (fun W (hW : Gr w W) => rVol29_any d (Ba.cutL d lv) W (hd.gr hW) hr hk hc.1 hc.2)
  rw [← Ba.cutL_ref b2] at HV
  have e0 : Ba.tV d.sh (min (max lv d.iv) d.gr - d.iv) = Ba.volN d lv := by rw [Ba.cutL_ref b2]; rfl
  rw [e0] at HV
  generalize Ba.volN d lv = RES at *
  clear hd hr hk ht hc e0 b0 b1 b2
  unfold Ba.Node.val at *
  generalize d.sh.A = A at *; generalize d.sh.n = n at *; generalize d.sh.c = c at *
  cases d with | mk nm kd ax ay iv gr sh pr rs =>
  simp only [] at *
  go_enter Tryz.func45, Tryz.ntmps45
  go_wp2_with fail
  refine (HV.out _ gr_auto).mono ?_
  rintro e w1 ⟨rfl, hb⟩
  have g1 : Gr w w1 := gr_auto
  clear hb
  go_wp2_with fail
  go_ret
  exact ⟨rfl, g1⟩
end Go.Proofs.YtllkiadedaghoaaGreat
