/-
  Valid states: storage.ValidState. (Printed by mkstate.py.)
-/
import Derived.Test.YtkgbbcmgfbipaaaGreatDoorSm11

set_option linter.unusedVariables false
set_option linter.unusedSimpArgs false
namespace Go.Proofs.YtkgbbcmgfbipaaaGreatDoor
open Go.RowKit
theorem Ba.net_cap {N : Ba.SlNode} {L : Ba.SlLink} (h : Ba.netB N L = true) {i : Nat} (hi : i < N.n) (hk : (N.D i).kd ≠ 3) : 1 ≤ (N.D i).sh.n := by
  unfold Ba.netB at h
  simp only [Bool.and_eq_true] at h
  have := Ba.allB_at h.2.2.1 hi
  unfold Ba.nodeB at this
  simp only [Bool.and_eq_true] at this
  have h2 := this.1
  unfold Ba.rnode at h2
  rw [if_neg hk] at h2
  split at h2
  · simp only [Bool.and_eq_true] at h2
    have h3 := h2.2.2.1
    unfold Ba.shp at h3
    simp only [Bool.and_eq_true] at h3
    exact (Ba.tblB_n h3.1).1
  · simp at h2
/-- What a slot may hold that an earlier round has written, or none. -/
def Ba.Stale (v : Value) : Prop := Hid (v = undef ∨ v = .bool true ∨ v = .bool false)
theorem Ba.bneq_of {a b : Int} (h : (a == b) = false) : (a != b) = true := by simp only [bne, h, Bool.not_false]
theorem Ba.bne_of' {a b : Int} (h : a ≠ b) : (a != b) = true := by simp only [bne, beq_eq_false_iff_ne.2 h, Bool.not_false]
theorem Ba.net_n {N : Ba.SlNode} {L : Ba.SlLink} (h : Ba.netB N L = true) : N.n ≤ 300 ∧ L.n ≤ 400 := by
  unfold Ba.netB at h
  simp only [Bool.and_eq_true, decide_eq_true_eq] at h
  exact ⟨h.1, h.2.1⟩
set_option maxRecDepth 100000 in
set_option maxHeartbeats 2000000 in
theorem vstate_no (N : Ba.SlNode) (L : Ba.SlLink) (s : Ba.State) (w : World) (hN : N.At w) (hL : L.At w) (hs : s.Ok w) (HV : Hid (∀ W, Gr w W → Calls Tryz.prog 30 #[Ba.netVal N L] W fun e w' => e = .returned (.bool false) ∧ Gr W w')) : Calls Tryz.prog 62 #[Ba.netVal N L, s.val] w fun e w' => e = .returned (.bool false) ∧ Gr w w' := by
  clear hN hL hs
  unfold Ba.netVal Ba.State.val at *
  obtain ⟨A, n, c, b, o, D⟩ := N
  obtain ⟨A2, m, c2, b2, o2, E⟩ := L
  obtain ⟨⟨A3, n3, c3, b3, o3, X3⟩, ⟨A4, n4, c4, b4, o4, X4⟩, ⟨A5, n5, c5, b5, o5, X5⟩, ⟨A6, n6, c6, b6, o6, X6⟩⟩ := s
  simp only at *
  go_enter Tryz.func62, Tryz.ntmps62
  go_wp2_with fail
  refine (HV.out _ gr_auto).mono ?_
  rintro e w1 ⟨rfl, hb1⟩
  go_wp2_with fail
  go_ret
  exact ⟨rfl, gr_auto⟩
set_option maxRecDepth 100000 in
set_option maxHeartbeats 2000000 in
theorem vstate_size (N : Ba.SlNode) (L : Ba.SlLink) (s : Ba.State) (w : World) (hN : N.At w) (hL : L.At w) (hs : s.Ok w) (HV : Hid (∀ W, Gr w W → Calls Tryz.prog 30 #[Ba.netVal N L] W fun e w' => e = .returned (.bool true) ∧ Gr W w')) (hz : Ba.sizB N L s = false) : Calls Tryz.prog 62 #[Ba.netVal N L, s.val] w fun e w' => e = .returned (.bool false) ∧ Gr w w' := by
  have hn : N.n ≤ 9223372036854775807 := Nat.le_trans hN.hc hN.hb
  have hl : L.n ≤ 9223372036854775807 := Nat.le_trans hL.hc hL.hb
  have j3 : s.vs.n ≤ 9223372036854775807 := Nat.le_trans hs.1.hc hs.1.hb
  have j4 : s.ps.n ≤ 9223372036854775807 := Nat.le_trans hs.2.1.hc hs.2.1.hb
  have j5 : s.st.n ≤ 9223372036854775807 := Nat.le_trans hs.2.2.1.hc hs.2.2.1.hb
  have j6 : s.on.n ≤ 9223372036854775807 := Nat.le_trans hs.2.2.2.hc hs.2.2.2.hb
  clear hN hL hs
  unfold Ba.sizB at hz
  unfold Ba.netVal Ba.State.val at *
  obtain ⟨A, n, c, b, o, D⟩ := N
  obtain ⟨A2, m, c2, b2, o2, E⟩ := L
  obtain ⟨⟨A3, n3, c3, b3, o3, X3⟩, ⟨A4, n4, c4, b4, o4, X4⟩, ⟨A5, n5, c5, b5, o5, X5⟩, ⟨A6, n6, c6, b6, o6, X6⟩⟩ := s
  simp only at *

  cases u0 : decide (n3 = n)
  · have t0 : ((n3 : Int) != (n : Int)) = true := Ba.bne_of' (by have := of_decide_eq_false u0; omega)
    clear hz u0
    go_enter Tryz.func62, Tryz.ntmps62
    go_wp2_with fail
    refine (HV.out _ gr_auto).mono ?_
    rintro e w1 ⟨rfl, hb1⟩
    obtain ⟨hc1, hf1⟩ := Gr.cells hb1; have hz1 := Gr.size hb1; (try simp at hz1); (try have hy1_0 : w.heap.size < w1.heap.size := by omega); (try have hy1_1 : w.heap.size + 1 < w1.heap.size := by omega); (try have hy1_2 : w.heap.size + 1 + 1 < w1.heap.size := by omega); (try have hy1_3 : w.heap.size + 1 + 1 + 1 < w1.heap.size := by omega); (try have hy1_4 : w.heap.size + 1 + 1 + 1 + 1 < w1.heap.size := by omega); (try have hy1_5 : w.heap.size + 1 + 1 + 1 + 1 + 1 < w1.heap.size := by omega)
    go_wp2_with fail
    go_ret
    exact ⟨rfl, gr_auto⟩
  rw [u0] at hz
  obtain rfl := of_decide_eq_true u0
  clear u0
  cases u1 : decide (n4 = n3)
  · have t1 : ((n4 : Int) != (n3 : Int)) = true := Ba.bne_of' (by have := of_decide_eq_false u1; omega)
    clear hz u1
    go_enter Tryz.func62, Tryz.ntmps62
    go_wp2_with fail
    refine (HV.out _ gr_auto).mono ?_
    rintro e w1 ⟨rfl, hb1⟩
    obtain ⟨hc1, hf1⟩ := Gr.cells hb1; have hz1 := Gr.size hb1; (try simp at hz1); (try have hy1_0 : w.heap.size < w1.heap.size := by omega); (try have hy1_1 : w.heap.size + 1 < w1.heap.size := by omega); (try have hy1_2 : w.heap.size + 1 + 1 < w1.heap.size := by omega); (try have hy1_3 : w.heap.size + 1 + 1 + 1 < w1.heap.size := by omega); (try have hy1_4 : w.heap.size + 1 + 1 + 1 + 1 < w1.heap.size := by omega); (try have hy1_5 : w.heap.size + 1 + 1 + 1 + 1 + 1 < w1.heap.size := by omega)
    go_wp2_with fail
    go_ret
    exact ⟨rfl, gr_auto⟩
  rw [u1] at hz
  obtain rfl := of_decide_eq_true u1
  clear u1
  cases u2 : decide (n5 = m)
  · have t2 : ((n5 : Int) != (m : Int)) = true := Ba.bne_of' (by have := of_decide_eq_false u2; omega)
    clear hz u2
    go_enter Tryz.func62, Tryz.ntmps62
    go_wp2_with fail
    refine (HV.out _ gr_auto).mono ?_
    rintro e w1 ⟨rfl, hb1⟩
    obtain ⟨hc1, hf1⟩ := Gr.cells hb1; have hz1 := Gr.size hb1; (try simp at hz1); (try have hy1_0 : w.heap.size < w1.heap.size := by omega); (try have hy1_1 : w.heap.size + 1 < w1.heap.size := by omega); (try have hy1_2 : w.heap.size + 1 + 1 < w1.heap.size := by omega); (try have hy1_3 : w.heap.size + 1 + 1 + 1 < w1.heap.size := by omega); (try have hy1_4 : w.heap.size + 1 + 1 + 1 + 1 < w1.heap.size := by omega); (try have hy1_5 : w.heap.size + 1 + 1 + 1 + 1 + 1 < w1.heap.size := by omega)
    go_wp2_with fail
    go_ret
    exact ⟨rfl, gr_auto⟩
  rw [u2] at hz
  obtain rfl := of_decide_eq_true u2
  clear u2
  cases u3 : decide (n6 = n5)
  · have t3 : ((n6 : Int) != (n5 : Int)) = true := Ba.bne_of' (by have := of_decide_eq_false u3; omega)
    clear hz u3
    go_enter Tryz.func62, Tryz.ntmps62
    go_wp2_with fail
    refine (HV.out _ gr_auto).mono ?_
    rintro e w1 ⟨rfl, hb1⟩
    obtain ⟨hc1, hf1⟩ := Gr.cells hb1; have hz1 := Gr.size hb1; (try simp at hz1); (try have hy1_0 : w.heap.size < w1.heap.size := by omega); (try have hy1_1 : w.heap.size + 1 < w1.heap.size := by omega); (try have hy1_2 : w.heap.size + 1 + 1 < w1.heap.size := by omega); (try have hy1_3 : w.heap.size + 1 + 1 + 1 < w1.heap.size := by omega); (try have hy1_4 : w.heap.size + 1 + 1 + 1 + 1 < w1.heap.size := by omega); (try have hy1_5 : w.heap.size + 1 + 1 + 1 + 1 + 1 < w1.heap.size := by omega)
    go_wp2_with fail
    go_ret
    exact ⟨rfl, gr_auto⟩
  rw [u3] at hz
  obtain rfl := of_decide_eq_true u3
  clear u3
  simp at hz
set_option maxRecDepth 100000 in
set_option maxHeartbeats 8000000 in
theorem vstate_yes (N : Ba.SlNode) (L : Ba.SlLink) (s : Ba.State) (w : World) (hN : N.At w) (hL : L.At w) (hs : s.Ok w) (HV : Hid (∀ W, Gr w W → Calls Tryz.prog 30 #[Ba.netVal N L] W fun e w' => e = .returned (.bool true) ∧ Gr W w')) (hz : Ba.sizB N L s = true) (hq : Ba.netB N L = true) : Calls Tryz.prog 62 #[Ba.netVal N L, s.val] w fun e w' => e = .returned (.bool (Ba.allB (Ba.stN N s) N.n && Ba.allB (Ba.stL L s) L.n)) ∧ Gr w w' := by
  have ⟨hn, hl⟩ := Ba.net_n hq
  have HA := Lib.hid hN.hA; have HX := Lib.hid hN.hD; have KA := Lib.hid hL.hA; have KX := Lib.hid hL.hD
  have VA := Lib.hid hs.1.hA; have VX := Lib.hid hs.1.hX; have PA := Lib.hid hs.2.1.hA; have PX := Lib.hid hs.2.1.hX
  have SA := Lib.hid hs.2.2.1.hA; have SX := Lib.hid hs.2.2.1.hX; have OA := Lib.hid hs.2.2.2.hA; have OX := Lib.hid hs.2.2.2.hX
  have HCP := Lib.hid (fun (i : Nat) (hi : i < N.n) W (hg : Gr w W) => capacity_any (N.D i) W (((hN.hD i hi).2.2.2.2.2.2.2.2).gr hg) (Ba.net_cap hq hi))
  have HW := Lib.hid (fun (x y : Int) W => swithin_any x 0 y W)
  have HH := Lib.hid (fun (x : Int) W => holds_any x W)
  clear hq
  have hr : Ba.stateB N L s = (Ba.sizB N L s && (Ba.allB (Ba.stN N s) N.n && Ba.allB (Ba.stL L s) L.n)) := rfl
  rw [hz, Bool.true_and] at hr
  rw [← hr]
  generalize Ba.stateB N L s = r at *
  unfold Ba.sizB at hz
  simp only [Bool.and_eq_true, decide_eq_true_eq] at hz
  obtain ⟨y0, y1, y2, y3⟩ := hz
  clear hN hL hs
  unfold Ba.netVal Ba.State.val at *
  obtain ⟨A, n, c, b, o, D⟩ := N
  obtain ⟨A2, m, c2, b2, o2, E⟩ := L
  obtain ⟨⟨A3, n3, c3, b3, o3, X3⟩, ⟨A4, n4, c4, b4, o4, X4⟩, ⟨A5, n5, c5, b5, o5, X5⟩, ⟨A6, n6, c6, b6, o6, X6⟩⟩ := s
  simp only at *
  obtain rfl := y0; obtain rfl := y1.symm; obtain rfl := y2; obtain rfl := y3.symm
  have HQ := Lib.hid hr
  clear hr
  go_enter Tryz.func62, Tryz.ntmps62
  go_wp2_with fail
  refine (HV.out _ gr_auto).mono ?_
  rintro e w1 ⟨rfl, hb1⟩
  obtain ⟨hc1, hf1⟩ := Gr.cells hb1; have hz1 := Gr.size hb1; (try simp at hz1); (try have hy1_0 : w.heap.size < w1.heap.size := by omega); (try have hy1_1 : w.heap.size + 1 < w1.heap.size := by omega); (try have hy1_2 : w.heap.size + 1 + 1 < w1.heap.size := by omega); (try have hy1_3 : w.heap.size + 1 + 1 + 1 < w1.heap.size := by omega); (try have hy1_4 : w.heap.size + 1 + 1 + 1 + 1 < w1.heap.size := by omega); (try have hy1_5 : w.heap.size + 1 + 1 + 1 + 1 + 1 < w1.heap.size := by omega)
  go_wp2_with fail
  refine name_world ?_; intro W0 hW0
  have g0 : Gr w W0 := by rw [hW0]; exact gr_auto
  have k0 : W0.cell? ⟨w.heap.size, 0, none⟩ = some (.slice A n3 c) := by rw [hW0]; simp [go_sem, *]
  have k1 : W0.cell? ⟨w.heap.size, 1, none⟩ = some (.slice A2 n5 c2) := by rw [hW0]; simp [go_sem, *]
  have k2 : W0.cell? ⟨w.heap.size + 1, 0, none⟩ = some (.slice A3 n3 c3) := by rw [hW0]; simp [go_sem, *]
  have k3 : W0.cell? ⟨w.heap.size + 1, 1, none⟩ = some (.slice A4 n3 c4) := by rw [hW0]; simp [go_sem, *]
  have k4 : W0.cell? ⟨w.heap.size + 1, 2, none⟩ = some (.slice A5 n5 c5) := by rw [hW0]; simp [go_sem, *]
  have k5 : W0.cell? ⟨w.heap.size + 1, 3, none⟩ = some (.slice A6 n5 c6) := by rw [hW0]; simp [go_sem, *]
  have z1 : w.heap.size + 1 < W0.heap.size := World.block_lt_of_cell? _ _ k2
  clear hW0 hc1 hf1 hb1
  go_loopw [51, 78] (fun q sv wr => ∃ i : Nat, i ≤ n3 ∧ q = .int .i64 (i : Int) ∧ Ba.Stale sv ∧ Gr W0 wr ∧ Hid (Ba.allB (Ba.stN ⟨A, n3, c, b, o, D⟩ ⟨⟨A3, n3, c3, b3, o3, X3⟩, ⟨A4, n3, c4, b4, o4, X4⟩, ⟨A5, n5, c5, b5, o5, X5⟩, ⟨A6, n5, c6, b6, o6, X6⟩⟩) i = true)) (fun q _ _ => n3 - (intOf q).toNat)
  case atStart => exact ⟨0, Nat.zero_le _, rfl, Lib.hid (Or.inl rfl), Gr.refl _, Lib.hid rfl⟩
  case round =>
    obtain ⟨i, hi, rfl, hst, hg, hf⟩ := hrel
    have zr := Gr.size hg
    have k0 := Gr.at hg k0; have k1 := Gr.at hg k1; have k2 := Gr.at hg k2; have k3 := Gr.at hg k3; have k4 := Gr.at hg k4; have k5 := Gr.at hg k5
    by_cases hlt : i < n3
    · obtain rfl := HA.out (by omega); obtain rfl := VA.out (by omega); obtain rfl := PA.out (by omega)
      have g1 := g0.trans hg
      have HC := Lib.hid (HCP.out i hlt)
      obtain ⟨a0, a1, a2, a3, a4, a5, a6, a7, a8⟩ := (HX.out i hlt).1.gr g1
      have v0 := Gr.at g1 (VX.out i hlt).1; have p0 := Gr.at g1 (PX.out i hlt).1
      have hbb : b < wr.heap.size := World.block_lt_of_cell? _ _ a0
      have hbv : b3 < wr.heap.size := World.block_lt_of_cell? _ _ v0
      have hbp : b4 < wr.heap.size := World.block_lt_of_cell? _ _ p0
      have HS := Lib.hid (fun hh => show r = false by rw [HQ.out, Ba.allB_stop (p := Ba.stN ⟨some ⟨b, o, none⟩, n3, c, b, o, D⟩ ⟨⟨some ⟨b3, o3, none⟩, n3, c3, b3, o3, X3⟩, ⟨some ⟨b4, o4, none⟩, n3, c4, b4, o4, X4⟩, ⟨A5, n5, c5, b5, o5, X5⟩, ⟨A6, n5, c6, b6, o6, X6⟩⟩) hlt hh, Bool.false_and])
      have HG := Lib.hid (show (Ba.bet (X3 i) 0 (Ba.capy (D i)) && (Ba.bet (X4 i) 0 1125899906842624 && !(((D i).kd == 3) && !(X4 i == 0)))) = true → _ from fun hh => Ba.allB_go hf.out hh)
      clear hf HX VX PX HCP
      unfold Ba.stN at HS
      simp only at HS HC
      unfold Ba.Node.val at HC
      generalize X3 i = x at HS HG v0
      generalize X4 i = y at HS HG p0
      generalize D i = d at *
      have ib0 : (0 : Int) ≤ (i : Int) := by omega
      have ib1 : (i : Int) < (n3 : Int) := by omega
      have HW := Lib.hid (HW.out x (Ba.capy d)); have HH := Lib.hid (HH.out y)
      generalize Ba.capy d = cp at *
      generalize Ba.bet x 0 cp = q0 at HS HG HW
      generalize Ba.bet y 0 1125899906842624 = q1 at HS HG HH
      cases q0
      · obtain rfl : r = false := HS.out (by rw [Bool.false_and])
        clear HS HG HQ
        skip
        go_wp2_with fail
        (first | refine name_world ?_ | refine (show (∀ W, W = _ → Calls _ _ _ W _) → Calls _ _ _ _ _ from fun h => h _ rfl) ?_); intro W6 hW6
        have g6 : Gr w W6 := by rw [hW6]; exact gr_auto
        have gb6_W0 : Gr W0 W6 := by (try clear g6); rw [hW6]; exact gr_auto
        have k6_0 : W6.cell? ⟨w.heap.size + 1, 0, none⟩ = some (.slice (some ⟨b3, o3, none⟩) n3 c3) := by rw [hW6]; first | (simp [go_sem, *]; done) | (refine Gr.at ?_ (by assumption); exact gr_auto)
        have b6_0 : w.heap.size + 1 < W6.heap.size := World.block_lt_of_cell? _ _ k6_0
        have k6_1 : W6.cell? ⟨w.heap.size + 1, 1, none⟩ = some (.slice (some ⟨b4, o4, none⟩) n3 c4) := by rw [hW6]; first | (simp [go_sem, *]; done) | (refine Gr.at ?_ (by assumption); exact gr_auto)
        have k6_2 : W6.cell? ⟨b3, o3 + i, none⟩ = some (.int .i64 x) := by rw [hW6]; first | (simp [go_sem, *]; done) | (refine Gr.at ?_ (by assumption); exact gr_auto)
        have b6_2 : b3 < W6.heap.size := World.block_lt_of_cell? _ _ k6_2
        have k6_3 : W6.cell? ⟨b4, o4 + i, none⟩ = some (.int .i64 y) := by rw [hW6]; first | (simp [go_sem, *]; done) | (refine Gr.at ?_ (by assumption); exact gr_auto)
        have b6_3 : b4 < W6.heap.size := World.block_lt_of_cell? _ _ k6_3
        have k6_4 : W6.cell? ⟨wr.heap.size, 0, none⟩ = some (.string d.nm) := by rw [hW6]; first | (simp [go_sem, *]; done) | (refine Gr.at ?_ (by assumption); exact gr_auto)
        have b6_4 : wr.heap.size < W6.heap.size := World.block_lt_of_cell? _ _ k6_4
        have k6_5 : W6.cell? ⟨wr.heap.size, 1, none⟩ = some (.int .i64 d.kd) := by rw [hW6]; first | (simp [go_sem, *]; done) | (refine Gr.at ?_ (by assumption); exact gr_auto)
        have k6_6 : W6.cell? ⟨wr.heap.size, 2, none⟩ = some (.int .i64 d.ax) := by rw [hW6]; first | (simp [go_sem, *]; done) | (refine Gr.at ?_ (by assumption); exact gr_auto)
        have k6_7 : W6.cell? ⟨wr.heap.size, 3, none⟩ = some (.int .i64 d.ay) := by rw [hW6]; first | (simp [go_sem, *]; done) | (refine Gr.at ?_ (by assumption); exact gr_auto)
        have k6_8 : W6.cell? ⟨wr.heap.size, 4, none⟩ = some (.int .i64 d.iv) := by rw [hW6]; first | (simp [go_sem, *]; done) | (refine Gr.at ?_ (by assumption); exact gr_auto)
        have k6_9 : W6.cell? ⟨wr.heap.size, 5, none⟩ = some (.int .i64 d.gr) := by rw [hW6]; first | (simp [go_sem, *]; done) | (refine Gr.at ?_ (by assumption); exact gr_auto)
        have k6_10 : W6.cell? ⟨wr.heap.size, 6, none⟩ = some (.slice d.sh.A d.sh.n d.sh.c) := by rw [hW6]; first | (simp [go_sem, *]; done) | (refine Gr.at ?_ (by assumption); exact gr_auto)
        have k6_11 : W6.cell? ⟨wr.heap.size, 7, none⟩ = some (.bool d.pr) := by rw [hW6]; first | (simp [go_sem, *]; done) | (refine Gr.at ?_ (by assumption); exact gr_auto)
        have k6_12 : W6.cell? ⟨wr.heap.size, 8, none⟩ = some (.int .i64 d.rs) := by rw [hW6]; first | (simp [go_sem, *]; done) | (refine Gr.at ?_ (by assumption); exact gr_auto)
        clear hW6
        have s6_0 : ∀ gw : GW W6, gw.1.cell? ⟨w.heap.size + 1, 0, none⟩ = some (.slice (some ⟨b3, o3, none⟩) n3 c3) := fun gw => Gr.at gw.2 k6_0
        have s6_1 : ∀ gw : GW W6, gw.1.cell? ⟨w.heap.size + 1, 1, none⟩ = some (.slice (some ⟨b4, o4, none⟩) n3 c4) := fun gw => Gr.at gw.2 k6_1
        have s6_2 : ∀ gw : GW W6, gw.1.cell? ⟨b3, o3 + i, none⟩ = some (.int .i64 x) := fun gw => Gr.at gw.2 k6_2
        have s6_3 : ∀ gw : GW W6, gw.1.cell? ⟨b4, o4 + i, none⟩ = some (.int .i64 y) := fun gw => Gr.at gw.2 k6_3
        have s6_4 : ∀ gw : GW W6, gw.1.cell? ⟨wr.heap.size, 0, none⟩ = some (.string d.nm) := fun gw => Gr.at gw.2 k6_4
        have s6_5 : ∀ gw : GW W6, gw.1.cell? ⟨wr.heap.size, 1, none⟩ = some (.int .i64 d.kd) := fun gw => Gr.at gw.2 k6_5
        have s6_6 : ∀ gw : GW W6, gw.1.cell? ⟨wr.heap.size, 2, none⟩ = some (.int .i64 d.ax) := fun gw => Gr.at gw.2 k6_6
        have s6_7 : ∀ gw : GW W6, gw.1.cell? ⟨wr.heap.size, 3, none⟩ = some (.int .i64 d.ay) := fun gw => Gr.at gw.2 k6_7
        have s6_8 : ∀ gw : GW W6, gw.1.cell? ⟨wr.heap.size, 4, none⟩ = some (.int .i64 d.iv) := fun gw => Gr.at gw.2 k6_8
        have s6_9 : ∀ gw : GW W6, gw.1.cell? ⟨wr.heap.size, 5, none⟩ = some (.int .i64 d.gr) := fun gw => Gr.at gw.2 k6_9
        have s6_10 : ∀ gw : GW W6, gw.1.cell? ⟨wr.heap.size, 6, none⟩ = some (.slice d.sh.A d.sh.n d.sh.c) := fun gw => Gr.at gw.2 k6_10
        have s6_11 : ∀ gw : GW W6, gw.1.cell? ⟨wr.heap.size, 7, none⟩ = some (.bool d.pr) := fun gw => Gr.at gw.2 k6_11
        have s6_12 : ∀ gw : GW W6, gw.1.cell? ⟨wr.heap.size, 8, none⟩ = some (.int .i64 d.rs) := fun gw => Gr.at gw.2 k6_12
        have HC7 := Lib.hid (fun x : GW W6 => gw_call (HC.out x.1 (g6.trans x.2)))
        have HW7 := Lib.hid (fun x : GW W6 => gw_same (HW.out x.1))
        have HH7 := Lib.hid (fun x : GW W6 => gw_same (HH.out x.1))
        refine wp_region_gr (by kernel_rfl) (by kernel_rfl) ?_
        repeat (go_big_quiet_step ((first | (go_at_call 83; exact HC7.out _) | (go_at_call 82; exact HW7.out _) | (go_at_call 84; exact HH7.out _))))
        refine wpQuiet_nil ?_
        intro w7 hb7
        clear s6_0 s6_1 s6_2 s6_3 s6_4 s6_5 s6_6 s6_7 s6_8 s6_9 s6_10 s6_11 s6_12
        have g7 : Gr w w7 := g6.trans hb7
        have k6_0 := Gr.at hb7 k6_0
        have k6_1 := Gr.at hb7 k6_1
        have k6_2 := Gr.at hb7 k6_2
        have k6_3 := Gr.at hb7 k6_3
        have k6_4 := Gr.at hb7 k6_4
        have k6_5 := Gr.at hb7 k6_5
        have k6_6 := Gr.at hb7 k6_6
        have k6_7 := Gr.at hb7 k6_7
        have k6_8 := Gr.at hb7 k6_8
        have k6_9 := Gr.at hb7 k6_9
        have k6_10 := Gr.at hb7 k6_10
        have k6_11 := Gr.at hb7 k6_11
        have k6_12 := Gr.at hb7 k6_12
        go_wp2_with fail
        go_ret
        exact ⟨rfl, gr_auto⟩
      cases q1
      · obtain rfl : r = false := HS.out (by rw [Bool.false_and, Bool.and_false])
        clear HS HG HQ
        skip
        go_wp2_with fail
        (first | refine name_world ?_ | refine (show (∀ W, W = _ → Calls _ _ _ W _) → Calls _ _ _ _ _ from fun h => h _ rfl) ?_); intro W6 hW6
        have g6 : Gr w W6 := by rw [hW6]; exact gr_auto
        have gb6_W0 : Gr W0 W6 := by (try clear g6); rw [hW6]; exact gr_auto
        have k6_0 : W6.cell? ⟨w.heap.size + 1, 0, none⟩ = some (.slice (some ⟨b3, o3, none⟩) n3 c3) := by rw [hW6]; first | (simp [go_sem, *]; done) | (refine Gr.at ?_ (by assumption); exact gr_auto)
        have b6_0 : w.heap.size + 1 < W6.heap.size := World.block_lt_of_cell? _ _ k6_0
        have k6_1 : W6.cell? ⟨w.heap.size + 1, 1, none⟩ = some (.slice (some ⟨b4, o4, none⟩) n3 c4) := by rw [hW6]; first | (simp [go_sem, *]; done) | (refine Gr.at ?_ (by assumption); exact gr_auto)
        have k6_2 : W6.cell? ⟨b3, o3 + i, none⟩ = some (.int .i64 x) := by rw [hW6]; first | (simp [go_sem, *]; done) | (refine Gr.at ?_ (by assumption); exact gr_auto)
        have b6_2 : b3 < W6.heap.size := World.block_lt_of_cell? _ _ k6_2
        have k6_3 : W6.cell? ⟨b4, o4 + i, none⟩ = some (.int .i64 y) := by rw [hW6]; first | (simp [go_sem, *]; done) | (refine Gr.at ?_ (by assumption); exact gr_auto)
        have b6_3 : b4 < W6.heap.size := World.block_lt_of_cell? _ _ k6_3
        have k6_4 : W6.cell? ⟨wr.heap.size, 0, none⟩ = some (.string d.nm) := by rw [hW6]; first | (simp [go_sem, *]; done) | (refine Gr.at ?_ (by assumption); exact gr_auto)
        have b6_4 : wr.heap.size < W6.heap.size := World.block_lt_of_cell? _ _ k6_4
        have k6_5 : W6.cell? ⟨wr.heap.size, 1, none⟩ = some (.int .i64 d.kd) := by rw [hW6]; first | (simp [go_sem, *]; done) | (refine Gr.at ?_ (by assumption); exact gr_auto)
        have k6_6 : W6.cell? ⟨wr.heap.size, 2, none⟩ = some (.int .i64 d.ax) := by rw [hW6]; first | (simp [go_sem, *]; done) | (refine Gr.at ?_ (by assumption); exact gr_auto)
        have k6_7 : W6.cell? ⟨wr.heap.size, 3, none⟩ = some (.int .i64 d.ay) := by rw [hW6]; first | (simp [go_sem, *]; done) | (refine Gr.at ?_ (by assumption); exact gr_auto)
        have k6_8 : W6.cell? ⟨wr.heap.size, 4, none⟩ = some (.int .i64 d.iv) := by rw [hW6]; first | (simp [go_sem, *]; done) | (refine Gr.at ?_ (by assumption); exact gr_auto)
        have k6_9 : W6.cell? ⟨wr.heap.size, 5, none⟩ = some (.int .i64 d.gr) := by rw [hW6]; first | (simp [go_sem, *]; done) | (refine Gr.at ?_ (by assumption); exact gr_auto)
        have k6_10 : W6.cell? ⟨wr.heap.size, 6, none⟩ = some (.slice d.sh.A d.sh.n d.sh.c) := by rw [hW6]; first | (simp [go_sem, *]; done) | (refine Gr.at ?_ (by assumption); exact gr_auto)
        have k6_11 : W6.cell? ⟨wr.heap.size, 7, none⟩ = some (.bool d.pr) := by rw [hW6]; first | (simp [go_sem, *]; done) | (refine Gr.at ?_ (by assumption); exact gr_auto)
        have k6_12 : W6.cell? ⟨wr.heap.size, 8, none⟩ = some (.int .i64 d.rs) := by rw [hW6]; first | (simp [go_sem, *]; done) | (refine Gr.at ?_ (by assumption); exact gr_auto)
        clear hW6
        have s6_0 : ∀ gw : GW W6, gw.1.cell? ⟨w.heap.size + 1, 0, none⟩ = some (.slice (some ⟨b3, o3, none⟩) n3 c3) := fun gw => Gr.at gw.2 k6_0
        have s6_1 : ∀ gw : GW W6, gw.1.cell? ⟨w.heap.size + 1, 1, none⟩ = some (.slice (some ⟨b4, o4, none⟩) n3 c4) := fun gw => Gr.at gw.2 k6_1
        have s6_2 : ∀ gw : GW W6, gw.1.cell? ⟨b3, o3 + i, none⟩ = some (.int .i64 x) := fun gw => Gr.at gw.2 k6_2
        have s6_3 : ∀ gw : GW W6, gw.1.cell? ⟨b4, o4 + i, none⟩ = some (.int .i64 y) := fun gw => Gr.at gw.2 k6_3
        have s6_4 : ∀ gw : GW W6, gw.1.cell? ⟨wr.heap.size, 0, none⟩ = some (.string d.nm) := fun gw => Gr.at gw.2 k6_4
        have s6_5 : ∀ gw : GW W6, gw.1.cell? ⟨wr.heap.size, 1, none⟩ = some (.int .i64 d.kd) := fun gw => Gr.at gw.2 k6_5
        have s6_6 : ∀ gw : GW W6, gw.1.cell? ⟨wr.heap.size, 2, none⟩ = some (.int .i64 d.ax) := fun gw => Gr.at gw.2 k6_6
        have s6_7 : ∀ gw : GW W6, gw.1.cell? ⟨wr.heap.size, 3, none⟩ = some (.int .i64 d.ay) := fun gw => Gr.at gw.2 k6_7
        have s6_8 : ∀ gw : GW W6, gw.1.cell? ⟨wr.heap.size, 4, none⟩ = some (.int .i64 d.iv) := fun gw => Gr.at gw.2 k6_8
        have s6_9 : ∀ gw : GW W6, gw.1.cell? ⟨wr.heap.size, 5, none⟩ = some (.int .i64 d.gr) := fun gw => Gr.at gw.2 k6_9
        have s6_10 : ∀ gw : GW W6, gw.1.cell? ⟨wr.heap.size, 6, none⟩ = some (.slice d.sh.A d.sh.n d.sh.c) := fun gw => Gr.at gw.2 k6_10
        have s6_11 : ∀ gw : GW W6, gw.1.cell? ⟨wr.heap.size, 7, none⟩ = some (.bool d.pr) := fun gw => Gr.at gw.2 k6_11
        have s6_12 : ∀ gw : GW W6, gw.1.cell? ⟨wr.heap.size, 8, none⟩ = some (.int .i64 d.rs) := fun gw => Gr.at gw.2 k6_12
        have HC7 := Lib.hid (fun x : GW W6 => gw_call (HC.out x.1 (g6.trans x.2)))
        have HW7 := Lib.hid (fun x : GW W6 => gw_same (HW.out x.1))
        have HH7 := Lib.hid (fun x : GW W6 => gw_same (HH.out x.1))
        refine wp_region_gr (by kernel_rfl) (by kernel_rfl) ?_
        repeat (go_big_quiet_step ((first | (go_at_call 83; exact HC7.out _) | (go_at_call 82; exact HW7.out _) | (go_at_call 84; exact HH7.out _))))
        refine wpQuiet_nil ?_
        intro w7 hb7
        clear s6_0 s6_1 s6_2 s6_3 s6_4 s6_5 s6_6 s6_7 s6_8 s6_9 s6_10 s6_11 s6_12
        have g7 : Gr w w7 := g6.trans hb7
        have k6_0 := Gr.at hb7 k6_0
        have k6_1 := Gr.at hb7 k6_1
        have k6_2 := Gr.at hb7 k6_2
        have k6_3 := Gr.at hb7 k6_3
        have k6_4 := Gr.at hb7 k6_4
        have k6_5 := Gr.at hb7 k6_5
        have k6_6 := Gr.at hb7 k6_6
        have k6_7 := Gr.at hb7 k6_7
        have k6_8 := Gr.at hb7 k6_8
        have k6_9 := Gr.at hb7 k6_9
        have k6_10 := Gr.at hb7 k6_10
        have k6_11 := Gr.at hb7 k6_11
        have k6_12 := Gr.at hb7 k6_12
        go_wp2_with fail
        go_ret
        exact ⟨rfl, gr_auto⟩
      cases q2 : (d.kd == 3)
      · have HG := Lib.hid (HG.out (by rw [q2]; rfl))
        clear HS
        go_wp2_with fail
        (first | refine name_world ?_ | refine (show (∀ W, W = _ → Calls _ _ _ W _) → Calls _ _ _ _ _ from fun h => h _ rfl) ?_); intro W6 hW6
        have g6 : Gr w W6 := by rw [hW6]; exact gr_auto
        have gb6_W0 : Gr W0 W6 := by (try clear g6); rw [hW6]; exact gr_auto
        have k6_0 : W6.cell? ⟨w.heap.size + 1, 0, none⟩ = some (.slice (some ⟨b3, o3, none⟩) n3 c3) := by rw [hW6]; first | (simp [go_sem, *]; done) | (refine Gr.at ?_ (by assumption); exact gr_auto)
        have b6_0 : w.heap.size + 1 < W6.heap.size := World.block_lt_of_cell? _ _ k6_0
        have k6_1 : W6.cell? ⟨w.heap.size + 1, 1, none⟩ = some (.slice (some ⟨b4, o4, none⟩) n3 c4) := by rw [hW6]; first | (simp [go_sem, *]; done) | (refine Gr.at ?_ (by assumption); exact gr_auto)
        have k6_2 : W6.cell? ⟨b3, o3 + i, none⟩ = some (.int .i64 x) := by rw [hW6]; first | (simp [go_sem, *]; done) | (refine Gr.at ?_ (by assumption); exact gr_auto)
        have b6_2 : b3 < W6.heap.size := World.block_lt_of_cell? _ _ k6_2
        have k6_3 : W6.cell? ⟨b4, o4 + i, none⟩ = some (.int .i64 y) := by rw [hW6]; first | (simp [go_sem, *]; done) | (refine Gr.at ?_ (by assumption); exact gr_auto)
        have b6_3 : b4 < W6.heap.size := World.block_lt_of_cell? _ _ k6_3
        have k6_4 : W6.cell? ⟨wr.heap.size, 0, none⟩ = some (.string d.nm) := by rw [hW6]; first | (simp [go_sem, *]; done) | (refine Gr.at ?_ (by assumption); exact gr_auto)
        have b6_4 : wr.heap.size < W6.heap.size := World.block_lt_of_cell? _ _ k6_4
        have k6_5 : W6.cell? ⟨wr.heap.size, 1, none⟩ = some (.int .i64 d.kd) := by rw [hW6]; first | (simp [go_sem, *]; done) | (refine Gr.at ?_ (by assumption); exact gr_auto)
        have k6_6 : W6.cell? ⟨wr.heap.size, 2, none⟩ = some (.int .i64 d.ax) := by rw [hW6]; first | (simp [go_sem, *]; done) | (refine Gr.at ?_ (by assumption); exact gr_auto)
        have k6_7 : W6.cell? ⟨wr.heap.size, 3, none⟩ = some (.int .i64 d.ay) := by rw [hW6]; first | (simp [go_sem, *]; done) | (refine Gr.at ?_ (by assumption); exact gr_auto)
        have k6_8 : W6.cell? ⟨wr.heap.size, 4, none⟩ = some (.int .i64 d.iv) := by rw [hW6]; first | (simp [go_sem, *]; done) | (refine Gr.at ?_ (by assumption); exact gr_auto)
        have k6_9 : W6.cell? ⟨wr.heap.size, 5, none⟩ = some (.int .i64 d.gr) := by rw [hW6]; first | (simp [go_sem, *]; done) | (refine Gr.at ?_ (by assumption); exact gr_auto)
        have k6_10 : W6.cell? ⟨wr.heap.size, 6, none⟩ = some (.slice d.sh.A d.sh.n d.sh.c) := by rw [hW6]; first | (simp [go_sem, *]; done) | (refine Gr.at ?_ (by assumption); exact gr_auto)
        have k6_11 : W6.cell? ⟨wr.heap.size, 7, none⟩ = some (.bool d.pr) := by rw [hW6]; first | (simp [go_sem, *]; done) | (refine Gr.at ?_ (by assumption); exact gr_auto)
        have k6_12 : W6.cell? ⟨wr.heap.size, 8, none⟩ = some (.int .i64 d.rs) := by rw [hW6]; first | (simp [go_sem, *]; done) | (refine Gr.at ?_ (by assumption); exact gr_auto)
        clear hW6
        have s6_0 : ∀ gw : GW W6, gw.1.cell? ⟨w.heap.size + 1, 0, none⟩ = some (.slice (some ⟨b3, o3, none⟩) n3 c3) := fun gw => Gr.at gw.2 k6_0
        have s6_1 : ∀ gw : GW W6, gw.1.cell? ⟨w.heap.size + 1, 1, none⟩ = some (.slice (some ⟨b4, o4, none⟩) n3 c4) := fun gw => Gr.at gw.2 k6_1
        have s6_2 : ∀ gw : GW W6, gw.1.cell? ⟨b3, o3 + i, none⟩ = some (.int .i64 x) := fun gw => Gr.at gw.2 k6_2
        have s6_3 : ∀ gw : GW W6, gw.1.cell? ⟨b4, o4 + i, none⟩ = some (.int .i64 y) := fun gw => Gr.at gw.2 k6_3
        have s6_4 : ∀ gw : GW W6, gw.1.cell? ⟨wr.heap.size, 0, none⟩ = some (.string d.nm) := fun gw => Gr.at gw.2 k6_4
        have s6_5 : ∀ gw : GW W6, gw.1.cell? ⟨wr.heap.size, 1, none⟩ = some (.int .i64 d.kd) := fun gw => Gr.at gw.2 k6_5
        have s6_6 : ∀ gw : GW W6, gw.1.cell? ⟨wr.heap.size, 2, none⟩ = some (.int .i64 d.ax) := fun gw => Gr.at gw.2 k6_6
        have s6_7 : ∀ gw : GW W6, gw.1.cell? ⟨wr.heap.size, 3, none⟩ = some (.int .i64 d.ay) := fun gw => Gr.at gw.2 k6_7
        have s6_8 : ∀ gw : GW W6, gw.1.cell? ⟨wr.heap.size, 4, none⟩ = some (.int .i64 d.iv) := fun gw => Gr.at gw.2 k6_8
        have s6_9 : ∀ gw : GW W6, gw.1.cell? ⟨wr.heap.size, 5, none⟩ = some (.int .i64 d.gr) := fun gw => Gr.at gw.2 k6_9
        have s6_10 : ∀ gw : GW W6, gw.1.cell? ⟨wr.heap.size, 6, none⟩ = some (.slice d.sh.A d.sh.n d.sh.c) := fun gw => Gr.at gw.2 k6_10
        have s6_11 : ∀ gw : GW W6, gw.1.cell? ⟨wr.heap.size, 7, none⟩ = some (.bool d.pr) := fun gw => Gr.at gw.2 k6_11
        have s6_12 : ∀ gw : GW W6, gw.1.cell? ⟨wr.heap.size, 8, none⟩ = some (.int .i64 d.rs) := fun gw => Gr.at gw.2 k6_12
        have HC7 := Lib.hid (fun x : GW W6 => gw_call (HC.out x.1 (g6.trans x.2)))
        have HW7 := Lib.hid (fun x : GW W6 => gw_same (HW.out x.1))
        have HH7 := Lib.hid (fun x : GW W6 => gw_same (HH.out x.1))
        refine wp_region_gr (by kernel_rfl) (by kernel_rfl) ?_
        repeat (go_big_quiet_step ((first | (go_at_call 83; exact HC7.out _) | (go_at_call 82; exact HW7.out _) | (go_at_call 84; exact HH7.out _))))
        refine wpQuiet_nil ?_
        intro w7 hb7
        clear s6_0 s6_1 s6_2 s6_3 s6_4 s6_5 s6_6 s6_7 s6_8 s6_9 s6_10 s6_11 s6_12
        have g7 : Gr w w7 := g6.trans hb7
        have k6_0 := Gr.at hb7 k6_0
        have k6_1 := Gr.at hb7 k6_1
        have k6_2 := Gr.at hb7 k6_2
        have k6_3 := Gr.at hb7 k6_3
        have k6_4 := Gr.at hb7 k6_4
        have k6_5 := Gr.at hb7 k6_5
        have k6_6 := Gr.at hb7 k6_6
        have k6_7 := Gr.at hb7 k6_7
        have k6_8 := Gr.at hb7 k6_8
        have k6_9 := Gr.at hb7 k6_9
        have k6_10 := Gr.at hb7 k6_10
        have k6_11 := Gr.at hb7 k6_11
        have k6_12 := Gr.at hb7 k6_12
        go_wp2_with fail
        go_roundw
        case rel => clear g7 g6; exact ⟨i + 1, by omega, by go_num, by first | exact Lib.hid (Or.inr (Or.inl rfl)) | exact Lib.hid (Or.inr (Or.inr rfl)), gr_auto, HG⟩
        case measure => simp [intOf]; omega
      cases q3 : (y == 0)
      · have t3 := Ba.bneq_of q3
        obtain rfl : r = false := HS.out (by rw [q2, q3]; rfl)
        clear HS HG HQ
        skip
        go_wp2_with fail
        (first | refine name_world ?_ | refine (show (∀ W, W = _ → Calls _ _ _ W _) → Calls _ _ _ _ _ from fun h => h _ rfl) ?_); intro W6 hW6
        have g6 : Gr w W6 := by rw [hW6]; exact gr_auto
        have gb6_W0 : Gr W0 W6 := by (try clear g6); rw [hW6]; exact gr_auto
        have k6_0 : W6.cell? ⟨w.heap.size + 1, 0, none⟩ = some (.slice (some ⟨b3, o3, none⟩) n3 c3) := by rw [hW6]; first | (simp [go_sem, *]; done) | (refine Gr.at ?_ (by assumption); exact gr_auto)
        have b6_0 : w.heap.size + 1 < W6.heap.size := World.block_lt_of_cell? _ _ k6_0
        have k6_1 : W6.cell? ⟨w.heap.size + 1, 1, none⟩ = some (.slice (some ⟨b4, o4, none⟩) n3 c4) := by rw [hW6]; first | (simp [go_sem, *]; done) | (refine Gr.at ?_ (by assumption); exact gr_auto)
        have k6_2 : W6.cell? ⟨b3, o3 + i, none⟩ = some (.int .i64 x) := by rw [hW6]; first | (simp [go_sem, *]; done) | (refine Gr.at ?_ (by assumption); exact gr_auto)
        have b6_2 : b3 < W6.heap.size := World.block_lt_of_cell? _ _ k6_2
        have k6_3 : W6.cell? ⟨b4, o4 + i, none⟩ = some (.int .i64 y) := by rw [hW6]; first | (simp [go_sem, *]; done) | (refine Gr.at ?_ (by assumption); exact gr_auto)
        have b6_3 : b4 < W6.heap.size := World.block_lt_of_cell? _ _ k6_3
        have k6_4 : W6.cell? ⟨wr.heap.size, 0, none⟩ = some (.string d.nm) := by rw [hW6]; first | (simp [go_sem, *]; done) | (refine Gr.at ?_ (by assumption); exact gr_auto)
        have b6_4 : wr.heap.size < W6.heap.size := World.block_lt_of_cell? _ _ k6_4
        have k6_5 : W6.cell? ⟨wr.heap.size, 1, none⟩ = some (.int .i64 d.kd) := by rw [hW6]; first | (simp [go_sem, *]; done) | (refine Gr.at ?_ (by assumption); exact gr_auto)
        have k6_6 : W6.cell? ⟨wr.heap.size, 2, none⟩ = some (.int .i64 d.ax) := by rw [hW6]; first | (simp [go_sem, *]; done) | (refine Gr.at ?_ (by assumption); exact gr_auto)
        have k6_7 : W6.cell? ⟨wr.heap.size, 3, none⟩ = some (.int .i64 d.ay) := by rw [hW6]; first | (simp [go_sem, *]; done) | (refine Gr.at ?_ (by assumption); exact gr_auto)
        have k6_8 : W6.cell? ⟨wr.heap.size, 4, none⟩ = some (.int .i64 d.iv) := by rw [hW6]; first | (simp [go_sem, *]; done) | (refine Gr.at ?_ (by assumption); exact gr_auto)
        have k6_9 : W6.cell? ⟨wr.heap.size, 5, none⟩ = some (.int .i64 d.gr) := by rw [hW6]; first | (simp [go_sem, *]; done) | (refine Gr.at ?_ (by assumption); exact gr_auto)
        have k6_10 : W6.cell? ⟨wr.heap.size, 6, none⟩ = some (.slice d.sh.A d.sh.n d.sh.c) := by rw [hW6]; first | (simp [go_sem, *]; done) | (refine Gr.at ?_ (by assumption); exact gr_auto)
        have k6_11 : W6.cell? ⟨wr.heap.size, 7, none⟩ = some (.bool d.pr) := by rw [hW6]; first | (simp [go_sem, *]; done) | (refine Gr.at ?_ (by assumption); exact gr_auto)
        have k6_12 : W6.cell? ⟨wr.heap.size, 8, none⟩ = some (.int .i64 d.rs) := by rw [hW6]; first | (simp [go_sem, *]; done) | (refine Gr.at ?_ (by assumption); exact gr_auto)
        clear hW6
        have s6_0 : ∀ gw : GW W6, gw.1.cell? ⟨w.heap.size + 1, 0, none⟩ = some (.slice (some ⟨b3, o3, none⟩) n3 c3) := fun gw => Gr.at gw.2 k6_0
        have s6_1 : ∀ gw : GW W6, gw.1.cell? ⟨w.heap.size + 1, 1, none⟩ = some (.slice (some ⟨b4, o4, none⟩) n3 c4) := fun gw => Gr.at gw.2 k6_1
        have s6_2 : ∀ gw : GW W6, gw.1.cell? ⟨b3, o3 + i, none⟩ = some (.int .i64 x) := fun gw => Gr.at gw.2 k6_2
        have s6_3 : ∀ gw : GW W6, gw.1.cell? ⟨b4, o4 + i, none⟩ = some (.int .i64 y) := fun gw => Gr.at gw.2 k6_3
        have s6_4 : ∀ gw : GW W6, gw.1.cell? ⟨wr.heap.size, 0, none⟩ = some (.string d.nm) := fun gw => Gr.at gw.2 k6_4
        have s6_5 : ∀ gw : GW W6, gw.1.cell? ⟨wr.heap.size, 1, none⟩ = some (.int .i64 d.kd) := fun gw => Gr.at gw.2 k6_5
        have s6_6 : ∀ gw : GW W6, gw.1.cell? ⟨wr.heap.size, 2, none⟩ = some (.int .i64 d.ax) := fun gw => Gr.at gw.2 k6_6
        have s6_7 : ∀ gw : GW W6, gw.1.cell? ⟨wr.heap.size, 3, none⟩ = some (.int .i64 d.ay) := fun gw => Gr.at gw.2 k6_7
        have s6_8 : ∀ gw : GW W6, gw.1.cell? ⟨wr.heap.size, 4, none⟩ = some (.int .i64 d.iv) := fun gw => Gr.at gw.2 k6_8
        have s6_9 : ∀ gw : GW W6, gw.1.cell? ⟨wr.heap.size, 5, none⟩ = some (.int .i64 d.gr) := fun gw => Gr.at gw.2 k6_9
        have s6_10 : ∀ gw : GW W6, gw.1.cell? ⟨wr.heap.size, 6, none⟩ = some (.slice d.sh.A d.sh.n d.sh.c) := fun gw => Gr.at gw.2 k6_10
        have s6_11 : ∀ gw : GW W6, gw.1.cell? ⟨wr.heap.size, 7, none⟩ = some (.bool d.pr) := fun gw => Gr.at gw.2 k6_11
        have s6_12 : ∀ gw : GW W6, gw.1.cell? ⟨wr.heap.size, 8, none⟩ = some (.int .i64 d.rs) := fun gw => Gr.at gw.2 k6_12
        have HC7 := Lib.hid (fun x : GW W6 => gw_call (HC.out x.1 (g6.trans x.2)))
        have HW7 := Lib.hid (fun x : GW W6 => gw_same (HW.out x.1))
        have HH7 := Lib.hid (fun x : GW W6 => gw_same (HH.out x.1))
        refine wp_region_gr (by kernel_rfl) (by kernel_rfl) ?_
        repeat (go_big_quiet_step ((first | (go_at_call 83; exact HC7.out _) | (go_at_call 82; exact HW7.out _) | (go_at_call 84; exact HH7.out _))))
        refine wpQuiet_nil ?_
        intro w7 hb7
        clear s6_0 s6_1 s6_2 s6_3 s6_4 s6_5 s6_6 s6_7 s6_8 s6_9 s6_10 s6_11 s6_12
        have g7 : Gr w w7 := g6.trans hb7
        have k6_0 := Gr.at hb7 k6_0
        have k6_1 := Gr.at hb7 k6_1
        have k6_2 := Gr.at hb7 k6_2
        have k6_3 := Gr.at hb7 k6_3
        have k6_4 := Gr.at hb7 k6_4
        have k6_5 := Gr.at hb7 k6_5
        have k6_6 := Gr.at hb7 k6_6
        have k6_7 := Gr.at hb7 k6_7
        have k6_8 := Gr.at hb7 k6_8
        have k6_9 := Gr.at hb7 k6_9
        have k6_10 := Gr.at hb7 k6_10
        have k6_11 := Gr.at hb7 k6_11
        have k6_12 := Gr.at hb7 k6_12
        go_wp2_with fail
        go_ret
        exact ⟨rfl, gr_auto⟩
      · have HG := Lib.hid (HG.out (by rw [q2, q3]; rfl))
        have t3 : (y != 0) = false := by simp only [bne, q3, Bool.not_true]
        clear HS
        go_wp2_with fail
        (first | refine name_world ?_ | refine (show (∀ W, W = _ → Calls _ _ _ W _) → Calls _ _ _ _ _ from fun h => h _ rfl) ?_); intro W6 hW6
        have g6 : Gr w W6 := by rw [hW6]; exact gr_auto
        have gb6_W0 : Gr W0 W6 := by (try clear g6); rw [hW6]; exact gr_auto
        have k6_0 : W6.cell? ⟨w.heap.size + 1, 0, none⟩ = some (.slice (some ⟨b3, o3, none⟩) n3 c3) := by rw [hW6]; first | (simp [go_sem, *]; done) | (refine Gr.at ?_ (by assumption); exact gr_auto)
        have b6_0 : w.heap.size + 1 < W6.heap.size := World.block_lt_of_cell? _ _ k6_0
        have k6_1 : W6.cell? ⟨w.heap.size + 1, 1, none⟩ = some (.slice (some ⟨b4, o4, none⟩) n3 c4) := by rw [hW6]; first | (simp [go_sem, *]; done) | (refine Gr.at ?_ (by assumption); exact gr_auto)
        have k6_2 : W6.cell? ⟨b3, o3 + i, none⟩ = some (.int .i64 x) := by rw [hW6]; first | (simp [go_sem, *]; done) | (refine Gr.at ?_ (by assumption); exact gr_auto)
        have b6_2 : b3 < W6.heap.size := World.block_lt_of_cell? _ _ k6_2
        have k6_3 : W6.cell? ⟨b4, o4 + i, none⟩ = some (.int .i64 y) := by rw [hW6]; first | (simp [go_sem, *]; done) | (refine Gr.at ?_ (by assumption); exact gr_auto)
        have b6_3 : b4 < W6.heap.size := World.block_lt_of_cell? _ _ k6_3
        have k6_4 : W6.cell? ⟨wr.heap.size, 0, none⟩ = some (.string d.nm) := by rw [hW6]; first | (simp [go_sem, *]; done) | (refine Gr.at ?_ (by assumption); exact gr_auto)
        have b6_4 : wr.heap.size < W6.heap.size := World.block_lt_of_cell? _ _ k6_4
        have k6_5 : W6.cell? ⟨wr.heap.size, 1, none⟩ = some (.int .i64 d.kd) := by rw [hW6]; first | (simp [go_sem, *]; done) | (refine Gr.at ?_ (by assumption); exact gr_auto)
        have k6_6 : W6.cell? ⟨wr.heap.size, 2, none⟩ = some (.int .i64 d.ax) := by rw [hW6]; first | (simp [go_sem, *]; done) | (refine Gr.at ?_ (by assumption); exact gr_auto)
        have k6_7 : W6.cell? ⟨wr.heap.size, 3, none⟩ = some (.int .i64 d.ay) := by rw [hW6]; first | (simp [go_sem, *]; done) | (refine Gr.at ?_ (by assumption); exact gr_auto)
        have k6_8 : W6.cell? ⟨wr.heap.size, 4, none⟩ = some (.int .i64 d.iv) := by rw [hW6]; first | (simp [go_sem, *]; done) | (refine Gr.at ?_ (by assumption); exact gr_auto)
        have k6_9 : W6.cell? ⟨wr.heap.size, 5, none⟩ = some (.int .i64 d.gr) := by rw [hW6]; first | (simp [go_sem, *]; done) | (refine Gr.at ?_ (by assumption); exact gr_auto)
        have k6_10 : W6.cell? ⟨wr.heap.size, 6, none⟩ = some (.slice d.sh.A d.sh.n d.sh.c) := by rw [hW6]; first | (simp [go_sem, *]; done) | (refine Gr.at ?_ (by assumption); exact gr_auto)
        have k6_11 : W6.cell? ⟨wr.heap.size, 7, none⟩ = some (.bool d.pr) := by rw [hW6]; first | (simp [go_sem, *]; done) | (refine Gr.at ?_ (by assumption); exact gr_auto)
        have k6_12 : W6.cell? ⟨wr.heap.size, 8, none⟩ = some (.int .i64 d.rs) := by rw [hW6]; first | (simp [go_sem, *]; done) | (refine Gr.at ?_ (by assumption); exact gr_auto)
        clear hW6
        have s6_0 : ∀ gw : GW W6, gw.1.cell? ⟨w.heap.size + 1, 0, none⟩ = some (.slice (some ⟨b3, o3, none⟩) n3 c3) := fun gw => Gr.at gw.2 k6_0
        have s6_1 : ∀ gw : GW W6, gw.1.cell? ⟨w.heap.size + 1, 1, none⟩ = some (.slice (some ⟨b4, o4, none⟩) n3 c4) := fun gw => Gr.at gw.2 k6_1
        have s6_2 : ∀ gw : GW W6, gw.1.cell? ⟨b3, o3 + i, none⟩ = some (.int .i64 x) := fun gw => Gr.at gw.2 k6_2
        have s6_3 : ∀ gw : GW W6, gw.1.cell? ⟨b4, o4 + i, none⟩ = some (.int .i64 y) := fun gw => Gr.at gw.2 k6_3
        have s6_4 : ∀ gw : GW W6, gw.1.cell? ⟨wr.heap.size, 0, none⟩ = some (.string d.nm) := fun gw => Gr.at gw.2 k6_4
        have s6_5 : ∀ gw : GW W6, gw.1.cell? ⟨wr.heap.size, 1, none⟩ = some (.int .i64 d.kd) := fun gw => Gr.at gw.2 k6_5
        have s6_6 : ∀ gw : GW W6, gw.1.cell? ⟨wr.heap.size, 2, none⟩ = some (.int .i64 d.ax) := fun gw => Gr.at gw.2 k6_6
        have s6_7 : ∀ gw : GW W6, gw.1.cell? ⟨wr.heap.size, 3, none⟩ = some (.int .i64 d.ay) := fun gw => Gr.at gw.2 k6_7
        have s6_8 : ∀ gw : GW W6, gw.1.cell? ⟨wr.heap.size, 4, none⟩ = some (.int .i64 d.iv) := fun gw => Gr.at gw.2 k6_8
        have s6_9 : ∀ gw : GW W6, gw.1.cell? ⟨wr.heap.size, 5, none⟩ = some (.int .i64 d.gr) := fun gw => Gr.at gw.2 k6_9
        have s6_10 : ∀ gw : GW W6, gw.1.cell? ⟨wr.heap.size, 6, none⟩ = some (.slice d.sh.A d.sh.n d.sh.c) := fun gw => Gr.at gw.2 k6_10
        have s6_11 : ∀ gw : GW W6, gw.1.cell? ⟨wr.heap.size, 7, none⟩ = some (.bool d.pr) := fun gw => Gr.at gw.2 k6_11
        have s6_12 : ∀ gw : GW W6, gw.1.cell? ⟨wr.heap.size, 8, none⟩ = some (.int .i64 d.rs) := fun gw => Gr.at gw.2 k6_12
        have HC7 := Lib.hid (fun x : GW W6 => gw_call (HC.out x.1 (g6.trans x.2)))
        have HW7 := Lib.hid (fun x : GW W6 => gw_same (HW.out x.1))
        have HH7 := Lib.hid (fun x : GW W6 => gw_same (HH.out x.1))
        refine wp_region_gr (by kernel_rfl) (by kernel_rfl) ?_
        repeat (go_big_quiet_step ((first | (go_at_call 83; exact HC7.out _) | (go_at_call 82; exact HW7.out _) | (go_at_call 84; exact HH7.out _))))
        refine wpQuiet_nil ?_
        intro w7 hb7
        clear s6_0 s6_1 s6_2 s6_3 s6_4 s6_5 s6_6 s6_7 s6_8 s6_9 s6_10 s6_11 s6_12
        have g7 : Gr w w7 := g6.trans hb7
        have k6_0 := Gr.at hb7 k6_0
        have k6_1 := Gr.at hb7 k6_1
        have k6_2 := Gr.at hb7 k6_2
        have k6_3 := Gr.at hb7 k6_3
        have k6_4 := Gr.at hb7 k6_4
        have k6_5 := Gr.at hb7 k6_5
        have k6_6 := Gr.at hb7 k6_6
        have k6_7 := Gr.at hb7 k6_7
        have k6_8 := Gr.at hb7 k6_8
        have k6_9 := Gr.at hb7 k6_9
        have k6_10 := Gr.at hb7 k6_10
        have k6_11 := Gr.at hb7 k6_11
        have k6_12 := Gr.at hb7 k6_12
        go_wp2_with fail
        go_roundw
        case rel => clear g7 g6; exact ⟨i + 1, by omega, by go_num, by first | exact Lib.hid (Or.inr (Or.inl rfl)) | exact Lib.hid (Or.inr (Or.inr rfl)), gr_auto, HG⟩
        case measure => simp [intOf]; omega
    · obtain rfl : i = n3 := by omega
      rw [hf.out, Bool.true_and] at HQ
      clear hf HA VA PA HX VX PX HCP HH hi hlt
      have g1 := g0.trans hg
      clear g0 hg
      go_wp2_with fail
      refine name_world ?_; intro W1 hW1
      have g1' : Gr w W1 := by rw [hW1]; exact gr_auto
      have k1_0 : W1.cell? ⟨w.heap.size, 1, none⟩ = some (.slice A2 n5 c2) := by rw [hW1]; simp [go_sem, *]
      have k1_1 : W1.cell? ⟨w.heap.size + 1, 2, none⟩ = some (.slice A5 n5 c5) := by rw [hW1]; simp [go_sem, *]
      have k1_2 : W1.cell? ⟨w.heap.size + 1, 3, none⟩ = some (.slice A6 n5 c6) := by rw [hW1]; simp [go_sem, *]
      have z1' : w.heap.size + 1 < W1.heap.size := World.block_lt_of_cell? _ _ k1_1
      clear hW1
      clear g1 k0 k1 k2 k3 k4 k5
      go_loopw [91, 109] (fun q sv wr => ∃ k : Nat, k ≤ n5 ∧ q = .int .i64 (k : Int) ∧ Ba.Stale sv ∧ Gr W1 wr ∧ Hid (Ba.allB (Ba.stL ⟨A2, n5, c2, b2, o2, E⟩ ⟨⟨A3, i, c3, b3, o3, X3⟩, ⟨A4, i, c4, b4, o4, X4⟩, ⟨A5, n5, c5, b5, o5, X5⟩, ⟨A6, n5, c6, b6, o6, X6⟩⟩) k = true)) (fun q _ _ => n5 - (intOf q).toNat)
      case atStart => exact ⟨0, Nat.zero_le _, rfl, Lib.hid (Or.inl rfl), Gr.refl _, Lib.hid rfl⟩
      case round =>
        obtain ⟨k, hk, rfl, hst, hg, hf⟩ := hrel
        have zr := Gr.size hg
        have k2 := Gr.at hg k1_0; have k4 := Gr.at hg k1_1; have k5 := Gr.at hg k1_2
        by_cases hlt : k < n5
        · obtain rfl := KA.out (by omega); obtain rfl := SA.out (by omega); obtain rfl := OA.out (by omega)
          have g2 := g1'.trans hg
          obtain ⟨a0, a1, a2, a3, a4, a5, a6, a7, a8, a9, a10⟩ := (KX.out k hlt).1.gr g2
          have v0 := Gr.at g2 (SX.out k hlt).1; have p0 := Gr.at g2 (OX.out k hlt)
          have hbb : b2 < wr.heap.size := World.block_lt_of_cell? _ _ a0
          have hbv : b5 < wr.heap.size := World.block_lt_of_cell? _ _ v0
          have hbp : b6 < wr.heap.size := World.block_lt_of_cell? _ _ p0
          have HS := Lib.hid (fun hh => show r = false by rw [HQ.out, Ba.allB_stop (p := Ba.stL ⟨some ⟨b2, o2, none⟩, n5, c2, b2, o2, E⟩ ⟨⟨A3, i, c3, b3, o3, X3⟩, ⟨A4, i, c4, b4, o4, X4⟩, ⟨some ⟨b5, o5, none⟩, n5, c5, b5, o5, X5⟩, ⟨some ⟨b6, o6, none⟩, n5, c6, b6, o6, X6⟩⟩) hlt hh])
          have HG := Lib.hid (show (Ba.bet (X5 k) 0 1000 && !(X6 k && !((E k).kd == 4))) = true → _ from fun hh => Ba.allB_go hf.out hh)
          clear hf KX SX OX
          unfold Ba.stL at HS
          simp only at HS
          generalize X5 k = x at HS HG v0
          generalize X6 k = y at HS HG p0
          generalize E k = d at *
          have ib0 : (0 : Int) ≤ (k : Int) := by omega
          have ib1 : (k : Int) < (n5 : Int) := by omega
          have zw : w.heap.size + 1 < wr.heap.size := by omega
          have zn : w.heap.size + 1 ≠ wr.heap.size := by omega
          have zb : b5 ≠ wr.heap.size := by omega
          have zc : b6 ≠ wr.heap.size := by omega
          have HW := Lib.hid (HW.out x 1000)
          generalize Ba.bet x 0 1000 = q0 at HS HG HW
          cases q0
          · obtain rfl : r = false := HS.out (by rw [Bool.false_and])
            clear HS HG HQ
            rcases hst.out with rfl | rfl | rfl
            all_goals
              go_wp2_with fail
              refine (HW.out _).mono ?_
              rintro e w9 ⟨rfl, rfl⟩
              go_wp2_with fail
              go_ret
              exact ⟨rfl, gr_auto⟩
          cases y
          · have HG := Lib.hid (HG.out (by rfl))
            clear HS
            go_wp2_with fail
            refine (HW.out _).mono ?_
            rintro e w9 ⟨rfl, rfl⟩
            go_wp2_with fail
            go_roundw
            case rel => exact ⟨k + 1, by omega, by go_num, by first | exact Lib.hid (Or.inr (Or.inl rfl)) | exact Lib.hid (Or.inr (Or.inr rfl)), gr_auto, HG⟩
            case measure => simp [intOf]; omega
          cases q2 : (d.kd == 4)
          · have t3 := Ba.bneq_of q2
            obtain rfl : r = false := HS.out (by rw [q2]; rfl)
            clear HS HG HQ
            rcases hst.out with rfl | rfl | rfl
            all_goals
              go_wp2_with fail
              refine (HW.out _).mono ?_
              rintro e w9 ⟨rfl, rfl⟩
              go_wp2_with fail
              go_ret
              exact ⟨rfl, gr_auto⟩
          · have HG := Lib.hid (HG.out (by rw [q2]; rfl))
            have t3 : (d.kd != 4) = false := by simp only [bne, q2, Bool.not_true]
            clear HS
            go_wp2_with fail
            refine (HW.out _).mono ?_
            rintro e w9 ⟨rfl, rfl⟩
            go_wp2_with fail
            go_roundw
            case rel => exact ⟨k + 1, by omega, by go_num, by first | exact Lib.hid (Or.inr (Or.inl rfl)) | exact Lib.hid (Or.inr (Or.inr rfl)), gr_auto, HG⟩
            case measure => simp [intOf]; omega
        · obtain rfl : k = n5 := by omega
          rw [hf.out] at HQ
          obtain rfl := HQ.out
          clear hf
          go_wp2_with fail
          go_ret
          exact ⟨rfl, gr_auto⟩
end Go.Proofs.YtkgbbcmgfbipaaaGreatDoor
