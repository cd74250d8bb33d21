/-
  What is given to a step: balance.within, valid, given; the reference's Valid, Given. (Printed by mkgive.py.)
-/
import Derived.Test.YtkgbbcmgfbipaaaGreatDoorSm26

set_option linter.unusedVariables false
set_option linter.unusedSimpArgs false
namespace Go.Proofs.YtkgbbcmgfbipaaaGreatDoor
open Go.RowKit
namespace Ba
/-- All numbers are from 0 to m. -/
def wiB (s : SlI) (m : Int) : Bool := allB (fun i => bet (s.X i) 0 m) s.n
theorem bet_not (x m : Int) : (!bet x 0 m) = (decide (x < 0) || decide (m < x)) := by
  unfold bet
  rw [Bool.eq_iff_iff]
  simp only [Bool.not_eq_true', Bool.and_eq_false_iff, decide_eq_false_iff_not, Bool.or_eq_true, decide_eq_true_eq]
  omega
end Ba
set_option maxRecDepth 100000 in
theorem withinc_any (x m : Int) (B : Nat) (w : World) (hc : w.cell? ⟨B, 0, none⟩ = some (.int .i64 m)) : Calls Tryz.prog 65 #[.int .i64 x, .pointer (some ⟨B, 0, none⟩)] w fun e w' => e = .returned (.bool (!Ba.bet x 0 m)) ∧ Gr w w' := by
  rw [Ba.bet_not]
  cases t0 : decide (x < 0)
  · cases t1 : decide (m < x)
    all_goals
      go_enter Tryz.func65, Tryz.ntmps65
      go_wp2_with fail
      go_ret
      exact ⟨rfl, Gr.refl _⟩
  · go_enter Tryz.func65, Tryz.ntmps65
    go_wp2_with fail
    go_ret
    exact ⟨rfl, Gr.refl _⟩
set_option maxRecDepth 100000 in
theorem bwithin_any (s : Ba.SlI) (m : Int) (w : World) (h : s.At w) : Calls Tryz.prog 48 #[.slice s.A s.n s.c, .int .i64 m] w fun e w' => e = .returned (.bool (Ba.wiB s m)) ∧ Gr w w' := by
  have HI := Lib.hid (fun (B : Nat) (W : World) (hg : Gr w W) (hc : W.cell? ⟨B, 0, none⟩ = some (.int .i64 m)) => has_int 65 #[.pointer (some ⟨B, 0, none⟩)] s (fun i => !Ba.bet (s.X i) 0 m) W (h.gr hg) (enter_of Tryz.func65 (by kernel_rfl) (by kernel_rfl)) fun i hi W' hW => withinc_any (s.X i) m B W' (Gr.at hW hc))
  unfold Ba.wiB
  rw [← Ba.any_not]
  clear h
  generalize Ba.any (fun i => !Ba.bet (s.X i) 0 m) s.n = q at *
  generalize s.A = A at *
  generalize s.n = n at *
  generalize s.c = c at *
  go_enter Tryz.func48, Tryz.ntmps48
  go_wp2_with fail
  refine (HI.out _ _ gr_auto (by simp [go_sem])).mono ?_
  rintro e w1 ⟨rfl, hb1⟩
  go_wp2
  go_ret
  exact ⟨rfl, gr_auto⟩
theorem bwithin_two (x y m : Int) (B : Nat) (w : World) (h0 : w.cell? ⟨B, 0, none⟩ = some (.int .i64 x)) (h1 : w.cell? ⟨B, 1, none⟩ = some (.int .i64 y)) (hx : Ba.i64 x) (hy : Ba.i64 y) : Calls Tryz.prog 48 #[.slice (some ⟨B, 0, none⟩) 2 2, .int .i64 m] w fun e w' => e = .returned (.bool (Ba.bet x 0 m && Ba.bet y 0 m)) ∧ Gr w w' := by
  have h := bwithin_any ⟨some ⟨B, 0, none⟩, 2, 2, B, 0, fun i => if i = 0 then x else y⟩ m w ⟨fun _ => rfl, by simp, by simp, fun i hi => by
    simp only at hi
    rcases (by omega : i = 0 ∨ i = 1) with rfl | rfl
    · exact ⟨h0, hx⟩
    · exact ⟨h1, hy⟩⟩
  refine h.mono fun e w' ⟨he, hg⟩ => ⟨?_, hg⟩
  rw [he]
  unfold Ba.wiB
  simp only [Ba.allB, if_true, Nat.one_ne_zero, if_false, Bool.true_and]
set_option maxRecDepth 100000 in
set_option maxHeartbeats 1000000 in
theorem bvalid_any (N : Ba.SlNode) (L : Ba.SlLink) (g : Ba.Ledger) (w : World) (hl : L.n ≤ 9223372036854775807) (hg : g.Ok w) : Calls Tryz.prog 26 #[Ba.netVal N L, g.val] w fun e w' => e = .returned (.bool (Ba.ledgB L g)) ∧ Gr w w' := by
  obtain ⟨i1, i2, hp⟩ := hg
  have hn : g.ps.n ≤ 9223372036854775807 := Nat.le_trans hp.hc hp.hb
  have H1 := Lib.hid (fun B W h0 h1 => bwithin_two g.inn g.out 1152921504606846976 B W h0 h1 i1 i2)
  have H2 := Lib.hid (fun W (hh : Gr w W) => bwithin_any g.ps 9007199254740992 W (hp.gr hh))
  clear hp i1 i2
  unfold Ba.ledgB Ba.netVal Ba.Ledger.val
  change Hid (∀ W, Gr w W → Calls _ _ _ W fun e w' => e = .returned (.bool (Ba.passB g.ps)) ∧ Gr W w') at H2
  rw [show (Ba.bet g.inn 0 1152921504606846976 && (Ba.bet g.out 0 1152921504606846976 && (decide (g.ps.n = L.n) && Ba.passB g.ps))) = ((Ba.bet g.inn 0 1152921504606846976 && Ba.bet g.out 0 1152921504606846976) && (decide (g.ps.n = L.n) && Ba.passB g.ps)) by rw [Bool.and_assoc]]
  generalize Ba.passB g.ps = q2 at *
  obtain ⟨inn, out, ⟨A3, n3, c3, b3, o3, X3⟩⟩ := g
  simp only at *
  generalize (Ba.bet inn 0 1152921504606846976 && Ba.bet out 0 1152921504606846976) = q1 at *
  generalize N.A = A at *; generalize N.n = n at *; generalize N.c = c at *
  generalize L.A = A2 at *; generalize L.n = n2 at *; generalize L.c = c2 at *
  have z0 : decide (n3 = n2) = ((n3 : Int) == (n2 : Int)) := by rw [Bool.eq_iff_iff]; simp; omega
  rw [z0]
  clear z0
  cases q1
  · clear H2
    go_enter Tryz.func26, Tryz.ntmps26
    go_wp2_with fail
    refine (H1.out _ _ (by simp [go_sem]) (by simp [go_sem])).mono ?_
    rintro e w1 ⟨rfl, hb1⟩
    go_wp2_with fail
    go_ret
    exact ⟨rfl, gr_auto⟩
  cases t0 : ((n3 : Int) == (n2 : Int))
  · clear H2
    go_enter Tryz.func26, Tryz.ntmps26
    go_wp2_with fail
    (first | refine name_world ?_ | refine (show (∀ W, W = _ → Calls _ _ _ W _) → Calls _ _ _ _ _ from fun h => h _ rfl) ?_); intro W1 hW1
    have g1 : Gr w W1 := by rw [hW1]; exact gr_auto
    have k1_0 : W1.cell? ⟨w.heap.size, 1, none⟩ = some (.slice A2 n2 c2) := by rw [hW1]; first | (simp [go_sem, *]; done) | (refine Gr.at ?_ (by assumption); exact gr_auto)
    have b1_0 : w.heap.size < W1.heap.size := World.block_lt_of_cell? _ _ k1_0
    have k1_1 : W1.cell? ⟨w.heap.size + 1, 2, none⟩ = some (.slice A3 n3 c3) := by rw [hW1]; first | (simp [go_sem, *]; done) | (refine Gr.at ?_ (by assumption); exact gr_auto)
    have b1_1 : w.heap.size + 1 < W1.heap.size := World.block_lt_of_cell? _ _ k1_1
    have k1_2 : W1.cell? ⟨w.heap.size + 2, 0, none⟩ = some (.int .i64 inn) := by rw [hW1]; first | (simp [go_sem, *]; done) | (refine Gr.at ?_ (by assumption); exact gr_auto)
    have b1_2 : w.heap.size + 2 < W1.heap.size := World.block_lt_of_cell? _ _ k1_2
    have k1_3 : W1.cell? ⟨w.heap.size + 2, 1, none⟩ = some (.int .i64 out) := by rw [hW1]; first | (simp [go_sem, *]; done) | (refine Gr.at ?_ (by assumption); exact gr_auto)
    clear hW1
    refine (H1.out _ _ k1_2 k1_3).mono ?_
    rintro e w2 ⟨rfl, hb2⟩
    have g2 := g1.trans hb2
    have k1_0 := Gr.at (w1 := w2) gr_auto k1_0; have k1_1 := Gr.at (w1 := w2) gr_auto k1_1
    go_wp2_with fail
    go_ret
    exact ⟨rfl, g2⟩
  · go_enter Tryz.func26, Tryz.ntmps26
    go_wp2_with fail
    (first | refine name_world ?_ | refine (show (∀ W, W = _ → Calls _ _ _ W _) → Calls _ _ _ _ _ from fun h => h _ rfl) ?_); intro W1 hW1
    have g1 : Gr w W1 := by rw [hW1]; exact gr_auto
    have k1_0 : W1.cell? ⟨w.heap.size, 1, none⟩ = some (.slice A2 n2 c2) := by rw [hW1]; first | (simp [go_sem, *]; done) | (refine Gr.at ?_ (by assumption); exact gr_auto)
    have b1_0 : w.heap.size < W1.heap.size := World.block_lt_of_cell? _ _ k1_0
    have k1_1 : W1.cell? ⟨w.heap.size + 1, 2, none⟩ = some (.slice A3 n3 c3) := by rw [hW1]; first | (simp [go_sem, *]; done) | (refine Gr.at ?_ (by assumption); exact gr_auto)
    have b1_1 : w.heap.size + 1 < W1.heap.size := World.block_lt_of_cell? _ _ k1_1
    have k1_2 : W1.cell? ⟨w.heap.size + 2, 0, none⟩ = some (.int .i64 inn) := by rw [hW1]; first | (simp [go_sem, *]; done) | (refine Gr.at ?_ (by assumption); exact gr_auto)
    have b1_2 : w.heap.size + 2 < W1.heap.size := World.block_lt_of_cell? _ _ k1_2
    have k1_3 : W1.cell? ⟨w.heap.size + 2, 1, none⟩ = some (.int .i64 out) := by rw [hW1]; first | (simp [go_sem, *]; done) | (refine Gr.at ?_ (by assumption); exact gr_auto)
    clear hW1
    refine (H1.out _ _ k1_2 k1_3).mono ?_
    rintro e w2 ⟨rfl, hb2⟩
    have g2 := g1.trans hb2
    have k1_0 := Gr.at (w1 := w2) gr_auto k1_0; have k1_1 := Gr.at (w1 := w2) gr_auto k1_1
    go_wp2_with fail
    refine (H2.out _ g2).mono ?_
    rintro e w3 ⟨rfl, hb3⟩
    go_wp2_with fail
    go_ret
    exact ⟨rfl, g2.trans hb3⟩
set_option maxRecDepth 100000 in
set_option maxHeartbeats 2000000 in
theorem rvalid_any (N : Ba.SlNode) (L : Ba.SlLink) (g : Ba.Ledger) (w : World) (hl : L.n ≤ 9223372036854775807) (hg : g.Ok w) : Calls Tryz.prog 15 #[Ba.netVal N L, g.val] w fun e w' => e = .returned (.bool (Ba.ledgB L g)) ∧ Gr w w' := by
  obtain ⟨i1, i2, hp⟩ := hg
  have hn : g.ps.n ≤ 9223372036854775807 := Nat.le_trans hp.hc hp.hb
  have PA := Lib.hid hp.hA; have PX := Lib.hid hp.hX
  clear hp i1 i2
  have hr : Ba.ledgB L g = (Ba.bet g.inn 0 1152921504606846976 && (Ba.bet g.out 0 1152921504606846976 && (decide (g.ps.n = L.n) && Ba.passB g.ps))) := rfl
  generalize Ba.ledgB L g = r at *
  unfold Ba.netVal Ba.Ledger.val
  unfold Ba.passB at hr
  obtain ⟨inn, out, ⟨A3, n3, c3, b3, o3, X3⟩⟩ := g
  simp only at *
  generalize N.A = A at *; generalize N.n = n at *; generalize N.c = c at *
  generalize L.A = A2 at *; generalize L.n = n2 at *; generalize L.c = c2 at *
  have hb := Ba.bet_iff inn 0 1152921504606846976
  have hd := Ba.bet_iff out 0 1152921504606846976
  generalize Ba.bet inn 0 1152921504606846976 = q0 at *
  generalize Ba.bet out 0 1152921504606846976 = q1 at *
  cases t0 : decide (inn < 0)
  rotate_left
  · obtain rfl : q0 = false := by cases q0 <;> simp_all <;> omega
    obtain rfl : r = false := by rw [hr]; rfl
    clear hr hb hd
    go_enter Tryz.func15, Tryz.ntmps15
    go_wp2_with fail
    go_ret
    exact ⟨rfl, gr_auto⟩
  cases t1 : decide (1152921504606846976 < inn)
  rotate_left
  · obtain rfl : q0 = false := by cases q0 <;> simp_all <;> omega
    obtain rfl : r = false := by rw [hr]; rfl
    clear hr hb hd
    go_enter Tryz.func15, Tryz.ntmps15
    go_wp2_with fail
    go_ret
    exact ⟨rfl, gr_auto⟩
  cases t2 : decide (out < 0)
  rotate_left
  · obtain rfl : q1 = false := by cases q1 <;> simp_all <;> omega
    obtain rfl : r = false := by rw [hr]; simp
    clear hr hb hd
    go_enter Tryz.func15, Tryz.ntmps15
    go_wp2_with fail
    go_ret
    exact ⟨rfl, gr_auto⟩
  cases t3 : decide (1152921504606846976 < out)
  rotate_left
  · obtain rfl : q1 = false := by cases q1 <;> simp_all <;> omega
    obtain rfl : r = false := by rw [hr]; simp
    clear hr hb hd
    go_enter Tryz.func15, Tryz.ntmps15
    go_wp2_with fail
    go_ret
    exact ⟨rfl, gr_auto⟩
  obtain rfl : q0 = true := hb.2 (by have := of_decide_eq_false t0; have := of_decide_eq_false t1; omega)
  obtain rfl : q1 = true := hd.2 (by have := of_decide_eq_false t2; have := of_decide_eq_false t3; omega)
  clear hb hd
  cases t4 : decide (n3 = n2)
  · obtain rfl : r = false := by rw [hr, t4]; rfl
    have t5 : ((n3 : Int) != (n2 : Int)) = true := Ba.bne_of' (by have := of_decide_eq_false t4; omega)
    clear hr t4
    go_enter Tryz.func15, Tryz.ntmps15
    go_wp2_with fail
    go_ret
    exact ⟨rfl, gr_auto⟩
  obtain rfl := of_decide_eq_true t4
  rw [t4, Bool.true_and, Bool.true_and, Bool.true_and] at hr
  have HQ := Lib.hid hr
  clear hr t4
  go_enter Tryz.func15, Tryz.ntmps15
  go_wp2_with fail
  (first | refine name_world ?_ | refine (show (∀ W, W = _ → Calls _ _ _ W _) → Calls _ _ _ _ _ from fun h => h _ rfl) ?_); intro W0 hW0
  have g0 : Gr w W0 := by rw [hW0]; exact gr_auto
  have k0_0 : W0.cell? ⟨w.heap.size, 1, none⟩ = some (.slice A2 n3 c2) := by rw [hW0]; first | (simp [go_sem, *]; done) | (refine Gr.at ?_ (by assumption); exact gr_auto)
  have b0_0 : w.heap.size < W0.heap.size := World.block_lt_of_cell? _ _ k0_0
  have k0_1 : W0.cell? ⟨w.heap.size + 1, 2, none⟩ = some (.slice A3 n3 c3) := by rw [hW0]; first | (simp [go_sem, *]; done) | (refine Gr.at ?_ (by assumption); exact gr_auto)
  have b0_1 : w.heap.size + 1 < W0.heap.size := World.block_lt_of_cell? _ _ k0_1
  clear hW0
  go_loopw [5] (fun q wr => ∃ i : Nat, i ≤ n3 ∧ q = .int .i64 (i : Int) ∧ Gr W0 wr ∧ Hid (Ba.allB (fun i => Ba.bet (X3 i) 0 9007199254740992) i = true)) (fun q _ => n3 - (intOf q).toNat)
  case atStart => exact ⟨0, Nat.zero_le _, rfl, Gr.refl _, Lib.hid rfl⟩
  case round =>
    obtain ⟨i, hi, rfl, hg, hf⟩ := hrel
    have k0_0 := Gr.at (w1 := wr) gr_auto k0_0; have k0_1 := Gr.at (w1 := wr) gr_auto k0_1
    by_cases hlt : i < n3
    · obtain rfl := PA.out (by omega)
      have v0 := Gr.at hg (Gr.at g0 (PX.out i hlt).1)
      have HS := Lib.hid (fun hh => show r = false by rw [HQ.out, Ba.allB_stop (p := fun i => Ba.bet (X3 i) 0 9007199254740992) hlt hh])
      have HG := Lib.hid (show Ba.bet (X3 i) 0 9007199254740992 = true → _ from fun hh => Ba.allB_go hf.out hh)
      clear hf PX
      have hb := Ba.bet_iff (X3 i) 0 9007199254740992
      generalize X3 i = x at *
      generalize Ba.bet x 0 9007199254740992 = q0 at HS HG hb
      have ib0 : (0 : Int) ≤ (i : Int) := by omega
      have ib1 : (i : Int) < (n3 : Int) := by omega
      cases t0 : decide (x < 0)
      rotate_left
      · obtain rfl : q0 = false := by cases q0 <;> simp_all <;> omega
        obtain rfl : r = false := HS.out rfl
        clear HS HG HQ hb
        go_wp2_with fail
        go_ret
        exact ⟨rfl, gr_auto⟩
      cases t1 : decide (9007199254740992 < x)
      rotate_left
      · obtain rfl : q0 = false := by cases q0 <;> simp_all <;> omega
        obtain rfl : r = false := HS.out rfl
        clear HS HG HQ hb
        go_wp2_with fail
        go_ret
        exact ⟨rfl, gr_auto⟩
      obtain rfl : q0 = true := hb.2 (by have := of_decide_eq_false t0; have := of_decide_eq_false t1; omega)
      have HZ := Lib.hid (HG.out rfl)
      clear hb HG HS
      go_wp2_with fail
      go_roundw
      case rel => exact ⟨i + 1, by omega, by go_num, gr_auto, HZ⟩
      case measure => simp [intOf]; omega
    · obtain rfl : i = n3 := by omega
      have hz := hf.out
      have hq := HQ.out
      rw [hz] at hq
      subst hq
      clear hf hz HQ
      go_wp2_with fail
      go_ret
      exact ⟨rfl, gr_auto⟩
namespace Ba
/-- What is wrong with what is given. -/
def givE (N : SlNode) (L : SlLink) (s1 s2 : State) (I : SlI) (g : Ledger) : Int := if (vs N L s1 && (vs N L s2 && ledgB L g)) = false then 1 else if I.n = N.n then (if wiB I 1125899906842624 = true then 0 else 2) else 3
end Ba
set_option maxRecDepth 100000 in
set_option maxHeartbeats 2000000 in
theorem given_1 (A A2 VA1 PA1 SA1 OA1 VA2 PA2 SA2 OA2 GA IA : Option Addr) (n c n2 c2 vn1 vc1 pn1 pc1 sn1 sc1 on1 oc1 vn2 vc2 pn2 pc2 sn2 sc2 on2 oc2 gn gc m ic : Nat) (inn out : Int) (w : World) (hn : n ≤ 9223372036854775807) (hm : m ≤ 9223372036854775807) (H1 : Hid (∀ W, Gr w W → Calls Tryz.prog 62 #[.agg #[.slice A n c, .slice A2 n2 c2], .agg #[.slice VA1 vn1 vc1, .slice PA1 pn1 pc1, .slice SA1 sn1 sc1, .slice OA1 on1 oc1]] W fun e w' => e = .returned (.bool false) ∧ Gr W w')) : Calls Tryz.prog 40 #[.agg #[.slice A n c, .slice A2 n2 c2], .agg #[.slice VA1 vn1 vc1, .slice PA1 pn1 pc1, .slice SA1 sn1 sc1, .slice OA1 on1 oc1], .agg #[.slice VA2 vn2 vc2, .slice PA2 pn2 pc2, .slice SA2 sn2 sc2, .slice OA2 on2 oc2], .slice IA m ic, .agg #[.int .i64 inn, .int .i64 out, .slice GA gn gc]] w fun e w' => e = .returned (.int .i64 1) ∧ Gr w w' := by
  go_enter Tryz.func40, Tryz.ntmps40
  go_wp2_with fail
  (first | refine name_world ?_ | refine (show (∀ W, W = _ → Calls _ _ _ W _) → Calls _ _ _ _ _ from fun h => h _ rfl) ?_); intro W1 hW1
  have g1 : Gr w W1 := by rw [hW1]; exact gr_auto
  have k1_0 : W1.cell? ⟨w.heap.size, 0, none⟩ = some (.slice A n c) := by rw [hW1]; first | (simp [go_sem, *]; done) | (refine Gr.at ?_ (by assumption); exact gr_auto)
  have b1_0 : w.heap.size < W1.heap.size := World.block_lt_of_cell? _ _ k1_0
  have k1_1 : W1.cell? ⟨w.heap.size, 1, none⟩ = some (.slice A2 n2 c2) := by rw [hW1]; first | (simp [go_sem, *]; done) | (refine Gr.at ?_ (by assumption); exact gr_auto)
  have k1_2 : W1.cell? ⟨w.heap.size + 1, 0, none⟩ = some (.slice VA1 vn1 vc1) := by rw [hW1]; first | (simp [go_sem, *]; done) | (refine Gr.at ?_ (by assumption); exact gr_auto)
  have b1_2 : w.heap.size + 1 < W1.heap.size := World.block_lt_of_cell? _ _ k1_2
  have k1_3 : W1.cell? ⟨w.heap.size + 1, 1, none⟩ = some (.slice PA1 pn1 pc1) := by rw [hW1]; first | (simp [go_sem, *]; done) | (refine Gr.at ?_ (by assumption); exact gr_auto)
  have k1_4 : W1.cell? ⟨w.heap.size + 1, 2, none⟩ = some (.slice SA1 sn1 sc1) := by rw [hW1]; first | (simp [go_sem, *]; done) | (refine Gr.at ?_ (by assumption); exact gr_auto)
  have k1_5 : W1.cell? ⟨w.heap.size + 1, 3, none⟩ = some (.slice OA1 on1 oc1) := by rw [hW1]; first | (simp [go_sem, *]; done) | (refine Gr.at ?_ (by assumption); exact gr_auto)
  have k1_6 : W1.cell? ⟨w.heap.size + 2, 0, none⟩ = some (.slice VA2 vn2 vc2) := by rw [hW1]; first | (simp [go_sem, *]; done) | (refine Gr.at ?_ (by assumption); exact gr_auto)
  have b1_6 : w.heap.size + 2 < W1.heap.size := World.block_lt_of_cell? _ _ k1_6
  have k1_7 : W1.cell? ⟨w.heap.size + 2, 1, none⟩ = some (.slice PA2 pn2 pc2) := by rw [hW1]; first | (simp [go_sem, *]; done) | (refine Gr.at ?_ (by assumption); exact gr_auto)
  have k1_8 : W1.cell? ⟨w.heap.size + 2, 2, none⟩ = some (.slice SA2 sn2 sc2) := by rw [hW1]; first | (simp [go_sem, *]; done) | (refine Gr.at ?_ (by assumption); exact gr_auto)
  have k1_9 : W1.cell? ⟨w.heap.size + 2, 3, none⟩ = some (.slice OA2 on2 oc2) := by rw [hW1]; first | (simp [go_sem, *]; done) | (refine Gr.at ?_ (by assumption); exact gr_auto)
  have k1_10 : W1.cell? ⟨w.heap.size + 3, 0, none⟩ = some (.int .i64 inn) := by rw [hW1]; first | (simp [go_sem, *]; done) | (refine Gr.at ?_ (by assumption); exact gr_auto)
  have b1_10 : w.heap.size + 3 < W1.heap.size := World.block_lt_of_cell? _ _ k1_10
  have k1_11 : W1.cell? ⟨w.heap.size + 3, 1, none⟩ = some (.int .i64 out) := by rw [hW1]; first | (simp [go_sem, *]; done) | (refine Gr.at ?_ (by assumption); exact gr_auto)
  have k1_12 : W1.cell? ⟨w.heap.size + 3, 2, none⟩ = some (.slice GA gn gc) := by rw [hW1]; first | (simp [go_sem, *]; done) | (refine Gr.at ?_ (by assumption); exact gr_auto)
  clear hW1
  refine (H1.out _ g1).mono ?_
  rintro e w2 ⟨rfl, hb2⟩
  have g2 := g1.trans hb2
  have k1_0 := Gr.at (w1 := w2) gr_auto k1_0; have k1_1 := Gr.at (w1 := w2) gr_auto k1_1; have k1_2 := Gr.at (w1 := w2) gr_auto k1_2; have k1_3 := Gr.at (w1 := w2) gr_auto k1_3; have k1_4 := Gr.at (w1 := w2) gr_auto k1_4; have k1_5 := Gr.at (w1 := w2) gr_auto k1_5; have k1_6 := Gr.at (w1 := w2) gr_auto k1_6; have k1_7 := Gr.at (w1 := w2) gr_auto k1_7; have k1_8 := Gr.at (w1 := w2) gr_auto k1_8; have k1_9 := Gr.at (w1 := w2) gr_auto k1_9; have k1_10 := Gr.at (w1 := w2) gr_auto k1_10; have k1_11 := Gr.at (w1 := w2) gr_auto k1_11; have k1_12 := Gr.at (w1 := w2) gr_auto k1_12
  go_wp2_with fail
  go_ret
  exact ⟨rfl, gr_auto⟩
set_option maxRecDepth 100000 in
set_option maxHeartbeats 2000000 in
theorem given_2 (A A2 VA1 PA1 SA1 OA1 VA2 PA2 SA2 OA2 GA IA : Option Addr) (n c n2 c2 vn1 vc1 pn1 pc1 sn1 sc1 on1 oc1 vn2 vc2 pn2 pc2 sn2 sc2 on2 oc2 gn gc m ic : Nat) (inn out : Int) (w : World) (hn : n ≤ 9223372036854775807) (hm : m ≤ 9223372036854775807) (H1 : Hid (∀ W, Gr w W → Calls Tryz.prog 62 #[.agg #[.slice A n c, .slice A2 n2 c2], .agg #[.slice VA1 vn1 vc1, .slice PA1 pn1 pc1, .slice SA1 sn1 sc1, .slice OA1 on1 oc1]] W fun e w' => e = .returned (.bool true) ∧ Gr W w')) (H2 : Hid (∀ W, Gr w W → Calls Tryz.prog 62 #[.agg #[.slice A n c, .slice A2 n2 c2], .agg #[.slice VA2 vn2 vc2, .slice PA2 pn2 pc2, .slice SA2 sn2 sc2, .slice OA2 on2 oc2]] W fun e w' => e = .returned (.bool false) ∧ Gr W w')) : Calls Tryz.prog 40 #[.agg #[.slice A n c, .slice A2 n2 c2], .agg #[.slice VA1 vn1 vc1, .slice PA1 pn1 pc1, .slice SA1 sn1 sc1, .slice OA1 on1 oc1], .agg #[.slice VA2 vn2 vc2, .slice PA2 pn2 pc2, .slice SA2 sn2 sc2, .slice OA2 on2 oc2], .slice IA m ic, .agg #[.int .i64 inn, .int .i64 out, .slice GA gn gc]] w fun e w' => e = .returned (.int .i64 1) ∧ Gr w w' := by
  go_enter Tryz.func40, Tryz.ntmps40
  go_wp2_with fail
  (first | refine name_world ?_ | refine (show (∀ W, W = _ → Calls _ _ _ W _) → Calls _ _ _ _ _ from fun h => h _ rfl) ?_); intro W1 hW1
  have g1 : Gr w W1 := by rw [hW1]; exact gr_auto
  have k1_0 : W1.cell? ⟨w.heap.size, 0, none⟩ = some (.slice A n c) := by rw [hW1]; first | (simp [go_sem, *]; done) | (refine Gr.at ?_ (by assumption); exact gr_auto)
  have b1_0 : w.heap.size < W1.heap.size := World.block_lt_of_cell? _ _ k1_0
  have k1_1 : W1.cell? ⟨w.heap.size, 1, none⟩ = some (.slice A2 n2 c2) := by rw [hW1]; first | (simp [go_sem, *]; done) | (refine Gr.at ?_ (by assumption); exact gr_auto)
  have k1_2 : W1.cell? ⟨w.heap.size + 1, 0, none⟩ = some (.slice VA1 vn1 vc1) := by rw [hW1]; first | (simp [go_sem, *]; done) | (refine Gr.at ?_ (by assumption); exact gr_auto)
  have b1_2 : w.heap.size + 1 < W1.heap.size := World.block_lt_of_cell? _ _ k1_2
  have k1_3 : W1.cell? ⟨w.heap.size + 1, 1, none⟩ = some (.slice PA1 pn1 pc1) := by rw [hW1]; first | (simp [go_sem, *]; done) | (refine Gr.at ?_ (by assumption); exact gr_auto)
  have k1_4 : W1.cell? ⟨w.heap.size + 1, 2, none⟩ = some (.slice SA1 sn1 sc1) := by rw [hW1]; first | (simp [go_sem, *]; done) | (refine Gr.at ?_ (by assumption); exact gr_auto)
  have k1_5 : W1.cell? ⟨w.heap.size + 1, 3, none⟩ = some (.slice OA1 on1 oc1) := by rw [hW1]; first | (simp [go_sem, *]; done) | (refine Gr.at ?_ (by assumption); exact gr_auto)
  have k1_6 : W1.cell? ⟨w.heap.size + 2, 0, none⟩ = some (.slice VA2 vn2 vc2) := by rw [hW1]; first | (simp [go_sem, *]; done) | (refine Gr.at ?_ (by assumption); exact gr_auto)
  have b1_6 : w.heap.size + 2 < W1.heap.size := World.block_lt_of_cell? _ _ k1_6
  have k1_7 : W1.cell? ⟨w.heap.size + 2, 1, none⟩ = some (.slice PA2 pn2 pc2) := by rw [hW1]; first | (simp [go_sem, *]; done) | (refine Gr.at ?_ (by assumption); exact gr_auto)
  have k1_8 : W1.cell? ⟨w.heap.size + 2, 2, none⟩ = some (.slice SA2 sn2 sc2) := by rw [hW1]; first | (simp [go_sem, *]; done) | (refine Gr.at ?_ (by assumption); exact gr_auto)
  have k1_9 : W1.cell? ⟨w.heap.size + 2, 3, none⟩ = some (.slice OA2 on2 oc2) := by rw [hW1]; first | (simp [go_sem, *]; done) | (refine Gr.at ?_ (by assumption); exact gr_auto)
  have k1_10 : W1.cell? ⟨w.heap.size + 3, 0, none⟩ = some (.int .i64 inn) := by rw [hW1]; first | (simp [go_sem, *]; done) | (refine Gr.at ?_ (by assumption); exact gr_auto)
  have b1_10 : w.heap.size + 3 < W1.heap.size := World.block_lt_of_cell? _ _ k1_10
  have k1_11 : W1.cell? ⟨w.heap.size + 3, 1, none⟩ = some (.int .i64 out) := by rw [hW1]; first | (simp [go_sem, *]; done) | (refine Gr.at ?_ (by assumption); exact gr_auto)
  have k1_12 : W1.cell? ⟨w.heap.size + 3, 2, none⟩ = some (.slice GA gn gc) := by rw [hW1]; first | (simp [go_sem, *]; done) | (refine Gr.at ?_ (by assumption); exact gr_auto)
  clear hW1
  refine (H1.out _ g1).mono ?_
  rintro e w2 ⟨rfl, hb2⟩
  have g2 := g1.trans hb2
  have k1_0 := Gr.at (w1 := w2) gr_auto k1_0; have k1_1 := Gr.at (w1 := w2) gr_auto k1_1; have k1_2 := Gr.at (w1 := w2) gr_auto k1_2; have k1_3 := Gr.at (w1 := w2) gr_auto k1_3; have k1_4 := Gr.at (w1 := w2) gr_auto k1_4; have k1_5 := Gr.at (w1 := w2) gr_auto k1_5; have k1_6 := Gr.at (w1 := w2) gr_auto k1_6; have k1_7 := Gr.at (w1 := w2) gr_auto k1_7; have k1_8 := Gr.at (w1 := w2) gr_auto k1_8; have k1_9 := Gr.at (w1 := w2) gr_auto k1_9; have k1_10 := Gr.at (w1 := w2) gr_auto k1_10; have k1_11 := Gr.at (w1 := w2) gr_auto k1_11; have k1_12 := Gr.at (w1 := w2) gr_auto k1_12
  go_wp2_with fail
  refine (H2.out _ g2).mono ?_
  rintro e w3 ⟨rfl, hb3⟩
  have g3 := g2.trans hb3
  have k1_0 := Gr.at (w1 := w3) gr_auto k1_0; have k1_1 := Gr.at (w1 := w3) gr_auto k1_1; have k1_2 := Gr.at (w1 := w3) gr_auto k1_2; have k1_3 := Gr.at (w1 := w3) gr_auto k1_3; have k1_4 := Gr.at (w1 := w3) gr_auto k1_4; have k1_5 := Gr.at (w1 := w3) gr_auto k1_5; have k1_6 := Gr.at (w1 := w3) gr_auto k1_6; have k1_7 := Gr.at (w1 := w3) gr_auto k1_7; have k1_8 := Gr.at (w1 := w3) gr_auto k1_8; have k1_9 := Gr.at (w1 := w3) gr_auto k1_9; have k1_10 := Gr.at (w1 := w3) gr_auto k1_10; have k1_11 := Gr.at (w1 := w3) gr_auto k1_11; have k1_12 := Gr.at (w1 := w3) gr_auto k1_12
  go_wp2_with fail
  go_ret
  exact ⟨rfl, gr_auto⟩
set_option maxRecDepth 100000 in
set_option maxHeartbeats 2000000 in
theorem given_3 (A A2 VA1 PA1 SA1 OA1 VA2 PA2 SA2 OA2 GA IA : Option Addr) (n c n2 c2 vn1 vc1 pn1 pc1 sn1 sc1 on1 oc1 vn2 vc2 pn2 pc2 sn2 sc2 on2 oc2 gn gc m ic : Nat) (inn out : Int) (w : World) (hn : n ≤ 9223372036854775807) (hm : m ≤ 9223372036854775807) (H1 : Hid (∀ W, Gr w W → Calls Tryz.prog 62 #[.agg #[.slice A n c, .slice A2 n2 c2], .agg #[.slice VA1 vn1 vc1, .slice PA1 pn1 pc1, .slice SA1 sn1 sc1, .slice OA1 on1 oc1]] W fun e w' => e = .returned (.bool true) ∧ Gr W w')) (H2 : Hid (∀ W, Gr w W → Calls Tryz.prog 62 #[.agg #[.slice A n c, .slice A2 n2 c2], .agg #[.slice VA2 vn2 vc2, .slice PA2 pn2 pc2, .slice SA2 sn2 sc2, .slice OA2 on2 oc2]] W fun e w' => e = .returned (.bool true) ∧ Gr W w')) (H3 : Hid (∀ W, Gr w W → Calls Tryz.prog 26 #[.agg #[.slice A n c, .slice A2 n2 c2], .agg #[.int .i64 inn, .int .i64 out, .slice GA gn gc]] W fun e w' => e = .returned (.bool false) ∧ Gr W w')) : Calls Tryz.prog 40 #[.agg #[.slice A n c, .slice A2 n2 c2], .agg #[.slice VA1 vn1 vc1, .slice PA1 pn1 pc1, .slice SA1 sn1 sc1, .slice OA1 on1 oc1], .agg #[.slice VA2 vn2 vc2, .slice PA2 pn2 pc2, .slice SA2 sn2 sc2, .slice OA2 on2 oc2], .slice IA m ic, .agg #[.int .i64 inn, .int .i64 out, .slice GA gn gc]] w fun e w' => e = .returned (.int .i64 1) ∧ Gr w w' := by
  go_enter Tryz.func40, Tryz.ntmps40
  go_wp2_with fail
  (first | refine name_world ?_ | refine (show (∀ W, W = _ → Calls _ _ _ W _) → Calls _ _ _ _ _ from fun h => h _ rfl) ?_); intro W1 hW1
  have g1 : Gr w W1 := by rw [hW1]; exact gr_auto
  have k1_0 : W1.cell? ⟨w.heap.size, 0, none⟩ = some (.slice A n c) := by rw [hW1]; first | (simp [go_sem, *]; done) | (refine Gr.at ?_ (by assumption); exact gr_auto)
  have b1_0 : w.heap.size < W1.heap.size := World.block_lt_of_cell? _ _ k1_0
  have k1_1 : W1.cell? ⟨w.heap.size, 1, none⟩ = some (.slice A2 n2 c2) := by rw [hW1]; first | (simp [go_sem, *]; done) | (refine Gr.at ?_ (by assumption); exact gr_auto)
  have k1_2 : W1.cell? ⟨w.heap.size + 1, 0, none⟩ = some (.slice VA1 vn1 vc1) := by rw [hW1]; first | (simp [go_sem, *]; done) | (refine Gr.at ?_ (by assumption); exact gr_auto)
  have b1_2 : w.heap.size + 1 < W1.heap.size := World.block_lt_of_cell? _ _ k1_2
  have k1_3 : W1.cell? ⟨w.heap.size + 1, 1, none⟩ = some (.slice PA1 pn1 pc1) := by rw [hW1]; first | (simp [go_sem, *]; done) | (refine Gr.at ?_ (by assumption); exact gr_auto)
  have k1_4 : W1.cell? ⟨w.heap.size + 1, 2, none⟩ = some (.slice SA1 sn1 sc1) := by rw [hW1]; first | (simp [go_sem, *]; done) | (refine Gr.at ?_ (by assumption); exact gr_auto)
  have k1_5 : W1.cell? ⟨w.heap.size + 1, 3, none⟩ = some (.slice OA1 on1 oc1) := by rw [hW1]; first | (simp [go_sem, *]; done) | (refine Gr.at ?_ (by assumption); exact gr_auto)
  have k1_6 : W1.cell? ⟨w.heap.size + 2, 0, none⟩ = some (.slice VA2 vn2 vc2) := by rw [hW1]; first | (simp [go_sem, *]; done) | (refine Gr.at ?_ (by assumption); exact gr_auto)
  have b1_6 : w.heap.size + 2 < W1.heap.size := World.block_lt_of_cell? _ _ k1_6
  have k1_7 : W1.cell? ⟨w.heap.size + 2, 1, none⟩ = some (.slice PA2 pn2 pc2) := by rw [hW1]; first | (simp [go_sem, *]; done) | (refine Gr.at ?_ (by assumption); exact gr_auto)
  have k1_8 : W1.cell? ⟨w.heap.size + 2, 2, none⟩ = some (.slice SA2 sn2 sc2) := by rw [hW1]; first | (simp [go_sem, *]; done) | (refine Gr.at ?_ (by assumption); exact gr_auto)
  have k1_9 : W1.cell? ⟨w.heap.size + 2, 3, none⟩ = some (.slice OA2 on2 oc2) := by rw [hW1]; first | (simp [go_sem, *]; done) | (refine Gr.at ?_ (by assumption); exact gr_auto)
  have k1_10 : W1.cell? ⟨w.heap.size + 3, 0, none⟩ = some (.int .i64 inn) := by rw [hW1]; first | (simp [go_sem, *]; done) | (refine Gr.at ?_ (by assumption); exact gr_auto)
  have b1_10 : w.heap.size + 3 < W1.heap.size := World.block_lt_of_cell? _ _ k1_10
  have k1_11 : W1.cell? ⟨w.heap.size + 3, 1, none⟩ = some (.int .i64 out) := by rw [hW1]; first | (simp [go_sem, *]; done) | (refine Gr.at ?_ (by assumption); exact gr_auto)
  have k1_12 : W1.cell? ⟨w.heap.size + 3, 2, none⟩ = some (.slice GA gn gc) := by rw [hW1]; first | (simp [go_sem, *]; done) | (refine Gr.at ?_ (by assumption); exact gr_auto)
  clear hW1
  refine (H1.out _ g1).mono ?_
  rintro e w2 ⟨rfl, hb2⟩
  have g2 := g1.trans hb2
  have k1_0 := Gr.at (w1 := w2) gr_auto k1_0; have k1_1 := Gr.at (w1 := w2) gr_auto k1_1; have k1_2 := Gr.at (w1 := w2) gr_auto k1_2; have k1_3 := Gr.at (w1 := w2) gr_auto k1_3; have k1_4 := Gr.at (w1 := w2) gr_auto k1_4; have k1_5 := Gr.at (w1 := w2) gr_auto k1_5; have k1_6 := Gr.at (w1 := w2) gr_auto k1_6; have k1_7 := Gr.at (w1 := w2) gr_auto k1_7; have k1_8 := Gr.at (w1 := w2) gr_auto k1_8; have k1_9 := Gr.at (w1 := w2) gr_auto k1_9; have k1_10 := Gr.at (w1 := w2) gr_auto k1_10; have k1_11 := Gr.at (w1 := w2) gr_auto k1_11; have k1_12 := Gr.at (w1 := w2) gr_auto k1_12
  go_wp2_with fail
  refine (H2.out _ g2).mono ?_
  rintro e w3 ⟨rfl, hb3⟩
  have g3 := g2.trans hb3
  have k1_0 := Gr.at (w1 := w3) gr_auto k1_0; have k1_1 := Gr.at (w1 := w3) gr_auto k1_1; have k1_2 := Gr.at (w1 := w3) gr_auto k1_2; have k1_3 := Gr.at (w1 := w3) gr_auto k1_3; have k1_4 := Gr.at (w1 := w3) gr_auto k1_4; have k1_5 := Gr.at (w1 := w3) gr_auto k1_5; have k1_6 := Gr.at (w1 := w3) gr_auto k1_6; have k1_7 := Gr.at (w1 := w3) gr_auto k1_7; have k1_8 := Gr.at (w1 := w3) gr_auto k1_8; have k1_9 := Gr.at (w1 := w3) gr_auto k1_9; have k1_10 := Gr.at (w1 := w3) gr_auto k1_10; have k1_11 := Gr.at (w1 := w3) gr_auto k1_11; have k1_12 := Gr.at (w1 := w3) gr_auto k1_12
  go_wp2_with fail
  refine (H3.out _ g3).mono ?_
  rintro e w4 ⟨rfl, hb4⟩
  have g4 := g3.trans hb4
  have k1_0 := Gr.at (w1 := w4) gr_auto k1_0; have k1_1 := Gr.at (w1 := w4) gr_auto k1_1; have k1_2 := Gr.at (w1 := w4) gr_auto k1_2; have k1_3 := Gr.at (w1 := w4) gr_auto k1_3; have k1_4 := Gr.at (w1 := w4) gr_auto k1_4; have k1_5 := Gr.at (w1 := w4) gr_auto k1_5; have k1_6 := Gr.at (w1 := w4) gr_auto k1_6; have k1_7 := Gr.at (w1 := w4) gr_auto k1_7; have k1_8 := Gr.at (w1 := w4) gr_auto k1_8; have k1_9 := Gr.at (w1 := w4) gr_auto k1_9; have k1_10 := Gr.at (w1 := w4) gr_auto k1_10; have k1_11 := Gr.at (w1 := w4) gr_auto k1_11; have k1_12 := Gr.at (w1 := w4) gr_auto k1_12
  go_wp2_with fail
  go_ret
  exact ⟨rfl, gr_auto⟩
set_option maxRecDepth 100000 in
set_option maxHeartbeats 2000000 in
theorem given_4 (A A2 VA1 PA1 SA1 OA1 VA2 PA2 SA2 OA2 GA IA : Option Addr) (n c n2 c2 vn1 vc1 pn1 pc1 sn1 sc1 on1 oc1 vn2 vc2 pn2 pc2 sn2 sc2 on2 oc2 gn gc m ic : Nat) (inn out : Int) (w : World) (hn : n ≤ 9223372036854775807) (hm : m ≤ 9223372036854775807) (H1 : Hid (∀ W, Gr w W → Calls Tryz.prog 62 #[.agg #[.slice A n c, .slice A2 n2 c2], .agg #[.slice VA1 vn1 vc1, .slice PA1 pn1 pc1, .slice SA1 sn1 sc1, .slice OA1 on1 oc1]] W fun e w' => e = .returned (.bool true) ∧ Gr W w')) (H2 : Hid (∀ W, Gr w W → Calls Tryz.prog 62 #[.agg #[.slice A n c, .slice A2 n2 c2], .agg #[.slice VA2 vn2 vc2, .slice PA2 pn2 pc2, .slice SA2 sn2 sc2, .slice OA2 on2 oc2]] W fun e w' => e = .returned (.bool true) ∧ Gr W w')) (H3 : Hid (∀ W, Gr w W → Calls Tryz.prog 26 #[.agg #[.slice A n c, .slice A2 n2 c2], .agg #[.int .i64 inn, .int .i64 out, .slice GA gn gc]] W fun e w' => e = .returned (.bool true) ∧ Gr W w')) (hq : m ≠ n) : Calls Tryz.prog 40 #[.agg #[.slice A n c, .slice A2 n2 c2], .agg #[.slice VA1 vn1 vc1, .slice PA1 pn1 pc1, .slice SA1 sn1 sc1, .slice OA1 on1 oc1], .agg #[.slice VA2 vn2 vc2, .slice PA2 pn2 pc2, .slice SA2 sn2 sc2, .slice OA2 on2 oc2], .slice IA m ic, .agg #[.int .i64 inn, .int .i64 out, .slice GA gn gc]] w fun e w' => e = .returned (.int .i64 3) ∧ Gr w w' := by
  have t0 : ((m : Int) != (n : Int)) = true := Ba.bne_of' (by omega)
  clear hq
  go_enter Tryz.func40, Tryz.ntmps40
  go_wp2_with fail
  (first | refine name_world ?_ | refine (show (∀ W, W = _ → Calls _ _ _ W _) → Calls _ _ _ _ _ from fun h => h _ rfl) ?_); intro W1 hW1
  have g1 : Gr w W1 := by rw [hW1]; exact gr_auto
  have k1_0 : W1.cell? ⟨w.heap.size, 0, none⟩ = some (.slice A n c) := by rw [hW1]; first | (simp [go_sem, *]; done) | (refine Gr.at ?_ (by assumption); exact gr_auto)
  have b1_0 : w.heap.size < W1.heap.size := World.block_lt_of_cell? _ _ k1_0
  have k1_1 : W1.cell? ⟨w.heap.size, 1, none⟩ = some (.slice A2 n2 c2) := by rw [hW1]; first | (simp [go_sem, *]; done) | (refine Gr.at ?_ (by assumption); exact gr_auto)
  have k1_2 : W1.cell? ⟨w.heap.size + 1, 0, none⟩ = some (.slice VA1 vn1 vc1) := by rw [hW1]; first | (simp [go_sem, *]; done) | (refine Gr.at ?_ (by assumption); exact gr_auto)
  have b1_2 : w.heap.size + 1 < W1.heap.size := World.block_lt_of_cell? _ _ k1_2
  have k1_3 : W1.cell? ⟨w.heap.size + 1, 1, none⟩ = some (.slice PA1 pn1 pc1) := by rw [hW1]; first | (simp [go_sem, *]; done) | (refine Gr.at ?_ (by assumption); exact gr_auto)
  have k1_4 : W1.cell? ⟨w.heap.size + 1, 2, none⟩ = some (.slice SA1 sn1 sc1) := by rw [hW1]; first | (simp [go_sem, *]; done) | (refine Gr.at ?_ (by assumption); exact gr_auto)
  have k1_5 : W1.cell? ⟨w.heap.size + 1, 3, none⟩ = some (.slice OA1 on1 oc1) := by rw [hW1]; first | (simp [go_sem, *]; done) | (refine Gr.at ?_ (by assumption); exact gr_auto)
  have k1_6 : W1.cell? ⟨w.heap.size + 2, 0, none⟩ = some (.slice VA2 vn2 vc2) := by rw [hW1]; first | (simp [go_sem, *]; done) | (refine Gr.at ?_ (by assumption); exact gr_auto)
  have b1_6 : w.heap.size + 2 < W1.heap.size := World.block_lt_of_cell? _ _ k1_6
  have k1_7 : W1.cell? ⟨w.heap.size + 2, 1, none⟩ = some (.slice PA2 pn2 pc2) := by rw [hW1]; first | (simp [go_sem, *]; done) | (refine Gr.at ?_ (by assumption); exact gr_auto)
  have k1_8 : W1.cell? ⟨w.heap.size + 2, 2, none⟩ = some (.slice SA2 sn2 sc2) := by rw [hW1]; first | (simp [go_sem, *]; done) | (refine Gr.at ?_ (by assumption); exact gr_auto)
  have k1_9 : W1.cell? ⟨w.heap.size + 2, 3, none⟩ = some (.slice OA2 on2 oc2) := by rw [hW1]; first | (simp [go_sem, *]; done) | (refine Gr.at ?_ (by assumption); exact gr_auto)
  have k1_10 : W1.cell? ⟨w.heap.size + 3, 0, none⟩ = some (.int .i64 inn) := by rw [hW1]; first | (simp [go_sem, *]; done) | (refine Gr.at ?_ (by assumption); exact gr_auto)
  have b1_10 : w.heap.size + 3 < W1.heap.size := World.block_lt_of_cell? _ _ k1_10
  have k1_11 : W1.cell? ⟨w.heap.size + 3, 1, none⟩ = some (.int .i64 out) := by rw [hW1]; first | (simp [go_sem, *]; done) | (refine Gr.at ?_ (by assumption); exact gr_auto)
  have k1_12 : W1.cell? ⟨w.heap.size + 3, 2, none⟩ = some (.slice GA gn gc) := by rw [hW1]; first | (simp [go_sem, *]; done) | (refine Gr.at ?_ (by assumption); exact gr_auto)
  clear hW1
  refine (H1.out _ g1).mono ?_
  rintro e w2 ⟨rfl, hb2⟩
  have g2 := g1.trans hb2
  have k1_0 := Gr.at (w1 := w2) gr_auto k1_0; have k1_1 := Gr.at (w1 := w2) gr_auto k1_1; have k1_2 := Gr.at (w1 := w2) gr_auto k1_2; have k1_3 := Gr.at (w1 := w2) gr_auto k1_3; have k1_4 := Gr.at (w1 := w2) gr_auto k1_4; have k1_5 := Gr.at (w1 := w2) gr_auto k1_5; have k1_6 := Gr.at (w1 := w2) gr_auto k1_6; have k1_7 := Gr.at (w1 := w2) gr_auto k1_7; have k1_8 := Gr.at (w1 := w2) gr_auto k1_8; have k1_9 := Gr.at (w1 := w2) gr_auto k1_9; have k1_10 := Gr.at (w1 := w2) gr_auto k1_10; have k1_11 := Gr.at (w1 := w2) gr_auto k1_11; have k1_12 := Gr.at (w1 := w2) gr_auto k1_12
  go_wp2_with fail
  refine (H2.out _ g2).mono ?_
  rintro e w3 ⟨rfl, hb3⟩
  have g3 := g2.trans hb3
  have k1_0 := Gr.at (w1 := w3) gr_auto k1_0; have k1_1 := Gr.at (w1 := w3) gr_auto k1_1; have k1_2 := Gr.at (w1 := w3) gr_auto k1_2; have k1_3 := Gr.at (w1 := w3) gr_auto k1_3; have k1_4 := Gr.at (w1 := w3) gr_auto k1_4; have k1_5 := Gr.at (w1 := w3) gr_auto k1_5; have k1_6 := Gr.at (w1 := w3) gr_auto k1_6; have k1_7 := Gr.at (w1 := w3) gr_auto k1_7; have k1_8 := Gr.at (w1 := w3) gr_auto k1_8; have k1_9 := Gr.at (w1 := w3) gr_auto k1_9; have k1_10 := Gr.at (w1 := w3) gr_auto k1_10; have k1_11 := Gr.at (w1 := w3) gr_auto k1_11; have k1_12 := Gr.at (w1 := w3) gr_auto k1_12
  go_wp2_with fail
  refine (H3.out _ g3).mono ?_
  rintro e w4 ⟨rfl, hb4⟩
  have g4 := g3.trans hb4
  have k1_0 := Gr.at (w1 := w4) gr_auto k1_0; have k1_1 := Gr.at (w1 := w4) gr_auto k1_1; have k1_2 := Gr.at (w1 := w4) gr_auto k1_2; have k1_3 := Gr.at (w1 := w4) gr_auto k1_3; have k1_4 := Gr.at (w1 := w4) gr_auto k1_4; have k1_5 := Gr.at (w1 := w4) gr_auto k1_5; have k1_6 := Gr.at (w1 := w4) gr_auto k1_6; have k1_7 := Gr.at (w1 := w4) gr_auto k1_7; have k1_8 := Gr.at (w1 := w4) gr_auto k1_8; have k1_9 := Gr.at (w1 := w4) gr_auto k1_9; have k1_10 := Gr.at (w1 := w4) gr_auto k1_10; have k1_11 := Gr.at (w1 := w4) gr_auto k1_11; have k1_12 := Gr.at (w1 := w4) gr_auto k1_12
  go_wp2_with fail
  go_ret
  exact ⟨rfl, gr_auto⟩
set_option maxRecDepth 100000 in
set_option maxHeartbeats 2000000 in
theorem given_5true (A A2 VA1 PA1 SA1 OA1 VA2 PA2 SA2 OA2 GA IA : Option Addr) (n c n2 c2 vn1 vc1 pn1 pc1 sn1 sc1 on1 oc1 vn2 vc2 pn2 pc2 sn2 sc2 on2 oc2 gn gc m ic : Nat) (inn out : Int) (w : World) (hn : n ≤ 9223372036854775807) (hm : m ≤ 9223372036854775807) (H1 : Hid (∀ W, Gr w W → Calls Tryz.prog 62 #[.agg #[.slice A n c, .slice A2 n2 c2], .agg #[.slice VA1 vn1 vc1, .slice PA1 pn1 pc1, .slice SA1 sn1 sc1, .slice OA1 on1 oc1]] W fun e w' => e = .returned (.bool true) ∧ Gr W w')) (H2 : Hid (∀ W, Gr w W → Calls Tryz.prog 62 #[.agg #[.slice A n c, .slice A2 n2 c2], .agg #[.slice VA2 vn2 vc2, .slice PA2 pn2 pc2, .slice SA2 sn2 sc2, .slice OA2 on2 oc2]] W fun e w' => e = .returned (.bool true) ∧ Gr W w')) (H3 : Hid (∀ W, Gr w W → Calls Tryz.prog 26 #[.agg #[.slice A n c, .slice A2 n2 c2], .agg #[.int .i64 inn, .int .i64 out, .slice GA gn gc]] W fun e w' => e = .returned (.bool true) ∧ Gr W w')) (hq : m = n) (HW : Hid (∀ W, Gr w W → Calls Tryz.prog 48 #[.slice IA m ic, .int .i64 1125899906842624] W fun e w' => e = .returned (.bool true) ∧ Gr W w')) : Calls Tryz.prog 40 #[.agg #[.slice A n c, .slice A2 n2 c2], .agg #[.slice VA1 vn1 vc1, .slice PA1 pn1 pc1, .slice SA1 sn1 sc1, .slice OA1 on1 oc1], .agg #[.slice VA2 vn2 vc2, .slice PA2 pn2 pc2, .slice SA2 sn2 sc2, .slice OA2 on2 oc2], .slice IA m ic, .agg #[.int .i64 inn, .int .i64 out, .slice GA gn gc]] w fun e w' => e = .returned (.int .i64 0) ∧ Gr w w' := by
  obtain rfl := hq.symm
  go_enter Tryz.func40, Tryz.ntmps40
  go_wp2_with fail
  (first | refine name_world ?_ | refine (show (∀ W, W = _ → Calls _ _ _ W _) → Calls _ _ _ _ _ from fun h => h _ rfl) ?_); intro W1 hW1
  have g1 : Gr w W1 := by rw [hW1]; exact gr_auto
  have k1_0 : W1.cell? ⟨w.heap.size, 0, none⟩ = some (.slice A n c) := by rw [hW1]; first | (simp [go_sem, *]; done) | (refine Gr.at ?_ (by assumption); exact gr_auto)
  have b1_0 : w.heap.size < W1.heap.size := World.block_lt_of_cell? _ _ k1_0
  have k1_1 : W1.cell? ⟨w.heap.size, 1, none⟩ = some (.slice A2 n2 c2) := by rw [hW1]; first | (simp [go_sem, *]; done) | (refine Gr.at ?_ (by assumption); exact gr_auto)
  have k1_2 : W1.cell? ⟨w.heap.size + 1, 0, none⟩ = some (.slice VA1 vn1 vc1) := by rw [hW1]; first | (simp [go_sem, *]; done) | (refine Gr.at ?_ (by assumption); exact gr_auto)
  have b1_2 : w.heap.size + 1 < W1.heap.size := World.block_lt_of_cell? _ _ k1_2
  have k1_3 : W1.cell? ⟨w.heap.size + 1, 1, none⟩ = some (.slice PA1 pn1 pc1) := by rw [hW1]; first | (simp [go_sem, *]; done) | (refine Gr.at ?_ (by assumption); exact gr_auto)
  have k1_4 : W1.cell? ⟨w.heap.size + 1, 2, none⟩ = some (.slice SA1 sn1 sc1) := by rw [hW1]; first | (simp [go_sem, *]; done) | (refine Gr.at ?_ (by assumption); exact gr_auto)
  have k1_5 : W1.cell? ⟨w.heap.size + 1, 3, none⟩ = some (.slice OA1 on1 oc1) := by rw [hW1]; first | (simp [go_sem, *]; done) | (refine Gr.at ?_ (by assumption); exact gr_auto)
  have k1_6 : W1.cell? ⟨w.heap.size + 2, 0, none⟩ = some (.slice VA2 vn2 vc2) := by rw [hW1]; first | (simp [go_sem, *]; done) | (refine Gr.at ?_ (by assumption); exact gr_auto)
  have b1_6 : w.heap.size + 2 < W1.heap.size := World.block_lt_of_cell? _ _ k1_6
  have k1_7 : W1.cell? ⟨w.heap.size + 2, 1, none⟩ = some (.slice PA2 pn2 pc2) := by rw [hW1]; first | (simp [go_sem, *]; done) | (refine Gr.at ?_ (by assumption); exact gr_auto)
  have k1_8 : W1.cell? ⟨w.heap.size + 2, 2, none⟩ = some (.slice SA2 sn2 sc2) := by rw [hW1]; first | (simp [go_sem, *]; done) | (refine Gr.at ?_ (by assumption); exact gr_auto)
  have k1_9 : W1.cell? ⟨w.heap.size + 2, 3, none⟩ = some (.slice OA2 on2 oc2) := by rw [hW1]; first | (simp [go_sem, *]; done) | (refine Gr.at ?_ (by assumption); exact gr_auto)
  have k1_10 : W1.cell? ⟨w.heap.size + 3, 0, none⟩ = some (.int .i64 inn) := by rw [hW1]; first | (simp [go_sem, *]; done) | (refine Gr.at ?_ (by assumption); exact gr_auto)
  have b1_10 : w.heap.size + 3 < W1.heap.size := World.block_lt_of_cell? _ _ k1_10
  have k1_11 : W1.cell? ⟨w.heap.size + 3, 1, none⟩ = some (.int .i64 out) := by rw [hW1]; first | (simp [go_sem, *]; done) | (refine Gr.at ?_ (by assumption); exact gr_auto)
  have k1_12 : W1.cell? ⟨w.heap.size + 3, 2, none⟩ = some (.slice GA gn gc) := by rw [hW1]; first | (simp [go_sem, *]; done) | (refine Gr.at ?_ (by assumption); exact gr_auto)
  clear hW1
  refine (H1.out _ g1).mono ?_
  rintro e w2 ⟨rfl, hb2⟩
  have g2 := g1.trans hb2
  have k1_0 := Gr.at (w1 := w2) gr_auto k1_0; have k1_1 := Gr.at (w1 := w2) gr_auto k1_1; have k1_2 := Gr.at (w1 := w2) gr_auto k1_2; have k1_3 := Gr.at (w1 := w2) gr_auto k1_3; have k1_4 := Gr.at (w1 := w2) gr_auto k1_4; have k1_5 := Gr.at (w1 := w2) gr_auto k1_5; have k1_6 := Gr.at (w1 := w2) gr_auto k1_6; have k1_7 := Gr.at (w1 := w2) gr_auto k1_7; have k1_8 := Gr.at (w1 := w2) gr_auto k1_8; have k1_9 := Gr.at (w1 := w2) gr_auto k1_9; have k1_10 := Gr.at (w1 := w2) gr_auto k1_10; have k1_11 := Gr.at (w1 := w2) gr_auto k1_11; have k1_12 := Gr.at (w1 := w2) gr_auto k1_12
  go_wp2_with fail
  refine (H2.out _ g2).mono ?_
  rintro e w3 ⟨rfl, hb3⟩
  have g3 := g2.trans hb3
  have k1_0 := Gr.at (w1 := w3) gr_auto k1_0; have k1_1 := Gr.at (w1 := w3) gr_auto k1_1; have k1_2 := Gr.at (w1 := w3) gr_auto k1_2; have k1_3 := Gr.at (w1 := w3) gr_auto k1_3; have k1_4 := Gr.at (w1 := w3) gr_auto k1_4; have k1_5 := Gr.at (w1 := w3) gr_auto k1_5; have k1_6 := Gr.at (w1 := w3) gr_auto k1_6; have k1_7 := Gr.at (w1 := w3) gr_auto k1_7; have k1_8 := Gr.at (w1 := w3) gr_auto k1_8; have k1_9 := Gr.at (w1 := w3) gr_auto k1_9; have k1_10 := Gr.at (w1 := w3) gr_auto k1_10; have k1_11 := Gr.at (w1 := w3) gr_auto k1_11; have k1_12 := Gr.at (w1 := w3) gr_auto k1_12
  go_wp2_with fail
  refine (H3.out _ g3).mono ?_
  rintro e w4 ⟨rfl, hb4⟩
  have g4 := g3.trans hb4
  have k1_0 := Gr.at (w1 := w4) gr_auto k1_0; have k1_1 := Gr.at (w1 := w4) gr_auto k1_1; have k1_2 := Gr.at (w1 := w4) gr_auto k1_2; have k1_3 := Gr.at (w1 := w4) gr_auto k1_3; have k1_4 := Gr.at (w1 := w4) gr_auto k1_4; have k1_5 := Gr.at (w1 := w4) gr_auto k1_5; have k1_6 := Gr.at (w1 := w4) gr_auto k1_6; have k1_7 := Gr.at (w1 := w4) gr_auto k1_7; have k1_8 := Gr.at (w1 := w4) gr_auto k1_8; have k1_9 := Gr.at (w1 := w4) gr_auto k1_9; have k1_10 := Gr.at (w1 := w4) gr_auto k1_10; have k1_11 := Gr.at (w1 := w4) gr_auto k1_11; have k1_12 := Gr.at (w1 := w4) gr_auto k1_12
  go_wp2_with fail
  refine (HW.out _ g4).mono ?_
  rintro e w5 ⟨rfl, hb5⟩
  have g5 := g4.trans hb5
  have k1_0 := Gr.at (w1 := w5) gr_auto k1_0; have k1_1 := Gr.at (w1 := w5) gr_auto k1_1; have k1_2 := Gr.at (w1 := w5) gr_auto k1_2; have k1_3 := Gr.at (w1 := w5) gr_auto k1_3; have k1_4 := Gr.at (w1 := w5) gr_auto k1_4; have k1_5 := Gr.at (w1 := w5) gr_auto k1_5; have k1_6 := Gr.at (w1 := w5) gr_auto k1_6; have k1_7 := Gr.at (w1 := w5) gr_auto k1_7; have k1_8 := Gr.at (w1 := w5) gr_auto k1_8; have k1_9 := Gr.at (w1 := w5) gr_auto k1_9; have k1_10 := Gr.at (w1 := w5) gr_auto k1_10; have k1_11 := Gr.at (w1 := w5) gr_auto k1_11; have k1_12 := Gr.at (w1 := w5) gr_auto k1_12
  go_wp2_with fail
  go_ret
  exact ⟨rfl, gr_auto⟩
set_option maxRecDepth 100000 in
set_option maxHeartbeats 2000000 in
theorem given_5false (A A2 VA1 PA1 SA1 OA1 VA2 PA2 SA2 OA2 GA IA : Option Addr) (n c n2 c2 vn1 vc1 pn1 pc1 sn1 sc1 on1 oc1 vn2 vc2 pn2 pc2 sn2 sc2 on2 oc2 gn gc m ic : Nat) (inn out : Int) (w : World) (hn : n ≤ 9223372036854775807) (hm : m ≤ 9223372036854775807) (H1 : Hid (∀ W, Gr w W → Calls Tryz.prog 62 #[.agg #[.slice A n c, .slice A2 n2 c2], .agg #[.slice VA1 vn1 vc1, .slice PA1 pn1 pc1, .slice SA1 sn1 sc1, .slice OA1 on1 oc1]] W fun e w' => e = .returned (.bool true) ∧ Gr W w')) (H2 : Hid (∀ W, Gr w W → Calls Tryz.prog 62 #[.agg #[.slice A n c, .slice A2 n2 c2], .agg #[.slice VA2 vn2 vc2, .slice PA2 pn2 pc2, .slice SA2 sn2 sc2, .slice OA2 on2 oc2]] W fun e w' => e = .returned (.bool true) ∧ Gr W w')) (H3 : Hid (∀ W, Gr w W → Calls Tryz.prog 26 #[.agg #[.slice A n c, .slice A2 n2 c2], .agg #[.int .i64 inn, .int .i64 out, .slice GA gn gc]] W fun e w' => e = .returned (.bool true) ∧ Gr W w')) (hq : m = n) (HW : Hid (∀ W, Gr w W → Calls Tryz.prog 48 #[.slice IA m ic, .int .i64 1125899906842624] W fun e w' => e = .returned (.bool false) ∧ Gr W w')) : Calls Tryz.prog 40 #[.agg #[.slice A n c, .slice A2 n2 c2], .agg #[.slice VA1 vn1 vc1, .slice PA1 pn1 pc1, .slice SA1 sn1 sc1, .slice OA1 on1 oc1], .agg #[.slice VA2 vn2 vc2, .slice PA2 pn2 pc2, .slice SA2 sn2 sc2, .slice OA2 on2 oc2], .slice IA m ic, .agg #[.int .i64 inn, .int .i64 out, .slice GA gn gc]] w fun e w' => e = .returned (.int .i64 2) ∧ Gr w w' := by
  obtain rfl := hq.symm
  go_enter Tryz.func40, Tryz.ntmps40
  go_wp2_with fail
  (first | refine name_world ?_ | refine (show (∀ W, W = _ → Calls _ _ _ W _) → Calls _ _ _ _ _ from fun h => h _ rfl) ?_); intro W1 hW1
  have g1 : Gr w W1 := by rw [hW1]; exact gr_auto
  have k1_0 : W1.cell? ⟨w.heap.size, 0, none⟩ = some (.slice A n c) := by rw [hW1]; first | (simp [go_sem, *]; done) | (refine Gr.at ?_ (by assumption); exact gr_auto)
  have b1_0 : w.heap.size < W1.heap.size := World.block_lt_of_cell? _ _ k1_0
  have k1_1 : W1.cell? ⟨w.heap.size, 1, none⟩ = some (.slice A2 n2 c2) := by rw [hW1]; first | (simp [go_sem, *]; done) | (refine Gr.at ?_ (by assumption); exact gr_auto)
  have k1_2 : W1.cell? ⟨w.heap.size + 1, 0, none⟩ = some (.slice VA1 vn1 vc1) := by rw [hW1]; first | (simp [go_sem, *]; done) | (refine Gr.at ?_ (by assumption); exact gr_auto)
  have b1_2 : w.heap.size + 1 < W1.heap.size := World.block_lt_of_cell? _ _ k1_2
  have k1_3 : W1.cell? ⟨w.heap.size + 1, 1, none⟩ = some (.slice PA1 pn1 pc1) := by rw [hW1]; first | (simp [go_sem, *]; done) | (refine Gr.at ?_ (by assumption); exact gr_auto)
  have k1_4 : W1.cell? ⟨w.heap.size + 1, 2, none⟩ = some (.slice SA1 sn1 sc1) := by rw [hW1]; first | (simp [go_sem, *]; done) | (refine Gr.at ?_ (by assumption); exact gr_auto)
  have k1_5 : W1.cell? ⟨w.heap.size + 1, 3, none⟩ = some (.slice OA1 on1 oc1) := by rw [hW1]; first | (simp [go_sem, *]; done) | (refine Gr.at ?_ (by assumption); exact gr_auto)
  have k1_6 : W1.cell? ⟨w.heap.size + 2, 0, none⟩ = some (.slice VA2 vn2 vc2) := by rw [hW1]; first | (simp [go_sem, *]; done) | (refine Gr.at ?_ (by assumption); exact gr_auto)
  have b1_6 : w.heap.size + 2 < W1.heap.size := World.block_lt_of_cell? _ _ k1_6
  have k1_7 : W1.cell? ⟨w.heap.size + 2, 1, none⟩ = some (.slice PA2 pn2 pc2) := by rw [hW1]; first | (simp [go_sem, *]; done) | (refine Gr.at ?_ (by assumption); exact gr_auto)
  have k1_8 : W1.cell? ⟨w.heap.size + 2, 2, none⟩ = some (.slice SA2 sn2 sc2) := by rw [hW1]; first | (simp [go_sem, *]; done) | (refine Gr.at ?_ (by assumption); exact gr_auto)
  have k1_9 : W1.cell? ⟨w.heap.size + 2, 3, none⟩ = some (.slice OA2 on2 oc2) := by rw [hW1]; first | (simp [go_sem, *]; done) | (refine Gr.at ?_ (by assumption); exact gr_auto)
  have k1_10 : W1.cell? ⟨w.heap.size + 3, 0, none⟩ = some (.int .i64 inn) := by rw [hW1]; first | (simp [go_sem, *]; done) | (refine Gr.at ?_ (by assumption); exact gr_auto)
  have b1_10 : w.heap.size + 3 < W1.heap.size := World.block_lt_of_cell? _ _ k1_10
  have k1_11 : W1.cell? ⟨w.heap.size + 3, 1, none⟩ = some (.int .i64 out) := by rw [hW1]; first | (simp [go_sem, *]; done) | (refine Gr.at ?_ (by assumption); exact gr_auto)
  have k1_12 : W1.cell? ⟨w.heap.size + 3, 2, none⟩ = some (.slice GA gn gc) := by rw [hW1]; first | (simp [go_sem, *]; done) | (refine Gr.at ?_ (by assumption); exact gr_auto)
  clear hW1
  refine (H1.out _ g1).mono ?_
  rintro e w2 ⟨rfl, hb2⟩
  have g2 := g1.trans hb2
  have k1_0 := Gr.at (w1 := w2) gr_auto k1_0; have k1_1 := Gr.at (w1 := w2) gr_auto k1_1; have k1_2 := Gr.at (w1 := w2) gr_auto k1_2; have k1_3 := Gr.at (w1 := w2) gr_auto k1_3; have k1_4 := Gr.at (w1 := w2) gr_auto k1_4; have k1_5 := Gr.at (w1 := w2) gr_auto k1_5; have k1_6 := Gr.at (w1 := w2) gr_auto k1_6; have k1_7 := Gr.at (w1 := w2) gr_auto k1_7; have k1_8 := Gr.at (w1 := w2) gr_auto k1_8; have k1_9 := Gr.at (w1 := w2) gr_auto k1_9; have k1_10 := Gr.at (w1 := w2) gr_auto k1_10; have k1_11 := Gr.at (w1 := w2) gr_auto k1_11; have k1_12 := Gr.at (w1 := w2) gr_auto k1_12
  go_wp2_with fail
  refine (H2.out _ g2).mono ?_
  rintro e w3 ⟨rfl, hb3⟩
  have g3 := g2.trans hb3
  have k1_0 := Gr.at (w1 := w3) gr_auto k1_0; have k1_1 := Gr.at (w1 := w3) gr_auto k1_1; have k1_2 := Gr.at (w1 := w3) gr_auto k1_2; have k1_3 := Gr.at (w1 := w3) gr_auto k1_3; have k1_4 := Gr.at (w1 := w3) gr_auto k1_4; have k1_5 := Gr.at (w1 := w3) gr_auto k1_5; have k1_6 := Gr.at (w1 := w3) gr_auto k1_6; have k1_7 := Gr.at (w1 := w3) gr_auto k1_7; have k1_8 := Gr.at (w1 := w3) gr_auto k1_8; have k1_9 := Gr.at (w1 := w3) gr_auto k1_9; have k1_10 := Gr.at (w1 := w3) gr_auto k1_10; have k1_11 := Gr.at (w1 := w3) gr_auto k1_11; have k1_12 := Gr.at (w1 := w3) gr_auto k1_12
  go_wp2_with fail
  refine (H3.out _ g3).mono ?_
  rintro e w4 ⟨rfl, hb4⟩
  have g4 := g3.trans hb4
  have k1_0 := Gr.at (w1 := w4) gr_auto k1_0; have k1_1 := Gr.at (w1 := w4) gr_auto k1_1; have k1_2 := Gr.at (w1 := w4) gr_auto k1_2; have k1_3 := Gr.at (w1 := w4) gr_auto k1_3; have k1_4 := Gr.at (w1 := w4) gr_auto k1_4; have k1_5 := Gr.at (w1 := w4) gr_auto k1_5; have k1_6 := Gr.at (w1 := w4) gr_auto k1_6; have k1_7 := Gr.at (w1 := w4) gr_auto k1_7; have k1_8 := Gr.at (w1 := w4) gr_auto k1_8; have k1_9 := Gr.at (w1 := w4) gr_auto k1_9; have k1_10 := Gr.at (w1 := w4) gr_auto k1_10; have k1_11 := Gr.at (w1 := w4) gr_auto k1_11; have k1_12 := Gr.at (w1 := w4) gr_auto k1_12
  go_wp2_with fail
  refine (HW.out _ g4).mono ?_
  rintro e w5 ⟨rfl, hb5⟩
  have g5 := g4.trans hb5
  have k1_0 := Gr.at (w1 := w5) gr_auto k1_0; have k1_1 := Gr.at (w1 := w5) gr_auto k1_1; have k1_2 := Gr.at (w1 := w5) gr_auto k1_2; have k1_3 := Gr.at (w1 := w5) gr_auto k1_3; have k1_4 := Gr.at (w1 := w5) gr_auto k1_4; have k1_5 := Gr.at (w1 := w5) gr_auto k1_5; have k1_6 := Gr.at (w1 := w5) gr_auto k1_6; have k1_7 := Gr.at (w1 := w5) gr_auto k1_7; have k1_8 := Gr.at (w1 := w5) gr_auto k1_8; have k1_9 := Gr.at (w1 := w5) gr_auto k1_9; have k1_10 := Gr.at (w1 := w5) gr_auto k1_10; have k1_11 := Gr.at (w1 := w5) gr_auto k1_11; have k1_12 := Gr.at (w1 := w5) gr_auto k1_12
  go_wp2_with fail
  go_ret
  exact ⟨rfl, gr_auto⟩
theorem given_any (N : Ba.SlNode) (L : Ba.SlLink) (s1 s2 : Ba.State) (I : Ba.SlI) (g : Ba.Ledger) (w : World) (hN : N.At w) (hL : L.At w) (h1 : s1.Ok w) (h2 : s2.Ok w) (hI : I.At w) (hg : g.Ok w) : Calls Tryz.prog 40 #[Ba.netVal N L, s1.val, s2.val, .slice I.A I.n I.c, g.val] w fun e w' => e = .returned (.int .i64 (Ba.givE N L s1 s2 I g)) ∧ Gr w w' := by
  have H1 := Lib.hid (fun W (hh : Gr w W) => vstate_any N L s1 W (hN.gr hh) (hL.gr hh) (h1.gr hh))
  have H2 := Lib.hid (fun W (hh : Gr w W) => vstate_any N L s2 W (hN.gr hh) (hL.gr hh) (h2.gr hh))
  have H3 := Lib.hid (fun W (hh : Gr w W) => bvalid_any N L g W (Nat.le_trans hL.hc hL.hb) (hg.gr hh))
  have hn : N.n ≤ 9223372036854775807 := Nat.le_trans hN.hc hN.hb
  have hi : I.n ≤ 9223372036854775807 := Nat.le_trans hI.hc hI.hb
  unfold Ba.givE
  cases q1 : Ba.vs N L s1
  · rw [q1] at H1
    rw [Bool.false_and, if_pos rfl]
    exact given_1 (N.A) (L.A) (s1.vs.A) (s1.ps.A) (s1.st.A) (s1.on.A) (s2.vs.A) (s2.ps.A) (s2.st.A) (s2.on.A) (g.ps.A) (I.A) (N.n) (N.c) (L.n) (L.c) (s1.vs.n) (s1.vs.c) (s1.ps.n) (s1.ps.c) (s1.st.n) (s1.st.c) (s1.on.n) (s1.on.c) (s2.vs.n) (s2.vs.c) (s2.ps.n) (s2.ps.c) (s2.st.n) (s2.st.c) (s2.on.n) (s2.on.c) (g.ps.n) (g.ps.c) (I.n) (I.c) (g.inn) (g.out) (w) hn hi H1
  cases q2 : Ba.vs N L s2
  · rw [q1] at H1; rw [q2] at H2
    rw [Bool.false_and, Bool.and_false, if_pos rfl]
    exact given_2 (N.A) (L.A) (s1.vs.A) (s1.ps.A) (s1.st.A) (s1.on.A) (s2.vs.A) (s2.ps.A) (s2.st.A) (s2.on.A) (g.ps.A) (I.A) (N.n) (N.c) (L.n) (L.c) (s1.vs.n) (s1.vs.c) (s1.ps.n) (s1.ps.c) (s1.st.n) (s1.st.c) (s1.on.n) (s1.on.c) (s2.vs.n) (s2.vs.c) (s2.ps.n) (s2.ps.c) (s2.st.n) (s2.st.c) (s2.on.n) (s2.on.c) (g.ps.n) (g.ps.c) (I.n) (I.c) (g.inn) (g.out) (w) hn hi H1 H2
  cases q3 : Ba.ledgB L g
  · rw [q1] at H1; rw [q2] at H2; rw [q3] at H3
    rw [Bool.and_false, Bool.and_false, if_pos rfl]
    exact given_3 (N.A) (L.A) (s1.vs.A) (s1.ps.A) (s1.st.A) (s1.on.A) (s2.vs.A) (s2.ps.A) (s2.st.A) (s2.on.A) (g.ps.A) (I.A) (N.n) (N.c) (L.n) (L.c) (s1.vs.n) (s1.vs.c) (s1.ps.n) (s1.ps.c) (s1.st.n) (s1.st.c) (s1.on.n) (s1.on.c) (s2.vs.n) (s2.vs.c) (s2.ps.n) (s2.ps.c) (s2.st.n) (s2.st.c) (s2.on.n) (s2.on.c) (g.ps.n) (g.ps.c) (I.n) (I.c) (g.inn) (g.out) (w) hn hi H1 H2 H3
  rw [q1] at H1; rw [q2] at H2; rw [q3] at H3
  rw [Bool.true_and, Bool.true_and, if_neg (show ¬ (true = false) by decide)]
  by_cases hq : I.n = N.n
  rotate_left
  · rw [if_neg hq]
    exact given_4 (N.A) (L.A) (s1.vs.A) (s1.ps.A) (s1.st.A) (s1.on.A) (s2.vs.A) (s2.ps.A) (s2.st.A) (s2.on.A) (g.ps.A) (I.A) (N.n) (N.c) (L.n) (L.c) (s1.vs.n) (s1.vs.c) (s1.ps.n) (s1.ps.c) (s1.st.n) (s1.st.c) (s1.on.n) (s1.on.c) (s2.vs.n) (s2.vs.c) (s2.ps.n) (s2.ps.c) (s2.st.n) (s2.st.c) (s2.on.n) (s2.on.c) (g.ps.n) (g.ps.c) (I.n) (I.c) (g.inn) (g.out) (w) hn hi H1 H2 H3 hq
  rw [if_pos hq]
  have HW := Lib.hid (fun W (hh : Gr w W) => bwithin_any I 1125899906842624 W (hI.gr hh))
  cases q4 : Ba.wiB I 1125899906842624
  · rw [q4] at HW
    rw [if_neg (by decide)]
    exact given_5false (N.A) (L.A) (s1.vs.A) (s1.ps.A) (s1.st.A) (s1.on.A) (s2.vs.A) (s2.ps.A) (s2.st.A) (s2.on.A) (g.ps.A) (I.A) (N.n) (N.c) (L.n) (L.c) (s1.vs.n) (s1.vs.c) (s1.ps.n) (s1.ps.c) (s1.st.n) (s1.st.c) (s1.on.n) (s1.on.c) (s2.vs.n) (s2.vs.c) (s2.ps.n) (s2.ps.c) (s2.st.n) (s2.st.c) (s2.on.n) (s2.on.c) (g.ps.n) (g.ps.c) (I.n) (I.c) (g.inn) (g.out) (w) hn hi H1 H2 H3 hq HW
  · rw [q4] at HW
    rw [if_pos rfl]
    exact given_5true (N.A) (L.A) (s1.vs.A) (s1.ps.A) (s1.st.A) (s1.on.A) (s2.vs.A) (s2.ps.A) (s2.st.A) (s2.on.A) (g.ps.A) (I.A) (N.n) (N.c) (L.n) (L.c) (s1.vs.n) (s1.vs.c) (s1.ps.n) (s1.ps.c) (s1.st.n) (s1.st.c) (s1.on.n) (s1.on.c) (s2.vs.n) (s2.vs.c) (s2.ps.n) (s2.ps.c) (s2.st.n) (s2.st.c) (s2.on.n) (s2.on.c) (g.ps.n) (g.ps.c) (I.n) (I.c) (g.inn) (g.out) (w) hn hi H1 H2 H3 hq HW
end Go.Proofs.YtkgbbcmgfbipaaaGreatDoor
