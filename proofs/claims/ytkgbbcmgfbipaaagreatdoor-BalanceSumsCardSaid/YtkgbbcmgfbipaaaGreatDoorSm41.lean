/-
  The reference's Sum and Through. (Printed by mkbssum.py.)
-/
import Derived.Test.YtkgbbcmgfbipaaaGreatDoorSm39
import Derived.Test.YtkgbbcmgfbipaaaGreatDoorSm36
import Derived.Test.YtkgbbcmgfbipaaaGreatDoorSm40
import Derived.Test.YtkgbbcmgfbipaaaGreatDoorSm29

set_option linter.unusedVariables false
set_option linter.unusedSimpArgs false
namespace Go.Proofs.YtkgbbcmgfbipaaaGreatDoor
open Go.RowKit
attribute [local go_sem ↓] Go.wp_at_zero Go.wp_at_succ
set_option maxRecDepth 100000 in
set_option maxHeartbeats 8000000 in
theorem rsum_e (A A2 LA : Option Addr) (n c n2 c2 ln lc : Nat) (w : World) (D : Nat → Ba.Ledger) (ec : Int) (hec : ec ≠ 0) (HL : Hid (∀ W, Gr w W → Calls Tryz.prog 27 #[.agg #[.slice A n c, .slice A2 n2 c2], .slice LA ln lc] W fun e w' => e = .returned (.int .i64 ec) ∧ Gr W w')) : Calls Tryz.prog 9 #[.agg #[.slice A n c, .slice A2 n2 c2], .slice LA ln lc] w (RetSum D n2 ln ec w) := by
  have t0 : (ec != 0) = true := Ba.bne_of' hec
  go_enter Tryz.func9, Tryz.ntmps9
  go_wp2_with fail
  refine (show (∀ W, W = _ → Calls _ _ _ W _) → Calls _ _ _ _ _ from fun h => h _ rfl) ?_; intro W1 hW1
  have g1 : Gr w W1 := by rw [hW1]; exact gr_auto
  have k1_0 : W1.cell? ⟨w.heap.size, 0, none⟩ = some (.slice A n c) := by rw [hW1]; simp [go_sem, *]
  have k1_1 : W1.cell? ⟨w.heap.size, 1, none⟩ = some (.slice A2 n2 c2) := by rw [hW1]; simp [go_sem, *]
  have r0 : Own W1 (w.heap.size + 1) 0 (.int .i64 0) := by rw [hW1]; exact ⟨by simp [go_sem], by simp [go_sem]⟩
  have r1 : Own W1 (w.heap.size + 1) 1 (.int .i64 0) := by rw [hW1]; exact ⟨by simp [go_sem], by simp [go_sem]⟩
  have r2 : Own W1 (w.heap.size + 1) 2 (.slice none 0 0) := by rw [hW1]; exact ⟨by simp [go_sem], by simp [go_sem]⟩
  clear hW1
  refine (HL.out _ g1).mono ?_
  rintro e w2 ⟨rfl, hb2⟩
  have g2 := g1.trans hb2
  have k1_0 := Gr.at (w1 := w2) gr_auto k1_0; have k1_1 := Gr.at (w1 := w2) gr_auto k1_1
  have r0 := r0.gr hb2; have r1 := r1.gr hb2; have r2 := r2.gr hb2
  have x0 := r0.1; have x1 := r1.1; have x2 := r2.1; have y0 := r0.2; have y1 := r1.2; have y2 := r2.2
  clear r0 r1 r2
  go_wp2_with fail
  refine name_post ?_; intro FW hFW
  have f0 : FW.cell? ⟨w.heap.size + 1, 0, none⟩ = some (.int .i64 0) := by rw [hFW]; first | (simp [go_sem, *]; done) | exact (by first | (simp [go_sem, *]; done) | ((try simp [go_sem, *]); refine World.cell?_setCell_same' _ _ _ ?_; simp [go_sem, *]; done))
  have f1 : FW.cell? ⟨w.heap.size + 1, 1, none⟩ = some (.int .i64 0) := by rw [hFW]; first | (simp [go_sem, *]; done) | exact (by first | (simp [go_sem, *]; done) | ((try simp [go_sem, *]); refine World.cell?_setCell_same' _ _ _ ?_; simp [go_sem, *]; done))
  have f2 : FW.cell? ⟨w.heap.size + 1, 2, none⟩ = some (.slice none 0 0) := by rw [hFW]; first | (simp [go_sem, *]; done) | exact (by first | (simp [go_sem, *]; done) | ((try simp [go_sem, *]); refine World.cell?_setCell_same' _ _ _ ?_; simp [go_sem, *]; done))
  have gF : GrX (w.heap.size + 1) w2 FW := by
    rw [hFW]
    refine GrX.setCell (GrX.setCell (GrX.setCell (GrX.refl _ _) ?_ _) ?_ _) ?_ _ <;> rfl
  clear hFW
  refine bodyPost_ret (by simp [results, Tryz.results9, go_sem, f0, f1, f2]; try rfl) rfl ?_
  exact retSum_no hec (GrX.gr g2 (by omega) gF)
set_option maxRecDepth 100000 in
set_option maxHeartbeats 8000000 in
theorem rsum_l (A A2 LA : Option Addr) (n c n2 c2 ln lc : Nat) (w : World) (lb lo : Nat) (D : Nat → Ba.Ledger) (ec : Int) (hm : ln ≤ 1000) (hl : n2 ≤ 1000) (LA0 : Hid (0 < ln → LA = some ⟨lb, lo, none⟩)) (LX : Hid (∀ i, i < ln → (D i).Cells w lb (lo + i * 3) ∧ ((0 ≤ (D i).inn ∧ (D i).inn ≤ 1152921504606846976) ∧ (0 ≤ (D i).out ∧ (D i).out ≤ 1152921504606846976) ∧ ((D i).ps.n = n2 ∧ (0 < n2 → (D i).ps.A = some ⟨(D i).ps.b, (D i).ps.o, none⟩)) ∧ (∀ k, k < n2 → w.cell? ⟨(D i).ps.b, (D i).ps.o + k, none⟩ = some (.int .i64 ((D i).ps.X k))) ∧ (∀ k, k < n2 → 0 ≤ (D i).ps.X k ∧ (D i).ps.X k ≤ 9007199254740992))))
    (HL : Hid (∀ W, Gr w W → Calls Tryz.prog 27 #[.agg #[.slice A n c, .slice A2 n2 c2], .slice LA ln lc] W fun e w' => e = .returned (.int .i64 0) ∧ Gr W w')) (HV : Hid (∀ (g : Ba.Ledger) W, Gr w W → g.Ok W → Calls Tryz.prog 15 #[.agg #[.slice A n c, .slice A2 n2 c2], g.val] W fun e w' => e = .returned (.bool (ledgV n2 g)) ∧ Gr W w')) (hno : Hid (∀ i, i < ln → Ba.okS D n2 (i + 1) = false → ec = 5)) (hyes : Hid ((∀ i, i < ln → Ba.okS D n2 (i + 1) = true) → ec = 0)) : Calls Tryz.prog 9 #[.agg #[.slice A n c, .slice A2 n2 c2], .slice LA ln lc] w (RetSum D n2 ln ec w) := by
  obtain ⟨i0, hi0, hz0, hz1, hz2⟩ := info_parts info_int
  have HI := Lib.hid hi0; have HZ0 := Lib.hid hz0; have HZ1 := Lib.hid hz1; have HZ2 := Lib.hid hz2
  clear hi0 hz0 hz1 hz2
  go_enter Tryz.func9, Tryz.ntmps9
  go_wp2_with fail
  refine (show (∀ W, W = _ → Calls _ _ _ W _) → Calls _ _ _ _ _ from fun h => h _ rfl) ?_; intro W1 hW1
  have g1 : Gr w W1 := by rw [hW1]; exact gr_auto
  have k1_0 : W1.cell? ⟨w.heap.size, 0, none⟩ = some (.slice A n c) := by rw [hW1]; simp [go_sem, *]
  have k1_1 : W1.cell? ⟨w.heap.size, 1, none⟩ = some (.slice A2 n2 c2) := by rw [hW1]; simp [go_sem, *]
  have r0 : Own W1 (w.heap.size + 1) 0 (.int .i64 0) := by rw [hW1]; exact ⟨by simp [go_sem], by simp [go_sem]⟩
  have r1 : Own W1 (w.heap.size + 1) 1 (.int .i64 0) := by rw [hW1]; exact ⟨by simp [go_sem], by simp [go_sem]⟩
  have r2 : Own W1 (w.heap.size + 1) 2 (.slice none 0 0) := by rw [hW1]; exact ⟨by simp [go_sem], by simp [go_sem]⟩
  clear hW1
  refine (HL.out _ g1).mono ?_
  rintro e w2 ⟨rfl, hb2⟩
  have g2 := g1.trans hb2
  have k1_0 := Gr.at (w1 := w2) gr_auto k1_0; have k1_1 := Gr.at (w1 := w2) gr_auto k1_1
  have r0 := r0.gr hb2; have r1 := r1.gr hb2; have r2 := r2.gr hb2
  obtain ⟨R, hR⟩ : ∃ R, R = w2.heap.size := ⟨_, rfl⟩
  have HRR := Lib.hid hR
  go_wp2_with (at_make; refine wpList_make_full _ rfl _ _ _ rfl w.heap.size 3 i0 (.int .i64 0) 1 Tryz.underlying30 HI.out HZ0.out HZ1.out .i64 .i64 n2 n2 n2 rfl rfl rfl rfl ?d1 ?d2 ?d3 ?_)
  case d1 => rw [HZ2.out]; omega
  case d2 => unfold maxLen; omega
  case d3 => exact Gr.size g2
  intro w3 hown hgrow
  have hrow := Lib.hid (made_row hown)
  have G2 := Gr.own (Gr.refl _) (Nat.le_refl _) (n := 0) (e := 3) (size := 1) (xs := []) (v := .slice none 0 0) ⟨rfl, Or.inl ⟨rfl, rfl⟩⟩ hgrow
  have hz3 : R < w3.heap.size := by
    obtain ⟨-, ⟨q, -⟩ | ⟨g', cap, cur, hv, -, hc, -⟩⟩ := hown
    · cases q
    · simp only [Value.slice.injEq, Option.some.injEq, Addr.mk.injEq] at hv
      rw [hR, hv.1.1]
      exact (Array.getElem?_eq_some_iff.1 hc).1
  have g3 := g2.trans G2
  have b1 : w.heap.size + 1 < R := by rw [hR]; exact World.block_lt_of_cell? _ _ r0.1
  have k1_0 := Gr.at (w1 := w3) gr_auto k1_0; have k1_1 := Gr.at (w1 := w3) gr_auto k1_1
  have r0 := r0.gr G2; have r1 := r1.gr G2; have r2 := r2.gr G2
  rw [← hR] at hrow
  clear hown hgrow G2
  rw [← hR]
  clear hR
  obtain ⟨M, hM⟩ : ∃ M, M = w3.heap.size := ⟨_, rfl⟩
  go_wp2_with fail
  refine name_world ?_; intro W4 hW4
  have gb4 : Gr w3 W4 := by rw [hW4]; exact gr_auto
  have g4 := g3.trans gb4
  have o0 : Own W4 M 0 (.int .i64 0) := by rw [hW4, hM]; exact ⟨by simp [go_sem], by simp [go_sem]⟩
  have o1 : Own W4 M 1 (.int .i64 0) := by rw [hW4, hM]; exact ⟨by simp [go_sem], by simp [go_sem]⟩
  have o2 : Own W4 M 2 (.slice (some ⟨R, 0, none⟩) n2 n2) := by rw [hW4, hM]; exact ⟨by simp [go_sem], by simp [go_sem]⟩
  clear hW4
  have b2 : R < M := by omega
  rw [← hM]
  clear hM hz3
  have k1_0 := Gr.at (w1 := W4) gr_auto k1_0; have k1_1 := Gr.at (w1 := W4) gr_auto k1_1
  have r0 := Lib.hid (r0.gr gb4); have r1 := Lib.hid (r1.gr gb4); have r2 := Lib.hid (r2.gr gb4)
  have hrow4 := Lib.hid (hrow.out.gr gb4)
  clear hrow
  go_loopw [8] (fun x wr => ∃ i : Nat, i ≤ ln ∧ x = .int .i64 (i : Int) ∧ Hid (∀ j, j < i → Ba.okS D n2 (j + 1) = true) ∧ GrY R M W4 wr ∧ (Own wr M 0 (.int .i64 (Ba.sIn D i)) ∧ Own wr M 1 (.int .i64 (Ba.sOut D i)) ∧ Own wr M 2 (.slice (some ⟨R, 0, none⟩) n2 n2)) ∧ Hid (Row wr R n2 (fun k => .int .i64 (Ba.sPs D k i)))) (fun x _ => ln - (intOf x).toNat)
  case atStart => exact ⟨0, Nat.zero_le _, rfl, Lib.hid (fun j hj => absurd hj (by omega)), GrY.refl _ _ _, ⟨o0, o1, o2⟩, Lib.hid hrow4.out⟩
  case round =>
    clear o0 o1 o2 hrow4
    obtain ⟨i, hi, rfl, HQ, hg, ⟨o0, o1, o2⟩, HR⟩ := hrel
    have gr : Gr w wr := GrY.below g4 (by omega) (by omega) hg
    have k0 := GrY.at hg (by omega) (by omega) k1_0; have k1 := GrY.at hg (by omega) (by omega) k1_1
    have hMw : M < wr.heap.size := World.block_lt_of_cell? _ _ o0.1
    have hMn : M ≠ wr.heap.size := by omega
    by_cases hlt : i < ln
    · obtain rfl := LA0.out (by omega)
      obtain ⟨a0, a1, a2⟩ := (LX.out i hlt).1.gr gr
      obtain ⟨d1, d2, ⟨d0, d3⟩, d4, d5⟩ := (LX.out i hlt).2
      have hok : Ba.okS D n2 i = true := by
        cases i with
        | zero => exact Ba.okS_zero D n2
        | succ i => exact HQ.out i (Nat.lt_succ_self i)
      obtain ⟨e0, e1, e2⟩ := Ba.okS_parts hok
      have E2 := Lib.hid e2
      clear hok e2
      have HT0 := Lib.hid (show Ba.sIn D (i + 1) = Ba.sIn D i + (D i).inn from rfl)
      have HT1 := Lib.hid (show Ba.sOut D (i + 1) = Ba.sOut D i + (D i).out from rfl)
      have HT2 := Lib.hid (fun (k : Nat) => show Ba.sPs D k (i + 1) = Ba.sPs D k i + (D i).ps.X k from rfl)
      have ib0 : (0 : Int) ≤ (i : Int) := by omega
      have ib1 : (i : Int) < (ln : Int) := by omega
      have D4 := Lib.hid d4; have D5 := Lib.hid d5
      have LX0 := Lib.hid (LX.out i hlt).1
      clear LX d4 d5
      generalize hx0 : Ba.sIn D i = s0 at *
      generalize hx1 : Ba.sOut D i = s1 at *
      generalize hdi : D i = dd at *
      have q0 := o0.1; have z0_ := o0.2
      go_wp2_with fail
      refine wp_region_tail 9 (by kernel_rfl) (by kernel_rfl) ?_
      simp only [List.take_succ_cons, List.take_zero, List.drop_succ_cons, List.drop_zero]
      repeat (go_big_quiet_step (skip))
      refine wpQuiet_nil ?_
      go_wp2_with fail
      refine name_world ?_; intro W5 hW5
      have y5 : GrY R M W4 W5 := by
        rw [hW5]
        exact GrY.gr (GrY.grx hg (GrX.setCell (GrX.refl M _) rfl _)) (Gr.drew (Gr.refl _))
      have p0 : Own W5 M 0 (.int .i64 (s0 + dd.inn)) := by rw [hW5]; exact (Own.set o0).gr (Gr.drew (Gr.refl _))
      have p1 : Own W5 M 1 (.int .i64 s1) := by rw [hW5]; exact (Own.other o1 (Or.inr (by omega))).gr (Gr.drew (Gr.refl _))
      have p2 : Own W5 M 2 (.slice (some ⟨R, 0, none⟩) n2 n2) := by rw [hW5]; exact (Own.other o2 (Or.inr (by omega))).gr (Gr.drew (Gr.refl _))
      have HR5 := Lib.hid (show Row W5 R n2 (fun k => .int .i64 (Ba.sPs D k i)) from fun j hj => by
        rw [hW5]; exact (Own.other (HR.out j hj) (Or.inl (by omega))).gr (Gr.drew (Gr.refl _)))
      clear hW5
      have g5 : Gr w W5 := GrY.below g4 (by omega) (by omega) y5
      obtain ⟨-, a1', -⟩ := (LX0.out).gr g5
      clear a0 a1 a2 q0 z0_
      have q0 := p1.1; have z0_ := p1.2
      go_wp2_with fail
      refine wp_region_tail 9 (by kernel_rfl) (by kernel_rfl) ?_
      simp only [List.take_succ_cons, List.take_zero, List.drop_succ_cons, List.drop_zero]
      repeat (go_big_quiet_step (skip))
      refine wpQuiet_nil ?_
      go_wp2_with fail
      refine name_world ?_; intro W6 hW6
      have y6 : GrY R M W4 W6 := by
        rw [hW6]
        exact GrY.gr (GrY.grx y5 (GrX.setCell (GrX.refl M _) rfl _)) (Gr.drew (Gr.refl _))
      have p1n : Own W6 M 1 (.int .i64 (s1 + dd.out)) := by rw [hW6]; exact (Own.set p1).gr (Gr.drew (Gr.refl _))
      replace p0 : Own W6 M 0 (.int .i64 (s0 + dd.inn)) := by rw [hW6]; exact (Own.other p0 (Or.inr (by omega))).gr (Gr.drew (Gr.refl _))
      replace p2 : Own W6 M 2 (.slice (some ⟨R, 0, none⟩) n2 n2) := by rw [hW6]; exact (Own.other p2 (Or.inr (by omega))).gr (Gr.drew (Gr.refl _))
      have HR6 := Lib.hid (show Row W6 R n2 (fun k => .int .i64 (Ba.sPs D k i)) from fun j hj => by
        rw [hW6]; exact (Own.other (HR5.out j hj) (Or.inl (by omega))).gr (Gr.drew (Gr.refl _)))
      clear p1
      have p1 := p1n
      clear p1n q0 z0_ a1' y5 HR5
      clear hW6 hg o0 o1 o2 HR gr k0 k1 hMw hMn
      go_loopw [9] (fun x wz => ∃ k : Nat, k ≤ n2 ∧ x = .int .i64 (k : Int) ∧ GrY R M W4 wz ∧ (Own wz M 0 (.int .i64 (s0 + dd.inn)) ∧ Own wz M 1 (.int .i64 (s1 + dd.out)) ∧ Own wz M 2 (.slice (some ⟨R, 0, none⟩) n2 n2)) ∧ Hid (Row wz R n2 (fun j => .int .i64 (if j < k then Ba.sPs D j (i + 1) else Ba.sPs D j i)))) (fun x _ => n2 - (intOf x).toNat)
      case atStart => exact ⟨0, Nat.zero_le _, rfl, y6, ⟨p0, p1, p2⟩, Lib.hid (by simpa using HR6.out)⟩
      case round =>
        clear y6 p0 p1 p2 HR6
        rename_i wq
        obtain ⟨k, hk, rfl, hg, ⟨p0, p1, p2⟩, HR⟩ := hrel
        have gr : Gr w wr := GrY.below g4 (by omega) (by omega) hg
        have k0 := GrY.at hg (by omega) (by omega) k1_0; have k1 := GrY.at hg (by omega) (by omega) k1_1
        by_cases hlt2 : k < n2
        · have hpa := d3 (by omega)
          have v0 := Gr.at gr (D4.out k hlt2)
          have e5 := D5.out k hlt2
          have e6 := E2.out k hlt2
          obtain ⟨u0, u1⟩ := HR.out k hlt2
          simp only [Nat.lt_irrefl, if_false] at u0
          have ib2 : (0 : Int) ≤ (k : Int) := by omega
          have ib3 : (k : Int) < (n2 : Int) := by omega
          have t2 := HT2.out k
          have q0 := p2.1
          have HRn := Lib.hid (fun (W : World) (x : Int) (hx : x = Ba.sPs D k (i + 1)) => show Row (wr.setCell ⟨R, k, none⟩ (.int .i64 x)) R n2 (fun j => .int .i64 (if j < k + 1 then Ba.sPs D j (i + 1) else Ba.sPs D j i)) from Row.set HR.out (by show Value.int .i64 _ = _; rw [if_pos (Nat.lt_succ_self k), hx]) (fun j _ hj => by
            show Value.int .i64 _ = Value.int .i64 _
            by_cases q : j < k
            · rw [if_pos q, if_pos (by omega)]
            · rw [if_neg q, if_neg (by omega)]))
          obtain ⟨-, -, a2⟩ := (LX0.out).gr gr
          rw [hpa] at a2
          clear D4 D5 E2 HQ LX0
          generalize Ba.sPs D k i = s2 at *
          generalize dd.ps.X k = x at *
          go_wp2_with fail
          refine wp_region_tail 18 (by kernel_rfl) (by kernel_rfl) ?_
          simp only [List.take_succ_cons, List.take_zero, List.drop_succ_cons, List.drop_zero]
          repeat (go_big_quiet_step (skip))
          refine wpQuiet_nil ?_
          go_wp2_with fail
          go_roundw
          case rel => exact ⟨k + 1, by omega, by go_num, (GrY.setCell hg rfl _).gr (Gr.drew (Gr.refl _)), ⟨(Own.other p0 (Or.inl (by omega))).gr (Gr.drew (Gr.refl _)), (Own.other p1 (Or.inl (by omega))).gr (Gr.drew (Gr.refl _)), (Own.other p2 (Or.inl (by omega))).gr (Gr.drew (Gr.refl _))⟩, Lib.hid (Row.gr (HRn.out wr _ t2.symm) (Gr.drew (Gr.refl _)))⟩
          case measure => simp [intOf]; omega
        · obtain rfl : k = n2 := by omega
          have HRe := Lib.hid (show Row wr R k (fun j => .int .i64 (Ba.sPs D j (i + 1))) from fun j hj => by have := HR.out j hj; simp only [hj, if_true] at this; exact this)
          have gOk : Ba.Ledger.Ok wr ⟨s0 + dd.inn, s1 + dd.out, ⟨some ⟨R, 0, none⟩, k, k, R, 0, fun j => Ba.sPs D j (i + 1)⟩⟩ := ⟨by unfold Ba.i64; simp only; omega, by unfold Ba.i64; simp only; omega, ⟨fun _ => rfl, by simp, by simp only; omega, fun j hj => ⟨by simp only [Nat.zero_add]; exact (HRe.out j hj).1, by
            have h1 := E2.out j hj; have h2 := D5.out j hj
            simp only
            rw [HT2.out j]
            unfold Ba.i64; omega⟩⟩⟩
          have HVi := Lib.hid (fun W (hW : Gr wr W) => HV.out _ W (gr.trans hW) (gOk.gr hW))
          rw [show ledgV k ⟨s0 + dd.inn, s1 + dd.out, ⟨some ⟨R, 0, none⟩, k, k, R, 0, fun j => Ba.sPs D j (i + 1)⟩⟩ = Ba.okS D k (i + 1) by
            unfold ledgV Ba.okS
            rw [HT0.out, HT1.out]
            simp only [decide_true, Bool.true_and]
            rfl] at HVi
          unfold Ba.Ledger.val at HVi
          simp only at HVi
          clear HR gOk D4 D5 E2 LA0
          have q0 := p0.1; have q1 := p1.1; have q2 := p2.1
          go_wp2_with fail
          refine (HVi.out _ (by first | exact Gr.refl _ | exact gr_auto)).mono ?_
          rintro e w7 ⟨rfl, hb7⟩
          have y7 := hg.gr hb7
          cases hq : Ba.okS D k (i + 1)
          · have hec := hno.out i hlt hq
            have x0 := (r0.out.gry y7 (by omega) (by omega)).1; have x1 := (r1.out.gry y7 (by omega) (by omega)).1; have x2 := (r2.out.gry y7 (by omega) (by omega)).1
            have z0 := (r0.out.gry y7 (by omega) (by omega)).2; have z1 := (r1.out.gry y7 (by omega) (by omega)).2; have z2 := (r2.out.gry y7 (by omega) (by omega)).2
            have HEC := Lib.hid hec
            clear hec r0 r1 r2 HQ
            go_wp2_with fail
            refine name_post ?_; intro FW hFW
            have f0 : FW.cell? ⟨w.heap.size + 1, 0, none⟩ = some (.int .i64 0) := by rw [hFW]; first | (simp [go_sem, *]; done) | exact (by first | (simp [go_sem, *]; done) | ((try simp [go_sem, *]); refine World.cell?_setCell_same' _ _ _ ?_; simp [go_sem, *]; done))
            have f1 : FW.cell? ⟨w.heap.size + 1, 1, none⟩ = some (.int .i64 0) := by rw [hFW]; first | (simp [go_sem, *]; done) | exact (by first | (simp [go_sem, *]; done) | ((try simp [go_sem, *]); refine World.cell?_setCell_same' _ _ _ ?_; simp [go_sem, *]; done))
            have f2 : FW.cell? ⟨w.heap.size + 1, 2, none⟩ = some (.slice none 0 0) := by rw [hFW]; first | (simp [go_sem, *]; done) | exact (by first | (simp [go_sem, *]; done) | ((try simp [go_sem, *]); refine World.cell?_setCell_same' _ _ _ ?_; simp [go_sem, *]; done))
            have gF : GrX (w.heap.size + 1) w7 FW := by
              rw [hFW]
              refine GrX.setCell (GrX.setCell (GrX.setCell (GrX.refl _ _) ?_ _) ?_ _) ?_ _ <;> rfl
            clear hFW
            refine bodyPost_ret (by simp [results, Tryz.results9, go_sem, f0, f1, f2]; try rfl) rfl ?_
            rw [HEC.out]
            exact retSum_no (by decide) (GrX.gr (GrY.below g4 (by omega) (by omega) y7) (by omega) gF)
          · have HQ2 := Lib.hid (fun (j : Nat) (hj : j < i + 1) => show Ba.okS D k (j + 1) = true from by
              rcases (by omega : j < i ∨ j = i) with q | rfl
              · exact HQ.out j q
              · exact hq)
            clear HQ
            go_wp2_with fail
            go_roundw
            case rel => exact ⟨i + 1, by omega, by go_num, HQ2, y7, ⟨by rw [HT0.out]; exact p0.gr hb7, by rw [HT1.out]; exact p1.gr hb7, p2.gr hb7⟩, Lib.hid (HRe.out.gr hb7)⟩
            case measure => simp [intOf]; omega
    · obtain rfl : i = ln := by omega
      have HEC := Lib.hid (hyes.out HQ.out)
      have x0 := (r0.out.gry hg (by omega) (by omega)).1; have x1 := (r1.out.gry hg (by omega) (by omega)).1; have x2 := (r2.out.gry hg (by omega) (by omega)).1
      have z0 := (r0.out.gry hg (by omega) (by omega)).2; have z1 := (r1.out.gry hg (by omega) (by omega)).2; have z2 := (r2.out.gry hg (by omega) (by omega)).2
      have q0 := o0.1; have q1 := o1.1; have q2 := o2.1
      have hok : Ba.okS D n2 i = true := by
        cases i with
        | zero => exact Ba.okS_zero D n2
        | succ i => exact HQ.out i (Nat.lt_succ_self i)
      obtain ⟨e0, e1, e2⟩ := Ba.okS_parts hok
      have E2 := Lib.hid e2
      clear hok e2 r0 r1 r2 HQ
      go_wp2_with fail
      refine name_post ?_; intro FW hFW
      have f0 : FW.cell? ⟨w.heap.size + 1, 0, none⟩ = some (.int .i64 (Ba.sIn D i)) := by rw [hFW]; first | (simp [go_sem, *]; done) | exact (by first | (simp [go_sem, *]; done) | ((try simp [go_sem, *]); refine World.cell?_setCell_same' _ _ _ ?_; simp [go_sem, *]; done))
      have f1 : FW.cell? ⟨w.heap.size + 1, 1, none⟩ = some (.int .i64 (Ba.sOut D i)) := by rw [hFW]; first | (simp [go_sem, *]; done) | exact (by first | (simp [go_sem, *]; done) | ((try simp [go_sem, *]); refine World.cell?_setCell_same' _ _ _ ?_; simp [go_sem, *]; done))
      have f2 : FW.cell? ⟨w.heap.size + 1, 2, none⟩ = some (.slice (some ⟨R, 0, none⟩) n2 n2) := by rw [hFW]; first | (simp [go_sem, *]; done) | exact (by first | (simp [go_sem, *]; done) | ((try simp [go_sem, *]); refine World.cell?_setCell_same' _ _ _ ?_; simp [go_sem, *]; done))
      have gF : GrX (w.heap.size + 1) wr FW := by
        rw [hFW]
        refine GrX.setCell (GrX.setCell (GrX.setCell (GrX.refl _ _) ?_ _) ?_ _) ?_ _ <;> rfl
      clear hFW
      refine bodyPost_ret (by simp [results, Tryz.results9, go_sem, f0, f1, f2]; try rfl) rfl ?_
      rw [HEC.out]
      exact ⟨⟨Ba.sIn D i, Ba.sOut D i, ⟨some ⟨R, 0, none⟩, n2, n2, R, 0, fun k => Ba.sPs D k i⟩⟩, rfl, ⟨by unfold Ba.i64; simp only; omega, by unfold Ba.i64; simp only; omega, ⟨fun _ => rfl, by simp, by simp only; omega, fun j hj => ⟨by simp only [Nat.zero_add]; exact GrX.at gF (by omega) (HR.out j hj).1, by have := E2.out j hj; unfold Ba.i64; simp only; omega⟩⟩⟩, fun _ => ⟨rfl, rfl, rfl, fun k _ => rfl⟩, fun h => absurd rfl h, fun _ => by simp only; omega, GrX.gr gr (by omega) gF⟩
theorem rsum_ledgers (N : Ba.SlNode) (L : Ba.SlLink) (G : Ba.SlLedger) (w : World) (hN : N.At w) (hL : L.At w) (hG : G.At w) (hm : G.n ≤ 1000 ∨ 10000 < G.n) : Calls Tryz.prog 9 #[Ba.netVal N L, .slice G.A G.n G.c] w (RetSum G.D L.n G.n (Ba.sumE N L G) w) := by
  have HL := Lib.hid (fun W (hh : Gr w W) => rlisted_any N L G W (hN.gr hh) (hL.gr hh) (hG.gr hh))
  by_cases he : Ba.lstE N L G = 0
  rotate_left
  · have e : Ba.sumE N L G = Ba.lstE N L G := by unfold Ba.sumE; rw [if_neg he]
    rw [e]
    exact rsum_e N.A L.A G.A N.n N.c L.n L.c G.n G.c w G.D _ he HL
  rw [he] at HL
  obtain ⟨h1, h2, h3⟩ := Ba.lst_zero he
  have hl := Nat.le_trans hL.hc hL.hb
  have hl4 : L.n ≤ 1000 := by
    unfold Ba.netB at h1
    simp only [Bool.and_eq_true, decide_eq_true_eq] at h1
    omega
  have P := fun i (hi : i < G.n) => Ba.ledg_parts (Ba.leds_iff.1 h2 i hi)
  refine rsum_l N.A L.A G.A N.n N.c L.n L.c G.n G.c w G.b G.o G.D _ (by omega) hl4 (Lib.hid hG.hA) (Lib.hid fun i hi => ⟨(hG.hD i hi).1, (P i hi).1, (P i hi).2.1, ⟨(P i hi).2.2.1, fun h => (hG.hD i hi).2.2.2.hA (by rw [(P i hi).2.2.1]; exact h)⟩, fun k hk => ((hG.hD i hi).2.2.2.hX k (by rw [(P i hi).2.2.1]; exact hk)).1, (P i hi).2.2.2⟩) HL (Lib.hid fun g W hh hg => rvalid_any N L g W hl hg) (Lib.hid fun i hi hq => ?_) (Lib.hid fun hq => ?_)
  · unfold Ba.sumE
    rw [if_pos he, if_neg (by rw [Ba.allB_stop (p := fun i => Ba.okS G.D L.n (i + 1)) hi hq]; decide)]
  · unfold Ba.sumE
    rw [if_pos he, if_pos (Ba.allB_iff.2 hq)]
theorem sum_ledgers2 (N : Ba.SlNode) (L : Ba.SlLink) (G : Ba.SlLedger) (w : World) (hN : N.At w) (hL : L.At w) (hG : G.At w) (hm : G.n ≤ 1000 ∨ 10000 < G.n) : Calls Tryz.prog 8 #[Ba.netVal N L, .slice G.A G.n G.c] w (RetSum G.D L.n G.n (Ba.sumE N L G) w) := by
  have HL := Lib.hid (fun W (hh : Gr w W) => listed_any N L G W (hN.gr hh) (hL.gr hh) (hG.gr hh))
  by_cases he : Ba.lstE N L G = 0
  rotate_left
  · have e : Ba.sumE N L G = Ba.lstE N L G := by unfold Ba.sumE; rw [if_neg he]
    rw [e]
    exact sum_e N.A L.A G.A N.n N.c L.n L.c G.n G.c w G.D _ he HL
  rw [he] at HL
  obtain ⟨h1, h2, h3⟩ := Ba.lst_zero he
  have hl := Nat.le_trans hL.hc hL.hb
  have hl4 : L.n ≤ 1000 := by
    unfold Ba.netB at h1
    simp only [Bool.and_eq_true, decide_eq_true_eq] at h1
    omega
  have P := fun i (hi : i < G.n) => Ba.ledg_parts (Ba.leds_iff.1 h2 i hi)
  refine sum_l N.A L.A G.A N.n N.c L.n L.c G.n G.c w G.b G.o G.D _ (by omega) hl4 (Lib.hid hG.hA) (Lib.hid fun i hi => ⟨(hG.hD i hi).1, (P i hi).1, (P i hi).2.1, ⟨(P i hi).2.2.1, fun h => (hG.hD i hi).2.2.2.hA (by rw [(P i hi).2.2.1]; exact h)⟩, fun k hk => ((hG.hD i hi).2.2.2.hX k (by rw [(P i hi).2.2.1]; exact hk)).1, (P i hi).2.2.2⟩) HL (Lib.hid fun g W hh hg => bvalid_any N L g W hl hg) (Lib.hid fun i hi hq => ?_) (Lib.hid fun hq => ?_)
  · unfold Ba.sumE
    rw [if_pos he, if_neg (by rw [Ba.allB_stop (p := fun i => Ba.okS G.D L.n (i + 1)) hi hq]; decide)]
  · unfold Ba.sumE
    rw [if_pos he, if_pos (Ba.allB_iff.2 hq)]
end Go.Proofs.YtkgbbcmgfbipaaaGreatDoor
