/-
  Part: the reference's, and the program's. (Printed by mkpart.py.)
-/
import Derived.Test.YtkgbbcmgfbipaaaGreatDoorSm46
import Derived.Test.YtkgbbcmgfbipaaaGreatDoorSm35

set_option linter.unusedVariables false
set_option linter.unusedSimpArgs false
namespace Go.Proofs.YtkgbbcmgfbipaaaGreatDoor
open Go.RowKit
attribute [local go_sem ↓] Go.wp_at_zero Go.wp_at_succ
namespace Ba
/-- The error of a set of names; what Part answers. -/
def setEw (ix : Nat → Int) (tn : Nat) : Int := if allB (fun k => decide (0 ≤ ix k)) tn = false then 9 else if twB ix tn = true then 10 else 0
def partE (N : SlNode) (L : SlLink) (s1 s2 : State) (I : SlI) (g : Ledger) (T : SlS) : Int := if givE N L s1 s2 I g = 0 then setE N T else givE N L s1 s2 I g
def partR (N : SlNode) (L : SlLink) (s1 s2 : State) (I : SlI) (g : Ledger) (T : SlS) : Int := if givE N L s1 s2 I g = 0 then if setE N T = 0 then resI N L (setX (ixs N T) T.n) s1 s2 I g.ps else 0 else 0
end Ba
def PartW (re : Int) (ix : Nat → Int) (tn : Nat) (w : World) (e : Ending) (w' : World) : Prop := e = .returned (.tuple #[.int .i64 (if Ba.setEw ix tn = 0 then re else 0), .int .i64 (Ba.setEw ix tn)]) ∧ Gr w w'
set_option maxRecDepth 100000 in
set_option maxHeartbeats 4000000 in
theorem part_0 (A A2 VA1 PA1 SA1 OA1 VA2 PA2 SA2 OA2 GA IA : Option Addr) (n c n2 c2 vn1 vc1 pn1 pc1 sn1 sc1 on1 oc1 vn2 vc2 pn2 pc2 sn2 sc2 on2 oc2 gn gc m ic : Nat) (inn out : Int) (w : World) (TA : Option Addr) (tn tc : Nat) (ec : Int) (hec : ec ≠ 0) (HG : Hid (∀ W, Gr w W → Calls Tryz.prog 40 #[.agg #[.slice A n c, .slice A2 n2 c2], .agg #[.slice VA1 vn1 vc1, .slice PA1 pn1 pc1, .slice SA1 sn1 sc1, .slice OA1 on1 oc1], .agg #[.slice VA2 vn2 vc2, .slice PA2 pn2 pc2, .slice SA2 sn2 sc2, .slice OA2 on2 oc2], .slice IA m ic, .agg #[.int .i64 inn, .int .i64 out, .slice GA gn gc]] W fun e w' => e = .returned (.int .i64 ec) ∧ Gr W w')) : Calls Tryz.prog 19 #[.agg #[.slice A n c, .slice A2 n2 c2], .slice TA tn tc, .agg #[.slice VA1 vn1 vc1, .slice PA1 pn1 pc1, .slice SA1 sn1 sc1, .slice OA1 on1 oc1], .agg #[.slice VA2 vn2 vc2, .slice PA2 pn2 pc2, .slice SA2 sn2 sc2, .slice OA2 on2 oc2], .slice IA m ic, .agg #[.int .i64 inn, .int .i64 out, .slice GA gn gc]] w fun e w' => e = .returned (.tuple #[.int .i64 0, .int .i64 ec]) ∧ Gr w w' := by
  have t0 : (ec != 0) = true := Ba.bne_of' hec
  clear hec
  go_enter Tryz.func19, Tryz.ntmps19
  go_wp2_with fail
  (first | refine name_world ?_ | refine (show (∀ W, W = _ → Calls _ _ _ W _) → Calls _ _ _ _ _ from fun h => h _ rfl) ?_); intro W1 hW1
  have g1 : Gr w W1 := by rw [hW1]; exact gr_auto
  have k1_0 : W1.cell? ⟨w.heap.size, 0, none⟩ = some (.slice A n c) := by rw [hW1]; first | (simp [go_sem, *]; done) | (refine Gr.at ?_ (by assumption); exact gr_auto)
  have b1_0 : w.heap.size < W1.heap.size := World.block_lt_of_cell? _ _ k1_0
  have k1_1 : W1.cell? ⟨w.heap.size, 1, none⟩ = some (.slice A2 n2 c2) := by rw [hW1]; first | (simp [go_sem, *]; done) | (refine Gr.at ?_ (by assumption); exact gr_auto)
  have k1_2 : W1.cell? ⟨w.heap.size + 1, 0, none⟩ = some (.slice VA1 vn1 vc1) := by rw [hW1]; first | (simp [go_sem, *]; done) | (refine Gr.at ?_ (by assumption); exact gr_auto)
  have b1_2 : w.heap.size + 1 < W1.heap.size := World.block_lt_of_cell? _ _ k1_2
  have k1_3 : W1.cell? ⟨w.heap.size + 1, 1, none⟩ = some (.slice PA1 pn1 pc1) := by rw [hW1]; first | (simp [go_sem, *]; done) | (refine Gr.at ?_ (by assumption); exact gr_auto)
  have k1_4 : W1.cell? ⟨w.heap.size + 1, 2, none⟩ = some (.slice SA1 sn1 sc1) := by rw [hW1]; first | (simp [go_sem, *]; done) | (refine Gr.at ?_ (by assumption); exact gr_auto)
  have k1_5 : W1.cell? ⟨w.heap.size + 1, 3, none⟩ = some (.slice OA1 on1 oc1) := by rw [hW1]; first | (simp [go_sem, *]; done) | (refine Gr.at ?_ (by assumption); exact gr_auto)
  have k1_6 : W1.cell? ⟨w.heap.size + 2, 0, none⟩ = some (.slice VA2 vn2 vc2) := by rw [hW1]; first | (simp [go_sem, *]; done) | (refine Gr.at ?_ (by assumption); exact gr_auto)
  have b1_6 : w.heap.size + 2 < W1.heap.size := World.block_lt_of_cell? _ _ k1_6
  have k1_7 : W1.cell? ⟨w.heap.size + 2, 1, none⟩ = some (.slice PA2 pn2 pc2) := by rw [hW1]; first | (simp [go_sem, *]; done) | (refine Gr.at ?_ (by assumption); exact gr_auto)
  have k1_8 : W1.cell? ⟨w.heap.size + 2, 2, none⟩ = some (.slice SA2 sn2 sc2) := by rw [hW1]; first | (simp [go_sem, *]; done) | (refine Gr.at ?_ (by assumption); exact gr_auto)
  have k1_9 : W1.cell? ⟨w.heap.size + 2, 3, none⟩ = some (.slice OA2 on2 oc2) := by rw [hW1]; first | (simp [go_sem, *]; done) | (refine Gr.at ?_ (by assumption); exact gr_auto)
  have k1_10 : W1.cell? ⟨w.heap.size + 3, 0, none⟩ = some (.int .i64 inn) := by rw [hW1]; first | (simp [go_sem, *]; done) | (refine Gr.at ?_ (by assumption); exact gr_auto)
  have b1_10 : w.heap.size + 3 < W1.heap.size := World.block_lt_of_cell? _ _ k1_10
  have k1_11 : W1.cell? ⟨w.heap.size + 3, 1, none⟩ = some (.int .i64 out) := by rw [hW1]; first | (simp [go_sem, *]; done) | (refine Gr.at ?_ (by assumption); exact gr_auto)
  have k1_12 : W1.cell? ⟨w.heap.size + 3, 2, none⟩ = some (.slice GA gn gc) := by rw [hW1]; first | (simp [go_sem, *]; done) | (refine Gr.at ?_ (by assumption); exact gr_auto)
  clear hW1
  refine (HG.out _ g1).mono ?_
  rintro e w2 ⟨rfl, hb2⟩
  have g2 := g1.trans hb2
  have k1_0 := Gr.at (w1 := w2) gr_auto k1_0; have k1_1 := Gr.at (w1 := w2) gr_auto k1_1; have k1_2 := Gr.at (w1 := w2) gr_auto k1_2; have k1_3 := Gr.at (w1 := w2) gr_auto k1_3; have k1_4 := Gr.at (w1 := w2) gr_auto k1_4; have k1_5 := Gr.at (w1 := w2) gr_auto k1_5; have k1_6 := Gr.at (w1 := w2) gr_auto k1_6; have k1_7 := Gr.at (w1 := w2) gr_auto k1_7; have k1_8 := Gr.at (w1 := w2) gr_auto k1_8; have k1_9 := Gr.at (w1 := w2) gr_auto k1_9; have k1_10 := Gr.at (w1 := w2) gr_auto k1_10; have k1_11 := Gr.at (w1 := w2) gr_auto k1_11; have k1_12 := Gr.at (w1 := w2) gr_auto k1_12
  go_wp2_with fail
  go_ret2
  exact ⟨rfl, gr_auto⟩
set_option maxRecDepth 100000 in
set_option maxHeartbeats 4000000 in
theorem part_1 (A A2 VA1 PA1 SA1 OA1 VA2 PA2 SA2 OA2 GA IA : Option Addr) (n c n2 c2 vn1 vc1 pn1 pc1 sn1 sc1 on1 oc1 vn2 vc2 pn2 pc2 sn2 sc2 on2 oc2 gn gc m ic : Nat) (inn out : Int) (w : World) (TA : Option Addr) (tn tc : Nat) (tb tO : Nat) (X : Nat → ByteArray) (ix : Nat → Int) (re lo : Int) (hn : n ≤ 12) (ht : tn ≤ 1000) (HG : Hid (∀ W, Gr w W → Calls Tryz.prog 40 #[.agg #[.slice A n c, .slice A2 n2 c2], .agg #[.slice VA1 vn1 vc1, .slice PA1 pn1 pc1, .slice SA1 sn1 sc1, .slice OA1 on1 oc1], .agg #[.slice VA2 vn2 vc2, .slice PA2 pn2 pc2, .slice SA2 sn2 sc2, .slice OA2 on2 oc2], .slice IA m ic, .agg #[.int .i64 inn, .int .i64 out, .slice GA gn gc]] W fun e w' => e = .returned (.int .i64 0) ∧ Gr W w')) (TA0 : Hid (0 < tn → TA = some ⟨tb, tO, none⟩)) (TX : Hid (∀ i, i < tn → w.cell? ⟨tb, tO + i, none⟩ = some (.string (X i)) ∧ (X i).size ≤ 9223372036854775807))
    (HC : Hid (∀ k, ix k < 0 ∨ ∃ j : Nat, ix k = (j : Int) ∧ j < n)) (HNn : Hid (∀ k, k < tn → ∀ W, Gr w W → ix k < 0 → Calls Tryz.prog 44 #[.agg #[.slice A n c, .slice A2 n2 c2], .string (X k)] W fun e w' => e = .returned (.tuple #[.int .i64 0, .int .i64 9]) ∧ Gr W w')) (HNp : Hid (∀ k, k < tn → ∀ (j : Nat) W, Gr w W → ix k = (j : Int) → Calls Tryz.prog 44 #[.agg #[.slice A n c, .slice A2 n2 c2], .string (X k)] W fun e w' => e = .returned (.tuple #[.int .i64 (j : Int), .int .i64 0]) ∧ Gr W w'))
    (HOF : Hid (∀ (s : Ba.SlB) W, Gr w W → s.At W → s.n = n → s.X = Ba.setX ix tn → Calls Tryz.prog 41 #[.agg #[.slice A n c, .slice A2 n2 c2], .slice s.A s.n s.c, .agg #[.slice VA1 vn1 vc1, .slice PA1 pn1 pc1, .slice SA1 sn1 sc1, .slice OA1 on1 oc1], .agg #[.slice VA2 vn2 vc2, .slice PA2 pn2 pc2, .slice SA2 sn2 sc2, .slice OA2 on2 oc2], .slice IA m ic, .slice GA gn gc] W fun e w' => e = .returned (.agg #[.int .i64 re, .int .i64 lo]) ∧ Gr W w')) : Calls Tryz.prog 19 #[.agg #[.slice A n c, .slice A2 n2 c2], .slice TA tn tc, .agg #[.slice VA1 vn1 vc1, .slice PA1 pn1 pc1, .slice SA1 sn1 sc1, .slice OA1 on1 oc1], .agg #[.slice VA2 vn2 vc2, .slice PA2 pn2 pc2, .slice SA2 sn2 sc2, .slice OA2 on2 oc2], .slice IA m ic, .agg #[.int .i64 inn, .int .i64 out, .slice GA gn gc]] w (PartW re ix tn w) := by
  obtain ⟨i0, hi0, hz0, hz1, hz2⟩ := info_parts info_bool'
  have HI := Lib.hid hi0; have HZ0 := Lib.hid hz0; have HZ1 := Lib.hid hz1; have HZ2 := Lib.hid hz2
  clear hi0 hz0 hz1 hz2
  go_enter Tryz.func19, Tryz.ntmps19
  go_wp2_with fail
  (first | refine name_world ?_ | refine (show (∀ W, W = _ → Calls _ _ _ W _) → Calls _ _ _ _ _ from fun h => h _ rfl) ?_); intro W1 hW1
  have g1 : Gr w W1 := by rw [hW1]; exact gr_auto
  have k1_0 : W1.cell? ⟨w.heap.size, 0, none⟩ = some (.slice A n c) := by rw [hW1]; first | (simp [go_sem, *]; done) | (refine Gr.at ?_ (by assumption); exact gr_auto)
  have b1_0 : w.heap.size < W1.heap.size := World.block_lt_of_cell? _ _ k1_0
  have k1_1 : W1.cell? ⟨w.heap.size, 1, none⟩ = some (.slice A2 n2 c2) := by rw [hW1]; first | (simp [go_sem, *]; done) | (refine Gr.at ?_ (by assumption); exact gr_auto)
  have k1_2 : W1.cell? ⟨w.heap.size + 1, 0, none⟩ = some (.slice VA1 vn1 vc1) := by rw [hW1]; first | (simp [go_sem, *]; done) | (refine Gr.at ?_ (by assumption); exact gr_auto)
  have b1_2 : w.heap.size + 1 < W1.heap.size := World.block_lt_of_cell? _ _ k1_2
  have k1_3 : W1.cell? ⟨w.heap.size + 1, 1, none⟩ = some (.slice PA1 pn1 pc1) := by rw [hW1]; first | (simp [go_sem, *]; done) | (refine Gr.at ?_ (by assumption); exact gr_auto)
  have k1_4 : W1.cell? ⟨w.heap.size + 1, 2, none⟩ = some (.slice SA1 sn1 sc1) := by rw [hW1]; first | (simp [go_sem, *]; done) | (refine Gr.at ?_ (by assumption); exact gr_auto)
  have k1_5 : W1.cell? ⟨w.heap.size + 1, 3, none⟩ = some (.slice OA1 on1 oc1) := by rw [hW1]; first | (simp [go_sem, *]; done) | (refine Gr.at ?_ (by assumption); exact gr_auto)
  have k1_6 : W1.cell? ⟨w.heap.size + 2, 0, none⟩ = some (.slice VA2 vn2 vc2) := by rw [hW1]; first | (simp [go_sem, *]; done) | (refine Gr.at ?_ (by assumption); exact gr_auto)
  have b1_6 : w.heap.size + 2 < W1.heap.size := World.block_lt_of_cell? _ _ k1_6
  have k1_7 : W1.cell? ⟨w.heap.size + 2, 1, none⟩ = some (.slice PA2 pn2 pc2) := by rw [hW1]; first | (simp [go_sem, *]; done) | (refine Gr.at ?_ (by assumption); exact gr_auto)
  have k1_8 : W1.cell? ⟨w.heap.size + 2, 2, none⟩ = some (.slice SA2 sn2 sc2) := by rw [hW1]; first | (simp [go_sem, *]; done) | (refine Gr.at ?_ (by assumption); exact gr_auto)
  have k1_9 : W1.cell? ⟨w.heap.size + 2, 3, none⟩ = some (.slice OA2 on2 oc2) := by rw [hW1]; first | (simp [go_sem, *]; done) | (refine Gr.at ?_ (by assumption); exact gr_auto)
  have k1_10 : W1.cell? ⟨w.heap.size + 3, 0, none⟩ = some (.int .i64 inn) := by rw [hW1]; first | (simp [go_sem, *]; done) | (refine Gr.at ?_ (by assumption); exact gr_auto)
  have b1_10 : w.heap.size + 3 < W1.heap.size := World.block_lt_of_cell? _ _ k1_10
  have k1_11 : W1.cell? ⟨w.heap.size + 3, 1, none⟩ = some (.int .i64 out) := by rw [hW1]; first | (simp [go_sem, *]; done) | (refine Gr.at ?_ (by assumption); exact gr_auto)
  have k1_12 : W1.cell? ⟨w.heap.size + 3, 2, none⟩ = some (.slice GA gn gc) := by rw [hW1]; first | (simp [go_sem, *]; done) | (refine Gr.at ?_ (by assumption); exact gr_auto)
  clear hW1
  refine (HG.out _ g1).mono ?_
  rintro e w2 ⟨rfl, hb2⟩
  have g2 := g1.trans hb2
  have k1_0 := Gr.at (w1 := w2) gr_auto k1_0; have k1_1 := Gr.at (w1 := w2) gr_auto k1_1; have k1_2 := Gr.at (w1 := w2) gr_auto k1_2; have k1_3 := Gr.at (w1 := w2) gr_auto k1_3; have k1_4 := Gr.at (w1 := w2) gr_auto k1_4; have k1_5 := Gr.at (w1 := w2) gr_auto k1_5; have k1_6 := Gr.at (w1 := w2) gr_auto k1_6; have k1_7 := Gr.at (w1 := w2) gr_auto k1_7; have k1_8 := Gr.at (w1 := w2) gr_auto k1_8; have k1_9 := Gr.at (w1 := w2) gr_auto k1_9; have k1_10 := Gr.at (w1 := w2) gr_auto k1_10; have k1_11 := Gr.at (w1 := w2) gr_auto k1_11; have k1_12 := Gr.at (w1 := w2) gr_auto k1_12
  go_wp2_with (at_make; refine wpList_make_full _ rfl _ _ _ rfl w.heap.size 4 i0 (.bool false) 1 Tryz.underlying49 HI.out HZ0.out HZ1.out .i64 .i64 n n n rfl rfl rfl rfl ?d1 ?d2 ?d3 ?_)
  case d1 => rw [HZ2.out]; omega
  case d2 => unfold maxLen; omega
  case d3 => exact Gr.size g2
  intro w3 hown hgrow
  obtain ⟨R, hR⟩ : ∃ R, R = w2.heap.size := ⟨_, rfl⟩
  have hR0 := Gr.size g2
  rw [← hR] at hown hR0
  have hrow := Lib.hid (made_row hown)
  have G2 := Gr.own (Gr.refl _) (Nat.le_refl _) (n := 0) (e := 4) (size := 1) (xs := []) (v := .slice none 0 0) ⟨rfl, Or.inl ⟨rfl, rfl⟩⟩ hgrow
  have g3 := g2.trans G2
  have b1 : w.heap.size + 3 < R := by rw [hR]; exact World.block_lt_of_cell? _ _ k1_10
  have k1_0 := Gr.at (w1 := w3) gr_auto k1_0; have k1_1 := Gr.at (w1 := w3) gr_auto k1_1; have k1_2 := Gr.at (w1 := w3) gr_auto k1_2; have k1_3 := Gr.at (w1 := w3) gr_auto k1_3; have k1_4 := Gr.at (w1 := w3) gr_auto k1_4; have k1_5 := Gr.at (w1 := w3) gr_auto k1_5; have k1_6 := Gr.at (w1 := w3) gr_auto k1_6; have k1_7 := Gr.at (w1 := w3) gr_auto k1_7; have k1_8 := Gr.at (w1 := w3) gr_auto k1_8; have k1_9 := Gr.at (w1 := w3) gr_auto k1_9; have k1_10 := Gr.at (w1 := w3) gr_auto k1_10; have k1_11 := Gr.at (w1 := w3) gr_auto k1_11; have k1_12 := Gr.at (w1 := w3) gr_auto k1_12
  clear hown hgrow G2
  rw [← hR]
  clear hR
  go_wp2_with fail
  go_loopw [16, 36] (fun t q wr => ∃ i : Nat, i ≤ tn ∧ q = .int .i64 (i : Int) ∧ t = .bool (Ba.twB ix i) ∧ Hid (Ba.allB (fun k => decide (0 ≤ ix k)) i = true) ∧ GrX R w3 wr ∧ Hid (Row wr R n (fun j => .bool (Ba.setX ix i j)))) (fun _ q _ => tn - (intOf q).toNat)
  case atStart => exact ⟨0, Nat.zero_le _, rfl, rfl, Lib.hid rfl, GrX.refl _ _, Lib.hid hrow.out⟩
  case round =>
    obtain ⟨i, hi, rfl, rfl, HK, hg, HR⟩ := hrel
    have hgr : Gr w wr := GrX.gr g3 (by omega) hg
    have k1_0 := GrX.at hg (by omega) k1_0; have k1_1 := GrX.at hg (by omega) k1_1; have k1_2 := GrX.at hg (by omega) k1_2; have k1_3 := GrX.at hg (by omega) k1_3; have k1_4 := GrX.at hg (by omega) k1_4; have k1_5 := GrX.at hg (by omega) k1_5; have k1_6 := GrX.at hg (by omega) k1_6; have k1_7 := GrX.at hg (by omega) k1_7; have k1_8 := GrX.at hg (by omega) k1_8; have k1_9 := GrX.at hg (by omega) k1_9; have k1_10 := GrX.at hg (by omega) k1_10; have k1_11 := GrX.at hg (by omega) k1_11; have k1_12 := GrX.at hg (by omega) k1_12
    clear hrow
    by_cases hlt : i < tn
    · obtain rfl := TA0.out (by omega)
      have a0 := Gr.at hgr (TX.out i hlt).1
      have ib0 : (0 : Int) ≤ (i : Int) := by omega
      have ib1 : (i : Int) < (tn : Int) := by omega
      rcases HC.out i with hneg | ⟨k, hk, hkn⟩
      · have HP := Lib.hid (Ba.knoB_no hlt hneg)
        have HE := Lib.hid (show Ba.setEw ix tn = 9 by unfold Ba.setEw; rw [if_pos HP.out])
        have HNi := Lib.hid (fun W hW => HNn.out i hlt W hW hneg)
        clear HNn HNp HOF HC TX hneg HR HK HP
        go_wp2_with fail
        refine (HNi.out _ (by first | exact hgr | exact gr_auto)).mono ?_
        rintro e w4 ⟨rfl, hb4⟩
        have g4 := hgr.trans hb4
        go_wp2_with fail
        go_ret2
        unfold PartW
        exact ⟨by (rw [HE.out]; try rfl), g4⟩
      · have HT := Lib.hid (show Ba.twB ix (i + 1) = (Ba.twB ix i || Ba.setX ix i k) by rw [Ba.twB, hk]; rfl)
        have HK2 := Lib.hid (Ba.knoB_go HK.out (show 0 ≤ ix i by omega))
        have HY1 := Lib.hid (show Ba.setX ix (i + 1) k = true by rw [Ba.setX, if_pos hk])
        have HY2 := Lib.hid (fun (j : Nat) (hj : j ≠ k) => show Ba.setX ix (i + 1) j = Ba.setX ix i j by rw [Ba.setX, if_neg (by omega)])
        have HNi := Lib.hid (fun W hW => HNp.out i hlt k W hW hk)
        clear HNn HNp HOF HC TX HK hk
        have kb0 : (0 : Int) ≤ (k : Int) := by omega
        have kb1 : (k : Int) < (n : Int) := by omega
        go_wp2_with fail
        refine (HNi.out _ (by first | exact hgr | exact gr_auto)).mono ?_
        rintro e w4 ⟨rfl, gq⟩
        have HR4 := Lib.hid (HR.out.gr gq)
        obtain ⟨r1, r2⟩ := HR4.out k hkn
        have hg4 := GrX.grown hg gq
        clear HR
        generalize Ba.twB ix i = tw at *
        cases tw
        all_goals
          go_wp2_with fail
          go_roundw
          case rel => exact ⟨i + 1, by omega, by go_num, by (rw [HT.out]; try rfl), HK2, GrX.setCell hg4 rfl _, Lib.hid (Row.set HR4.out (by show Value.bool _ = _; rw [HY1.out]) (fun j _ hj => by show Value.bool _ = Value.bool _; rw [HY2.out j hj]))⟩
          case measure => simp [intOf]; omega
    · obtain rfl : i = tn := by omega
      have HKo := HK.out
      have HP := Lib.hid (show ¬ Ba.allB (fun k => decide (0 ≤ ix k)) i = false by rw [HKo]; decide)
      clear HKo
      have HS := Lib.hid (show Ba.SlB.At wr ⟨some ⟨R, 0, none⟩, n, n, R, 0, Ba.setX ix i⟩ from ⟨fun _ => rfl, by simp, by simp only; omega, fun j hj => by simp only [Nat.zero_add]; exact (HR.out j hj).1⟩)
      have HOi := Lib.hid (HOF.out ⟨some ⟨R, 0, none⟩, n, n, R, 0, Ba.setX ix i⟩ wr hgr HS.out rfl rfl)
      clear HOF HNn HNp HC TX HK HR HS
      cases hq : Ba.twB ix i
      · have HE := Lib.hid (show Ba.setEw ix i = 0 by unfold Ba.setEw; rw [if_neg HP.out, hq, if_neg (by decide)])
        have hfd : ∀ w : World, (Instr.field 90 (.agg #[.int .i64 re, .int .i64 lo]) 0).run Tryz.prog w = .ok (.int .i64 re) w := fun _ => by kernel_rfl
        go_wp2_with fail
        refine HOi.out.mono ?_
        rintro e w4 ⟨rfl, hb4⟩
        have g4 := hgr.trans hb4
        go_wp2_with fail
        go_ret2
        unfold PartW
        exact ⟨by (rw [HE.out, if_pos rfl]; try rfl), g4⟩
      · have HE := Lib.hid (show Ba.setEw ix i = 10 by unfold Ba.setEw; rw [if_neg HP.out, hq, if_pos rfl])
        go_wp2_with fail
        go_ret2
        unfold PartW
        exact ⟨by (rw [HE.out, if_neg (by decide)]; try rfl), hgr⟩
theorem part_any (N : Ba.SlNode) (L : Ba.SlLink) (s1 s2 : Ba.State) (I : Ba.SlI) (g : Ba.Ledger) (w : World) (hN : N.At w) (hL : L.At w) (h1 : s1.Ok w) (h2 : s2.Ok w) (hI : I.At w) (hg : g.Ok w) (T : Ba.SlS) (hT : T.At w) (hn12 : N.n ≤ 12) (hl20 : L.n ≤ 20) (ht : T.n ≤ 1000) : Calls Tryz.prog 19 #[Ba.netVal N L, .slice T.A T.n T.c, s1.val, s2.val, .slice I.A I.n I.c, g.val] w fun e w' => e = .returned (.tuple #[.int .i64 (Ba.partR N L s1 s2 I g T), .int .i64 (Ba.partE N L s1 s2 I g T)]) ∧ Gr w w' := by
  have HG := Lib.hid (fun W (hh : Gr w W) => given_any N L s1 s2 I g W (hN.gr hh) (hL.gr hh) (h1.gr hh) (h2.gr hh) (hI.gr hh) (hg.gr hh))
  unfold Ba.partR Ba.partE
  by_cases he : Ba.givE N L s1 s2 I g = 0
  rotate_left
  · rw [if_neg he, if_neg he]
    exact part_0 (N.A) (L.A) (s1.vs.A) (s1.ps.A) (s1.st.A) (s1.on.A) (s2.vs.A) (s2.ps.A) (s2.st.A) (s2.on.A) (g.ps.A) (I.A) (N.n) (N.c) (L.n) (L.c) (s1.vs.n) (s1.vs.c) (s1.ps.n) (s1.ps.c) (s1.st.n) (s1.st.c) (s1.on.n) (s1.on.c) (s2.vs.n) (s2.vs.c) (s2.ps.n) (s2.ps.c) (s2.st.n) (s2.st.c) (s2.on.n) (s2.on.c) (g.ps.n) (g.ps.c) (I.n) (I.c) (g.inn) (g.out) (w) T.A T.n T.c _ he HG
  rw [if_pos he, if_pos he]
  rw [he] at HG
  have F := Ba.fine_of he hn12 hl20
  have hv := F.net
  have HC := Lib.hid (fun (k : Nat) => show Ba.ixs N T k < 0 ∨ ∃ j : Nat, Ba.ixs N T k = (j : Int) ∧ j < N.n from by
    by_cases h : Ba.ixs N T k < 0
    · exact Or.inl h
    · exact Or.inr ⟨_, Ba.nix_ok (show 0 ≤ Ba.nix N (T.X k) by unfold Ba.ixs at h; omega)⟩)
  have HNd := fun (k : Nat) W (hh : Gr w W) => nodeno_any N L (T.X k) W (hN.gr hh) (hL.gr hh)
  simp only [if_pos hv] at HNd
  exact part_1 (N.A) (L.A) (s1.vs.A) (s1.ps.A) (s1.st.A) (s1.on.A) (s2.vs.A) (s2.ps.A) (s2.st.A) (s2.on.A) (g.ps.A) (I.A) (N.n) (N.c) (L.n) (L.c) (s1.vs.n) (s1.vs.c) (s1.ps.n) (s1.ps.c) (s1.st.n) (s1.st.c) (s1.on.n) (s1.on.c) (s2.vs.n) (s2.vs.c) (s2.ps.n) (s2.ps.c) (s2.st.n) (s2.st.c) (s2.on.n) (s2.on.c) (g.ps.n) (g.ps.c) (I.n) (I.c) (g.inn) (g.out) (w) T.A T.n T.c T.b T.o T.X (Ba.ixs N T) _ _ hn12 ht HG (Lib.hid hT.hA) (Lib.hid hT.hX) HC
    (Lib.hid (fun k _ W hh hneg => (HNd k W hh).mono fun e w' ⟨q1, q2⟩ => ⟨by rw [q1]; unfold Ba.ixs at hneg; unfold Ba.fnd Ba.fndE; rw [if_pos hneg, if_pos hneg], q2⟩))
    (Lib.hid (fun k _ j W hh hj => (HNd k W hh).mono fun e w' ⟨q1, q2⟩ => ⟨by rw [q1]; unfold Ba.ixs at hj; rw [hj]; unfold Ba.fnd Ba.fndE; rw [if_neg (by omega), if_neg (by omega)], q2⟩))
    (Lib.hid (fun s W hh hs hn hx => show Calls Tryz.prog 41 #[Ba.netVal N L, .slice s.A s.n s.c, s1.val, s2.val, .slice I.A I.n I.c, .slice g.ps.A g.ps.n g.ps.c] W fun e w' => e = .returned (.agg #[.int .i64 (Ba.resI N L (Ba.setX (Ba.ixs N T) T.n) s1 s2 I g.ps), .int .i64 (Ba.lostI N L (Ba.setX (Ba.ixs N T) T.n) I g.ps)]) ∧ Gr W w' from hx ▸ of_any N L s1 s2 I g.ps s W F (hN.gr hh) (hL.gr hh) (hI.gr hh) (hg.2.2.gr hh) hs hn (h1.gr hh) (h2.gr hh)))
end Go.Proofs.YtkgbbcmgfbipaaaGreatDoor
