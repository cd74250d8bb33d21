/-
  storage.within, storage.holds.
  Nodes: storage.Volume, and the reference's volume. Typed.
-/
import Derived.Test.YtllkiadedaghoaaGreatCm11
import Derived.Test.YtllkiadedaghoaaGreatCb05
import Derived.Test.YtllkiadedaghoaaGreatCm22

set_option linter.unusedVariables false
set_option linter.unusedSimpArgs false
namespace Go.Proofs.YtllkiadedaghoaaGreat
open Go.RowKit
set_option maxRecDepth 100000 in
theorem swithin_any (x l h : Int) (w : World) : Calls Tryz.prog 130 #[.int .i64 x, .int .i64 l, .int .i64 h] w fun e w' => e = .returned (.bool (Ba.bet x l h)) ∧ w = w' := by
  unfold Ba.bet
  cases t0 : decide (l ≤ x)
  · go_enter Tryz.func130, Tryz.ntmps130
    go_wp2
    go_ret
    exact ⟨rfl, rfl⟩
  · cases t1 : decide (x ≤ h)
    · go_enter Tryz.func130, Tryz.ntmps130
      go_wp2
      go_ret
      exact ⟨rfl, rfl⟩
    · go_enter Tryz.func130, Tryz.ntmps130
      go_wp2
      go_ret
      exact ⟨rfl, rfl⟩
end Go.Proofs.YtllkiadedaghoaaGreat
set_option linter.unusedVariables false
set_option linter.unusedSimpArgs false
namespace Go.Proofs.YtllkiadedaghoaaGreat
open Go.RowKit
attribute [local go_sem ↓] Go.wp_at_zero Go.wp_at_succ
namespace Ba
/-- A network of one node. -/
def N1 (B : Nat) (d : Node) : SlNode := ⟨some ⟨B, 0, none⟩, 1, 1, B, 0, fun _ => d⟩
def L0 : SlLink := ⟨none, 0, 0, 0, 0, fun _ => ⟨⟨#[]⟩, ⟨#[]⟩, ⟨#[]⟩, 0, 0, 0, 0, ⟨#[]⟩, 0, 0, ⟨none, 0, 0, 0, 0, fun _ => 0, fun _ => 0⟩⟩⟩
theorem L0_at (w : World) : L0.At w := ⟨fun h => absurd h (Nat.lt_irrefl _), Nat.le_refl _, Nat.zero_le _, fun i hi => absurd hi (Nat.not_lt_zero _)⟩
theorem N1_at {w : World} {B : Nat} {d : Node} (hc : d.Cells w B 0) (hd : d.Ok w) : (N1 B d).At w := ⟨fun _ => rfl, Nat.le_refl _, by show (1 : Nat) ≤ _; decide, fun i hi => by
  obtain rfl : i = 0 := by simp [N1] at hi; exact hi
  exact ⟨hc, hd⟩⟩
theorem one_net {B : Nat} {d : Node} (h : rnode d = true) : netB (N1 B d) L0 = true := by
  have e : nix (N1 B d) d.nm = 0 := by
    unfold nix
    exact fstI_hit (i := 0) (p := fun i => eqS ((N1 B d).D i).nm d.nm) rfl (show eqS d.nm d.nm = true from by unfold eqS; simp) (show 0 < 1 by omega)
  have e2 : nodeB (N1 B d) 0 = true := by
    unfold nodeB
    show (rnode d && (nix (N1 B d) d.nm == ((0 : Nat) : Int))) = true
    rw [h, e]; rfl
  unfold netB
  rw [decide_eq_true (show (N1 B d).n ≤ 300 by show (1 : Nat) ≤ 300; omega), decide_eq_true (show L0.n ≤ 400 by show (0 : Nat) ≤ 400; omega)]
  show (true && (true && (allB (nodeB (N1 B d)) 1 && allB (linkB (N1 B d) L0) 0))) = true
  simp only [allB, e2, Bool.and_true, Bool.true_and]
/-- What a right node that is no outfall is like. -/
theorem rnode_parts {d : Node} (h : rnode d = true) (hk : d.kd ≠ 3) : (-4194304 ≤ d.iv ∧ d.iv ≤ 4194304) ∧ (-4194304 ≤ d.gr ∧ d.gr ≤ 4194304) ∧ d.iv < d.gr ∧ tblB d.sh = true ∧ d.sh.Y 0 = 0 ∧ d.sh.Y (d.sh.n - 1) ≤ 1125899906842624 := by
  unfold rnode rnA at h
  rw [if_neg hk] at h
  simp only [Bool.and_eq_true] at h
  obtain ⟨⟨-, -, -, h1, h2⟩, h3⟩ := h
  split at h3
  · simp only [Bool.and_eq_true] at h3
    obtain ⟨h4, h5, -⟩ := h3
    unfold shp shpB at h5
    simp only [Bool.and_eq_true, beq_iff_eq, decide_eq_true_eq] at h5
    unfold bet at h1 h2
    simp only [Bool.and_eq_true, decide_eq_true_eq] at h1 h2
    exact ⟨h1, h2, of_decide_eq_true h4, h5.1, h5.2.2.1, h5.2.2.2.2⟩
  · cases h3
/-- A level that is cut to its range; the volume at it. -/
def cutL (d : Node) (lv : Int) : Int := max d.iv (min d.gr lv)
def volN (d : Node) (lv : Int) : Int := tV d.sh (cutL d lv - d.iv)
theorem cutL_bd {d : Node} (h : d.iv < d.gr) (lv : Int) : d.iv ≤ cutL d lv ∧ cutL d lv ≤ d.gr := by unfold cutL; omega
theorem volN_bd {d : Node} (h : rnode d = true) (hk : d.kd ≠ 3) (lv : Int) : 0 ≤ volN d lv ∧ volN d lv ≤ 1125899906842624 := by
  obtain ⟨-, -, -, h1, h2, h3⟩ := rnode_parts h hk
  have := tV_bd (x := cutL d lv - d.iv) h1
  unfold volN
  omega
end Ba
set_option maxRecDepth 100000 in
set_option maxHeartbeats 4000000 in
theorem sright_any (d : Ba.Node) (w : World) (hd : d.Ok w) (hr : Ba.rnode d = true) : Calls Tryz.prog 106 #[d.val] w fun e w' => e = .returned (.bool true) ∧ Gr w w' := by
  have HV := Lib.hid (fun (B : Nat) W (hW : Gr w W) (hc : d.Cells W B 0) => show Calls Tryz.prog 97 #[.agg #[.slice (some ⟨B, 0, none⟩) 1 1, .slice none 0 0]] W fun e w' => e = .returned (.bool true) ∧ Gr W w' from by
    have := netvalid_any (Ba.N1 B d) Ba.L0 W (Ba.N1_at hc (hd.gr hW)) (Ba.L0_at W)
    rw [Ba.one_net hr] at this
    exact this)
  clear hd hr
  unfold Ba.Node.val
  unfold Ba.Node.Cells at HV
  generalize d.sh.A = A at *; generalize d.sh.n = n at *; generalize d.sh.c = c at *
  cases d with | mk nm kd ax ay iv gr sh pr rs =>
  simp only [Nat.zero_add] at *
  go_enter Tryz.func106, Tryz.ntmps106
  go_wp2_with fail
  refine (HV.out _ _ gr_auto ?_).mono ?_
  · refine ⟨?_, ?_, ?_, ?_, ?_, ?_, ?_, ?_, ?_⟩ <;> simp [go_sem]
  rintro e w1 ⟨rfl, hb⟩
  have g1 : Gr w w1 := gr_auto
  clear hb
  go_wp2_with fail
  go_ret
  exact ⟨rfl, g1⟩
set_option maxRecDepth 100000 in
set_option maxHeartbeats 4000000 in
theorem sreach_any (d : Ba.Node) (lv : Int) (w : World) : Calls Tryz.prog 107 #[d.val, .int .i64 lv] w fun e w' => e = .returned (.bool (Ba.bet lv d.iv d.gr)) ∧ Gr w w' := by
  have HW := Lib.hid (fun W => swithin_any lv d.iv d.gr W)
  unfold Ba.Node.val
  generalize d.sh.A = A at *; generalize d.sh.n = n at *; generalize d.sh.c = c at *
  cases d with | mk nm kd ax ay iv gr sh pr rs =>
  simp only [] at *
  generalize Ba.bet lv iv gr = RES at *
  go_enter Tryz.func107, Tryz.ntmps107
  go_wp2_with fail
  refine (HW.out _).mono ?_
  rintro e w1 ⟨rfl, rfl⟩
  go_wp2_with fail
  go_ret
  exact ⟨rfl, gr_auto⟩
set_option maxRecDepth 100000 in
set_option maxHeartbeats 4000000 in
theorem svol_any (d : Ba.Node) (lv : Int) (w : World) (hd : d.Ok w) (hr : Ba.rnode d = true) (hk : d.kd ≠ 3) (h0 : d.iv ≤ lv) (h1 : lv ≤ d.gr) : Calls Tryz.prog 108 #[d.val, .int .i64 lv] w fun e w' => e = .returned (.tuple #[.int .i64 (Ba.tV d.sh (lv - d.iv)), .int .i64 0]) ∧ Gr w w' := by
  obtain ⟨b0, b1, b2, ht, -, -⟩ := Ba.rnode_parts hr hk
  obtain ⟨-, -, -, -, -, -, -, hs⟩ := hd
  have HF := Lib.hid (fun W (hW : Gr w W) => tfloor_any d.sh (lv - d.iv) W (hs.gr hW) ht)
  have e1 : IntKind.i64.wrap (lv - d.iv) = lv - d.iv := wrap_in _ (by omega)
  generalize Ba.tV d.sh (lv - d.iv) = RES at *
  clear hs ht hr
  unfold Ba.Node.val
  generalize d.sh.A = A at *; generalize d.sh.n = n at *; generalize d.sh.c = c at *
  cases d with | mk nm kd ax ay iv gr sh pr rs =>
  simp only [] at *
  have t0 : (kd == 3) = false := beq_eq_false_iff_ne.2 hk
  clear hk
  go_enter Tryz.func108, Tryz.ntmps108
  go_wp2_with fail
  refine (HF.out _ gr_auto).mono ?_
  rintro e w1 ⟨rfl, hb⟩
  have g1 : Gr w w1 := gr_auto
  clear hb
  go_wp2_with fail
  go_ret2
  exact ⟨rfl, g1⟩
set_option maxRecDepth 100000 in
set_option maxHeartbeats 4000000 in
theorem sVolume_any (d : Ba.Node) (lv : Int) (w : World) (hd : d.Ok w) (hr : Ba.rnode d = true) (hk : d.kd ≠ 3) (h0 : d.iv ≤ lv) (h1 : lv ≤ d.gr) : Calls Tryz.prog 79 #[d.val, .int .i64 lv] w fun e w' => e = .returned (.tuple #[.int .i64 (Ba.tV d.sh (lv - d.iv)), .int .i64 0]) ∧ Gr w w' := by
  have HR := Lib.hid (fun W (hW : Gr w W) => sright_any d W (hd.gr hW) hr)
  have HE := Lib.hid (fun W => sreach_any d lv W)
  have HS := Lib.hid (fun W (hW : Gr w W) => svol_any d lv W (hd.gr hW) hr hk h0 h1)
  rw [show Ba.bet lv d.iv d.gr = true from by unfold Ba.bet; simp; omega] at HE
  generalize Ba.tV d.sh (lv - d.iv) = RES at *
  clear hd hr hk h0 h1
  unfold Ba.Node.val at *
  generalize d.sh.A = A at *; generalize d.sh.n = n at *; generalize d.sh.c = c at *
  cases d with | mk nm kd ax ay iv gr sh pr rs =>
  simp only [] at *
  go_enter Tryz.func79, Tryz.ntmps79
  go_wp2_with fail
  refine (HR.out _ gr_auto).mono ?_
  rintro e w1 ⟨rfl, hb⟩
  have g1 : Gr w w1 := gr_auto
  have q0 := Gr.at (show Gr _ w1 from hb) (show World.cell? _ ⟨w.heap.size, 0, none⟩ = some (.string nm) from by simp [go_sem])
  have q1 := Gr.at (show Gr _ w1 from hb) (show World.cell? _ ⟨w.heap.size, 1, none⟩ = some (.int .i64 kd) from by simp [go_sem])
  have q2 := Gr.at (show Gr _ w1 from hb) (show World.cell? _ ⟨w.heap.size, 2, none⟩ = some (.int .i64 ax) from by simp [go_sem])
  have q3 := Gr.at (show Gr _ w1 from hb) (show World.cell? _ ⟨w.heap.size, 3, none⟩ = some (.int .i64 ay) from by simp [go_sem])
  have q4 := Gr.at (show Gr _ w1 from hb) (show World.cell? _ ⟨w.heap.size, 4, none⟩ = some (.int .i64 iv) from by simp [go_sem])
  have q5 := Gr.at (show Gr _ w1 from hb) (show World.cell? _ ⟨w.heap.size, 5, none⟩ = some (.int .i64 gr) from by simp [go_sem])
  have q6 := Gr.at (show Gr _ w1 from hb) (show World.cell? _ ⟨w.heap.size, 6, none⟩ = some (.slice A n c) from by simp [go_sem])
  have q7 := Gr.at (show Gr _ w1 from hb) (show World.cell? _ ⟨w.heap.size, 7, none⟩ = some (.bool pr) from by simp [go_sem])
  have q8 := Gr.at (show Gr _ w1 from hb) (show World.cell? _ ⟨w.heap.size, 8, none⟩ = some (.int .i64 rs) from by simp [go_sem])
  clear hb HR
  go_wp2_with fail
  refine (HE.out _).mono ?_
  rintro e w2 ⟨rfl, hb⟩
  have g2 := g1.trans hb
  replace q0 := Gr.at hb q0; replace q1 := Gr.at hb q1; replace q2 := Gr.at hb q2; replace q3 := Gr.at hb q3; replace q4 := Gr.at hb q4; replace q5 := Gr.at hb q5; replace q6 := Gr.at hb q6; replace q7 := Gr.at hb q7; replace q8 := Gr.at hb q8
  clear hb HE g1
  go_wp2_with fail
  refine (HS.out _ g2).mono ?_
  rintro e w3 ⟨rfl, hb⟩
  have g3 := g2.trans hb
  clear hb HS g2 q0 q1 q2 q3 q4 q5 q6 q7 q8
  go_wp2_with fail
  go_ret2
  exact ⟨rfl, g3⟩
end Go.Proofs.YtllkiadedaghoaaGreat
