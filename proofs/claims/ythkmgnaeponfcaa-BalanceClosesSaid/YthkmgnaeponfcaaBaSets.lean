/-
  What is given right, and is not much, is fine. The plain words of Step. (No program is in sight.)
  Sets of nodes by their names: the plain words.
  Sets of nodes by their names: the reference's Set. (Printed by mkset.py.)
  Part: the reference's, and the program's. (Printed by mkpart.py.)
-/
import Derived.Test.YthkmgnaeponfcaaBaGive
import Derived.Test.YthkmgnaeponfcaaBaOfC
import Derived.Test.YthkmgnaeponfcaaBaRep
import Derived.Test.YthkmgnaeponfcaaBaNet
import Derived.Test.YthkmgnaeponfcaaBaKit
import Derived.Deep.RegionHeld3
import Derived.Deep.DrawnRows
set_option linter.unusedVariables false
set_option linter.unusedSimpArgs false
namespace Go.Proofs.Ythkmgnaeponfcaa
open Go.RowKit
namespace Ba
theorem rnode_cap {d : Node} (h : rnode d = true) : 0 ≤ capy d → capy d ≤ 1125899906842624 := by
  intro _
  unfold capy
  split
  · omega
  rename_i hk
  unfold rnode at h
  rw [if_neg hk] at h
  split at h
  · simp only [Bool.and_eq_true] at h
    have h3 := h.2.2.1
    unfold shp shpB at h3
    simp only [Bool.and_eq_true, decide_eq_true_eq] at h3
    exact h3.2.2.2.2
  · simp at h
theorem vs_parts {N : SlNode} {L : SlLink} {s : State} (h : vs N L s = true) : netB N L = true ∧ s.vs.n = N.n ∧ s.ps.n = N.n ∧ s.st.n = L.n ∧ s.on.n = L.n ∧ (∀ i, i < N.n → 0 ≤ s.vs.X i ∧ s.vs.X i ≤ 1125899906842624 ∧ s.vs.X i ≤ capy (N.D i)) ∧ (∀ i, i < N.n → 0 ≤ s.ps.X i ∧ s.ps.X i ≤ 1125899906842624 ∧ ((N.D i).kd = 3 → s.ps.X i = 0)) ∧
    (∀ k, k < L.n → 0 ≤ s.st.X k ∧ s.st.X k ≤ 1000 ∧ (s.on.X k = true → (L.D k).kd = 4)) := by
  unfold vs at h
  rw [Bool.and_eq_true] at h
  obtain ⟨hn, hs⟩ := h
  unfold stateB at hs
  simp only [Bool.and_eq_true] at hs
  obtain ⟨hz, h1, h2⟩ := hs
  unfold sizB at hz
  simp only [Bool.and_eq_true, decide_eq_true_eq] at hz
  obtain ⟨z0, z1, z2, z3⟩ := hz
  have hn2 := hn
  unfold netB at hn2
  simp only [Bool.and_eq_true] at hn2
  refine ⟨hn, z0, z1, z2, z3, fun i hi => ?_, fun i hi => ?_, fun k hk => ?_⟩
  · have a := allB_at h1 hi
    unfold stN at a
    simp only [Bool.and_eq_true, bet_iff] at a
    have b := allB_at hn2.2.2.1 hi
    unfold nodeB at b
    rw [Bool.and_eq_true] at b
    have := rnode_cap b.1 (by omega)
    omega
  · have a := allB_at h1 hi
    unfold stN at a
    simp only [Bool.and_eq_true, bet_iff] at a
    refine ⟨a.2.1.1, a.2.1.2, fun hk => ?_⟩
    have := a.2.2
    simp [hk] at this
    exact this
  · have a := allB_at h2 hk
    unfold stL at a
    simp only [Bool.and_eq_true, bet_iff] at a
    refine ⟨a.1.1, a.1.2, fun ho => ?_⟩
    have := a.2
    simp [ho] at this
    exact this
theorem giv_parts {N : SlNode} {L : SlLink} {s1 s2 : State} {I : SlI} {g : Ledger} (h : givE N L s1 s2 I g = 0) : vs N L s1 = true ∧ vs N L s2 = true ∧ ledgB L g = true ∧ I.n = N.n ∧ wiB I 1125899906842624 = true := by
  unfold givE at h
  split at h
  · omega
  rename_i h0
  split at h
  rotate_left
  · omega
  rename_i h1
  split at h
  rotate_left
  · omega
  rename_i h2
  simp only [Bool.not_eq_false, Bool.and_eq_true] at h0
  exact ⟨h0.1, h0.2.1, h0.2.2, h1, h2⟩
theorem ledg_parts {L : SlLink} {g : Ledger} (h : ledgB L g = true) : (0 ≤ g.inn ∧ g.inn ≤ 1152921504606846976) ∧ (0 ≤ g.out ∧ g.out ≤ 1152921504606846976) ∧ g.ps.n = L.n ∧ ∀ k, k < L.n → 0 ≤ g.ps.X k ∧ g.ps.X k ≤ 9007199254740992 := by
  unfold ledgB at h
  simp only [Bool.and_eq_true, bet_iff, decide_eq_true_eq] at h
  obtain ⟨a, b, c, d⟩ := h
  refine ⟨a, b, c, fun k hk => ?_⟩
  unfold passB at d
  have := allB_at d (k := k) (by omega)
  rw [bet_iff] at this
  exact this
theorem fine_of {N : SlNode} {L : SlLink} {s1 s2 : State} {I : SlI} {g : Ledger} (h : givE N L s1 s2 I g = 0) (hn : N.n ≤ 12) (hl : L.n ≤ 20) : Fine N L s1 s2 I g.ps := by
  obtain ⟨a, b, c, d, e⟩ := giv_parts h
  obtain ⟨q, q1, q2, -, -, q3, q4, -⟩ := vs_parts a
  obtain ⟨-, r1, r2, -, -, r3, r4, -⟩ := vs_parts b
  obtain ⟨-, -, p1, p2⟩ := ledg_parts c
  refine ⟨q, hn, hl, d, p1, q1, q2, r1, r2, fun i hi => ?_, p2, fun i hi => ⟨(q3 i hi).1, (q3 i hi).2.1⟩, fun i hi => ⟨(q4 i hi).1, (q4 i hi).2.1⟩, fun i hi => ⟨(r3 i hi).1, (r3 i hi).2.1⟩, fun i hi => ⟨(r4 i hi).1, (r4 i hi).2.1⟩⟩
  unfold wiB at e
  have := allB_at e (k := i) (by omega)
  rw [bet_iff] at this
  exact this
theorem Fine.few1 {N : SlNode} {L : SlLink} {s1 s2 : State} {I P : SlI} (F : Fine N L s1 s2 I P) : few s1.vs ∧ few s1.ps ∧ few s2.vs ∧ few s2.ps ∧ few I := by
  have := F.nn
  refine ⟨⟨by have := F.v1; omega, fun i hi => F.bv1 i (by have := F.v1; omega)⟩, ⟨by have := F.p1; omega, fun i hi => F.bp1 i (by have := F.p1; omega)⟩, ⟨by have := F.v2; omega, fun i hi => F.bv2 i (by have := F.v2; omega)⟩, ⟨by have := F.p2; omega, fun i hi => F.bp2 i (by have := F.p2; omega)⟩, ⟨by have := F.i; omega, fun i hi => F.bi i (by have := F.i; omega)⟩⟩
/-- By how much a step does not close; whether it does; the error. -/
def leftI (s1 s2 : State) (g : Ledger) : Int := heldI s1 + g.inn - heldI s2 - g.out
def okB (N : SlNode) (L : SlLink) (s1 s2 : State) (I : SlI) (g : Ledger) : Bool := (leftI s1 s2 g == 0) && ((g.inn == sumI I.X I.n) && (g.out == lostI N L (fun _ => true) I g.ps))
def stepB (N : SlNode) (L : SlLink) (s1 s2 : State) (I : SlI) (g : Ledger) : Bool := if givE N L s1 s2 I g = 0 then okB N L s1 s2 I g else false
def stepL (N : SlNode) (L : SlLink) (s1 s2 : State) (I : SlI) (g : Ledger) : Int := if givE N L s1 s2 I g = 0 then leftI s1 s2 g else 0
theorem held_two {s : State} (h : s.ps.n = s.vs.n) : heldI s = sumI s.vs.X s.vs.n + sumI s.ps.X s.ps.n := by
  unfold heldI; rw [sumI_add, h]
theorem heldI_le {s : State} (h1 : few s.vs) (h2 : few s.ps) (h : s.ps.n = s.vs.n) : 0 ≤ heldI s ∧ heldI s ≤ 2251799813685248000 := by
  rw [held_two h]
  have := few_sum h1 (Nat.le_refl _); have := few_sum h2 (Nat.le_refl _)
  omega
end Ba
end Go.Proofs.Ythkmgnaeponfcaa
namespace Go.Proofs.Ythkmgnaeponfcaa
open Go.RowKit
namespace Ba
/-- The nodes of the first names; is a node named twice; is a name no node's. -/
def setX (ix : Nat → Int) : Nat → Nat → Bool
  | 0, _ => false
  | k + 1, j => if ix k = (j : Int) then true else setX ix k j
def twB (ix : Nat → Int) : Nat → Bool
  | 0 => false
  | k + 1 => twB ix k || setX ix k (ix k).toNat
/-- The names' numbers. -/
def ixs (N : SlNode) (T : SlS) (k : Nat) : Int := nix N (T.X k)
/-- All names are nodes'. -/
def knoB (N : SlNode) (T : SlS) : Bool := allB (fun k => decide (0 ≤ ixs N T k)) T.n
/-- The error of a set. -/
def setE (N : SlNode) (T : SlS) : Int := if knoB N T = false then 9 else if twB (ixs N T) T.n = true then 10 else 0
theorem setX_iff (ix : Nat → Int) : ∀ (n j : Nat), setX ix n j = true ↔ ∃ k, k < n ∧ ix k = (j : Int)
  | 0, j => by simp [setX]
  | n + 1, j => by
    rw [setX]
    split
    · rename_i h
      exact ⟨fun _ => ⟨n, by omega, h⟩, fun _ => rfl⟩
    · rename_i h
      rw [setX_iff ix n j]
      constructor
      · rintro ⟨k, hk, e⟩; exact ⟨k, by omega, e⟩
      · rintro ⟨k, hk, e⟩
        rcases (by omega : k < n ∨ k = n) with q | rfl
        · exact ⟨k, q, e⟩
        · exact absurd e h
theorem twB_mono {ix : Nat → Int} {k : Nat} (h : twB ix k = true) : ∀ j, twB ix (k + j) = true
  | 0 => h
  | j + 1 => by rw [show k + (j + 1) = k + j + 1 by omega, twB, twB_mono h j]; rfl
theorem nix_ok {N : SlNode} {t : ByteArray} (h : 0 ≤ nix N t) : nix N t = ((nix N t).toNat : Int) ∧ (nix N t).toNat < N.n := by
  rcases nix_cases N t with e | ⟨j, hj, e, -⟩
  · omega
  · rw [e]; exact ⟨by simp, by simpa using hj⟩
end Ba
end Go.Proofs.Ythkmgnaeponfcaa
namespace Go.Proofs.Ythkmgnaeponfcaa
open Go.RowKit
attribute [local go_sem ↓] Go.wp_at_zero Go.wp_at_succ
theorem info_bool' : (Try.prog.info? 4).map (fun i => (i.zero, i.size, i.bytes)) = some (some (.bool false), 1, 1) := by kernel_rfl
theorem Ba.knoB_go {ix : Nat → Int} {i : Nat} (h : Ba.allB (fun k => decide (0 ≤ ix k)) i = true) (h2 : 0 ≤ ix i) : Ba.allB (fun k => decide (0 ≤ ix k)) (i + 1) = true := Ba.allB_go h (decide_eq_true h2)
theorem Ba.knoB_no {ix : Nat → Int} {i n : Nat} (hi : i < n) (h2 : ix i < 0) : Ba.allB (fun k => decide (0 ≤ ix k)) n = false := Ba.allB_stop hi (decide_eq_false (by omega))

/-- What Set answers: a set, and an error. -/
def RetSetW (n tn : Nat) (ix : Nat → Int) (w : World) (e : Ending) (w' : World) : Prop := ∃ s : Ba.SlB, e = .returned (.tuple #[.slice s.A s.n s.c, .int .i64 (if Ba.allB (fun k => decide (0 ≤ ix k)) tn = false then 9 else if Ba.twB ix tn = true then 10 else 0)]) ∧ (Ba.allB (fun k => decide (0 ≤ ix k)) tn = true → s.n = n ∧ s.At w' ∧ s.X = Ba.setX ix tn) ∧ Gr w w'
def RetSet (N : Ba.SlNode) (T : Ba.SlS) (w : World) (e : Ending) (w' : World) : Prop := ∃ s : Ba.SlB, e = .returned (.tuple #[.slice s.A s.n s.c, .int .i64 (Ba.setE N T)]) ∧ (Ba.knoB N T = true → s.n = N.n ∧ s.At w' ∧ s.X = Ba.setX (Ba.ixs N T) T.n) ∧ Gr w w'
set_option maxRecDepth 100000 in
set_option maxHeartbeats 4000000 in
theorem rset_any (N : Ba.SlNode) (L : Ba.SlLink) (T : Ba.SlS) (w : World) (hN : N.At w) (hL : L.At w) (hT : T.At w) (hn : N.n ≤ 12) (ht : T.n ≤ 1000) : Calls Try.prog 42 #[Ba.netVal N L, .slice T.A T.n T.c] w (RetSet N T w) := by
  obtain ⟨i0, hi0, hz0, hz1, hz2⟩ := info_parts info_bool'
  have HI := Lib.hid hi0; have HZ0 := Lib.hid hz0; have HZ1 := Lib.hid hz1; have HZ2 := Lib.hid hz2
  clear hi0 hz0 hz1 hz2
  have HF := Lib.hid (fun (k : Nat) W (hh : Gr w W) => show Calls Try.prog 15 #[Ba.netVal N L, .string (T.X k)] W fun e w' => e = .returned (.int .i64 (Ba.ixs N T k)) ∧ Gr W w' from rfindnode_any N L.A L.n L.c (T.X k) W (hN.gr hh))
  have HC := Lib.hid (fun (k : Nat) => show Ba.ixs N T k < 0 ∨ ∃ j : Nat, Ba.ixs N T k = (j : Int) ∧ j < N.n from by
    by_cases h : Ba.ixs N T k < 0
    · exact Or.inl h
    · exact Or.inr ⟨_, Ba.nix_ok (show 0 ≤ Ba.nix N (T.X k) by unfold Ba.ixs at h; omega)⟩)
  have TA := Lib.hid hT.hA; have TX := Lib.hid hT.hX
  clear hN hL hT
  unfold Ba.netVal at *
  have HQ : RetSet N T w = RetSetW N.n T.n (Ba.ixs N T) w := rfl
  rw [HQ]
  clear HQ
  generalize Ba.ixs N T = ix at *
  generalize N.A = A at *; generalize N.n = n at *; generalize N.c = c at *
  generalize L.A = A2 at *; generalize L.n = n2 at *; generalize L.c = c2 at *
  obtain ⟨TA', tn, tc, tb, tO, X⟩ := T
  simp only at *
  go_enter Try.func42, Try.ntmps42
  go_wp2_with (at_make; refine wpList_make_full _ rfl _ _ _ rfl (w.heap.size + 1) 4 i0 (.bool false) 1 Try.underlying27 HI.out HZ0.out HZ1.out .i64 .i64 n n n rfl rfl rfl rfl ?d1 ?d2 ?d3 ?_)
  case d1 => rw [HZ2.out]; omega
  case d2 => unfold maxLen; omega
  case d3 => simp
  intro w2 hown hgrow
  have hrow := Lib.hid (made_row hown)
  have G2 := Gr.own (Gr.refl _) (Nat.le_refl _) (n := 0) (e := 4) (size := 1) (xs := []) (v := .slice none 0 0) ⟨rfl, Or.inl ⟨rfl, rfl⟩⟩ hgrow
  have g2 : Gr w w2 := Gr.trans gr_auto G2
  have k2_0 : w2.cell? ⟨w.heap.size, 0, none⟩ = some (.slice A n c) := Gr.at G2 (by simp [go_sem])
  have k2_1 : w2.cell? ⟨w.heap.size, 1, none⟩ = some (.slice A2 n2 c2) := Gr.at G2 (by simp [go_sem])
  clear hown hgrow G2
  go_wp2_with fail
  go_loopw [7, 8] (fun t q wr => ∃ i : Nat, i ≤ tn ∧ q = .int .i64 (i : Int) ∧ t = .bool (Ba.twB ix i) ∧ Hid (Ba.allB (fun k => decide (0 ≤ ix k)) i = true) ∧ GrX (w.heap.size + 1) w2 wr ∧ Hid (Row wr (w.heap.size + 1) n (fun j => .bool (Ba.setX ix i j)))) (fun _ q _ => tn - (intOf q).toNat)
  case atStart => exact ⟨0, Nat.zero_le _, rfl, rfl, Lib.hid rfl, GrX.refl _ _, Lib.hid hrow.out⟩
  case round =>
    obtain ⟨i, hi, rfl, rfl, HK, hg, HR⟩ := hrel
    have hgr : Gr w wr := GrX.gr g2 (by omega) hg
    have k0 := GrX.at hg (by omega) k2_0; have k1 := GrX.at hg (by omega) k2_1
    clear k2_0 k2_1 hrow
    by_cases hlt : i < tn
    · obtain rfl := TA.out (by omega)
      have a0 := Gr.at hgr (TX.out i hlt).1
      have HFi := Lib.hid (HF.out i)
      have ib0 : (0 : Int) ≤ (i : Int) := by omega
      have ib1 : (i : Int) < (tn : Int) := by omega
      rcases HC.out i with hneg | ⟨k, hk, hkn⟩
      · have HP := Lib.hid (Ba.knoB_no hlt hneg)
        have td : decide (ix i < 0) = true := decide_eq_true hneg
        clear HF HC TX hneg HR HK
        generalize ix i = q at *
        go_wp2_with fail
        (first | refine name_world ?_ | refine (show (∀ W, W = _ → Calls _ _ _ W _) → Calls _ _ _ _ _ from fun h => h _ rfl) ?_); intro W3 hW3
        have g3 : Gr w W3 := by rw [hW3]; exact gr_auto
        have gb3_wr : Gr wr W3 := by (try clear g3); rw [hW3]; exact gr_auto
        have k3_0 : W3.cell? ⟨w.heap.size, 0, none⟩ = some (.slice A n c) := by rw [hW3]; first | (simp [go_sem, *]; done) | (refine Gr.at ?_ (by assumption); exact gr_auto)
        have b3_0 : w.heap.size < W3.heap.size := World.block_lt_of_cell? _ _ k3_0
        have k3_1 : W3.cell? ⟨w.heap.size, 1, none⟩ = some (.slice A2 n2 c2) := by rw [hW3]; first | (simp [go_sem, *]; done) | (refine Gr.at ?_ (by assumption); exact gr_auto)
        have k3_2 : W3.cell? ⟨tb, tO + i, none⟩ = some (.string (X i)) := by rw [hW3]; first | (simp [go_sem, *]; done) | (refine Gr.at ?_ (by assumption); exact gr_auto)
        have b3_2 : tb < W3.heap.size := World.block_lt_of_cell? _ _ k3_2
        clear hW3
        have s3_0 : ∀ gw : GW W3, gw.1.cell? ⟨w.heap.size, 0, none⟩ = some (.slice A n c) := fun gw => Gr.at gw.2 k3_0
        have s3_1 : ∀ gw : GW W3, gw.1.cell? ⟨w.heap.size, 1, none⟩ = some (.slice A2 n2 c2) := fun gw => Gr.at gw.2 k3_1
        have s3_2 : ∀ gw : GW W3, gw.1.cell? ⟨tb, tO + i, none⟩ = some (.string (X i)) := fun gw => Gr.at gw.2 k3_2
        have HF4 := Lib.hid (fun gw : GW W3 => gw_call (HFi.out gw.1 (g3.trans gw.2)))
        refine wp_region_gr (by kernel_rfl) (by kernel_rfl) ?_
        repeat (go_big_quiet_step ((go_at_call 15; exact HF4.out _)))
        refine wpQuiet_nil ?_
        intro w4 hb4
        clear s3_0 s3_1 s3_2
        have g4 : Gr w w4 := g3.trans hb4
        have k3_0 := Gr.at hb4 k3_0
        have k3_1 := Gr.at hb4 k3_1
        have k3_2 := Gr.at hb4 k3_2
        go_wp2_with fail
        go_ret2
        unfold RetSetW
        exact ⟨⟨none, 0, 0, 0, 0, fun _ => false⟩, (by rw [if_pos HP.out]; try rfl), fun h => absurd (HP.out.symm.trans h) (by decide), g4⟩
      · have HT := Lib.hid (show Ba.twB ix (i + 1) = (Ba.twB ix i || Ba.setX ix i k) by rw [Ba.twB, hk]; rfl)
        have HK2 := Lib.hid (Ba.knoB_go HK.out (show 0 ≤ ix i by omega))
        have HY1 := Lib.hid (show Ba.setX ix (i + 1) k = true by rw [Ba.setX, if_pos hk])
        have HY2 := Lib.hid (fun (j : Nat) (hj : j ≠ k) => show Ba.setX ix (i + 1) j = Ba.setX ix i j by rw [Ba.setX, if_neg (by omega)])
        have td : decide ((k : Int) < 0) = false := decide_eq_false (by omega)
        rw [hk] at HFi
        clear HF HC TX HK hk
        have kb0 : (0 : Int) ≤ (k : Int) := by omega
        have kb1 : (k : Int) < (n : Int) := by omega
        go_wp2_with fail
        (first | refine name_world ?_ | refine (show (∀ W, W = _ → Calls _ _ _ W _) → Calls _ _ _ _ _ from fun h => h _ rfl) ?_); intro W3 hW3
        have g3 : Gr w W3 := by rw [hW3]; exact gr_auto
        have gb3_wr : Gr wr W3 := by (try clear g3); rw [hW3]; exact gr_auto
        have k3_0 : W3.cell? ⟨w.heap.size, 0, none⟩ = some (.slice A n c) := by rw [hW3]; first | (simp [go_sem, *]; done) | (refine Gr.at ?_ (by assumption); exact gr_auto)
        have b3_0 : w.heap.size < W3.heap.size := World.block_lt_of_cell? _ _ k3_0
        have k3_1 : W3.cell? ⟨w.heap.size, 1, none⟩ = some (.slice A2 n2 c2) := by rw [hW3]; first | (simp [go_sem, *]; done) | (refine Gr.at ?_ (by assumption); exact gr_auto)
        have k3_2 : W3.cell? ⟨tb, tO + i, none⟩ = some (.string (X i)) := by rw [hW3]; first | (simp [go_sem, *]; done) | (refine Gr.at ?_ (by assumption); exact gr_auto)
        have b3_2 : tb < W3.heap.size := World.block_lt_of_cell? _ _ k3_2
        clear hW3
        have s3_0 : ∀ gw : GW W3, gw.1.cell? ⟨w.heap.size, 0, none⟩ = some (.slice A n c) := fun gw => Gr.at gw.2 k3_0
        have s3_1 : ∀ gw : GW W3, gw.1.cell? ⟨w.heap.size, 1, none⟩ = some (.slice A2 n2 c2) := fun gw => Gr.at gw.2 k3_1
        have s3_2 : ∀ gw : GW W3, gw.1.cell? ⟨tb, tO + i, none⟩ = some (.string (X i)) := fun gw => Gr.at gw.2 k3_2
        have HF4 := Lib.hid (fun gw : GW W3 => gw_call (HFi.out gw.1 (g3.trans gw.2)))
        refine wp_region_gr (by kernel_rfl) (by kernel_rfl) ?_
        repeat (go_big_quiet_step ((go_at_call 15; exact HF4.out _)))
        refine wpQuiet_nil ?_
        intro w4 hb4
        clear s3_0 s3_1 s3_2
        have g4 : Gr w w4 := g3.trans hb4
        have k3_0 := Gr.at hb4 k3_0
        have k3_1 := Gr.at hb4 k3_1
        have k3_2 := Gr.at hb4 k3_2
        have gq : Gr wr w4 := gb3_wr.trans hb4
        have HR4 := Lib.hid (HR.out.gr gq)
        obtain ⟨r1, r2⟩ := HR4.out k hkn
        have hg4 := GrX.grown hg gq
        clear HR
        generalize Ba.twB ix i = tw at *
        cases tw
        all_goals
          go_wp2_with fail
          go_roundw
          case rel => exact ⟨i + 1, by omega, by go_num, by (rw [HT.out]; try rfl), HK2, GrX.setCell hg4 rfl _, Lib.hid (Row.set HR4.out (by show Value.bool _ = _; rw [HY1.out]) (fun j _ hj => by show Value.bool _ = Value.bool _; rw [HY2.out j hj]))⟩
          case measure => simp [intOf]; omega
    · obtain rfl : i = tn := by omega
      have HKo := HK.out
      have HP := Lib.hid (show ¬ Ba.allB (fun k => decide (0 ≤ ix k)) i = false by rw [HKo]; decide)
      clear HKo
      have HS := Lib.hid (show Ba.SlB.At wr ⟨some ⟨w.heap.size + 1, 0, none⟩, n, n, w.heap.size + 1, 0, Ba.setX ix i⟩ from ⟨fun _ => rfl, by simp, by simp only; omega, fun j hj => by simp only [Nat.zero_add]; exact (HR.out j hj).1⟩)
      clear HF HC TX HK HR
      cases hq : Ba.twB ix i
      · go_wp2_with fail
        go_ret2
        unfold RetSetW
        exact ⟨_, (by rw [if_neg HP.out, hq, if_neg (by decide)]; try rfl), fun _ => ⟨rfl, HS.out, rfl⟩, hgr⟩
      · go_wp2_with fail
        go_ret2
        unfold RetSetW
        exact ⟨_, (by rw [if_neg HP.out, hq, if_pos rfl]; try rfl), fun _ => ⟨rfl, HS.out, rfl⟩, hgr⟩

end Go.Proofs.Ythkmgnaeponfcaa
namespace Go.Proofs.Ythkmgnaeponfcaa
open Go.RowKit
attribute [local go_sem ↓] Go.wp_at_zero Go.wp_at_succ
namespace Ba
/-- The error of a set of names; what Part answers. -/
def setEw (ix : Nat → Int) (tn : Nat) : Int := if allB (fun k => decide (0 ≤ ix k)) tn = false then 9 else if twB ix tn = true then 10 else 0
def partE (N : SlNode) (L : SlLink) (s1 s2 : State) (I : SlI) (g : Ledger) (T : SlS) : Int := if givE N L s1 s2 I g = 0 then setE N T else givE N L s1 s2 I g
def partR (N : SlNode) (L : SlLink) (s1 s2 : State) (I : SlI) (g : Ledger) (T : SlS) : Int := if givE N L s1 s2 I g = 0 then if setE N T = 0 then resI N L (setX (ixs N T) T.n) s1 s2 I g.ps else 0 else 0
theorem setE_w (N : SlNode) (T : SlS) : setE N T = setEw (ixs N T) T.n := rfl
end Ba
def PartW (re : Int) (ix : Nat → Int) (tn : Nat) (w : World) (e : Ending) (w' : World) : Prop := e = .returned (.tuple #[.int .i64 (if Ba.setEw ix tn = 0 then re else 0), .int .i64 (Ba.setEw ix tn)]) ∧ Gr w w'

set_option maxRecDepth 100000 in
set_option maxHeartbeats 4000000 in
theorem rpart_0 (A A2 VA1 PA1 SA1 OA1 VA2 PA2 SA2 OA2 GA IA : Option Addr) (n c n2 c2 vn1 vc1 pn1 pc1 sn1 sc1 on1 oc1 vn2 vc2 pn2 pc2 sn2 sc2 on2 oc2 gn gc m ic : Nat) (inn out : Int) (w : World) (TA : Option Addr) (tn tc : Nat) (ec : Int) (hec : ec ≠ 0) (HG : Hid (∀ W, Gr w W → Calls Try.prog 14 #[.agg #[.slice A n c, .slice A2 n2 c2], .agg #[.slice VA1 vn1 vc1, .slice PA1 pn1 pc1, .slice SA1 sn1 sc1, .slice OA1 on1 oc1], .agg #[.slice VA2 vn2 vc2, .slice PA2 pn2 pc2, .slice SA2 sn2 sc2, .slice OA2 on2 oc2], .slice IA m ic, .agg #[.int .i64 inn, .int .i64 out, .slice GA gn gc]] W fun e w' => e = .returned (.int .i64 ec) ∧ Gr W w')) : Calls Try.prog 13 #[.agg #[.slice A n c, .slice A2 n2 c2], .slice TA tn tc, .agg #[.slice VA1 vn1 vc1, .slice PA1 pn1 pc1, .slice SA1 sn1 sc1, .slice OA1 on1 oc1], .agg #[.slice VA2 vn2 vc2, .slice PA2 pn2 pc2, .slice SA2 sn2 sc2, .slice OA2 on2 oc2], .slice IA m ic, .agg #[.int .i64 inn, .int .i64 out, .slice GA gn gc]] w fun e w' => e = .returned (.tuple #[.int .i64 0, .int .i64 ec]) ∧ Gr w w' := by
  have t0 : (ec != 0) = true := Ba.bne_of' hec
  clear hec
  go_enter Try.func13, Try.ntmps13
  go_wp2_with fail
  (first | refine name_world ?_ | refine (show (∀ W, W = _ → Calls _ _ _ W _) → Calls _ _ _ _ _ from fun h => h _ rfl) ?_); intro W1 hW1
  have g1 : Gr w W1 := by rw [hW1]; exact gr_auto
  have k1_0 : W1.cell? ⟨w.heap.size, 0, none⟩ = some (.slice A n c) := by rw [hW1]; first | (simp [go_sem, *]; done) | (refine Gr.at ?_ (by assumption); exact gr_auto)
  have b1_0 : w.heap.size < W1.heap.size := World.block_lt_of_cell? _ _ k1_0
  have k1_1 : W1.cell? ⟨w.heap.size, 1, none⟩ = some (.slice A2 n2 c2) := by rw [hW1]; first | (simp [go_sem, *]; done) | (refine Gr.at ?_ (by assumption); exact gr_auto)
  have k1_2 : W1.cell? ⟨w.heap.size + 1, 0, none⟩ = some (.slice VA1 vn1 vc1) := by rw [hW1]; first | (simp [go_sem, *]; done) | (refine Gr.at ?_ (by assumption); exact gr_auto)
  have b1_2 : w.heap.size + 1 < W1.heap.size := World.block_lt_of_cell? _ _ k1_2
  have k1_3 : W1.cell? ⟨w.heap.size + 1, 1, none⟩ = some (.slice PA1 pn1 pc1) := by rw [hW1]; first | (simp [go_sem, *]; done) | (refine Gr.at ?_ (by assumption); exact gr_auto)
  have k1_4 : W1.cell? ⟨w.heap.size + 1, 2, none⟩ = some (.slice SA1 sn1 sc1) := by rw [hW1]; first | (simp [go_sem, *]; done) | (refine Gr.at ?_ (by assumption); exact gr_auto)
  have k1_5 : W1.cell? ⟨w.heap.size + 1, 3, none⟩ = some (.slice OA1 on1 oc1) := by rw [hW1]; first | (simp [go_sem, *]; done) | (refine Gr.at ?_ (by assumption); exact gr_auto)
  have k1_6 : W1.cell? ⟨w.heap.size + 2, 0, none⟩ = some (.slice VA2 vn2 vc2) := by rw [hW1]; first | (simp [go_sem, *]; done) | (refine Gr.at ?_ (by assumption); exact gr_auto)
  have b1_6 : w.heap.size + 2 < W1.heap.size := World.block_lt_of_cell? _ _ k1_6
  have k1_7 : W1.cell? ⟨w.heap.size + 2, 1, none⟩ = some (.slice PA2 pn2 pc2) := by rw [hW1]; first | (simp [go_sem, *]; done) | (refine Gr.at ?_ (by assumption); exact gr_auto)
  have k1_8 : W1.cell? ⟨w.heap.size + 2, 2, none⟩ = some (.slice SA2 sn2 sc2) := by rw [hW1]; first | (simp [go_sem, *]; done) | (refine Gr.at ?_ (by assumption); exact gr_auto)
  have k1_9 : W1.cell? ⟨w.heap.size + 2, 3, none⟩ = some (.slice OA2 on2 oc2) := by rw [hW1]; first | (simp [go_sem, *]; done) | (refine Gr.at ?_ (by assumption); exact gr_auto)
  have k1_10 : W1.cell? ⟨w.heap.size + 3, 0, none⟩ = some (.int .i64 inn) := by rw [hW1]; first | (simp [go_sem, *]; done) | (refine Gr.at ?_ (by assumption); exact gr_auto)
  have b1_10 : w.heap.size + 3 < W1.heap.size := World.block_lt_of_cell? _ _ k1_10
  have k1_11 : W1.cell? ⟨w.heap.size + 3, 1, none⟩ = some (.int .i64 out) := by rw [hW1]; first | (simp [go_sem, *]; done) | (refine Gr.at ?_ (by assumption); exact gr_auto)
  have k1_12 : W1.cell? ⟨w.heap.size + 3, 2, none⟩ = some (.slice GA gn gc) := by rw [hW1]; first | (simp [go_sem, *]; done) | (refine Gr.at ?_ (by assumption); exact gr_auto)
  clear hW1
  refine (HG.out _ g1).mono ?_
  rintro e w2 ⟨rfl, hb2⟩
  have g2 := g1.trans hb2
  have k1_0 := Gr.at (w1 := w2) gr_auto k1_0; have k1_1 := Gr.at (w1 := w2) gr_auto k1_1; have k1_2 := Gr.at (w1 := w2) gr_auto k1_2; have k1_3 := Gr.at (w1 := w2) gr_auto k1_3; have k1_4 := Gr.at (w1 := w2) gr_auto k1_4; have k1_5 := Gr.at (w1 := w2) gr_auto k1_5; have k1_6 := Gr.at (w1 := w2) gr_auto k1_6; have k1_7 := Gr.at (w1 := w2) gr_auto k1_7; have k1_8 := Gr.at (w1 := w2) gr_auto k1_8; have k1_9 := Gr.at (w1 := w2) gr_auto k1_9; have k1_10 := Gr.at (w1 := w2) gr_auto k1_10; have k1_11 := Gr.at (w1 := w2) gr_auto k1_11; have k1_12 := Gr.at (w1 := w2) gr_auto k1_12
  go_wp2_with fail
  go_ret2
  exact ⟨rfl, gr_auto⟩

set_option maxRecDepth 100000 in
set_option maxHeartbeats 4000000 in
theorem rpart_1 (A A2 VA1 PA1 SA1 OA1 VA2 PA2 SA2 OA2 GA IA : Option Addr) (n c n2 c2 vn1 vc1 pn1 pc1 sn1 sc1 on1 oc1 vn2 vc2 pn2 pc2 sn2 sc2 on2 oc2 gn gc m ic : Nat) (inn out : Int) (w : World) (TA : Option Addr) (tn tc : Nat) (ec : Int) (hec : ec ≠ 0) (HG : Hid (∀ W, Gr w W → Calls Try.prog 14 #[.agg #[.slice A n c, .slice A2 n2 c2], .agg #[.slice VA1 vn1 vc1, .slice PA1 pn1 pc1, .slice SA1 sn1 sc1, .slice OA1 on1 oc1], .agg #[.slice VA2 vn2 vc2, .slice PA2 pn2 pc2, .slice SA2 sn2 sc2, .slice OA2 on2 oc2], .slice IA m ic, .agg #[.int .i64 inn, .int .i64 out, .slice GA gn gc]] W fun e w' => e = .returned (.int .i64 0) ∧ Gr W w')) (HS : Hid (∀ W, Gr w W → Calls Try.prog 42 #[.agg #[.slice A n c, .slice A2 n2 c2], .slice TA tn tc] W fun e w' => ∃ s : Ba.SlB, e = .returned (.tuple #[.slice s.A s.n s.c, .int .i64 ec]) ∧ Gr W w')) : Calls Try.prog 13 #[.agg #[.slice A n c, .slice A2 n2 c2], .slice TA tn tc, .agg #[.slice VA1 vn1 vc1, .slice PA1 pn1 pc1, .slice SA1 sn1 sc1, .slice OA1 on1 oc1], .agg #[.slice VA2 vn2 vc2, .slice PA2 pn2 pc2, .slice SA2 sn2 sc2, .slice OA2 on2 oc2], .slice IA m ic, .agg #[.int .i64 inn, .int .i64 out, .slice GA gn gc]] w fun e w' => e = .returned (.tuple #[.int .i64 0, .int .i64 ec]) ∧ Gr w w' := by
  have t0 : (ec != 0) = true := Ba.bne_of' hec
  clear hec
  go_enter Try.func13, Try.ntmps13
  go_wp2_with fail
  (first | refine name_world ?_ | refine (show (∀ W, W = _ → Calls _ _ _ W _) → Calls _ _ _ _ _ from fun h => h _ rfl) ?_); intro W1 hW1
  have g1 : Gr w W1 := by rw [hW1]; exact gr_auto
  have k1_0 : W1.cell? ⟨w.heap.size, 0, none⟩ = some (.slice A n c) := by rw [hW1]; first | (simp [go_sem, *]; done) | (refine Gr.at ?_ (by assumption); exact gr_auto)
  have b1_0 : w.heap.size < W1.heap.size := World.block_lt_of_cell? _ _ k1_0
  have k1_1 : W1.cell? ⟨w.heap.size, 1, none⟩ = some (.slice A2 n2 c2) := by rw [hW1]; first | (simp [go_sem, *]; done) | (refine Gr.at ?_ (by assumption); exact gr_auto)
  have k1_2 : W1.cell? ⟨w.heap.size + 1, 0, none⟩ = some (.slice VA1 vn1 vc1) := by rw [hW1]; first | (simp [go_sem, *]; done) | (refine Gr.at ?_ (by assumption); exact gr_auto)
  have b1_2 : w.heap.size + 1 < W1.heap.size := World.block_lt_of_cell? _ _ k1_2
  have k1_3 : W1.cell? ⟨w.heap.size + 1, 1, none⟩ = some (.slice PA1 pn1 pc1) := by rw [hW1]; first | (simp [go_sem, *]; done) | (refine Gr.at ?_ (by assumption); exact gr_auto)
  have k1_4 : W1.cell? ⟨w.heap.size + 1, 2, none⟩ = some (.slice SA1 sn1 sc1) := by rw [hW1]; first | (simp [go_sem, *]; done) | (refine Gr.at ?_ (by assumption); exact gr_auto)
  have k1_5 : W1.cell? ⟨w.heap.size + 1, 3, none⟩ = some (.slice OA1 on1 oc1) := by rw [hW1]; first | (simp [go_sem, *]; done) | (refine Gr.at ?_ (by assumption); exact gr_auto)
  have k1_6 : W1.cell? ⟨w.heap.size + 2, 0, none⟩ = some (.slice VA2 vn2 vc2) := by rw [hW1]; first | (simp [go_sem, *]; done) | (refine Gr.at ?_ (by assumption); exact gr_auto)
  have b1_6 : w.heap.size + 2 < W1.heap.size := World.block_lt_of_cell? _ _ k1_6
  have k1_7 : W1.cell? ⟨w.heap.size + 2, 1, none⟩ = some (.slice PA2 pn2 pc2) := by rw [hW1]; first | (simp [go_sem, *]; done) | (refine Gr.at ?_ (by assumption); exact gr_auto)
  have k1_8 : W1.cell? ⟨w.heap.size + 2, 2, none⟩ = some (.slice SA2 sn2 sc2) := by rw [hW1]; first | (simp [go_sem, *]; done) | (refine Gr.at ?_ (by assumption); exact gr_auto)
  have k1_9 : W1.cell? ⟨w.heap.size + 2, 3, none⟩ = some (.slice OA2 on2 oc2) := by rw [hW1]; first | (simp [go_sem, *]; done) | (refine Gr.at ?_ (by assumption); exact gr_auto)
  have k1_10 : W1.cell? ⟨w.heap.size + 3, 0, none⟩ = some (.int .i64 inn) := by rw [hW1]; first | (simp [go_sem, *]; done) | (refine Gr.at ?_ (by assumption); exact gr_auto)
  have b1_10 : w.heap.size + 3 < W1.heap.size := World.block_lt_of_cell? _ _ k1_10
  have k1_11 : W1.cell? ⟨w.heap.size + 3, 1, none⟩ = some (.int .i64 out) := by rw [hW1]; first | (simp [go_sem, *]; done) | (refine Gr.at ?_ (by assumption); exact gr_auto)
  have k1_12 : W1.cell? ⟨w.heap.size + 3, 2, none⟩ = some (.slice GA gn gc) := by rw [hW1]; first | (simp [go_sem, *]; done) | (refine Gr.at ?_ (by assumption); exact gr_auto)
  clear hW1
  refine (HG.out _ g1).mono ?_
  rintro e w2 ⟨rfl, hb2⟩
  have g2 := g1.trans hb2
  have k1_0 := Gr.at (w1 := w2) gr_auto k1_0; have k1_1 := Gr.at (w1 := w2) gr_auto k1_1; have k1_2 := Gr.at (w1 := w2) gr_auto k1_2; have k1_3 := Gr.at (w1 := w2) gr_auto k1_3; have k1_4 := Gr.at (w1 := w2) gr_auto k1_4; have k1_5 := Gr.at (w1 := w2) gr_auto k1_5; have k1_6 := Gr.at (w1 := w2) gr_auto k1_6; have k1_7 := Gr.at (w1 := w2) gr_auto k1_7; have k1_8 := Gr.at (w1 := w2) gr_auto k1_8; have k1_9 := Gr.at (w1 := w2) gr_auto k1_9; have k1_10 := Gr.at (w1 := w2) gr_auto k1_10; have k1_11 := Gr.at (w1 := w2) gr_auto k1_11; have k1_12 := Gr.at (w1 := w2) gr_auto k1_12
  go_wp2_with fail
  refine (HS.out _ g2).mono ?_
  rintro e w3 ⟨s, rfl, hb3⟩
  have g3 := g2.trans hb3
  go_wp2_with fail
  go_ret2
  exact ⟨rfl, gr_auto⟩

set_option maxRecDepth 100000 in
set_option maxHeartbeats 4000000 in
theorem rpart_2 (A A2 VA1 PA1 SA1 OA1 VA2 PA2 SA2 OA2 GA IA : Option Addr) (n c n2 c2 vn1 vc1 pn1 pc1 sn1 sc1 on1 oc1 vn2 vc2 pn2 pc2 sn2 sc2 on2 oc2 gn gc m ic : Nat) (inn out : Int) (w : World) (TA : Option Addr) (tn tc : Nat) (re : Int) (M : Nat → Bool) (HG : Hid (∀ W, Gr w W → Calls Try.prog 14 #[.agg #[.slice A n c, .slice A2 n2 c2], .agg #[.slice VA1 vn1 vc1, .slice PA1 pn1 pc1, .slice SA1 sn1 sc1, .slice OA1 on1 oc1], .agg #[.slice VA2 vn2 vc2, .slice PA2 pn2 pc2, .slice SA2 sn2 sc2, .slice OA2 on2 oc2], .slice IA m ic, .agg #[.int .i64 inn, .int .i64 out, .slice GA gn gc]] W fun e w' => e = .returned (.int .i64 0) ∧ Gr W w')) (HS : Hid (∀ W, Gr w W → Calls Try.prog 42 #[.agg #[.slice A n c, .slice A2 n2 c2], .slice TA tn tc] W fun e w' => ∃ s : Ba.SlB, e = .returned (.tuple #[.slice s.A s.n s.c, .int .i64 0]) ∧ (s.n = n ∧ s.At w' ∧ s.X = M) ∧ Gr W w')) (HOF : Hid (∀ (s : Ba.SlB) W, Gr w W → s.At W → s.n = n → s.X = M → Calls Try.prog 43 #[.agg #[.slice A n c, .slice A2 n2 c2], .slice s.A s.n s.c, .agg #[.slice VA1 vn1 vc1, .slice PA1 pn1 pc1, .slice SA1 sn1 sc1, .slice OA1 on1 oc1], .agg #[.slice VA2 vn2 vc2, .slice PA2 pn2 pc2, .slice SA2 sn2 sc2, .slice OA2 on2 oc2], .slice IA m ic, .slice GA gn gc] W fun e w' => e = .returned (.int .i64 re) ∧ Gr W w')) : Calls Try.prog 13 #[.agg #[.slice A n c, .slice A2 n2 c2], .slice TA tn tc, .agg #[.slice VA1 vn1 vc1, .slice PA1 pn1 pc1, .slice SA1 sn1 sc1, .slice OA1 on1 oc1], .agg #[.slice VA2 vn2 vc2, .slice PA2 pn2 pc2, .slice SA2 sn2 sc2, .slice OA2 on2 oc2], .slice IA m ic, .agg #[.int .i64 inn, .int .i64 out, .slice GA gn gc]] w fun e w' => e = .returned (.tuple #[.int .i64 re, .int .i64 0]) ∧ Gr w w' := by
  go_enter Try.func13, Try.ntmps13
  go_wp2_with fail
  (first | refine name_world ?_ | refine (show (∀ W, W = _ → Calls _ _ _ W _) → Calls _ _ _ _ _ from fun h => h _ rfl) ?_); intro W1 hW1
  have g1 : Gr w W1 := by rw [hW1]; exact gr_auto
  have k1_0 : W1.cell? ⟨w.heap.size, 0, none⟩ = some (.slice A n c) := by rw [hW1]; first | (simp [go_sem, *]; done) | (refine Gr.at ?_ (by assumption); exact gr_auto)
  have b1_0 : w.heap.size < W1.heap.size := World.block_lt_of_cell? _ _ k1_0
  have k1_1 : W1.cell? ⟨w.heap.size, 1, none⟩ = some (.slice A2 n2 c2) := by rw [hW1]; first | (simp [go_sem, *]; done) | (refine Gr.at ?_ (by assumption); exact gr_auto)
  have k1_2 : W1.cell? ⟨w.heap.size + 1, 0, none⟩ = some (.slice VA1 vn1 vc1) := by rw [hW1]; first | (simp [go_sem, *]; done) | (refine Gr.at ?_ (by assumption); exact gr_auto)
  have b1_2 : w.heap.size + 1 < W1.heap.size := World.block_lt_of_cell? _ _ k1_2
  have k1_3 : W1.cell? ⟨w.heap.size + 1, 1, none⟩ = some (.slice PA1 pn1 pc1) := by rw [hW1]; first | (simp [go_sem, *]; done) | (refine Gr.at ?_ (by assumption); exact gr_auto)
  have k1_4 : W1.cell? ⟨w.heap.size + 1, 2, none⟩ = some (.slice SA1 sn1 sc1) := by rw [hW1]; first | (simp [go_sem, *]; done) | (refine Gr.at ?_ (by assumption); exact gr_auto)
  have k1_5 : W1.cell? ⟨w.heap.size + 1, 3, none⟩ = some (.slice OA1 on1 oc1) := by rw [hW1]; first | (simp [go_sem, *]; done) | (refine Gr.at ?_ (by assumption); exact gr_auto)
  have k1_6 : W1.cell? ⟨w.heap.size + 2, 0, none⟩ = some (.slice VA2 vn2 vc2) := by rw [hW1]; first | (simp [go_sem, *]; done) | (refine Gr.at ?_ (by assumption); exact gr_auto)
  have b1_6 : w.heap.size + 2 < W1.heap.size := World.block_lt_of_cell? _ _ k1_6
  have k1_7 : W1.cell? ⟨w.heap.size + 2, 1, none⟩ = some (.slice PA2 pn2 pc2) := by rw [hW1]; first | (simp [go_sem, *]; done) | (refine Gr.at ?_ (by assumption); exact gr_auto)
  have k1_8 : W1.cell? ⟨w.heap.size + 2, 2, none⟩ = some (.slice SA2 sn2 sc2) := by rw [hW1]; first | (simp [go_sem, *]; done) | (refine Gr.at ?_ (by assumption); exact gr_auto)
  have k1_9 : W1.cell? ⟨w.heap.size + 2, 3, none⟩ = some (.slice OA2 on2 oc2) := by rw [hW1]; first | (simp [go_sem, *]; done) | (refine Gr.at ?_ (by assumption); exact gr_auto)
  have k1_10 : W1.cell? ⟨w.heap.size + 3, 0, none⟩ = some (.int .i64 inn) := by rw [hW1]; first | (simp [go_sem, *]; done) | (refine Gr.at ?_ (by assumption); exact gr_auto)
  have b1_10 : w.heap.size + 3 < W1.heap.size := World.block_lt_of_cell? _ _ k1_10
  have k1_11 : W1.cell? ⟨w.heap.size + 3, 1, none⟩ = some (.int .i64 out) := by rw [hW1]; first | (simp [go_sem, *]; done) | (refine Gr.at ?_ (by assumption); exact gr_auto)
  have k1_12 : W1.cell? ⟨w.heap.size + 3, 2, none⟩ = some (.slice GA gn gc) := by rw [hW1]; first | (simp [go_sem, *]; done) | (refine Gr.at ?_ (by assumption); exact gr_auto)
  clear hW1
  refine (HG.out _ g1).mono ?_
  rintro e w2 ⟨rfl, hb2⟩
  have g2 := g1.trans hb2
  have k1_0 := Gr.at (w1 := w2) gr_auto k1_0; have k1_1 := Gr.at (w1 := w2) gr_auto k1_1; have k1_2 := Gr.at (w1 := w2) gr_auto k1_2; have k1_3 := Gr.at (w1 := w2) gr_auto k1_3; have k1_4 := Gr.at (w1 := w2) gr_auto k1_4; have k1_5 := Gr.at (w1 := w2) gr_auto k1_5; have k1_6 := Gr.at (w1 := w2) gr_auto k1_6; have k1_7 := Gr.at (w1 := w2) gr_auto k1_7; have k1_8 := Gr.at (w1 := w2) gr_auto k1_8; have k1_9 := Gr.at (w1 := w2) gr_auto k1_9; have k1_10 := Gr.at (w1 := w2) gr_auto k1_10; have k1_11 := Gr.at (w1 := w2) gr_auto k1_11; have k1_12 := Gr.at (w1 := w2) gr_auto k1_12
  go_wp2_with fail
  refine (HS.out _ g2).mono ?_
  rintro e w3 ⟨s, rfl, hs, hb3⟩
  have g3 := g2.trans hb3
  have hsn := Lib.hid hs.1; have hsat := Lib.hid hs.2.1; have hsx := Lib.hid hs.2.2
  clear hs
  have k1_0 := Gr.at (w1 := w3) gr_auto k1_0; have k1_1 := Gr.at (w1 := w3) gr_auto k1_1; have k1_2 := Gr.at (w1 := w3) gr_auto k1_2; have k1_3 := Gr.at (w1 := w3) gr_auto k1_3; have k1_4 := Gr.at (w1 := w3) gr_auto k1_4; have k1_5 := Gr.at (w1 := w3) gr_auto k1_5; have k1_6 := Gr.at (w1 := w3) gr_auto k1_6; have k1_7 := Gr.at (w1 := w3) gr_auto k1_7; have k1_8 := Gr.at (w1 := w3) gr_auto k1_8; have k1_9 := Gr.at (w1 := w3) gr_auto k1_9; have k1_10 := Gr.at (w1 := w3) gr_auto k1_10; have k1_11 := Gr.at (w1 := w3) gr_auto k1_11; have k1_12 := Gr.at (w1 := w3) gr_auto k1_12
  go_wp2_with fail
  refine (HOF.out s _ g3 hsat.out hsn.out hsx.out).mono ?_
  rintro e w4 ⟨rfl, hb4⟩
  have g4 := g3.trans hb4
  go_wp2_with fail
  go_ret2
  exact ⟨rfl, gr_auto⟩

theorem rpart_any (N : Ba.SlNode) (L : Ba.SlLink) (s1 s2 : Ba.State) (I : Ba.SlI) (g : Ba.Ledger) (w : World) (hN : N.At w) (hL : L.At w) (h1 : s1.Ok w) (h2 : s2.Ok w) (hI : I.At w) (hg : g.Ok w) (T : Ba.SlS) (hT : T.At w) (hn12 : N.n ≤ 12) (hl20 : L.n ≤ 20) (ht : T.n ≤ 1000) : Calls Try.prog 13 #[Ba.netVal N L, .slice T.A T.n T.c, s1.val, s2.val, .slice I.A I.n I.c, g.val] w fun e w' => e = .returned (.tuple #[.int .i64 (Ba.partR N L s1 s2 I g T), .int .i64 (Ba.partE N L s1 s2 I g T)]) ∧ Gr w w' := by
  have HG := Lib.hid (fun W (hh : Gr w W) => rgiven_any N L s1 s2 I g W (hN.gr hh) (hL.gr hh) (h1.gr hh) (h2.gr hh) (hI.gr hh) (hg.gr hh))
  have HS := Lib.hid (fun W (hh : Gr w W) => rset_any N L T W (hN.gr hh) (hL.gr hh) (hT.gr hh) hn12 ht)
  unfold Ba.partR Ba.partE
  by_cases he : Ba.givE N L s1 s2 I g = 0
  rotate_left
  · rw [if_neg he, if_neg he]
    exact rpart_0 (N.A) (L.A) (s1.vs.A) (s1.ps.A) (s1.st.A) (s1.on.A) (s2.vs.A) (s2.ps.A) (s2.st.A) (s2.on.A) (g.ps.A) (I.A) (N.n) (N.c) (L.n) (L.c) (s1.vs.n) (s1.vs.c) (s1.ps.n) (s1.ps.c) (s1.st.n) (s1.st.c) (s1.on.n) (s1.on.c) (s2.vs.n) (s2.vs.c) (s2.ps.n) (s2.ps.c) (s2.st.n) (s2.st.c) (s2.on.n) (s2.on.c) (g.ps.n) (g.ps.c) (I.n) (I.c) (g.inn) (g.out) (w) T.A T.n T.c _ he HG
  rw [if_pos he, if_pos he]
  rw [he] at HG
  by_cases hs : Ba.setE N T = 0
  rotate_left
  · rw [if_neg hs]
    exact rpart_1 (N.A) (L.A) (s1.vs.A) (s1.ps.A) (s1.st.A) (s1.on.A) (s2.vs.A) (s2.ps.A) (s2.st.A) (s2.on.A) (g.ps.A) (I.A) (N.n) (N.c) (L.n) (L.c) (s1.vs.n) (s1.vs.c) (s1.ps.n) (s1.ps.c) (s1.st.n) (s1.st.c) (s1.on.n) (s1.on.c) (s2.vs.n) (s2.vs.c) (s2.ps.n) (s2.ps.c) (s2.st.n) (s2.st.c) (s2.on.n) (s2.on.c) (g.ps.n) (g.ps.c) (I.n) (I.c) (g.inn) (g.out) (w) T.A T.n T.c _ hs HG (Lib.hid (fun W hh => (HS.out W hh).mono fun e w' ⟨s, h1, _, h3⟩ => ⟨s, h1, h3⟩))
  rw [if_pos hs]
  rw [hs]
  have F := Ba.fine_of he hn12 hl20
  have hk : Ba.knoB N T = true := by
    cases hq : Ba.knoB N T
    · unfold Ba.setE at hs; rw [if_pos hq] at hs; omega
    · rfl
  exact rpart_2 (N.A) (L.A) (s1.vs.A) (s1.ps.A) (s1.st.A) (s1.on.A) (s2.vs.A) (s2.ps.A) (s2.st.A) (s2.on.A) (g.ps.A) (I.A) (N.n) (N.c) (L.n) (L.c) (s1.vs.n) (s1.vs.c) (s1.ps.n) (s1.ps.c) (s1.st.n) (s1.st.c) (s1.on.n) (s1.on.c) (s2.vs.n) (s2.vs.c) (s2.ps.n) (s2.ps.c) (s2.st.n) (s2.st.c) (s2.on.n) (s2.on.c) (g.ps.n) (g.ps.c) (I.n) (I.c) (g.inn) (g.out) (w) T.A T.n T.c _ (Ba.setX (Ba.ixs N T) T.n) HG (Lib.hid (fun W hh => (HS.out W hh).mono fun e w' ⟨s, q1, q2, q3⟩ => ⟨s, by rw [q1, hs], q2 hk, q3⟩))
    (Lib.hid (fun s W hh hs hn hx => show Calls Try.prog 43 #[Ba.netVal N L, .slice s.A s.n s.c, s1.val, s2.val, .slice I.A I.n I.c, .slice g.ps.A g.ps.n g.ps.c] W fun e w' => e = .returned (.int .i64 (Ba.resI N L (Ba.setX (Ba.ixs N T) T.n) s1 s2 I g.ps)) ∧ Gr W w' from hx ▸ rof_any N L s1 s2 I g.ps s W F (hN.gr hh) (hL.gr hh) (hI.gr hh) (hg.2.2.gr hh) hs hn (h1.gr hh) (h2.gr hh)))

set_option maxRecDepth 100000 in
set_option maxHeartbeats 4000000 in
theorem part_0 (A A2 VA1 PA1 SA1 OA1 VA2 PA2 SA2 OA2 GA IA : Option Addr) (n c n2 c2 vn1 vc1 pn1 pc1 sn1 sc1 on1 oc1 vn2 vc2 pn2 pc2 sn2 sc2 on2 oc2 gn gc m ic : Nat) (inn out : Int) (w : World) (TA : Option Addr) (tn tc : Nat) (ec : Int) (hec : ec ≠ 0) (HG : Hid (∀ W, Gr w W → Calls Try.prog 33 #[.agg #[.slice A n c, .slice A2 n2 c2], .agg #[.slice VA1 vn1 vc1, .slice PA1 pn1 pc1, .slice SA1 sn1 sc1, .slice OA1 on1 oc1], .agg #[.slice VA2 vn2 vc2, .slice PA2 pn2 pc2, .slice SA2 sn2 sc2, .slice OA2 on2 oc2], .slice IA m ic, .agg #[.int .i64 inn, .int .i64 out, .slice GA gn gc]] W fun e w' => e = .returned (.int .i64 ec) ∧ Gr W w')) : Calls Try.prog 12 #[.agg #[.slice A n c, .slice A2 n2 c2], .slice TA tn tc, .agg #[.slice VA1 vn1 vc1, .slice PA1 pn1 pc1, .slice SA1 sn1 sc1, .slice OA1 on1 oc1], .agg #[.slice VA2 vn2 vc2, .slice PA2 pn2 pc2, .slice SA2 sn2 sc2, .slice OA2 on2 oc2], .slice IA m ic, .agg #[.int .i64 inn, .int .i64 out, .slice GA gn gc]] w fun e w' => e = .returned (.tuple #[.int .i64 0, .int .i64 ec]) ∧ Gr w w' := by
  have t0 : (ec != 0) = true := Ba.bne_of' hec
  clear hec
  go_enter Try.func12, Try.ntmps12
  go_wp2_with fail
  (first | refine name_world ?_ | refine (show (∀ W, W = _ → Calls _ _ _ W _) → Calls _ _ _ _ _ from fun h => h _ rfl) ?_); intro W1 hW1
  have g1 : Gr w W1 := by rw [hW1]; exact gr_auto
  have k1_0 : W1.cell? ⟨w.heap.size, 0, none⟩ = some (.slice A n c) := by rw [hW1]; first | (simp [go_sem, *]; done) | (refine Gr.at ?_ (by assumption); exact gr_auto)
  have b1_0 : w.heap.size < W1.heap.size := World.block_lt_of_cell? _ _ k1_0
  have k1_1 : W1.cell? ⟨w.heap.size, 1, none⟩ = some (.slice A2 n2 c2) := by rw [hW1]; first | (simp [go_sem, *]; done) | (refine Gr.at ?_ (by assumption); exact gr_auto)
  have k1_2 : W1.cell? ⟨w.heap.size + 1, 0, none⟩ = some (.slice VA1 vn1 vc1) := by rw [hW1]; first | (simp [go_sem, *]; done) | (refine Gr.at ?_ (by assumption); exact gr_auto)
  have b1_2 : w.heap.size + 1 < W1.heap.size := World.block_lt_of_cell? _ _ k1_2
  have k1_3 : W1.cell? ⟨w.heap.size + 1, 1, none⟩ = some (.slice PA1 pn1 pc1) := by rw [hW1]; first | (simp [go_sem, *]; done) | (refine Gr.at ?_ (by assumption); exact gr_auto)
  have k1_4 : W1.cell? ⟨w.heap.size + 1, 2, none⟩ = some (.slice SA1 sn1 sc1) := by rw [hW1]; first | (simp [go_sem, *]; done) | (refine Gr.at ?_ (by assumption); exact gr_auto)
  have k1_5 : W1.cell? ⟨w.heap.size + 1, 3, none⟩ = some (.slice OA1 on1 oc1) := by rw [hW1]; first | (simp [go_sem, *]; done) | (refine Gr.at ?_ (by assumption); exact gr_auto)
  have k1_6 : W1.cell? ⟨w.heap.size + 2, 0, none⟩ = some (.slice VA2 vn2 vc2) := by rw [hW1]; first | (simp [go_sem, *]; done) | (refine Gr.at ?_ (by assumption); exact gr_auto)
  have b1_6 : w.heap.size + 2 < W1.heap.size := World.block_lt_of_cell? _ _ k1_6
  have k1_7 : W1.cell? ⟨w.heap.size + 2, 1, none⟩ = some (.slice PA2 pn2 pc2) := by rw [hW1]; first | (simp [go_sem, *]; done) | (refine Gr.at ?_ (by assumption); exact gr_auto)
  have k1_8 : W1.cell? ⟨w.heap.size + 2, 2, none⟩ = some (.slice SA2 sn2 sc2) := by rw [hW1]; first | (simp [go_sem, *]; done) | (refine Gr.at ?_ (by assumption); exact gr_auto)
  have k1_9 : W1.cell? ⟨w.heap.size + 2, 3, none⟩ = some (.slice OA2 on2 oc2) := by rw [hW1]; first | (simp [go_sem, *]; done) | (refine Gr.at ?_ (by assumption); exact gr_auto)
  have k1_10 : W1.cell? ⟨w.heap.size + 3, 0, none⟩ = some (.int .i64 inn) := by rw [hW1]; first | (simp [go_sem, *]; done) | (refine Gr.at ?_ (by assumption); exact gr_auto)
  have b1_10 : w.heap.size + 3 < W1.heap.size := World.block_lt_of_cell? _ _ k1_10
  have k1_11 : W1.cell? ⟨w.heap.size + 3, 1, none⟩ = some (.int .i64 out) := by rw [hW1]; first | (simp [go_sem, *]; done) | (refine Gr.at ?_ (by assumption); exact gr_auto)
  have k1_12 : W1.cell? ⟨w.heap.size + 3, 2, none⟩ = some (.slice GA gn gc) := by rw [hW1]; first | (simp [go_sem, *]; done) | (refine Gr.at ?_ (by assumption); exact gr_auto)
  clear hW1
  refine (HG.out _ g1).mono ?_
  rintro e w2 ⟨rfl, hb2⟩
  have g2 := g1.trans hb2
  have k1_0 := Gr.at (w1 := w2) gr_auto k1_0; have k1_1 := Gr.at (w1 := w2) gr_auto k1_1; have k1_2 := Gr.at (w1 := w2) gr_auto k1_2; have k1_3 := Gr.at (w1 := w2) gr_auto k1_3; have k1_4 := Gr.at (w1 := w2) gr_auto k1_4; have k1_5 := Gr.at (w1 := w2) gr_auto k1_5; have k1_6 := Gr.at (w1 := w2) gr_auto k1_6; have k1_7 := Gr.at (w1 := w2) gr_auto k1_7; have k1_8 := Gr.at (w1 := w2) gr_auto k1_8; have k1_9 := Gr.at (w1 := w2) gr_auto k1_9; have k1_10 := Gr.at (w1 := w2) gr_auto k1_10; have k1_11 := Gr.at (w1 := w2) gr_auto k1_11; have k1_12 := Gr.at (w1 := w2) gr_auto k1_12
  go_wp2_with fail
  go_ret2
  exact ⟨rfl, gr_auto⟩

set_option maxRecDepth 100000 in
set_option maxHeartbeats 4000000 in
theorem part_1 (A A2 VA1 PA1 SA1 OA1 VA2 PA2 SA2 OA2 GA IA : Option Addr) (n c n2 c2 vn1 vc1 pn1 pc1 sn1 sc1 on1 oc1 vn2 vc2 pn2 pc2 sn2 sc2 on2 oc2 gn gc m ic : Nat) (inn out : Int) (w : World) (TA : Option Addr) (tn tc : Nat) (tb tO : Nat) (X : Nat → ByteArray) (ix : Nat → Int) (re lo : Int) (hn : n ≤ 12) (ht : tn ≤ 1000) (HG : Hid (∀ W, Gr w W → Calls Try.prog 33 #[.agg #[.slice A n c, .slice A2 n2 c2], .agg #[.slice VA1 vn1 vc1, .slice PA1 pn1 pc1, .slice SA1 sn1 sc1, .slice OA1 on1 oc1], .agg #[.slice VA2 vn2 vc2, .slice PA2 pn2 pc2, .slice SA2 sn2 sc2, .slice OA2 on2 oc2], .slice IA m ic, .agg #[.int .i64 inn, .int .i64 out, .slice GA gn gc]] W fun e w' => e = .returned (.int .i64 0) ∧ Gr W w')) (TA0 : Hid (0 < tn → TA = some ⟨tb, tO, none⟩)) (TX : Hid (∀ i, i < tn → w.cell? ⟨tb, tO + i, none⟩ = some (.string (X i)) ∧ (X i).size ≤ 9223372036854775807))
    (HC : Hid (∀ k, ix k < 0 ∨ ∃ j : Nat, ix k = (j : Int) ∧ j < n)) (HNn : Hid (∀ k, k < tn → ∀ W, Gr w W → ix k < 0 → Calls Try.prog 41 #[.agg #[.slice A n c, .slice A2 n2 c2], .string (X k)] W fun e w' => e = .returned (.tuple #[.int .i64 0, .int .i64 9]) ∧ Gr W w')) (HNp : Hid (∀ k, k < tn → ∀ (j : Nat) W, Gr w W → ix k = (j : Int) → Calls Try.prog 41 #[.agg #[.slice A n c, .slice A2 n2 c2], .string (X k)] W fun e w' => e = .returned (.tuple #[.int .i64 (j : Int), .int .i64 0]) ∧ Gr W w'))
    (HOF : Hid (∀ (s : Ba.SlB) W, Gr w W → s.At W → s.n = n → s.X = Ba.setX ix tn → Calls Try.prog 34 #[.agg #[.slice A n c, .slice A2 n2 c2], .slice s.A s.n s.c, .agg #[.slice VA1 vn1 vc1, .slice PA1 pn1 pc1, .slice SA1 sn1 sc1, .slice OA1 on1 oc1], .agg #[.slice VA2 vn2 vc2, .slice PA2 pn2 pc2, .slice SA2 sn2 sc2, .slice OA2 on2 oc2], .slice IA m ic, .slice GA gn gc] W fun e w' => e = .returned (.agg #[.int .i64 re, .int .i64 lo]) ∧ Gr W w')) : Calls Try.prog 12 #[.agg #[.slice A n c, .slice A2 n2 c2], .slice TA tn tc, .agg #[.slice VA1 vn1 vc1, .slice PA1 pn1 pc1, .slice SA1 sn1 sc1, .slice OA1 on1 oc1], .agg #[.slice VA2 vn2 vc2, .slice PA2 pn2 pc2, .slice SA2 sn2 sc2, .slice OA2 on2 oc2], .slice IA m ic, .agg #[.int .i64 inn, .int .i64 out, .slice GA gn gc]] w (PartW re ix tn w) := by
  obtain ⟨i0, hi0, hz0, hz1, hz2⟩ := info_parts info_bool'
  have HI := Lib.hid hi0; have HZ0 := Lib.hid hz0; have HZ1 := Lib.hid hz1; have HZ2 := Lib.hid hz2
  clear hi0 hz0 hz1 hz2
  go_enter Try.func12, Try.ntmps12
  go_wp2_with fail
  (first | refine name_world ?_ | refine (show (∀ W, W = _ → Calls _ _ _ W _) → Calls _ _ _ _ _ from fun h => h _ rfl) ?_); intro W1 hW1
  have g1 : Gr w W1 := by rw [hW1]; exact gr_auto
  have k1_0 : W1.cell? ⟨w.heap.size, 0, none⟩ = some (.slice A n c) := by rw [hW1]; first | (simp [go_sem, *]; done) | (refine Gr.at ?_ (by assumption); exact gr_auto)
  have b1_0 : w.heap.size < W1.heap.size := World.block_lt_of_cell? _ _ k1_0
  have k1_1 : W1.cell? ⟨w.heap.size, 1, none⟩ = some (.slice A2 n2 c2) := by rw [hW1]; first | (simp [go_sem, *]; done) | (refine Gr.at ?_ (by assumption); exact gr_auto)
  have k1_2 : W1.cell? ⟨w.heap.size + 1, 0, none⟩ = some (.slice VA1 vn1 vc1) := by rw [hW1]; first | (simp [go_sem, *]; done) | (refine Gr.at ?_ (by assumption); exact gr_auto)
  have b1_2 : w.heap.size + 1 < W1.heap.size := World.block_lt_of_cell? _ _ k1_2
  have k1_3 : W1.cell? ⟨w.heap.size + 1, 1, none⟩ = some (.slice PA1 pn1 pc1) := by rw [hW1]; first | (simp [go_sem, *]; done) | (refine Gr.at ?_ (by assumption); exact gr_auto)
  have k1_4 : W1.cell? ⟨w.heap.size + 1, 2, none⟩ = some (.slice SA1 sn1 sc1) := by rw [hW1]; first | (simp [go_sem, *]; done) | (refine Gr.at ?_ (by assumption); exact gr_auto)
  have k1_5 : W1.cell? ⟨w.heap.size + 1, 3, none⟩ = some (.slice OA1 on1 oc1) := by rw [hW1]; first | (simp [go_sem, *]; done) | (refine Gr.at ?_ (by assumption); exact gr_auto)
  have k1_6 : W1.cell? ⟨w.heap.size + 2, 0, none⟩ = some (.slice VA2 vn2 vc2) := by rw [hW1]; first | (simp [go_sem, *]; done) | (refine Gr.at ?_ (by assumption); exact gr_auto)
  have b1_6 : w.heap.size + 2 < W1.heap.size := World.block_lt_of_cell? _ _ k1_6
  have k1_7 : W1.cell? ⟨w.heap.size + 2, 1, none⟩ = some (.slice PA2 pn2 pc2) := by rw [hW1]; first | (simp [go_sem, *]; done) | (refine Gr.at ?_ (by assumption); exact gr_auto)
  have k1_8 : W1.cell? ⟨w.heap.size + 2, 2, none⟩ = some (.slice SA2 sn2 sc2) := by rw [hW1]; first | (simp [go_sem, *]; done) | (refine Gr.at ?_ (by assumption); exact gr_auto)
  have k1_9 : W1.cell? ⟨w.heap.size + 2, 3, none⟩ = some (.slice OA2 on2 oc2) := by rw [hW1]; first | (simp [go_sem, *]; done) | (refine Gr.at ?_ (by assumption); exact gr_auto)
  have k1_10 : W1.cell? ⟨w.heap.size + 3, 0, none⟩ = some (.int .i64 inn) := by rw [hW1]; first | (simp [go_sem, *]; done) | (refine Gr.at ?_ (by assumption); exact gr_auto)
  have b1_10 : w.heap.size + 3 < W1.heap.size := World.block_lt_of_cell? _ _ k1_10
  have k1_11 : W1.cell? ⟨w.heap.size + 3, 1, none⟩ = some (.int .i64 out) := by rw [hW1]; first | (simp [go_sem, *]; done) | (refine Gr.at ?_ (by assumption); exact gr_auto)
  have k1_12 : W1.cell? ⟨w.heap.size + 3, 2, none⟩ = some (.slice GA gn gc) := by rw [hW1]; first | (simp [go_sem, *]; done) | (refine Gr.at ?_ (by assumption); exact gr_auto)
  clear hW1
  refine (HG.out _ g1).mono ?_
  rintro e w2 ⟨rfl, hb2⟩
  have g2 := g1.trans hb2
  have k1_0 := Gr.at (w1 := w2) gr_auto k1_0; have k1_1 := Gr.at (w1 := w2) gr_auto k1_1; have k1_2 := Gr.at (w1 := w2) gr_auto k1_2; have k1_3 := Gr.at (w1 := w2) gr_auto k1_3; have k1_4 := Gr.at (w1 := w2) gr_auto k1_4; have k1_5 := Gr.at (w1 := w2) gr_auto k1_5; have k1_6 := Gr.at (w1 := w2) gr_auto k1_6; have k1_7 := Gr.at (w1 := w2) gr_auto k1_7; have k1_8 := Gr.at (w1 := w2) gr_auto k1_8; have k1_9 := Gr.at (w1 := w2) gr_auto k1_9; have k1_10 := Gr.at (w1 := w2) gr_auto k1_10; have k1_11 := Gr.at (w1 := w2) gr_auto k1_11; have k1_12 := Gr.at (w1 := w2) gr_auto k1_12
  go_wp2_with (at_make; refine wpList_make_full _ rfl _ _ _ rfl w.heap.size 4 i0 (.bool false) 1 Try.underlying27 HI.out HZ0.out HZ1.out .i64 .i64 n n n rfl rfl rfl rfl ?d1 ?d2 ?d3 ?_)
  case d1 => rw [HZ2.out]; omega
  case d2 => unfold maxLen; omega
  case d3 => exact Gr.size g2
  intro w3 hown hgrow
  obtain ⟨R, hR⟩ : ∃ R, R = w2.heap.size := ⟨_, rfl⟩
  have hR0 := Gr.size g2
  rw [← hR] at hown hR0
  have hrow := Lib.hid (made_row hown)
  have G2 := Gr.own (Gr.refl _) (Nat.le_refl _) (n := 0) (e := 4) (size := 1) (xs := []) (v := .slice none 0 0) ⟨rfl, Or.inl ⟨rfl, rfl⟩⟩ hgrow
  have g3 := g2.trans G2
  have b1 : w.heap.size + 3 < R := by rw [hR]; exact World.block_lt_of_cell? _ _ k1_10
  have k1_0 := Gr.at (w1 := w3) gr_auto k1_0; have k1_1 := Gr.at (w1 := w3) gr_auto k1_1; have k1_2 := Gr.at (w1 := w3) gr_auto k1_2; have k1_3 := Gr.at (w1 := w3) gr_auto k1_3; have k1_4 := Gr.at (w1 := w3) gr_auto k1_4; have k1_5 := Gr.at (w1 := w3) gr_auto k1_5; have k1_6 := Gr.at (w1 := w3) gr_auto k1_6; have k1_7 := Gr.at (w1 := w3) gr_auto k1_7; have k1_8 := Gr.at (w1 := w3) gr_auto k1_8; have k1_9 := Gr.at (w1 := w3) gr_auto k1_9; have k1_10 := Gr.at (w1 := w3) gr_auto k1_10; have k1_11 := Gr.at (w1 := w3) gr_auto k1_11; have k1_12 := Gr.at (w1 := w3) gr_auto k1_12
  clear hown hgrow G2
  rw [← hR]
  clear hR
  go_wp2_with fail
  go_loopw [16, 36] (fun t q wr => ∃ i : Nat, i ≤ tn ∧ q = .int .i64 (i : Int) ∧ t = .bool (Ba.twB ix i) ∧ Hid (Ba.allB (fun k => decide (0 ≤ ix k)) i = true) ∧ GrX R w3 wr ∧ Hid (Row wr R n (fun j => .bool (Ba.setX ix i j)))) (fun _ q _ => tn - (intOf q).toNat)
  case atStart => exact ⟨0, Nat.zero_le _, rfl, rfl, Lib.hid rfl, GrX.refl _ _, Lib.hid hrow.out⟩
  case round =>
    obtain ⟨i, hi, rfl, rfl, HK, hg, HR⟩ := hrel
    have hgr : Gr w wr := GrX.gr g3 (by omega) hg
    have k1_0 := GrX.at hg (by omega) k1_0; have k1_1 := GrX.at hg (by omega) k1_1; have k1_2 := GrX.at hg (by omega) k1_2; have k1_3 := GrX.at hg (by omega) k1_3; have k1_4 := GrX.at hg (by omega) k1_4; have k1_5 := GrX.at hg (by omega) k1_5; have k1_6 := GrX.at hg (by omega) k1_6; have k1_7 := GrX.at hg (by omega) k1_7; have k1_8 := GrX.at hg (by omega) k1_8; have k1_9 := GrX.at hg (by omega) k1_9; have k1_10 := GrX.at hg (by omega) k1_10; have k1_11 := GrX.at hg (by omega) k1_11; have k1_12 := GrX.at hg (by omega) k1_12
    clear hrow
    by_cases hlt : i < tn
    · obtain rfl := TA0.out (by omega)
      have a0 := Gr.at hgr (TX.out i hlt).1
      have ib0 : (0 : Int) ≤ (i : Int) := by omega
      have ib1 : (i : Int) < (tn : Int) := by omega
      rcases HC.out i with hneg | ⟨k, hk, hkn⟩
      · have HP := Lib.hid (Ba.knoB_no hlt hneg)
        have HE := Lib.hid (show Ba.setEw ix tn = 9 by unfold Ba.setEw; rw [if_pos HP.out])
        have HNi := Lib.hid (fun W hW => HNn.out i hlt W hW hneg)
        clear HNn HNp HOF HC TX hneg HR HK HP
        go_wp2_with fail
        refine (HNi.out _ (by first | exact hgr | exact gr_auto)).mono ?_
        rintro e w4 ⟨rfl, hb4⟩
        have g4 := hgr.trans hb4
        go_wp2_with fail
        go_ret2
        unfold PartW
        exact ⟨by (rw [HE.out]; try rfl), g4⟩
      · have HT := Lib.hid (show Ba.twB ix (i + 1) = (Ba.twB ix i || Ba.setX ix i k) by rw [Ba.twB, hk]; rfl)
        have HK2 := Lib.hid (Ba.knoB_go HK.out (show 0 ≤ ix i by omega))
        have HY1 := Lib.hid (show Ba.setX ix (i + 1) k = true by rw [Ba.setX, if_pos hk])
        have HY2 := Lib.hid (fun (j : Nat) (hj : j ≠ k) => show Ba.setX ix (i + 1) j = Ba.setX ix i j by rw [Ba.setX, if_neg (by omega)])
        have HNi := Lib.hid (fun W hW => HNp.out i hlt k W hW hk)
        clear HNn HNp HOF HC TX HK hk
        have kb0 : (0 : Int) ≤ (k : Int) := by omega
        have kb1 : (k : Int) < (n : Int) := by omega
        go_wp2_with fail
        refine (HNi.out _ (by first | exact hgr | exact gr_auto)).mono ?_
        rintro e w4 ⟨rfl, gq⟩
        have HR4 := Lib.hid (HR.out.gr gq)
        obtain ⟨r1, r2⟩ := HR4.out k hkn
        have hg4 := GrX.grown hg gq
        clear HR
        generalize Ba.twB ix i = tw at *
        cases tw
        all_goals
          go_wp2_with fail
          go_roundw
          case rel => exact ⟨i + 1, by omega, by go_num, by (rw [HT.out]; try rfl), HK2, GrX.setCell hg4 rfl _, Lib.hid (Row.set HR4.out (by show Value.bool _ = _; rw [HY1.out]) (fun j _ hj => by show Value.bool _ = Value.bool _; rw [HY2.out j hj]))⟩
          case measure => simp [intOf]; omega
    · obtain rfl : i = tn := by omega
      have HKo := HK.out
      have HP := Lib.hid (show ¬ Ba.allB (fun k => decide (0 ≤ ix k)) i = false by rw [HKo]; decide)
      clear HKo
      have HS := Lib.hid (show Ba.SlB.At wr ⟨some ⟨R, 0, none⟩, n, n, R, 0, Ba.setX ix i⟩ from ⟨fun _ => rfl, by simp, by simp only; omega, fun j hj => by simp only [Nat.zero_add]; exact (HR.out j hj).1⟩)
      have HOi := Lib.hid (HOF.out ⟨some ⟨R, 0, none⟩, n, n, R, 0, Ba.setX ix i⟩ wr hgr HS.out rfl rfl)
      clear HOF HNn HNp HC TX HK HR HS
      cases hq : Ba.twB ix i
      · have HE := Lib.hid (show Ba.setEw ix i = 0 by unfold Ba.setEw; rw [if_neg HP.out, hq, if_neg (by decide)])
        have hfd : ∀ w : World, (Instr.field 86 (.agg #[.int .i64 re, .int .i64 lo]) 0).run Try.prog w = .ok (.int .i64 re) w := fun _ => by kernel_rfl
        go_wp2_with fail
        refine HOi.out.mono ?_
        rintro e w4 ⟨rfl, hb4⟩
        have g4 := hgr.trans hb4
        go_wp2_with fail
        go_ret2
        unfold PartW
        exact ⟨by (rw [HE.out, if_pos rfl]; try rfl), g4⟩
      · have HE := Lib.hid (show Ba.setEw ix i = 10 by unfold Ba.setEw; rw [if_neg HP.out, hq, if_pos rfl])
        go_wp2_with fail
        go_ret2
        unfold PartW
        exact ⟨by (rw [HE.out, if_neg (by decide)]; try rfl), hgr⟩

theorem part_any (N : Ba.SlNode) (L : Ba.SlLink) (s1 s2 : Ba.State) (I : Ba.SlI) (g : Ba.Ledger) (w : World) (hN : N.At w) (hL : L.At w) (h1 : s1.Ok w) (h2 : s2.Ok w) (hI : I.At w) (hg : g.Ok w) (T : Ba.SlS) (hT : T.At w) (hn12 : N.n ≤ 12) (hl20 : L.n ≤ 20) (ht : T.n ≤ 1000) : Calls Try.prog 12 #[Ba.netVal N L, .slice T.A T.n T.c, s1.val, s2.val, .slice I.A I.n I.c, g.val] w fun e w' => e = .returned (.tuple #[.int .i64 (Ba.partR N L s1 s2 I g T), .int .i64 (Ba.partE N L s1 s2 I g T)]) ∧ Gr w w' := by
  have HG := Lib.hid (fun W (hh : Gr w W) => given_any N L s1 s2 I g W (hN.gr hh) (hL.gr hh) (h1.gr hh) (h2.gr hh) (hI.gr hh) (hg.gr hh))
  unfold Ba.partR Ba.partE
  by_cases he : Ba.givE N L s1 s2 I g = 0
  rotate_left
  · rw [if_neg he, if_neg he]
    exact part_0 (N.A) (L.A) (s1.vs.A) (s1.ps.A) (s1.st.A) (s1.on.A) (s2.vs.A) (s2.ps.A) (s2.st.A) (s2.on.A) (g.ps.A) (I.A) (N.n) (N.c) (L.n) (L.c) (s1.vs.n) (s1.vs.c) (s1.ps.n) (s1.ps.c) (s1.st.n) (s1.st.c) (s1.on.n) (s1.on.c) (s2.vs.n) (s2.vs.c) (s2.ps.n) (s2.ps.c) (s2.st.n) (s2.st.c) (s2.on.n) (s2.on.c) (g.ps.n) (g.ps.c) (I.n) (I.c) (g.inn) (g.out) (w) T.A T.n T.c _ he HG
  rw [if_pos he, if_pos he]
  rw [he] at HG
  have F := Ba.fine_of he hn12 hl20
  have hv := F.net
  have HC := Lib.hid (fun (k : Nat) => show Ba.ixs N T k < 0 ∨ ∃ j : Nat, Ba.ixs N T k = (j : Int) ∧ j < N.n from by
    by_cases h : Ba.ixs N T k < 0
    · exact Or.inl h
    · exact Or.inr ⟨_, Ba.nix_ok (show 0 ≤ Ba.nix N (T.X k) by unfold Ba.ixs at h; omega)⟩)
  have HNd := fun (k : Nat) W (hh : Gr w W) => nodeno_any N L (T.X k) W (hN.gr hh) (hL.gr hh)
  simp only [if_pos hv] at HNd
  exact part_1 (N.A) (L.A) (s1.vs.A) (s1.ps.A) (s1.st.A) (s1.on.A) (s2.vs.A) (s2.ps.A) (s2.st.A) (s2.on.A) (g.ps.A) (I.A) (N.n) (N.c) (L.n) (L.c) (s1.vs.n) (s1.vs.c) (s1.ps.n) (s1.ps.c) (s1.st.n) (s1.st.c) (s1.on.n) (s1.on.c) (s2.vs.n) (s2.vs.c) (s2.ps.n) (s2.ps.c) (s2.st.n) (s2.st.c) (s2.on.n) (s2.on.c) (g.ps.n) (g.ps.c) (I.n) (I.c) (g.inn) (g.out) (w) T.A T.n T.c T.b T.o T.X (Ba.ixs N T) _ _ hn12 ht HG (Lib.hid hT.hA) (Lib.hid hT.hX) HC
    (Lib.hid (fun k _ W hh hneg => (HNd k W hh).mono fun e w' ⟨q1, q2⟩ => ⟨by rw [q1]; unfold Ba.ixs at hneg; unfold Ba.fnd Ba.fndE; rw [if_pos hneg, if_pos hneg], q2⟩))
    (Lib.hid (fun k _ j W hh hj => (HNd k W hh).mono fun e w' ⟨q1, q2⟩ => ⟨by rw [q1]; unfold Ba.ixs at hj; rw [hj]; unfold Ba.fnd Ba.fndE; rw [if_neg (by omega), if_neg (by omega)], q2⟩))
    (Lib.hid (fun s W hh hs hn hx => show Calls Try.prog 34 #[Ba.netVal N L, .slice s.A s.n s.c, s1.val, s2.val, .slice I.A I.n I.c, .slice g.ps.A g.ps.n g.ps.c] W fun e w' => e = .returned (.agg #[.int .i64 (Ba.resI N L (Ba.setX (Ba.ixs N T) T.n) s1 s2 I g.ps), .int .i64 (Ba.lostI N L (Ba.setX (Ba.ixs N T) T.n) I g.ps)]) ∧ Gr W w' from hx ▸ of_any N L s1 s2 I g.ps s W F (hN.gr hh) (hL.gr hh) (hI.gr hh) (hg.2.2.gr hh) hs hn (h1.gr hh) (h2.gr hh)))

end Go.Proofs.Ythkmgnaeponfcaa
