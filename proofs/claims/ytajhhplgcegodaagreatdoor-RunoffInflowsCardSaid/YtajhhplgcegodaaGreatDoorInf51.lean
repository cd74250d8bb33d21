/-
  The law RunoffInflows. (Printed by mkrie.py.)
-/
import Derived.Test.YtajhhplgcegodaaGreatDoorInf38
import Derived.Test.YtajhhplgcegodaaGreatDoorInf39
import Derived.Test.YtajhhplgcegodaaGreatDoorInf50
import Derived.Test.YtajhhplgcegodaaGreatDoorInf35
import Derived.Test.YtajhhplgcegodaaGreatDoorInf36

set_option linter.unusedVariables false
set_option linter.unusedSimpArgs false
namespace Go.Proofs.YtajhhplgcegodaaGreatDoor
open Go.RowKit
attribute [local go_sem ↓] Go.wp_at_zero Go.wp_at_succ
namespace Ba
/-- The first number that is not 0. -/
def fstE (f : Nat → Int) : Nat → Int
  | 0 => 0
  | k + 1 => if fstE f k = 0 then f k else fstE f k
theorem fstE_zero {f : Nat → Int} : ∀ {n : Nat}, (∀ i, i < n → f i = 0) → fstE f n = 0
  | 0, _ => rfl
  | n + 1, h => by rw [fstE, if_pos (fstE_zero fun i hi => h i (by omega))]; exact h n (by omega)
theorem fstE_hit {f : Nat → Int} {i : Nat} (h0 : ∀ j, j < i → f j = 0) (h1 : f i ≠ 0) : ∀ {n : Nat}, i < n → fstE f n = f i
  | 0, h => by omega
  | n + 1, h => by
    rw [fstE]
    by_cases e : i = n
    · subst e; rw [if_pos (fstE_zero h0)]
    · have z := fstE_hit h0 h1 (n := n) (by omega)
      rw [if_neg (by rw [z]; exact h1), z]
/-- The error of Inflows. -/
def iflE (m : Ms.Mesh) (C : SlClass) (P : SlI) (N : SlS) (U : SlU) (s : Ser) : Int := if riE m C P N U s = 0 then fstE (inE m C P U s) N.n else riE m C P N U s
def iflN (m : Ms.Mesh) (C : SlClass) (P : SlI) (U : SlU) (s : Ser) (i : Nat) : Nat := ofN C (ownS m P C.n i) (U.X i) s
def iflX (m : Ms.Mesh) (C : SlClass) (P : SlI) (U : SlU) (s : Ser) (i j : Nat) : Int := ofX C (ownS m P C.n i) (U.X i) s j
end Ba
/-- What Inflows answers. -/
def RetB (E : Int) (nn : Nat) (NX : Nat → ByteArray) (LN : Nat → Nat) (LX : Nat → Nat → Int) (w : World) (e : Ending) (w' : World) : Prop :=
  ∃ (A : Option Addr) (n c b : Nat) (V : Nat → Ba.SlI), e = .returned (.tuple #[.slice A n c, .int .i64 E]) ∧ Gr w w' ∧
    (E = 0 → n = nn ∧ (0 < n → A = some ⟨b, 0, none⟩) ∧ ∀ i, i < nn → w'.cell? ⟨b, i * 2, none⟩ = some (.string (NX i)) ∧ w'.cell? ⟨b, i * 2 + 1, none⟩ = some (.slice (V i).A (V i).n (V i).c) ∧ (V i).At w' ∧ (V i).n = LN i ∧ ∀ j, j < (V i).n → (V i).X j = LX i j) ∧
    (E ≠ 0 → n = 0)
theorem retb_in {m : Ms.Mesh} {C : Ba.SlClass} {P : Ba.SlI} {N : Ba.SlS} {U : Ba.SlU} {s : Ba.Ser} {w : World} {e : Ending} {w' : World} (hr : Ba.riE m C P N U s = 0) (h : RetIn m C P N U s w e w') : RetB (Ba.iflE m C P N U s) N.n N.X (Ba.iflN m C P U s) (Ba.iflX m C P U s) w e w' := by
  obtain ⟨err, A, n, c, b, V, rfl, hg, h0, h1⟩ := h
  have hE : Ba.iflE m C P N U s = err := by
    unfold Ba.iflE
    rw [if_pos hr]
    by_cases z : err = 0
    · rw [z]; exact Ba.fstE_zero fun i hi => ((h0 z).2.2.2.2 i hi).1
    · obtain ⟨-, i, hi, e1, e2⟩ := h1 z
      rw [e1]; exact Ba.fstE_hit e2 (by rw [← e1]; exact z) hi
  rw [hE]
  refine ⟨A, n, c, b, V, rfl, hg, fun z => ?_, fun z => (h1 z).1⟩
  obtain ⟨a1, a2, a3, a4, a5⟩ := h0 z
  exact ⟨a1, a2, fun i hi => (a5 i hi).2⟩
theorem retb_no {m : Ms.Mesh} {C : Ba.SlClass} {P : Ba.SlI} {N : Ba.SlS} {U : Ba.SlU} {s : Ba.Ser} {w : World} {e : Ending} {w' : World} (hr : Ba.riE m C P N U s ≠ 0) (h : e = .returned (.tuple #[.slice none 0 0, .int .i64 (Ba.riE m C P N U s)]) ∧ Gr w w') : RetB (Ba.iflE m C P N U s) N.n N.X (Ba.iflN m C P U s) (Ba.iflX m C P U s) w e w' := by
  obtain ⟨rfl, hg⟩ := h
  have hE : Ba.iflE m C P N U s = Ba.riE m C P N U s := by unfold Ba.iflE; rw [if_neg hr]
  rw [hE]
  exact ⟨none, 0, 0, 0, fun _ => ⟨none, 0, 0, 0, 0, fun _ => 0⟩, rfl, hg, fun z => absurd z hr, fun _ => rfl⟩
set_option maxRecDepth 100000 in
set_option maxHeartbeats 8000000 in
theorem rsame_eq (A1 A2 : Option Addr) (n c1 c2 b1 b2 : Nat) (X : Nat → ByteArray) (V1 V2 : Nat → Ba.SlI) (w : World) (hn : n ≤ 1000) (hA1 : 0 < n → A1 = some ⟨b1, 0, none⟩) (hA2 : 0 < n → A2 = some ⟨b2, 0, none⟩) (h : ∀ i, i < n → w.cell? ⟨b1, i * 2, none⟩ = some (.string (X i)) ∧ w.cell? ⟨b1, i * 2 + 1, none⟩ = some (.slice (V1 i).A (V1 i).n (V1 i).c) ∧ w.cell? ⟨b2, i * 2, none⟩ = some (.string (X i)) ∧ w.cell? ⟨b2, i * 2 + 1, none⟩ = some (.slice (V2 i).A (V2 i).n (V2 i).c) ∧ (V1 i).At w ∧ (V2 i).At w ∧ (V1 i).n = (V2 i).n ∧ ∀ j, j < (V1 i).n → (V1 i).X j = (V2 i).X j) :
    Calls Tryz.prog 25 #[.slice A1 n c1, .slice A2 n c2] w fun e w' => e = .returned (.bool true) ∧ Gr w w' := by
  have HA1 := Lib.hid hA1; have HA2 := Lib.hid hA2; have H := Lib.hid h
  clear hA1 hA2 h
  have nq : ((n : Int) != (n : Int)) = false := by simp
  go_enter Tryz.func25, Tryz.ntmps25
  go_wp2_with fail
  go_loopw [5] (fun x wr => ∃ i : Nat, i ≤ n ∧ x = .int .i64 (i : Int) ∧ Gr w wr) (fun x _ => n - (intOf x).toNat)
  case atStart => exact ⟨0, Nat.zero_le _, rfl, Gr.refl _⟩
  case round =>
    obtain ⟨i, hi, rfl, hg⟩ := hrel
    rename World => W1
    by_cases hlt : i < n
    · obtain rfl := HA1.out (by omega); obtain rfl := HA2.out (by omega)
      have ib0 : (0 : Int) ≤ (i : Int) := by omega
      have ib1 : (i : Int) < (n : Int) := by omega
      obtain ⟨x1, x2, x3, x4, x5, x6, x7, x8⟩ := H.out i hlt
      replace x1 := Gr.at hg x1; replace x2 := Gr.at hg x2; replace x3 := Gr.at hg x3; replace x4 := Gr.at hg x4
      have HV1A := Lib.hid x5.hA; have HV2A := Lib.hid x6.hA
      have m1 := Nat.le_trans x5.hc x5.hb
      have HV1 := Lib.hid (fun j (hj : j < (V1 i).n) => show W1.cell? ⟨(V1 i).b, (V1 i).o + j, none⟩ = some (.int .i64 ((V1 i).X j)) from Gr.at hg (x5.hX j hj).1)
      have HV2 := Lib.hid (fun j (hj : j < (V1 i).n) => show W1.cell? ⟨(V2 i).b, (V2 i).o + j, none⟩ = some (.int .i64 ((V1 i).X j)) from by rw [x8 j hj]; exact Gr.at hg (x6.hX j (by omega)).1)
      rw [← x7] at HV2A x4
      clear H x5 x6 x7 x8 HA1 HA2
      generalize (V1 i).A = vA at *; generalize (V1 i).n = vn at *; generalize (V1 i).c = vc at *; generalize (V1 i).b = vb at *; generalize (V1 i).o = vo at *; generalize (V1 i).X = VX at *
      generalize (V2 i).A = uA at *; generalize (V2 i).c = uc at *; generalize (V2 i).b = ub at *; generalize (V2 i).o = uo at *
      generalize X i = xi at *
      have vq : ((vn : Int) != (vn : Int)) = false := by simp
      go_wp2_with fail
      (first | refine name_world ?_ | refine (show (∀ W, W = _ → Calls _ _ _ W _) → Calls _ _ _ _ _ from fun h => h _ rfl) ?_); intro W3 hW3
      have g3 : Gr w W3 := by rw [hW3]; exact gr_auto
      have gb3_W1 : Gr W1 W3 := by (try clear g3); rw [hW3]; exact gr_auto
      have k3_0 : W3.cell? ⟨b1, i * 2, none⟩ = some (.string xi) := by rw [hW3]; first | (simp [go_sem, *]; done) | (refine Gr.at ?_ (by assumption); exact gr_auto)
      have b3_0 : b1 < W3.heap.size := World.block_lt_of_cell? _ _ k3_0
      have k3_1 : W3.cell? ⟨b1, i * 2 + 1, none⟩ = some (.slice vA vn vc) := by rw [hW3]; first | (simp [go_sem, *]; done) | (refine Gr.at ?_ (by assumption); exact gr_auto)
      have k3_2 : W3.cell? ⟨b2, i * 2, none⟩ = some (.string xi) := by rw [hW3]; first | (simp [go_sem, *]; done) | (refine Gr.at ?_ (by assumption); exact gr_auto)
      have b3_2 : b2 < W3.heap.size := World.block_lt_of_cell? _ _ k3_2
      have k3_3 : W3.cell? ⟨b2, i * 2 + 1, none⟩ = some (.slice uA vn uc) := by rw [hW3]; first | (simp [go_sem, *]; done) | (refine Gr.at ?_ (by assumption); exact gr_auto)
      clear hW3
      have s3_0 : ∀ gw : GW W3, gw.1.cell? ⟨b1, i * 2, none⟩ = some (.string xi) := fun gw => Gr.at gw.2 k3_0
      have s3_1 : ∀ gw : GW W3, gw.1.cell? ⟨b1, i * 2 + 1, none⟩ = some (.slice vA vn vc) := fun gw => Gr.at gw.2 k3_1
      have s3_2 : ∀ gw : GW W3, gw.1.cell? ⟨b2, i * 2, none⟩ = some (.string xi) := fun gw => Gr.at gw.2 k3_2
      have s3_3 : ∀ gw : GW W3, gw.1.cell? ⟨b2, i * 2 + 1, none⟩ = some (.slice uA vn uc) := fun gw => Gr.at gw.2 k3_3
      skip
      refine wp_region_gr (by kernel_rfl) (by kernel_rfl) ?_
      repeat (go_big_quiet_step (fail))
      refine wpQuiet_nil ?_
      intro w4 hb4
      clear s3_0 s3_1 s3_2 s3_3
      have g4 : Gr w w4 := g3.trans hb4
      have k3_0 := Gr.at hb4 k3_0
      have k3_1 := Gr.at hb4 k3_1
      have k3_2 := Gr.at hb4 k3_2
      have k3_3 := Gr.at hb4 k3_3
      have G4 : Gr W1 w4 := gb3_W1.trans hb4
      go_wp2_with fail
      go_loopw [6] (fun x wr => ∃ j : Nat, j ≤ vn ∧ x = .int .i64 (j : Int) ∧ Gr w4 wr) (fun x _ => vn - (intOf x).toNat)
      case atStart => exact ⟨0, Nat.zero_le _, rfl, Gr.refl _⟩
      case round =>
        obtain ⟨j, hj, rfl, hgj⟩ := hrel
        rename World => W5
        have y2 := Gr.at hgj k3_1; have y4 := Gr.at hgj k3_3
        by_cases hlj : j < vn
        · obtain rfl := HV1A.out (by omega); obtain rfl := HV2A.out (by omega)
          have jb0 : (0 : Int) ≤ (j : Int) := by omega
          have jb1 : (j : Int) < (vn : Int) := by omega
          have z1 := Gr.at (G4.trans hgj) (HV1.out j hlj)
          have z2 := Gr.at (G4.trans hgj) (HV2.out j hlj)
          clear HV1 HV2 HV1A HV2A
          generalize VX j = x at *
          have xq : (x != x) = false := by simp
          go_wp2_with fail
          (first | refine name_world ?_ | refine (show (∀ W, W = _ → Calls _ _ _ W _) → Calls _ _ _ _ _ from fun h => h _ rfl) ?_); intro W6 hW6
          have g6 : Gr w W6 := by rw [hW6]; exact gr_auto
          have gb6_W5 : Gr W5 W6 := by (try clear g6); rw [hW6]; exact gr_auto
          have k6_0 : W6.cell? ⟨b1, i * 2 + 1, none⟩ = some (.slice (some ⟨vb, vo, none⟩) vn vc) := by rw [hW6]; first | (simp [go_sem, *]; done) | (refine Gr.at ?_ (by assumption); exact gr_auto)
          have b6_0 : b1 < W6.heap.size := World.block_lt_of_cell? _ _ k6_0
          have k6_1 : W6.cell? ⟨b2, i * 2 + 1, none⟩ = some (.slice (some ⟨ub, uo, none⟩) vn uc) := by rw [hW6]; first | (simp [go_sem, *]; done) | (refine Gr.at ?_ (by assumption); exact gr_auto)
          have b6_1 : b2 < W6.heap.size := World.block_lt_of_cell? _ _ k6_1
          have k6_2 : W6.cell? ⟨vb, vo + j, none⟩ = some (.int .i64 x) := by rw [hW6]; first | (simp [go_sem, *]; done) | (refine Gr.at ?_ (by assumption); exact gr_auto)
          have b6_2 : vb < W6.heap.size := World.block_lt_of_cell? _ _ k6_2
          have k6_3 : W6.cell? ⟨ub, uo + j, none⟩ = some (.int .i64 x) := by rw [hW6]; first | (simp [go_sem, *]; done) | (refine Gr.at ?_ (by assumption); exact gr_auto)
          have b6_3 : ub < W6.heap.size := World.block_lt_of_cell? _ _ k6_3
          clear hW6
          have s6_0 : ∀ gw : GW W6, gw.1.cell? ⟨b1, i * 2 + 1, none⟩ = some (.slice (some ⟨vb, vo, none⟩) vn vc) := fun gw => Gr.at gw.2 k6_0
          have s6_1 : ∀ gw : GW W6, gw.1.cell? ⟨b2, i * 2 + 1, none⟩ = some (.slice (some ⟨ub, uo, none⟩) vn uc) := fun gw => Gr.at gw.2 k6_1
          have s6_2 : ∀ gw : GW W6, gw.1.cell? ⟨vb, vo + j, none⟩ = some (.int .i64 x) := fun gw => Gr.at gw.2 k6_2
          have s6_3 : ∀ gw : GW W6, gw.1.cell? ⟨ub, uo + j, none⟩ = some (.int .i64 x) := fun gw => Gr.at gw.2 k6_3
          skip
          refine wp_region_gr (by kernel_rfl) (by kernel_rfl) ?_
          repeat (go_big_quiet_step (fail))
          refine wpQuiet_nil ?_
          intro w7 hb7
          clear s6_0 s6_1 s6_2 s6_3
          have g7 : Gr w w7 := g6.trans hb7
          have k6_0 := Gr.at hb7 k6_0
          have k6_1 := Gr.at hb7 k6_1
          have k6_2 := Gr.at hb7 k6_2
          have k6_3 := Gr.at hb7 k6_3
          go_wp2_with fail
          go_roundw
          case rel => exact ⟨j + 1, by omega, by go_num, hgj.trans (gb6_W5.trans hb7)⟩
          case measure => simp [intOf]; omega
        · obtain rfl : vn = j := by omega
          clear HV1 HV2 HV1A HV2A
          go_wp2_with fail
          go_roundw
          case rel => exact ⟨i + 1, by omega, by go_num, hg.trans (G4.trans hgj)⟩
          case measure => simp [intOf]; omega
    · obtain rfl : n = i := by omega
      clear H
      go_wp2_with fail
      go_ret
      exact ⟨rfl, hg⟩
set_option maxRecDepth 100000 in
set_option maxHeartbeats 8000000 in
theorem rif1_any (x : ByteArray) (w : World) (hm : x.size ≤ 9223372036854775807) : Calls Tryz.prog 20 #[.string x] w fun e w' => e = .returned (.bool (decide ((100 : Int) < (x.size : Int)))) ∧ w = w' := by
  go_enter Tryz.func20, Tryz.ntmps20
  go_wp2_with fail
  go_ret
  exact ⟨rfl, rfl⟩
set_option maxRecDepth 100000 in
set_option maxHeartbeats 8000000 in
theorem rif2_any (A : Option Addr) (n c : Nat) (w : World) (hm : n ≤ 9223372036854775807) : Calls Tryz.prog 22 #[.slice A n c] w fun e w' => e = .returned (.bool (decide ((30 : Int) < (n : Int)))) ∧ w = w' := by
  go_enter Tryz.func22, Tryz.ntmps22
  go_wp2_with fail
  go_ret
  exact ⟨rfl, rfl⟩
set_option maxRecDepth 100000 in
set_option maxHeartbeats 8000000 in
theorem rif_far0 (m : Ms.Mesh) (C : Ba.SlClass) (P : Ba.SlI) (N : Ba.SlS) (U : Ba.SlU) (s : Ba.Ser) (w : World) (hm : m.At w) (hC : C.At w) (hP : P.At w) (hN : N.At w) (hU : U.At w) (hS : s.Ok w) (h : Ba.fewB C ⟨none, 0, 0, 0, 0, fun _ => 0⟩ s = false) : Calls Tryz.prog 5 #[m.val, .slice C.A C.n C.c, .slice P.A P.n P.c, .slice N.A N.n N.c, .slice U.A U.n U.c, s.val] w fun e w' => e = .returned (.bool true) ∧ Gr w w' := by
  have l1 := Nat.le_trans hC.hc hC.hb; have l2 := Nat.le_trans hN.hc hN.hb; have l3 := Nat.le_trans hU.hc hU.hb; have l4 := Nat.le_trans hP.hc hP.hb; have l5 := Nat.le_trans hm.s.hc hm.s.hb; have l6 := Nat.le_trans hm.f.hc hm.f.hb; have l7 := Nat.le_trans hS.2.2.hc hS.2.2.hb
  have HFW := Lib.hid (fun W (hh : Gr w W) => few_any C ⟨none, 0, 0, 0, 0, fun _ => 0⟩ s W (hC.gr hh) nil_at (hS.gr hh))
  rw [h] at HFW
  clear hm hC hP hN hU hS h
  unfold Ms.Mesh.val Ba.Ser.val at *
  generalize m.S.A = sA at *; generalize m.S.n = sn at *; generalize m.S.c = sc at *; generalize m.F.A = fA at *; generalize m.F.n = fn at *; generalize m.F.c = fc at *
  generalize s.fr = fr at *; generalize s.st = st at *; generalize s.ds.A = dA at *; generalize s.ds.n = dn at *; generalize s.ds.c = dc at *
  generalize P.A = pA at *; generalize P.n = pn at *; generalize P.c = pc at *
  generalize C.A = cA at *; generalize C.n = cn at *; generalize C.c = cc at *
  generalize N.A = nA at *; generalize N.n = nn at *; generalize N.c = nc at *
  generalize U.A = uA' at *; generalize U.n = un' at *; generalize U.c = uc' at *
  go_enter Tryz.func5, Tryz.ntmps5
  go_wp2_with fail
  refine (awake_any _).mono ?_
  rintro e w1 ⟨rfl, hb1⟩
  have g1 : Gr w w1 := Gr.trans (by exact gr_auto) hb1
  have d0 := Gr.at hb1 (b := w.heap.size) (o := 0) (v := .slice sA sn sc) (by simp [go_sem])
  have d1 := Gr.at hb1 (b := w.heap.size) (o := 1) (v := .slice fA fn fc) (by simp [go_sem])
  have d2 := Gr.at hb1 (b := w.heap.size + 1) (o := 0) (v := .int .i64 fr) (by simp [go_sem])
  have d3 := Gr.at hb1 (b := w.heap.size + 1) (o := 1) (v := .int .i64 st) (by simp [go_sem])
  have d4 := Gr.at hb1 (b := w.heap.size + 1) (o := 2) (v := .slice dA dn dc) (by simp [go_sem])
  clear hb1
  go_wp2_with fail
  refine (HFW.out _ g1).mono ?_
  rintro e w2 ⟨rfl, hb2⟩
  have g2 := g1.trans hb2
  replace d0 := Gr.at hb2 d0; replace d1 := Gr.at hb2 d1; replace d2 := Gr.at hb2 d2; replace d3 := Gr.at hb2 d3; replace d4 := Gr.at hb2 d4
  clear HFW hb2
  go_wp2_with fail
  go_ret
  exact ⟨rfl, gr_auto⟩
set_option maxRecDepth 100000 in
set_option maxHeartbeats 8000000 in
theorem rif_far1 (m : Ms.Mesh) (C : Ba.SlClass) (P : Ba.SlI) (N : Ba.SlS) (U : Ba.SlU) (s : Ba.Ser) (w : World) (hm : m.At w) (hC : C.At w) (hP : P.At w) (hN : N.At w) (hU : U.At w) (hS : s.Ok w) (h : Ba.fewB C ⟨none, 0, 0, 0, 0, fun _ => 0⟩ s = true)  (h0 : 60 < s.ds.n) : Calls Tryz.prog 5 #[m.val, .slice C.A C.n C.c, .slice P.A P.n P.c, .slice N.A N.n N.c, .slice U.A U.n U.c, s.val] w fun e w' => e = .returned (.bool true) ∧ Gr w w' := by
  have l1 := Nat.le_trans hC.hc hC.hb; have l2 := Nat.le_trans hN.hc hN.hb; have l3 := Nat.le_trans hU.hc hU.hb; have l4 := Nat.le_trans hP.hc hP.hb; have l5 := Nat.le_trans hm.s.hc hm.s.hb; have l6 := Nat.le_trans hm.f.hc hm.f.hb; have l7 := Nat.le_trans hS.2.2.hc hS.2.2.hb
  have HFW := Lib.hid (fun W (hh : Gr w W) => few_any C ⟨none, 0, 0, 0, 0, fun _ => 0⟩ s W (hC.gr hh) nil_at (hS.gr hh))
  rw [h] at HFW
  clear hm hC hP hN hU hS h
  unfold Ms.Mesh.val Ba.Ser.val at *
  generalize m.S.A = sA at *; generalize m.S.n = sn at *; generalize m.S.c = sc at *; generalize m.F.A = fA at *; generalize m.F.n = fn at *; generalize m.F.c = fc at *
  generalize s.fr = fr at *; generalize s.st = st at *; generalize s.ds.A = dA at *; generalize s.ds.n = dn at *; generalize s.ds.c = dc at *
  generalize P.A = pA at *; generalize P.n = pn at *; generalize P.c = pc at *
  generalize C.A = cA at *; generalize C.n = cn at *; generalize C.c = cc at *
  generalize N.A = nA at *; generalize N.n = nn at *; generalize N.c = nc at *
  generalize U.A = uA' at *; generalize U.n = un' at *; generalize U.c = uc' at *
  have q0 : (60 : Int) < (dn : Int) := by omega
  clear h0
  go_enter Tryz.func5, Tryz.ntmps5
  go_wp2_with fail
  refine (awake_any _).mono ?_
  rintro e w1 ⟨rfl, hb1⟩
  have g1 : Gr w w1 := Gr.trans (by exact gr_auto) hb1
  have d0 := Gr.at hb1 (b := w.heap.size) (o := 0) (v := .slice sA sn sc) (by simp [go_sem])
  have d1 := Gr.at hb1 (b := w.heap.size) (o := 1) (v := .slice fA fn fc) (by simp [go_sem])
  have d2 := Gr.at hb1 (b := w.heap.size + 1) (o := 0) (v := .int .i64 fr) (by simp [go_sem])
  have d3 := Gr.at hb1 (b := w.heap.size + 1) (o := 1) (v := .int .i64 st) (by simp [go_sem])
  have d4 := Gr.at hb1 (b := w.heap.size + 1) (o := 2) (v := .slice dA dn dc) (by simp [go_sem])
  clear hb1
  go_wp2_with fail
  refine (HFW.out _ g1).mono ?_
  rintro e w2 ⟨rfl, hb2⟩
  have g2 := g1.trans hb2
  replace d0 := Gr.at hb2 d0; replace d1 := Gr.at hb2 d1; replace d2 := Gr.at hb2 d2; replace d3 := Gr.at hb2 d3; replace d4 := Gr.at hb2 d4
  clear HFW hb2
  go_wp2_with fail
  go_ret
  exact ⟨rfl, gr_auto⟩
set_option maxRecDepth 100000 in
set_option maxHeartbeats 8000000 in
theorem rif_far2 (m : Ms.Mesh) (C : Ba.SlClass) (P : Ba.SlI) (N : Ba.SlS) (U : Ba.SlU) (s : Ba.Ser) (w : World) (hm : m.At w) (hC : C.At w) (hP : P.At w) (hN : N.At w) (hU : U.At w) (hS : s.Ok w) (h : Ba.fewB C ⟨none, 0, 0, 0, 0, fun _ => 0⟩ s = true) (h0 : s.ds.n ≤ 60) (h1 : 40 < m.S.n) : Calls Tryz.prog 5 #[m.val, .slice C.A C.n C.c, .slice P.A P.n P.c, .slice N.A N.n N.c, .slice U.A U.n U.c, s.val] w fun e w' => e = .returned (.bool true) ∧ Gr w w' := by
  have l1 := Nat.le_trans hC.hc hC.hb; have l2 := Nat.le_trans hN.hc hN.hb; have l3 := Nat.le_trans hU.hc hU.hb; have l4 := Nat.le_trans hP.hc hP.hb; have l5 := Nat.le_trans hm.s.hc hm.s.hb; have l6 := Nat.le_trans hm.f.hc hm.f.hb; have l7 := Nat.le_trans hS.2.2.hc hS.2.2.hb
  have HFW := Lib.hid (fun W (hh : Gr w W) => few_any C ⟨none, 0, 0, 0, 0, fun _ => 0⟩ s W (hC.gr hh) nil_at (hS.gr hh))
  rw [h] at HFW
  clear hm hC hP hN hU hS h
  unfold Ms.Mesh.val Ba.Ser.val at *
  generalize m.S.A = sA at *; generalize m.S.n = sn at *; generalize m.S.c = sc at *; generalize m.F.A = fA at *; generalize m.F.n = fn at *; generalize m.F.c = fc at *
  generalize s.fr = fr at *; generalize s.st = st at *; generalize s.ds.A = dA at *; generalize s.ds.n = dn at *; generalize s.ds.c = dc at *
  generalize P.A = pA at *; generalize P.n = pn at *; generalize P.c = pc at *
  generalize C.A = cA at *; generalize C.n = cn at *; generalize C.c = cc at *
  generalize N.A = nA at *; generalize N.n = nn at *; generalize N.c = nc at *
  generalize U.A = uA' at *; generalize U.n = un' at *; generalize U.c = uc' at *
  have q0 : (dn : Int) ≤ 60 := by omega
  have q1 : (40 : Int) < (sn : Int) := by omega
  clear h0 h1
  go_enter Tryz.func5, Tryz.ntmps5
  go_wp2_with fail
  refine (awake_any _).mono ?_
  rintro e w1 ⟨rfl, hb1⟩
  have g1 : Gr w w1 := Gr.trans (by exact gr_auto) hb1
  have d0 := Gr.at hb1 (b := w.heap.size) (o := 0) (v := .slice sA sn sc) (by simp [go_sem])
  have d1 := Gr.at hb1 (b := w.heap.size) (o := 1) (v := .slice fA fn fc) (by simp [go_sem])
  have d2 := Gr.at hb1 (b := w.heap.size + 1) (o := 0) (v := .int .i64 fr) (by simp [go_sem])
  have d3 := Gr.at hb1 (b := w.heap.size + 1) (o := 1) (v := .int .i64 st) (by simp [go_sem])
  have d4 := Gr.at hb1 (b := w.heap.size + 1) (o := 2) (v := .slice dA dn dc) (by simp [go_sem])
  clear hb1
  go_wp2_with fail
  refine (HFW.out _ g1).mono ?_
  rintro e w2 ⟨rfl, hb2⟩
  have g2 := g1.trans hb2
  replace d0 := Gr.at hb2 d0; replace d1 := Gr.at hb2 d1; replace d2 := Gr.at hb2 d2; replace d3 := Gr.at hb2 d3; replace d4 := Gr.at hb2 d4
  clear HFW hb2
  go_wp2_with fail
  go_ret
  exact ⟨rfl, gr_auto⟩
set_option maxRecDepth 100000 in
set_option maxHeartbeats 8000000 in
theorem rif_far3 (m : Ms.Mesh) (C : Ba.SlClass) (P : Ba.SlI) (N : Ba.SlS) (U : Ba.SlU) (s : Ba.Ser) (w : World) (hm : m.At w) (hC : C.At w) (hP : P.At w) (hN : N.At w) (hU : U.At w) (hS : s.Ok w) (h : Ba.fewB C ⟨none, 0, 0, 0, 0, fun _ => 0⟩ s = true) (h0 : s.ds.n ≤ 60) (h1 : m.S.n ≤ 40) (h2 : 40 < m.F.n) : Calls Tryz.prog 5 #[m.val, .slice C.A C.n C.c, .slice P.A P.n P.c, .slice N.A N.n N.c, .slice U.A U.n U.c, s.val] w fun e w' => e = .returned (.bool true) ∧ Gr w w' := by
  have l1 := Nat.le_trans hC.hc hC.hb; have l2 := Nat.le_trans hN.hc hN.hb; have l3 := Nat.le_trans hU.hc hU.hb; have l4 := Nat.le_trans hP.hc hP.hb; have l5 := Nat.le_trans hm.s.hc hm.s.hb; have l6 := Nat.le_trans hm.f.hc hm.f.hb; have l7 := Nat.le_trans hS.2.2.hc hS.2.2.hb
  have HFW := Lib.hid (fun W (hh : Gr w W) => few_any C ⟨none, 0, 0, 0, 0, fun _ => 0⟩ s W (hC.gr hh) nil_at (hS.gr hh))
  rw [h] at HFW
  clear hm hC hP hN hU hS h
  unfold Ms.Mesh.val Ba.Ser.val at *
  generalize m.S.A = sA at *; generalize m.S.n = sn at *; generalize m.S.c = sc at *; generalize m.F.A = fA at *; generalize m.F.n = fn at *; generalize m.F.c = fc at *
  generalize s.fr = fr at *; generalize s.st = st at *; generalize s.ds.A = dA at *; generalize s.ds.n = dn at *; generalize s.ds.c = dc at *
  generalize P.A = pA at *; generalize P.n = pn at *; generalize P.c = pc at *
  generalize C.A = cA at *; generalize C.n = cn at *; generalize C.c = cc at *
  generalize N.A = nA at *; generalize N.n = nn at *; generalize N.c = nc at *
  generalize U.A = uA' at *; generalize U.n = un' at *; generalize U.c = uc' at *
  have q0 : (dn : Int) ≤ 60 := by omega
  have q1 : (sn : Int) ≤ 40 := by omega
  have q2 : (40 : Int) < (fn : Int) := by omega
  clear h0 h1 h2
  go_enter Tryz.func5, Tryz.ntmps5
  go_wp2_with fail
  refine (awake_any _).mono ?_
  rintro e w1 ⟨rfl, hb1⟩
  have g1 : Gr w w1 := Gr.trans (by exact gr_auto) hb1
  have d0 := Gr.at hb1 (b := w.heap.size) (o := 0) (v := .slice sA sn sc) (by simp [go_sem])
  have d1 := Gr.at hb1 (b := w.heap.size) (o := 1) (v := .slice fA fn fc) (by simp [go_sem])
  have d2 := Gr.at hb1 (b := w.heap.size + 1) (o := 0) (v := .int .i64 fr) (by simp [go_sem])
  have d3 := Gr.at hb1 (b := w.heap.size + 1) (o := 1) (v := .int .i64 st) (by simp [go_sem])
  have d4 := Gr.at hb1 (b := w.heap.size + 1) (o := 2) (v := .slice dA dn dc) (by simp [go_sem])
  clear hb1
  go_wp2_with fail
  refine (HFW.out _ g1).mono ?_
  rintro e w2 ⟨rfl, hb2⟩
  have g2 := g1.trans hb2
  replace d0 := Gr.at hb2 d0; replace d1 := Gr.at hb2 d1; replace d2 := Gr.at hb2 d2; replace d3 := Gr.at hb2 d3; replace d4 := Gr.at hb2 d4
  clear HFW hb2
  go_wp2_with fail
  go_ret
  exact ⟨rfl, gr_auto⟩
set_option maxRecDepth 100000 in
set_option maxHeartbeats 8000000 in
theorem rif_far4 (m : Ms.Mesh) (C : Ba.SlClass) (P : Ba.SlI) (N : Ba.SlS) (U : Ba.SlU) (s : Ba.Ser) (w : World) (hm : m.At w) (hC : C.At w) (hP : P.At w) (hN : N.At w) (hU : U.At w) (hS : s.Ok w) (h : Ba.fewB C ⟨none, 0, 0, 0, 0, fun _ => 0⟩ s = true) (h0 : s.ds.n ≤ 60) (h1 : m.S.n ≤ 40) (h2 : m.F.n ≤ 40) (h3 : 60 < P.n) : Calls Tryz.prog 5 #[m.val, .slice C.A C.n C.c, .slice P.A P.n P.c, .slice N.A N.n N.c, .slice U.A U.n U.c, s.val] w fun e w' => e = .returned (.bool true) ∧ Gr w w' := by
  have l1 := Nat.le_trans hC.hc hC.hb; have l2 := Nat.le_trans hN.hc hN.hb; have l3 := Nat.le_trans hU.hc hU.hb; have l4 := Nat.le_trans hP.hc hP.hb; have l5 := Nat.le_trans hm.s.hc hm.s.hb; have l6 := Nat.le_trans hm.f.hc hm.f.hb; have l7 := Nat.le_trans hS.2.2.hc hS.2.2.hb
  have HFW := Lib.hid (fun W (hh : Gr w W) => few_any C ⟨none, 0, 0, 0, 0, fun _ => 0⟩ s W (hC.gr hh) nil_at (hS.gr hh))
  rw [h] at HFW
  clear hm hC hP hN hU hS h
  unfold Ms.Mesh.val Ba.Ser.val at *
  generalize m.S.A = sA at *; generalize m.S.n = sn at *; generalize m.S.c = sc at *; generalize m.F.A = fA at *; generalize m.F.n = fn at *; generalize m.F.c = fc at *
  generalize s.fr = fr at *; generalize s.st = st at *; generalize s.ds.A = dA at *; generalize s.ds.n = dn at *; generalize s.ds.c = dc at *
  generalize P.A = pA at *; generalize P.n = pn at *; generalize P.c = pc at *
  generalize C.A = cA at *; generalize C.n = cn at *; generalize C.c = cc at *
  generalize N.A = nA at *; generalize N.n = nn at *; generalize N.c = nc at *
  generalize U.A = uA' at *; generalize U.n = un' at *; generalize U.c = uc' at *
  have q0 : (dn : Int) ≤ 60 := by omega
  have q1 : (sn : Int) ≤ 40 := by omega
  have q2 : (fn : Int) ≤ 40 := by omega
  have q3 : (60 : Int) < (pn : Int) := by omega
  clear h0 h1 h2 h3
  go_enter Tryz.func5, Tryz.ntmps5
  go_wp2_with fail
  refine (awake_any _).mono ?_
  rintro e w1 ⟨rfl, hb1⟩
  have g1 : Gr w w1 := Gr.trans (by exact gr_auto) hb1
  have d0 := Gr.at hb1 (b := w.heap.size) (o := 0) (v := .slice sA sn sc) (by simp [go_sem])
  have d1 := Gr.at hb1 (b := w.heap.size) (o := 1) (v := .slice fA fn fc) (by simp [go_sem])
  have d2 := Gr.at hb1 (b := w.heap.size + 1) (o := 0) (v := .int .i64 fr) (by simp [go_sem])
  have d3 := Gr.at hb1 (b := w.heap.size + 1) (o := 1) (v := .int .i64 st) (by simp [go_sem])
  have d4 := Gr.at hb1 (b := w.heap.size + 1) (o := 2) (v := .slice dA dn dc) (by simp [go_sem])
  clear hb1
  go_wp2_with fail
  refine (HFW.out _ g1).mono ?_
  rintro e w2 ⟨rfl, hb2⟩
  have g2 := g1.trans hb2
  replace d0 := Gr.at hb2 d0; replace d1 := Gr.at hb2 d1; replace d2 := Gr.at hb2 d2; replace d3 := Gr.at hb2 d3; replace d4 := Gr.at hb2 d4
  clear HFW hb2
  go_wp2_with fail
  go_ret
  exact ⟨rfl, gr_auto⟩
set_option maxRecDepth 100000 in
set_option maxHeartbeats 8000000 in
theorem rif_far5 (m : Ms.Mesh) (C : Ba.SlClass) (P : Ba.SlI) (N : Ba.SlS) (U : Ba.SlU) (s : Ba.Ser) (w : World) (hm : m.At w) (hC : C.At w) (hP : P.At w) (hN : N.At w) (hU : U.At w) (hS : s.Ok w) (h : Ba.fewB C ⟨none, 0, 0, 0, 0, fun _ => 0⟩ s = true) (h0 : s.ds.n ≤ 60) (h1 : m.S.n ≤ 40) (h2 : m.F.n ≤ 40) (h3 : P.n ≤ 60) (h4 : 40 < N.n) : Calls Tryz.prog 5 #[m.val, .slice C.A C.n C.c, .slice P.A P.n P.c, .slice N.A N.n N.c, .slice U.A U.n U.c, s.val] w fun e w' => e = .returned (.bool true) ∧ Gr w w' := by
  have l1 := Nat.le_trans hC.hc hC.hb; have l2 := Nat.le_trans hN.hc hN.hb; have l3 := Nat.le_trans hU.hc hU.hb; have l4 := Nat.le_trans hP.hc hP.hb; have l5 := Nat.le_trans hm.s.hc hm.s.hb; have l6 := Nat.le_trans hm.f.hc hm.f.hb; have l7 := Nat.le_trans hS.2.2.hc hS.2.2.hb
  have HFW := Lib.hid (fun W (hh : Gr w W) => few_any C ⟨none, 0, 0, 0, 0, fun _ => 0⟩ s W (hC.gr hh) nil_at (hS.gr hh))
  rw [h] at HFW
  clear hm hC hP hN hU hS h
  unfold Ms.Mesh.val Ba.Ser.val at *
  generalize m.S.A = sA at *; generalize m.S.n = sn at *; generalize m.S.c = sc at *; generalize m.F.A = fA at *; generalize m.F.n = fn at *; generalize m.F.c = fc at *
  generalize s.fr = fr at *; generalize s.st = st at *; generalize s.ds.A = dA at *; generalize s.ds.n = dn at *; generalize s.ds.c = dc at *
  generalize P.A = pA at *; generalize P.n = pn at *; generalize P.c = pc at *
  generalize C.A = cA at *; generalize C.n = cn at *; generalize C.c = cc at *
  generalize N.A = nA at *; generalize N.n = nn at *; generalize N.c = nc at *
  generalize U.A = uA' at *; generalize U.n = un' at *; generalize U.c = uc' at *
  have q0 : (dn : Int) ≤ 60 := by omega
  have q1 : (sn : Int) ≤ 40 := by omega
  have q2 : (fn : Int) ≤ 40 := by omega
  have q3 : (pn : Int) ≤ 60 := by omega
  have q4 : (40 : Int) < (nn : Int) := by omega
  clear h0 h1 h2 h3 h4
  go_enter Tryz.func5, Tryz.ntmps5
  go_wp2_with fail
  refine (awake_any _).mono ?_
  rintro e w1 ⟨rfl, hb1⟩
  have g1 : Gr w w1 := Gr.trans (by exact gr_auto) hb1
  have d0 := Gr.at hb1 (b := w.heap.size) (o := 0) (v := .slice sA sn sc) (by simp [go_sem])
  have d1 := Gr.at hb1 (b := w.heap.size) (o := 1) (v := .slice fA fn fc) (by simp [go_sem])
  have d2 := Gr.at hb1 (b := w.heap.size + 1) (o := 0) (v := .int .i64 fr) (by simp [go_sem])
  have d3 := Gr.at hb1 (b := w.heap.size + 1) (o := 1) (v := .int .i64 st) (by simp [go_sem])
  have d4 := Gr.at hb1 (b := w.heap.size + 1) (o := 2) (v := .slice dA dn dc) (by simp [go_sem])
  clear hb1
  go_wp2_with fail
  refine (HFW.out _ g1).mono ?_
  rintro e w2 ⟨rfl, hb2⟩
  have g2 := g1.trans hb2
  replace d0 := Gr.at hb2 d0; replace d1 := Gr.at hb2 d1; replace d2 := Gr.at hb2 d2; replace d3 := Gr.at hb2 d3; replace d4 := Gr.at hb2 d4
  clear HFW hb2
  go_wp2_with fail
  go_ret
  exact ⟨rfl, gr_auto⟩
set_option maxRecDepth 100000 in
set_option maxHeartbeats 8000000 in
theorem rif_far6 (m : Ms.Mesh) (C : Ba.SlClass) (P : Ba.SlI) (N : Ba.SlS) (U : Ba.SlU) (s : Ba.Ser) (w : World) (hm : m.At w) (hC : C.At w) (hP : P.At w) (hN : N.At w) (hU : U.At w) (hS : s.Ok w) (h : Ba.fewB C ⟨none, 0, 0, 0, 0, fun _ => 0⟩ s = true) (h0 : s.ds.n ≤ 60) (h1 : m.S.n ≤ 40) (h2 : m.F.n ≤ 40) (h3 : P.n ≤ 60) (h4 : N.n ≤ 40) (h5 : 40 < U.n) : Calls Tryz.prog 5 #[m.val, .slice C.A C.n C.c, .slice P.A P.n P.c, .slice N.A N.n N.c, .slice U.A U.n U.c, s.val] w fun e w' => e = .returned (.bool true) ∧ Gr w w' := by
  have l1 := Nat.le_trans hC.hc hC.hb; have l2 := Nat.le_trans hN.hc hN.hb; have l3 := Nat.le_trans hU.hc hU.hb; have l4 := Nat.le_trans hP.hc hP.hb; have l5 := Nat.le_trans hm.s.hc hm.s.hb; have l6 := Nat.le_trans hm.f.hc hm.f.hb; have l7 := Nat.le_trans hS.2.2.hc hS.2.2.hb
  have HFW := Lib.hid (fun W (hh : Gr w W) => few_any C ⟨none, 0, 0, 0, 0, fun _ => 0⟩ s W (hC.gr hh) nil_at (hS.gr hh))
  rw [h] at HFW
  clear hm hC hP hN hU hS h
  unfold Ms.Mesh.val Ba.Ser.val at *
  generalize m.S.A = sA at *; generalize m.S.n = sn at *; generalize m.S.c = sc at *; generalize m.F.A = fA at *; generalize m.F.n = fn at *; generalize m.F.c = fc at *
  generalize s.fr = fr at *; generalize s.st = st at *; generalize s.ds.A = dA at *; generalize s.ds.n = dn at *; generalize s.ds.c = dc at *
  generalize P.A = pA at *; generalize P.n = pn at *; generalize P.c = pc at *
  generalize C.A = cA at *; generalize C.n = cn at *; generalize C.c = cc at *
  generalize N.A = nA at *; generalize N.n = nn at *; generalize N.c = nc at *
  generalize U.A = uA' at *; generalize U.n = un' at *; generalize U.c = uc' at *
  have q0 : (dn : Int) ≤ 60 := by omega
  have q1 : (sn : Int) ≤ 40 := by omega
  have q2 : (fn : Int) ≤ 40 := by omega
  have q3 : (pn : Int) ≤ 60 := by omega
  have q4 : (nn : Int) ≤ 40 := by omega
  have q5 : (40 : Int) < (un' : Int) := by omega
  clear h0 h1 h2 h3 h4 h5
  go_enter Tryz.func5, Tryz.ntmps5
  go_wp2_with fail
  refine (awake_any _).mono ?_
  rintro e w1 ⟨rfl, hb1⟩
  have g1 : Gr w w1 := Gr.trans (by exact gr_auto) hb1
  have d0 := Gr.at hb1 (b := w.heap.size) (o := 0) (v := .slice sA sn sc) (by simp [go_sem])
  have d1 := Gr.at hb1 (b := w.heap.size) (o := 1) (v := .slice fA fn fc) (by simp [go_sem])
  have d2 := Gr.at hb1 (b := w.heap.size + 1) (o := 0) (v := .int .i64 fr) (by simp [go_sem])
  have d3 := Gr.at hb1 (b := w.heap.size + 1) (o := 1) (v := .int .i64 st) (by simp [go_sem])
  have d4 := Gr.at hb1 (b := w.heap.size + 1) (o := 2) (v := .slice dA dn dc) (by simp [go_sem])
  clear hb1
  go_wp2_with fail
  refine (HFW.out _ g1).mono ?_
  rintro e w2 ⟨rfl, hb2⟩
  have g2 := g1.trans hb2
  replace d0 := Gr.at hb2 d0; replace d1 := Gr.at hb2 d1; replace d2 := Gr.at hb2 d2; replace d3 := Gr.at hb2 d3; replace d4 := Gr.at hb2 d4
  clear HFW hb2
  go_wp2_with fail
  go_ret
  exact ⟨rfl, gr_auto⟩
set_option maxRecDepth 100000 in
set_option maxHeartbeats 8000000 in
theorem rif_far7 (m : Ms.Mesh) (C : Ba.SlClass) (P : Ba.SlI) (N : Ba.SlS) (U : Ba.SlU) (s : Ba.Ser) (w : World) (hm : m.At w) (hC : C.At w) (hP : P.At w) (hN : N.At w) (hU : U.At w) (hS : s.Ok w) (h : Ba.fewB C ⟨none, 0, 0, 0, 0, fun _ => 0⟩ s = true) (h0 : s.ds.n ≤ 60) (h1 : m.S.n ≤ 40) (h2 : m.F.n ≤ 40) (h3 : P.n ≤ 60) (h4 : N.n ≤ 40) (h5 : U.n ≤ 40) (h6 : Ba.any (fun i => decide ((100 : Int) < ((N.X i).size : Int))) N.n = true) : Calls Tryz.prog 5 #[m.val, .slice C.A C.n C.c, .slice P.A P.n P.c, .slice N.A N.n N.c, .slice U.A U.n U.c, s.val] w fun e w' => e = .returned (.bool true) ∧ Gr w w' := by
  have l1 := Nat.le_trans hC.hc hC.hb; have l2 := Nat.le_trans hN.hc hN.hb; have l3 := Nat.le_trans hU.hc hU.hb; have l4 := Nat.le_trans hP.hc hP.hb; have l5 := Nat.le_trans hm.s.hc hm.s.hb; have l6 := Nat.le_trans hm.f.hc hm.f.hb; have l7 := Nat.le_trans hS.2.2.hc hS.2.2.hb
  have HFW := Lib.hid (fun W (hh : Gr w W) => few_any C ⟨none, 0, 0, 0, 0, fun _ => 0⟩ s W (hC.gr hh) nil_at (hS.gr hh))
  have HC1 := Lib.hid (fun W (hh : Gr w W) => has_strs 20 #[] N (fun i => decide ((100 : Int) < ((N.X i).size : Int))) W (hN.gr hh) (enter_of Tryz.func20 (by kernel_rfl) (by kernel_rfl)) fun i hi W' _ => gr_of (rif1_any (N.X i) W' (hN.hX i hi).2))
  rw [h] at HFW
  rw [h6] at HC1
  clear hm hC hP hN hU hS h h6
  unfold Ms.Mesh.val Ba.Ser.val at *
  generalize m.S.A = sA at *; generalize m.S.n = sn at *; generalize m.S.c = sc at *; generalize m.F.A = fA at *; generalize m.F.n = fn at *; generalize m.F.c = fc at *
  generalize s.fr = fr at *; generalize s.st = st at *; generalize s.ds.A = dA at *; generalize s.ds.n = dn at *; generalize s.ds.c = dc at *
  generalize P.A = pA at *; generalize P.n = pn at *; generalize P.c = pc at *
  generalize C.A = cA at *; generalize C.n = cn at *; generalize C.c = cc at *
  generalize N.A = nA at *; generalize N.n = nn at *; generalize N.c = nc at *
  generalize U.A = uA' at *; generalize U.n = un' at *; generalize U.c = uc' at *
  have q0 : (dn : Int) ≤ 60 := by omega
  have q1 : (sn : Int) ≤ 40 := by omega
  have q2 : (fn : Int) ≤ 40 := by omega
  have q3 : (pn : Int) ≤ 60 := by omega
  have q4 : (nn : Int) ≤ 40 := by omega
  have q5 : (un' : Int) ≤ 40 := by omega
  clear h0 h1 h2 h3 h4 h5
  go_enter Tryz.func5, Tryz.ntmps5
  go_wp2_with fail
  refine (awake_any _).mono ?_
  rintro e w1 ⟨rfl, hb1⟩
  have g1 : Gr w w1 := Gr.trans (by exact gr_auto) hb1
  have d0 := Gr.at hb1 (b := w.heap.size) (o := 0) (v := .slice sA sn sc) (by simp [go_sem])
  have d1 := Gr.at hb1 (b := w.heap.size) (o := 1) (v := .slice fA fn fc) (by simp [go_sem])
  have d2 := Gr.at hb1 (b := w.heap.size + 1) (o := 0) (v := .int .i64 fr) (by simp [go_sem])
  have d3 := Gr.at hb1 (b := w.heap.size + 1) (o := 1) (v := .int .i64 st) (by simp [go_sem])
  have d4 := Gr.at hb1 (b := w.heap.size + 1) (o := 2) (v := .slice dA dn dc) (by simp [go_sem])
  clear hb1
  go_wp2_with fail
  refine (HFW.out _ g1).mono ?_
  rintro e w2 ⟨rfl, hb2⟩
  have g2 := g1.trans hb2
  replace d0 := Gr.at hb2 d0; replace d1 := Gr.at hb2 d1; replace d2 := Gr.at hb2 d2; replace d3 := Gr.at hb2 d3; replace d4 := Gr.at hb2 d4
  clear HFW hb2
  go_wp2_with fail
  refine (HC1.out _ g2).mono ?_
  rintro e w3 ⟨rfl, hb3⟩
  have g3 := g2.trans hb3
  replace d0 := Gr.at hb3 d0; replace d1 := Gr.at hb3 d1; replace d2 := Gr.at hb3 d2; replace d3 := Gr.at hb3 d3; replace d4 := Gr.at hb3 d4
  clear HC1 hb3
  go_wp2_with fail
  go_ret
  exact ⟨rfl, gr_auto⟩
theorem rif_far8 (m : Ms.Mesh) (C : Ba.SlClass) (P : Ba.SlI) (N : Ba.SlS) (U : Ba.SlU) (s : Ba.Ser) (w : World) (hm : m.At w) (hC : C.At w) (hP : P.At w) (hN : N.At w) (hU : U.At w) (hS : s.Ok w) (h : Ba.fewB C ⟨none, 0, 0, 0, 0, fun _ => 0⟩ s = true) (h0 : s.ds.n ≤ 60) (h1 : m.S.n ≤ 40) (h2 : m.F.n ≤ 40) (h3 : P.n ≤ 60) (h4 : N.n ≤ 40) (h5 : U.n ≤ 40) (h6 : Ba.any (fun i => decide ((100 : Int) < ((N.X i).size : Int))) N.n = false) (h7 : Ba.any (fun i => decide ((30 : Int) < ((U.X i).n : Int))) U.n = true) : Calls Tryz.prog 5 #[m.val, .slice C.A C.n C.c, .slice P.A P.n P.c, .slice N.A N.n N.c, .slice U.A U.n U.c, s.val] w fun e w' => e = .returned (.bool true) ∧ Gr w w' := by
  have l1 := Nat.le_trans hC.hc hC.hb; have l2 := Nat.le_trans hN.hc hN.hb; have l3 := Nat.le_trans hU.hc hU.hb; have l4 := Nat.le_trans hP.hc hP.hb; have l5 := Nat.le_trans hm.s.hc hm.s.hb; have l6 := Nat.le_trans hm.f.hc hm.f.hb; have l7 := Nat.le_trans hS.2.2.hc hS.2.2.hb
  have HFW := Lib.hid (fun W (hh : Gr w W) => few_any C ⟨none, 0, 0, 0, 0, fun _ => 0⟩ s W (hC.gr hh) nil_at (hS.gr hh))
  have HC1 := Lib.hid (fun W (hh : Gr w W) => has_strs 20 #[] N (fun i => decide ((100 : Int) < ((N.X i).size : Int))) W (hN.gr hh) (enter_of Tryz.func20 (by kernel_rfl) (by kernel_rfl)) fun i hi W' _ => gr_of (rif1_any (N.X i) W' (hN.hX i hi).2))
  have HC2 := Lib.hid (fun W (hh : Gr w W) => has_units 22 #[] U (fun i => decide ((30 : Int) < ((U.X i).n : Int))) W (hU.gr hh) (enter_of Tryz.func22 (by kernel_rfl) (by kernel_rfl)) fun i hi W' _ => gr_of (rif2_any (U.X i).A (U.X i).n (U.X i).c W' (Nat.le_trans (hU.hX i hi).2.hc (hU.hX i hi).2.hb)))
  rw [h] at HFW
  rw [h6] at HC1; rw [h7] at HC2
  clear hm hC hP hN hU hS h h6 h7
  unfold Ms.Mesh.val Ba.Ser.val at *
  generalize m.S.A = sA at *; generalize m.S.n = sn at *; generalize m.S.c = sc at *; generalize m.F.A = fA at *; generalize m.F.n = fn at *; generalize m.F.c = fc at *
  generalize s.fr = fr at *; generalize s.st = st at *; generalize s.ds.A = dA at *; generalize s.ds.n = dn at *; generalize s.ds.c = dc at *
  generalize P.A = pA at *; generalize P.n = pn at *; generalize P.c = pc at *
  generalize C.A = cA at *; generalize C.n = cn at *; generalize C.c = cc at *
  generalize N.A = nA at *; generalize N.n = nn at *; generalize N.c = nc at *
  generalize U.A = uA' at *; generalize U.n = un' at *; generalize U.c = uc' at *
  have q0 : (dn : Int) ≤ 60 := by omega
  have q1 : (sn : Int) ≤ 40 := by omega
  have q2 : (fn : Int) ≤ 40 := by omega
  have q3 : (pn : Int) ≤ 60 := by omega
  have q4 : (nn : Int) ≤ 40 := by omega
  have q5 : (un' : Int) ≤ 40 := by omega
  clear h0 h1 h2 h3 h4 h5
  go_enter Tryz.func5, Tryz.ntmps5
  go_wp2_with fail
  refine (awake_any _).mono ?_
  rintro e w1 ⟨rfl, hb1⟩
  have g1 : Gr w w1 := Gr.trans (by exact gr_auto) hb1
  have d0 := Gr.at hb1 (b := w.heap.size) (o := 0) (v := .slice sA sn sc) (by simp [go_sem])
  have d1 := Gr.at hb1 (b := w.heap.size) (o := 1) (v := .slice fA fn fc) (by simp [go_sem])
  have d2 := Gr.at hb1 (b := w.heap.size + 1) (o := 0) (v := .int .i64 fr) (by simp [go_sem])
  have d3 := Gr.at hb1 (b := w.heap.size + 1) (o := 1) (v := .int .i64 st) (by simp [go_sem])
  have d4 := Gr.at hb1 (b := w.heap.size + 1) (o := 2) (v := .slice dA dn dc) (by simp [go_sem])
  clear hb1
  go_wp2_with fail
  refine (HFW.out _ g1).mono ?_
  rintro e w2 ⟨rfl, hb2⟩
  have g2 := g1.trans hb2
  replace d0 := Gr.at hb2 d0; replace d1 := Gr.at hb2 d1; replace d2 := Gr.at hb2 d2; replace d3 := Gr.at hb2 d3; replace d4 := Gr.at hb2 d4
  clear HFW hb2
  go_wp2_with fail
  refine (HC1.out _ g2).mono ?_
  rintro e w3 ⟨rfl, hb3⟩
  have g3 := g2.trans hb3
  replace d0 := Gr.at hb3 d0; replace d1 := Gr.at hb3 d1; replace d2 := Gr.at hb3 d2; replace d3 := Gr.at hb3 d3; replace d4 := Gr.at hb3 d4
  clear HC1 hb3
  go_wp2_with fail
  refine (HC2.out _ g3).mono ?_
  rintro e w4 ⟨rfl, hb4⟩
  have g4 := g3.trans hb4
  replace d0 := Gr.at hb4 d0; replace d1 := Gr.at hb4 d1; replace d2 := Gr.at hb4 d2; replace d3 := Gr.at hb4 d3; replace d4 := Gr.at hb4 d4
  clear HC2 hb4
  go_wp2_with fail
  go_ret
  exact ⟨rfl, gr_auto⟩
namespace Ba
theorem cls_len {C : SlClass} (h : clsB C = true) : 1 ≤ C.n ∧ C.n ≤ 16 := by
  unfold clsB at h
  simp only [Bool.and_eq_true, decide_eq_true_eq] at h
  exact ⟨h.1, h.2.1⟩
end Ba
set_option maxRecDepth 100000 in
set_option maxHeartbeats 8000000 in
theorem rif_main (m : Ms.Mesh) (C : Ba.SlClass) (P : Ba.SlI) (N : Ba.SlS) (U : Ba.SlU) (s : Ba.Ser) (w : World) (hm : m.At w) (hC : C.At w) (hP : P.At w) (hN : N.At w) (hU : U.At w) (hS : s.Ok w) (h : Ba.fewB C ⟨none, 0, 0, 0, 0, fun _ => 0⟩ s = true) (h0 : s.ds.n ≤ 60) (h1 : m.S.n ≤ 40) (h2 : m.F.n ≤ 40) (h3 : P.n ≤ 60) (h4 : N.n ≤ 40) (h5 : U.n ≤ 40) (h6 : Ba.any (fun i => decide ((100 : Int) < ((N.X i).size : Int))) N.n = false) (h7 : Ba.any (fun i => decide ((30 : Int) < ((U.X i).n : Int))) U.n = false) : Calls Tryz.prog 5 #[m.val, .slice C.A C.n C.c, .slice P.A P.n P.c, .slice N.A N.n N.c, .slice U.A U.n U.c, s.val] w fun e w' => e = .returned (.bool true) ∧ Gr w w' := by
  have l1 := Nat.le_trans hC.hc hC.hb; have l2 := Nat.le_trans hN.hc hN.hb; have l3 := Nat.le_trans hU.hc hU.hb; have l4 := Nat.le_trans hP.hc hP.hb; have l5 := Nat.le_trans hm.s.hc hm.s.hb; have l6 := Nat.le_trans hm.f.hc hm.f.hb; have l7 := Nat.le_trans hS.2.2.hc hS.2.2.hb
  have HFW := Lib.hid (fun W (hh : Gr w W) => few_any C ⟨none, 0, 0, 0, 0, fun _ => 0⟩ s W (hC.gr hh) nil_at (hS.gr hh))
  have HC1 := Lib.hid (fun W (hh : Gr w W) => has_strs 20 #[] N (fun i => decide ((100 : Int) < ((N.X i).size : Int))) W (hN.gr hh) (enter_of Tryz.func20 (by kernel_rfl) (by kernel_rfl)) fun i hi W' _ => gr_of (rif1_any (N.X i) W' (hN.hX i hi).2))
  have HC2 := Lib.hid (fun W (hh : Gr w W) => has_units 22 #[] U (fun i => decide ((30 : Int) < ((U.X i).n : Int))) W (hU.gr hh) (enter_of Tryz.func22 (by kernel_rfl) (by kernel_rfl)) fun i hi W' _ => gr_of (rif2_any (U.X i).A (U.X i).n (U.X i).c W' (Nat.le_trans (hU.hX i hi).2.hc (hU.hX i hi).2.hb)))
  have hfl := Ba.few_le h
  rw [h] at HFW
  rw [h6] at HC1; rw [h7] at HC2
  have HI := Lib.hid (fun W (hW : Gr w W) => show Calls Tryz.prog 23 #[m.val, .slice C.A C.n C.c, .slice P.A P.n P.c, .slice N.A N.n N.c, .slice U.A U.n U.c, s.val] W (RetB (Ba.iflE m C P N U s) N.n N.X (Ba.iflN m C P U s) (Ba.iflX m C P U s) W) from by
    by_cases q : Ba.riE m C P N U s = 0
    · have z := Ba.riE_zero q
      have zc := Ba.cls_len z.2.1
      exact (inflows_ok m C P N U s W ⟨hm.s.gr hW, hm.f.gr hW⟩ ⟨by omega, by omega⟩ (hC.gr hW) (hP.gr hW) (hN.gr hW) (hU.gr hW) (hS.gr hW) zc.1 zc.2 (by omega) q).mono fun _ _ z => retb_in q z
    · exact (inflows_no m C P N U s W ⟨hm.s.gr hW, hm.f.gr hW⟩ (Or.inr ⟨by omega, by omega⟩) (hC.gr hW) (hP.gr hW) (hN.gr hW) (hU.gr hW) (hS.gr hW) q).mono fun _ _ z => retb_no q z)
  have HJ := Lib.hid (fun W (hW : Gr w W) => show Calls Tryz.prog 24 #[m.val, .slice C.A C.n C.c, .slice P.A P.n P.c, .slice N.A N.n N.c, .slice U.A U.n U.c, s.val] W (RetB (Ba.iflE m C P N U s) N.n N.X (Ba.iflN m C P U s) (Ba.iflX m C P U s) W) from by
    by_cases q : Ba.riE m C P N U s = 0
    · have z := Ba.riE_zero q
      have zc := Ba.cls_len z.2.1
      exact (rinflows_ok m C P N U s W ⟨hm.s.gr hW, hm.f.gr hW⟩ ⟨by omega, by omega⟩ (hC.gr hW) (hP.gr hW) (hN.gr hW) (hU.gr hW) (hS.gr hW) zc.1 zc.2 (by omega) q).mono fun _ _ z => retb_in q z
    · exact (rinflows_no m C P N U s W ⟨hm.s.gr hW, hm.f.gr hW⟩ ⟨by omega, by omega⟩ (hC.gr hW) (hP.gr hW) (hN.gr hW) (hU.gr hW) (hS.gr hW) q).mono fun _ _ z => retb_no q z)
  clear hm hC hP hN hU hS h h6 h7 hfl
  unfold RetB at HI HJ
  generalize Ba.iflE m C P N U s = E at *
  generalize Ba.iflN m C P U s = LN at *
  generalize Ba.iflX m C P U s = LX at *
  generalize N.X = NX at *
  unfold Ms.Mesh.val Ba.Ser.val at *
  generalize m.S.A = sA at *; generalize m.S.n = sn at *; generalize m.S.c = sc at *; generalize m.F.A = fA at *; generalize m.F.n = fn at *; generalize m.F.c = fc at *
  generalize s.fr = fr at *; generalize s.st = st at *; generalize s.ds.A = dA at *; generalize s.ds.n = dn at *; generalize s.ds.c = dc at *
  generalize P.A = pA at *; generalize P.n = pn at *; generalize P.c = pc at *
  generalize C.A = cA at *; generalize C.n = cn at *; generalize C.c = cc at *
  generalize N.A = nA at *; generalize N.n = nn at *; generalize N.c = nc at *
  generalize U.A = uA' at *; generalize U.n = un' at *; generalize U.c = uc' at *
  have q0 : (dn : Int) ≤ 60 := by omega
  have q1 : (sn : Int) ≤ 40 := by omega
  have q2 : (fn : Int) ≤ 40 := by omega
  have q3 : (pn : Int) ≤ 60 := by omega
  have q4 : (nn : Int) ≤ 40 := by omega
  have q5 : (un' : Int) ≤ 40 := by omega
  clear h0 h1 h2 h3 h5
  go_enter Tryz.func5, Tryz.ntmps5
  go_wp2_with fail
  refine (awake_any _).mono ?_
  rintro e w1 ⟨rfl, hb1⟩
  have g1 : Gr w w1 := Gr.trans (by exact gr_auto) hb1
  have d0 := Gr.at hb1 (b := w.heap.size) (o := 0) (v := .slice sA sn sc) (by simp [go_sem])
  have d1 := Gr.at hb1 (b := w.heap.size) (o := 1) (v := .slice fA fn fc) (by simp [go_sem])
  have d2 := Gr.at hb1 (b := w.heap.size + 1) (o := 0) (v := .int .i64 fr) (by simp [go_sem])
  have d3 := Gr.at hb1 (b := w.heap.size + 1) (o := 1) (v := .int .i64 st) (by simp [go_sem])
  have d4 := Gr.at hb1 (b := w.heap.size + 1) (o := 2) (v := .slice dA dn dc) (by simp [go_sem])
  clear hb1
  go_wp2_with fail
  refine (HFW.out _ g1).mono ?_
  rintro e w2 ⟨rfl, hb2⟩
  have g2 := g1.trans hb2
  replace d0 := Gr.at hb2 d0; replace d1 := Gr.at hb2 d1; replace d2 := Gr.at hb2 d2; replace d3 := Gr.at hb2 d3; replace d4 := Gr.at hb2 d4
  clear HFW hb2
  go_wp2_with fail
  refine (HC1.out _ g2).mono ?_
  rintro e w3 ⟨rfl, hb3⟩
  have g3 := g2.trans hb3
  replace d0 := Gr.at hb3 d0; replace d1 := Gr.at hb3 d1; replace d2 := Gr.at hb3 d2; replace d3 := Gr.at hb3 d3; replace d4 := Gr.at hb3 d4
  clear HC1 hb3
  go_wp2_with fail
  refine (HC2.out _ g3).mono ?_
  rintro e w4 ⟨rfl, hb4⟩
  have g4 := g3.trans hb4
  replace d0 := Gr.at hb4 d0; replace d1 := Gr.at hb4 d1; replace d2 := Gr.at hb4 d2; replace d3 := Gr.at hb4 d3; replace d4 := Gr.at hb4 d4
  clear HC2 hb4
  go_wp2_with fail
  refine (HI.out _ g4).mono ?_
  rintro e w5 ⟨A5, n5, c5, b5, V5, rfl, hb5, h50, h51⟩
  have g5 := g4.trans hb5
  replace d0 := Gr.at hb5 d0; replace d1 := Gr.at hb5 d1; replace d2 := Gr.at hb5 d2; replace d3 := Gr.at hb5 d3; replace d4 := Gr.at hb5 d4
  clear HI
  go_wp2_with fail
  refine (HJ.out _ g5).mono ?_
  rintro e w6 ⟨A6, n6, c6, b6, V6, rfl, hb6, h60, h61⟩
  have g6 := g5.trans hb6
  clear HJ d0 d1 d2 d3 d4
  have hnn : n5 = n6 := by
    by_cases z : E = 0
    · rw [(h50 z).1, (h60 z).1]
    · rw [h51 z, h61 z]
  subst hnn
  have HSm := Lib.hid (show Calls Tryz.prog 25 #[.slice A5 n5 c5, .slice A6 n5 c6] w6 (fun e w' => e = .returned (.bool true) ∧ Gr w6 w') from by
    by_cases z : E = 0
    · obtain ⟨x1, x2, x3⟩ := h50 z
      obtain ⟨y1, y2, y3⟩ := h60 z
      refine rsame_eq A5 A6 n5 c5 c6 b5 b6 NX V5 V6 w6 (by omega) x2 y2 fun i hi => ?_
      obtain ⟨x4, x5, x6, x7, x8⟩ := x3 i (by omega)
      obtain ⟨y4, y5, y6, y7, y8⟩ := y3 i (by omega)
      exact ⟨Gr.at hb6 x4, Gr.at hb6 x5, y4, y5, x6.gr hb6, y6, by rw [x7, y7], fun j hj => by rw [x8 j hj, y8 j (by omega)]⟩
    · have x1 := h51 z
      exact rsame_eq A5 A6 n5 c5 c6 b5 b6 NX V5 V6 w6 (by omega) (fun q => by omega) (fun q => by omega) fun i hi => by omega)
  clear h50 h51 h60 h61
  have hEE : (E == E) = true := beq_self_eq_true _
  go_wp2_with fail
  refine HSm.out.mono ?_
  rintro e w7 ⟨rfl, hb7⟩
  clear HSm
  go_wp2_with fail
  go_ret
  exact ⟨rfl, g6.trans hb7⟩
theorem inflows_law (m : Ms.Mesh) (C : Ba.SlClass) (P : Ba.SlI) (N : Ba.SlS) (U : Ba.SlU) (s : Ba.Ser) (w : World) (hm : m.At w) (hC : C.At w) (hP : P.At w) (hN : N.At w) (hU : U.At w) (hS : s.Ok w) : Calls Tryz.prog 5 #[m.val, .slice C.A C.n C.c, .slice P.A P.n P.c, .slice N.A N.n N.c, .slice U.A U.n U.c, s.val] w fun e w' => e = .returned (.bool true) ∧ Gr w w' := by
  cases h : Ba.fewB C ⟨none, 0, 0, 0, 0, fun _ => 0⟩ s
  · exact rif_far0 m C P N U s w hm hC hP hN hU hS h
  · by_cases h0 : s.ds.n ≤ 60
    · by_cases h1 : m.S.n ≤ 40
      · by_cases h2 : m.F.n ≤ 40
        · by_cases h3 : P.n ≤ 60
          · by_cases h4 : N.n ≤ 40
            · by_cases h5 : U.n ≤ 40
              · cases h6 : Ba.any (fun i => decide ((100 : Int) < ((N.X i).size : Int))) N.n
                · cases h7 : Ba.any (fun i => decide ((30 : Int) < ((U.X i).n : Int))) U.n
                  · exact rif_main m C P N U s w hm hC hP hN hU hS h h0 h1 h2 h3 h4 h5 h6 h7
                  · exact rif_far8 m C P N U s w hm hC hP hN hU hS h h0 h1 h2 h3 h4 h5 h6 h7
                · exact rif_far7 m C P N U s w hm hC hP hN hU hS h h0 h1 h2 h3 h4 h5 h6
              · exact rif_far6 m C P N U s w hm hC hP hN hU hS h h0 h1 h2 h3 h4 (by omega)
            · exact rif_far5 m C P N U s w hm hC hP hN hU hS h h0 h1 h2 h3 (by omega)
          · exact rif_far4 m C P N U s w hm hC hP hN hU hS h h0 h1 h2 (by omega)
        · exact rif_far3 m C P N U s w hm hC hP hN hU hS h h0 h1 (by omega)
      · exact rif_far2 m C P N U s w hm hC hP hN hU hS h h0 (by omega)
    · exact rif_far1 m C P N U s w hm hC hP hN hU hS h  (by omega)
theorem inflows_holdlaw (Sp : Ba.SlSpot) (Fc : Ba.SlFace) (C : Ba.SlClass) (P : Ba.SlI) (N : Ba.SlS) (U : Ba.SlU) (s : Ba.Ser) (w : World) (h1 : Sp.At w) (h2 : Fc.At w) (hC : C.At w) (hP : P.At w) (hN : N.At w) (hU : U.At w) (hS : s.Ok w) : Calls Tryz.prog 5 #[(Ms.Mesh.mk Sp Fc).val, .slice C.A C.n C.c, .slice P.A P.n P.c, .slice N.A N.n N.c, .slice U.A U.n U.c, s.val] w fun e w' => e = .returned (.bool true) ∧ Gr w w' := inflows_law ⟨Sp, Fc⟩ C P N U s w ⟨h1, h2⟩ hC hP hN hU hS
end Go.Proofs.YtajhhplgcegodaaGreatDoor
