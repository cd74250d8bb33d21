/-
  Runoff, the reference: Inflows. (Printed by mkrid.py.)
-/
import Derived.Test.YtajhhplgcegodaaGreatDoorInf40
import Derived.Test.YtajhhplgcegodaaGreatDoorInf43
import Derived.Test.YtajhhplgcegodaaGreatDoorInf37
import Derived.Test.YtajhhplgcegodaaGreatDoorInf49
import Derived.Test.YtajhhplgcegodaaGreatDoorInf41
import Derived.Maps.AppendAt
set_option linter.unusedVariables false
set_option linter.unusedSimpArgs false
namespace Go.Proofs.YtajhhplgcegodaaGreatDoor
open Go.RowKit
attribute [local go_sem ↓] Go.wp_at_zero Go.wp_at_succ
namespace Ba
theorem riE_1 {m : Ms.Mesh} {C : SlClass} {P : SlI} {N : SlS} {U : SlU} {s : Ser} (h : Ms.vlB m = false ∨ clsB C = false ∨ serB s = false ∨ any (badU U) U.n = true) : riE m C P N U s = 1 := by
  unfold riE
  rcases h with h | h | h | h
  · rw [if_pos h]
  · by_cases q : Ms.vlB m = false
    · rw [if_pos q]
    · rw [if_neg q, if_pos h]
  · by_cases q : Ms.vlB m = false
    · rw [if_pos q]
    · rw [if_neg q]
      by_cases q : clsB C = false
      · rw [if_pos q]
      · rw [if_neg q, if_pos h]
  · by_cases q : Ms.vlB m = false
    · rw [if_pos q]
    · rw [if_neg q]
      by_cases q : clsB C = false
      · rw [if_pos q]
      · rw [if_neg q]
        by_cases q : serB s = false
        · rw [if_pos q]
        · rw [if_neg q, if_pos h]
theorem riE_2 {m : Ms.Mesh} {C : SlClass} {P : SlI} {N : SlS} {U : SlU} {s : Ser} (h1 : Ms.vlB m = true) (h2 : clsB C = true) (h3 : serB s = true) (h4 : any (badU U) U.n = false) : riE m C P N U s = if nmsE N = 0 then fitE m (C.n : Int) P N U else nmsE N := by
  unfold riE nmsE fitE
  rw [if_neg (by rw [h1]; decide), if_neg (by rw [h2]; decide), if_neg (by rw [h3]; decide), if_neg (by rw [h4]; decide)]
  by_cases q : any (badN N) N.n = true
  · rw [if_pos q, if_pos q, if_neg (by decide)]
  · rw [if_neg q, if_neg q]
    by_cases q : 300 < N.n
    · rw [if_pos q, if_pos q, if_neg (by decide)]
    · rw [if_neg q, if_neg q, if_pos rfl]; rfl
end Ba
set_option maxRecDepth 100000 in
set_option maxHeartbeats 8000000 in
theorem rin_no1 (m : Ms.Mesh) (C : Ba.SlClass) (P : Ba.SlI) (N : Ba.SlS) (U : Ba.SlU) (s : Ba.Ser) (w : World) (hm : m.At w) (hsm : m.S.n ≤ 60 ∧ m.F.n ≤ 60) (hC : C.At w) (hP : P.At w) (hN : N.At w) (hU : U.At w) (hS : s.Ok w) (h : Ms.vlB m = false ∨ Ms.vlB m = true ∧ (Ba.clsB C = false ∨ Ba.clsB C = true ∧ Ba.serB s = false)) : Calls Tryz.prog 24 #[m.val, .slice C.A C.n C.c, .slice P.A P.n P.c, .slice N.A N.n N.c, .slice U.A U.n U.c, s.val] w fun e w' => e = .returned (.tuple #[.slice none 0 0, .int .i64 (Ba.riE m C P N U s)]) ∧ Gr w w' := by
  have l1 := Nat.le_trans hC.hc hC.hb; have l2 := Nat.le_trans hN.hc hN.hb; have l3 := Nat.le_trans hU.hc hU.hb; have l4 := Nat.le_trans hP.hc hP.hb
  have HV := Lib.hid (fun W (hW : Gr w W) => rs_valid m W ⟨hm.s.gr hW, hm.f.gr hW⟩ (Or.inr hsm))
  have HC := Lib.hid (fun W (hW : Gr w W) => rvalid_any C W (hC.gr hW))
  have HS := Lib.hid (fun W (hW : Gr w W) => rser_any s W (hS.gr hW))
  rw [Ba.riE_1 (by rcases h with h | ⟨-, h | ⟨-, h⟩⟩ <;> simp [h])]
  clear hm hsm hC hP hN hU hS
  rcases h with h | ⟨h, h2⟩
  · rw [h] at HV
    clear h HC HS
    unfold Ms.Mesh.val Ba.Ser.val at *
    generalize m.S.A = sA at *; generalize m.S.n = sn at *; generalize m.S.c = sc at *; generalize m.F.A = fA at *; generalize m.F.n = fn at *; generalize m.F.c = fc at *
    generalize s.fr = fr at *; generalize s.st = st at *; generalize s.ds.A = dA at *; generalize s.ds.n = dn at *; generalize s.ds.c = dc at *
    generalize P.A = pA at *; generalize P.n = pn at *; generalize P.c = pc at *
    generalize C.A = cA at *; generalize C.n = cn at *; generalize C.c = cc at *
    generalize N.A = nA at *; generalize N.n = nn at *; generalize N.c = nc at *
    generalize U.A = uA' at *; generalize U.n = un' at *; generalize U.c = uc' at *
    go_enter Tryz.func24, Tryz.ntmps24
    go_wp2_with fail
    refine (HV.out _ (by exact gr_auto)).mono ?_
    rintro e w1 ⟨rfl, hb1⟩
    have g1 : Gr w w1 := Gr.trans (by exact gr_auto) hb1
    have d0 := Gr.at hb1 (b := w.heap.size) (o := 0) (v := .slice sA sn sc) (by simp [go_sem])
    have d1 := Gr.at hb1 (b := w.heap.size) (o := 1) (v := .slice fA fn fc) (by simp [go_sem])
    have d2 := Gr.at hb1 (b := w.heap.size + 1) (o := 0) (v := .int .i64 fr) (by simp [go_sem])
    have d3 := Gr.at hb1 (b := w.heap.size + 1) (o := 1) (v := .int .i64 st) (by simp [go_sem])
    have d4 := Gr.at hb1 (b := w.heap.size + 1) (o := 2) (v := .slice dA dn dc) (by simp [go_sem])
    clear HV hb1
    go_wp2_with fail
    go_ret2
    exact ⟨rfl, gr_auto⟩
  · rw [h] at HV
    clear h
    rcases h2 with h | ⟨h, h2⟩
    · rw [h] at HC
      clear h HS
      unfold Ms.Mesh.val Ba.Ser.val at *
      generalize m.S.A = sA at *; generalize m.S.n = sn at *; generalize m.S.c = sc at *; generalize m.F.A = fA at *; generalize m.F.n = fn at *; generalize m.F.c = fc at *
      generalize s.fr = fr at *; generalize s.st = st at *; generalize s.ds.A = dA at *; generalize s.ds.n = dn at *; generalize s.ds.c = dc at *
      generalize P.A = pA at *; generalize P.n = pn at *; generalize P.c = pc at *
      generalize C.A = cA at *; generalize C.n = cn at *; generalize C.c = cc at *
      generalize N.A = nA at *; generalize N.n = nn at *; generalize N.c = nc at *
      generalize U.A = uA' at *; generalize U.n = un' at *; generalize U.c = uc' at *
      go_enter Tryz.func24, Tryz.ntmps24
      go_wp2_with fail
      refine (HV.out _ (by exact gr_auto)).mono ?_
      rintro e w1 ⟨rfl, hb1⟩
      have g1 : Gr w w1 := Gr.trans (by exact gr_auto) hb1
      have d0 := Gr.at hb1 (b := w.heap.size) (o := 0) (v := .slice sA sn sc) (by simp [go_sem])
      have d1 := Gr.at hb1 (b := w.heap.size) (o := 1) (v := .slice fA fn fc) (by simp [go_sem])
      have d2 := Gr.at hb1 (b := w.heap.size + 1) (o := 0) (v := .int .i64 fr) (by simp [go_sem])
      have d3 := Gr.at hb1 (b := w.heap.size + 1) (o := 1) (v := .int .i64 st) (by simp [go_sem])
      have d4 := Gr.at hb1 (b := w.heap.size + 1) (o := 2) (v := .slice dA dn dc) (by simp [go_sem])
      clear HV hb1
      go_wp2_with fail
      refine (HC.out _ g1).mono ?_
      rintro e w2 ⟨rfl, hb2⟩
      have g2 := g1.trans hb2
      replace d0 := Gr.at hb2 d0; replace d1 := Gr.at hb2 d1; replace d2 := Gr.at hb2 d2; replace d3 := Gr.at hb2 d3; replace d4 := Gr.at hb2 d4
      clear HC hb2
      go_wp2_with fail
      go_ret2
      exact ⟨rfl, gr_auto⟩
    · rw [h] at HC
      rw [h2] at HS
      clear h h2
      unfold Ms.Mesh.val Ba.Ser.val at *
      generalize m.S.A = sA at *; generalize m.S.n = sn at *; generalize m.S.c = sc at *; generalize m.F.A = fA at *; generalize m.F.n = fn at *; generalize m.F.c = fc at *
      generalize s.fr = fr at *; generalize s.st = st at *; generalize s.ds.A = dA at *; generalize s.ds.n = dn at *; generalize s.ds.c = dc at *
      generalize P.A = pA at *; generalize P.n = pn at *; generalize P.c = pc at *
      generalize C.A = cA at *; generalize C.n = cn at *; generalize C.c = cc at *
      generalize N.A = nA at *; generalize N.n = nn at *; generalize N.c = nc at *
      generalize U.A = uA' at *; generalize U.n = un' at *; generalize U.c = uc' at *
      go_enter Tryz.func24, Tryz.ntmps24
      go_wp2_with fail
      refine (HV.out _ (by exact gr_auto)).mono ?_
      rintro e w1 ⟨rfl, hb1⟩
      have g1 : Gr w w1 := Gr.trans (by exact gr_auto) hb1
      have d0 := Gr.at hb1 (b := w.heap.size) (o := 0) (v := .slice sA sn sc) (by simp [go_sem])
      have d1 := Gr.at hb1 (b := w.heap.size) (o := 1) (v := .slice fA fn fc) (by simp [go_sem])
      have d2 := Gr.at hb1 (b := w.heap.size + 1) (o := 0) (v := .int .i64 fr) (by simp [go_sem])
      have d3 := Gr.at hb1 (b := w.heap.size + 1) (o := 1) (v := .int .i64 st) (by simp [go_sem])
      have d4 := Gr.at hb1 (b := w.heap.size + 1) (o := 2) (v := .slice dA dn dc) (by simp [go_sem])
      clear HV hb1
      go_wp2_with fail
      refine (HC.out _ g1).mono ?_
      rintro e w2 ⟨rfl, hb2⟩
      have g2 := g1.trans hb2
      replace d0 := Gr.at hb2 d0; replace d1 := Gr.at hb2 d1; replace d2 := Gr.at hb2 d2; replace d3 := Gr.at hb2 d3; replace d4 := Gr.at hb2 d4
      clear HC hb2
      go_wp2_with fail
      refine (HS.out _ g2).mono ?_
      rintro e w3 ⟨rfl, hb3⟩
      have g3 := g2.trans hb3
      replace d0 := Gr.at hb3 d0; replace d1 := Gr.at hb3 d1; replace d2 := Gr.at hb3 d2; replace d3 := Gr.at hb3 d3; replace d4 := Gr.at hb3 d4
      clear HS hb3
      go_wp2_with fail
      go_ret2
      exact ⟨rfl, gr_auto⟩
set_option maxRecDepth 100000 in
set_option maxHeartbeats 8000000 in
theorem rin_no2 (m : Ms.Mesh) (C : Ba.SlClass) (P : Ba.SlI) (N : Ba.SlS) (U : Ba.SlU) (s : Ba.Ser) (w : World) (hm : m.At w) (hsm : m.S.n ≤ 60 ∧ m.F.n ≤ 60) (hC : C.At w) (hP : P.At w) (hN : N.At w) (hU : U.At w) (hS : s.Ok w) (h1 : Ms.vlB m = true) (h2 : Ba.clsB C = true) (h3 : Ba.serB s = true) (h : Ba.riE m C P N U s ≠ 0) : Calls Tryz.prog 24 #[m.val, .slice C.A C.n C.c, .slice P.A P.n P.c, .slice N.A N.n N.c, .slice U.A U.n U.c, s.val] w fun e w' => e = .returned (.tuple #[.slice none 0 0, .int .i64 (Ba.riE m C P N U s)]) ∧ Gr w w' := by
  have l1 := Nat.le_trans hC.hc hC.hb; have l2 := Nat.le_trans hN.hc hN.hb; have l3 := Nat.le_trans hU.hc hU.hb; have l4 := Nat.le_trans hP.hc hP.hb
  have HV := Lib.hid (fun W (hW : Gr w W) => rs_valid m W ⟨hm.s.gr hW, hm.f.gr hW⟩ (Or.inr hsm))
  have HC := Lib.hid (fun W (hW : Gr w W) => rvalid_any C W (hC.gr hW))
  have HS := Lib.hid (fun W (hW : Gr w W) => rser_any s W (hS.gr hW))
  have HUV := Lib.hid (fun i (hi : i < U.n) W (hW : Gr w W) => runi_any (U.X i) W ((hU.hX i hi).2.gr hW))
  have HUX := Lib.hid (fun i (hi : i < U.n) => (hU.hX i hi).1); have HUA := Lib.hid hU.hA
  have HN := Lib.hid (fun W (hW : Gr w W) => rnames_any N W (hN.gr hW))
  have HF := Lib.hid (fun W (hW : Gr w W) => rfits_any m (C.n : Int) P N U W ⟨hm.s.gr hW, hm.f.gr hW⟩ (hP.gr hW) (hN.gr hW) (hU.gr hW))
  rw [h1] at HV; rw [h2] at HC; rw [h3] at HS
  have HER := Lib.hid (fun (q : ∃ i, i < U.n ∧ Ba.badU U i = true) => show Ba.riE m C P N U s = 1 from Ba.riE_1 (.inr (.inr (.inr ((Ba.any_iff _ _).2 q)))))
  have HZ := Lib.hid (fun (q : ∀ j, j < U.n → Ba.badU U j = false) => Ba.riE_2 h1 h2 h3 (Ba.any_all q) (P := P) (N := N))
  have HNZ := Lib.hid h
  clear hm hsm hC hP hN hU hS h1 h2 h3 h
  have HBU := Lib.hid (fun i => show Ba.uniB (U.X i) = !Ba.badU U i from by unfold Ba.badU; rw [Bool.not_not])
  generalize Ba.badU U = bu at *
  generalize Ba.riE m C P N U s = er at *
  generalize Ba.nmsE N = nE at *
  generalize Ba.fitE m (C.n : Int) P N U = fE at *
  unfold Ms.Mesh.val Ba.Ser.val at *
  generalize m.S.A = sA at *; generalize m.S.n = sn at *; generalize m.S.c = sc at *; generalize m.F.A = fA at *; generalize m.F.n = fn at *; generalize m.F.c = fc at *
  generalize s.fr = fr at *; generalize s.st = st at *; generalize s.ds.A = dA at *; generalize s.ds.n = dn at *; generalize s.ds.c = dc at *
  generalize P.A = pA at *; generalize P.n = pn at *; generalize P.c = pc at *
  generalize C.A = cA at *; generalize C.n = cn at *; generalize C.c = cc at *
  generalize N.A = nA at *; generalize N.n = nn at *; generalize N.c = nc at *
  generalize U.A = uA' at *; generalize U.n = un' at *; generalize U.c = uc' at *; generalize U.X = UX at *; generalize U.b = ub at *; generalize U.o = uo at *
  go_enter Tryz.func24, Tryz.ntmps24
  go_wp2_with fail
  refine (HV.out _ (by exact gr_auto)).mono ?_
  rintro e w1 ⟨rfl, hb1⟩
  have g1 : Gr w w1 := Gr.trans (by exact gr_auto) hb1
  have d0 := Gr.at hb1 (b := w.heap.size) (o := 0) (v := .slice sA sn sc) (by simp [go_sem])
  have d1 := Gr.at hb1 (b := w.heap.size) (o := 1) (v := .slice fA fn fc) (by simp [go_sem])
  have d2 := Gr.at hb1 (b := w.heap.size + 1) (o := 0) (v := .int .i64 fr) (by simp [go_sem])
  have d3 := Gr.at hb1 (b := w.heap.size + 1) (o := 1) (v := .int .i64 st) (by simp [go_sem])
  have d4 := Gr.at hb1 (b := w.heap.size + 1) (o := 2) (v := .slice dA dn dc) (by simp [go_sem])
  clear HV hb1
  go_wp2_with fail
  refine (HC.out _ g1).mono ?_
  rintro e w2 ⟨rfl, hb2⟩
  have g2 := g1.trans hb2
  replace d0 := Gr.at hb2 d0; replace d1 := Gr.at hb2 d1; replace d2 := Gr.at hb2 d2; replace d3 := Gr.at hb2 d3; replace d4 := Gr.at hb2 d4
  clear HC hb2
  go_wp2_with fail
  refine (HS.out _ g2).mono ?_
  rintro e w3 ⟨rfl, hb3⟩
  have g3 := g2.trans hb3
  replace d0 := Gr.at hb3 d0; replace d1 := Gr.at hb3 d1; replace d2 := Gr.at hb3 d2; replace d3 := Gr.at hb3 d3; replace d4 := Gr.at hb3 d4
  clear HS hb3
  go_wp2_with fail
  have HD := Lib.hid (And.intro d0 (And.intro d1 (And.intro d2 (And.intro d3 d4))))
  clear d0 d1 d2 d3 d4
  go_loopw [14] (fun x wr => ∃ i : Nat, i ≤ un' ∧ x = .int .i64 (i : Int) ∧ Hid (∀ j, j < i → bu j = false) ∧ Gr w3 wr) (fun x _ => un' - (intOf x).toNat)
  case atStart => exact ⟨0, Nat.zero_le _, rfl, Lib.hid (fun j hj => absurd hj (Nat.not_lt_zero j)), Gr.refl _⟩
  case round =>
    obtain ⟨i, hi, rfl, HQ, hg⟩ := hrel
    rename World => W1
    by_cases hlt : i < un'
    · obtain rfl := HUA.out (by omega)
      have ib0 : (0 : Int) ≤ (i : Int) := by omega
      have ib1 : (i : Int) < (un' : Int) := by omega
      have gw := g3.trans hg
      have u0 := Gr.at gw (HUX.out i hlt)
      have HVi := Lib.hid (HUV.out i hlt)
      rw [show Ba.uniB (UX i) = !bu i from HBU.out i] at HVi
      have HBF := Lib.hid (fun (q : bu i = true) => HER.out ⟨i, hlt, q⟩)
      have HQ2 := Lib.hid (fun (q : bu i = false) j (hj : j < i + 1) => show bu j = false from by
        by_cases e : j = i
        · rw [e]; exact q
        · exact HQ.out j (by omega))
      clear HUX HUA HUV HBU HQ HER HZ HNZ HN HF
      generalize (UX i).A = vA at *; generalize (UX i).n = vn at *; generalize (UX i).c = vc at *
      cases hb : bu i
      · rw [hb] at HVi
        go_wp2_with fail
        refine (HVi.out _ gw).mono ?_
        rintro e w5 ⟨rfl, hb5⟩
        go_wp2_with fail
        go_roundw
        case rel => exact ⟨i + 1, by omega, by go_num, Lib.hid (HQ2.out hb), hg.trans hb5⟩
        case measure => simp [intOf]; omega
      · rw [hb] at HVi
        have he := HBF.out hb
        subst he
        go_wp2_with fail
        refine (HVi.out _ gw).mono ?_
        rintro e w5 ⟨rfl, hb5⟩
        go_wp2_with fail
        go_ret2
        exact ⟨rfl, gw.trans hb5⟩
    · obtain rfl : un' = i := by omega
      have gw := g3.trans hg
      obtain ⟨d0, d1, d2, d3, d4⟩ := HD.out
      replace d0 := Gr.at hg d0; replace d1 := Gr.at hg d1; replace d2 := Gr.at hg d2; replace d3 := Gr.at hg d3; replace d4 := Gr.at hg d4
      have hq := HQ.out
      have hz := HZ.out hq
      by_cases hn : nE = 0
      · have q0 : (nE != 0) = false := by rw [hn]; rfl
        have q1 : (fE != 0) = true := bne_iff_ne.2 (fun e => HNZ.out (by rw [hz, if_pos hn]; exact e))
        rw [if_pos hn] at hz
        clear HER HBU HUX HUA HUV HQ hq hn
        subst hz
        go_wp2_with fail
        refine (HN.out _ gw).mono ?_
        rintro e w4 ⟨rfl, hb4⟩
        have g4 := gw.trans hb4
        replace d0 := Gr.at hb4 d0; replace d1 := Gr.at hb4 d1; replace d2 := Gr.at hb4 d2; replace d3 := Gr.at hb4 d3; replace d4 := Gr.at hb4 d4
        go_wp2_with fail
        refine (HF.out _ g4).mono ?_
        rintro e w5 ⟨rfl, hb5⟩
        go_wp2_with fail
        go_ret2
        exact ⟨rfl, g4.trans hb5⟩
      · have q0 : (nE != 0) = true := bne_iff_ne.2 hn
        rw [if_neg hn] at hz
        clear HER HBU HUX HUA HUV HQ hq HF hn
        subst hz
        go_wp2_with fail
        refine (HN.out _ gw).mono ?_
        rintro e w4 ⟨rfl, hb4⟩
        go_wp2_with fail
        go_ret2
        exact ⟨rfl, gw.trans hb4⟩
theorem rinflows_no (m : Ms.Mesh) (C : Ba.SlClass) (P : Ba.SlI) (N : Ba.SlS) (U : Ba.SlU) (s : Ba.Ser) (w : World) (hm : m.At w) (hsm : m.S.n ≤ 60 ∧ m.F.n ≤ 60) (hC : C.At w) (hP : P.At w) (hN : N.At w) (hU : U.At w) (hS : s.Ok w) (h : Ba.riE m C P N U s ≠ 0) : Calls Tryz.prog 24 #[m.val, .slice C.A C.n C.c, .slice P.A P.n P.c, .slice N.A N.n N.c, .slice U.A U.n U.c, s.val] w fun e w' => e = .returned (.tuple #[.slice none 0 0, .int .i64 (Ba.riE m C P N U s)]) ∧ Gr w w' := by
  cases h1 : Ms.vlB m
  · exact rin_no1 m C P N U s w hm hsm hC hP hN hU hS (.inl h1)
  · cases h2 : Ba.clsB C
    · exact rin_no1 m C P N U s w hm hsm hC hP hN hU hS (.inr ⟨h1, .inl h2⟩)
    · cases h3 : Ba.serB s
      · exact rin_no1 m C P N U s w hm hsm hC hP hN hU hS (.inr ⟨h1, .inr ⟨h2, h3⟩⟩)
      · exact rin_no2 m C P N U s w hm hsm hC hP hN hU hS h1 h2 h3 h
theorem rof_at (m : Ms.Mesh) (C : Ba.SlClass) (P : Ba.SlI) (U : Ba.SlU) (s : Ba.Ser) (i : Nat) (A : Option Addr) (c b o : Nat) (W : World) (hC : C.At W) (ha : Ba.SlI.At W ⟨A, C.n, c, b, o, Ba.ownX m P C.n i⟩) (hu : (U.X i).At W) (hs : s.Ok W) (hn : s.ds.n ≤ 1000) :
    Calls Tryz.prog 63 #[.slice C.A C.n C.c, .slice A C.n c, .slice (U.X i).A (U.X i).n (U.X i).c, s.val] W fun e w' => ∃ r : Ba.SlI, e = .returned (.tuple #[.slice r.A r.n r.c, .int .i64 (Ba.inE m C P U s i)]) ∧ r.At w' ∧ (Ba.inE m C P U s i = 0 → inV m C P U s i r) ∧ (Ba.inE m C P U s i ≠ 0 → r.n = 0) ∧ (0 < r.n → W.heap.size ≤ r.b) ∧ Gr W w' := by
  refine (rof_any C ⟨A, C.n, c, b, o, Ba.ownX m P C.n i⟩ (U.X i) s W hC ha hu hs hn).mono ?_
  rintro e w' ⟨r, rfl, r1, r2, r3, r5, r4⟩
  rw [Ba.ofE_own, Ba.ofN_own, Ba.ofX_own] at r2
  rw [Ba.ofE_own] at r3
  exact ⟨r, by rw [Ba.ofE_own]; rfl, r1, r2, r3, r5, r4⟩
set_option maxRecDepth 100000 in
set_option maxHeartbeats 8000000 in
theorem rinflows_ok (m : Ms.Mesh) (C : Ba.SlClass) (P : Ba.SlI) (N : Ba.SlS) (U : Ba.SlU) (s : Ba.Ser) (w : World) (hm : m.At w) (hsm : m.S.n ≤ 60 ∧ m.F.n ≤ 60) (hC : C.At w) (hP : P.At w) (hN : N.At w) (hU : U.At w) (hS : s.Ok w) (hC1 : 1 ≤ C.n) (hC2 : C.n ≤ 16) (hds : s.ds.n ≤ 1000) (h : Ba.riE m C P N U s = 0) : Calls Tryz.prog 24 #[m.val, .slice C.A C.n C.c, .slice P.A P.n P.c, .slice N.A N.n N.c, .slice U.A U.n U.c, s.val] w (RetIn m C P N U s w) := by
  obtain ⟨z1, z2, z3, z4, z5, z6, z7, z8, z9, z10, z11⟩ := Ba.riE_zero h
  have hk : ∀ i, i < m.F.n → (m.F.D i).k < (C.n : Int) := fun i hi => by
    have : Ba.badK m C.n i = false := by
      cases q : Ba.badK m C.n i with
      | false => rfl
      | true => rw [Ms.any_hit q hi] at z11; cases z11
    unfold Ba.badK at this
    rw [decide_eq_false_iff_not] at this; omega
  have hsp := Ba.riE_2 (P := P) (N := N) z1 z2 z3 z4
  rw [h] at hsp
  have hnE : Ba.nmsE N = 0 := by unfold Ba.nmsE; rw [if_neg (by rw [z5]; decide), if_neg (by omega)]
  have hfE : Ba.fitE m (C.n : Int) P N U = 0 := by rw [if_pos hnE] at hsp; exact hsp.symm
  clear hsp
  have HBF0 := Lib.hid (fun (q : ∃ i, i < U.n ∧ Ba.badU U i = true) => show False from by rw [(Ba.any_iff _ _).2 q] at z4; cases z4)
  have l1 := Nat.le_trans hC.hc hC.hb; have l2 := Nat.le_trans hN.hc hN.hb; have l3 := Nat.le_trans hU.hc hU.hb; have l4 := Nat.le_trans hP.hc hP.hb
  have HV := Lib.hid (fun W (hW : Gr w W) => rs_valid m W ⟨hm.s.gr hW, hm.f.gr hW⟩ (Or.inr hsm))
  have HC := Lib.hid (fun W (hW : Gr w W) => rvalid_any C W (hC.gr hW))
  have HS := Lib.hid (fun W (hW : Gr w W) => rser_any s W (hS.gr hW))
  have HUV := Lib.hid (fun i (hi : i < U.n) W (hW : Gr w W) => runi_any (U.X i) W ((hU.hX i hi).2.gr hW))
  have HUX := Lib.hid (fun i (hi : i < U.n) => (hU.hX i hi).1); have HUA := Lib.hid hU.hA
  have HN := Lib.hid (fun W (hW : Gr w W) => rnames_any N W (hN.gr hW))
  have HF := Lib.hid (fun W (hW : Gr w W) => rfits_any m (C.n : Int) P N U W ⟨hm.s.gr hW, hm.f.gr hW⟩ (hP.gr hW) (hN.gr hW) (hU.gr hW))
  rw [z1] at HV; rw [z2] at HC; rw [z3] at HS
  have HO := Lib.hid (fun i A c b o W (hi : i < U.n) (hW : Gr w W) ha => rof_at m C P U s i A c b o W (hC.gr hW) ha ((hU.hX i hi).2.gr hW) (hS.gr hW) hds)
  have HRW := Lib.hid (fun i W (hW : Gr w W) => rown_any m P C.n i W ⟨hm.s.gr hW, hm.f.gr hW⟩ ⟨by omega, by omega⟩ (hP.gr hW) z1 z7 hC1 hC2 hk)
  have HNX := Lib.hid (fun i (hi : i < N.n) => (hN.hX i hi).1)
  have HNA := Lib.hid hN.hA
  have HER := Lib.hid (fun (q : ∃ i, i < U.n ∧ Ba.badU U i = true) => HBF0.out q)
  unfold RetIn
  have HIV := Lib.hid (fun i (r : Ba.SlI) => show inV m C P U s i r ↔ (r.n = Ba.ofN C (Ba.ownS m P C.n i) (U.X i) s ∧ ∀ j, j < r.n → r.X j = Ba.ofX C (Ba.ownS m P C.n i) (U.X i) s j) from Iff.rfl)
  have z8' := z8
  clear hm hsm hC hP hN hU hS hk z1 z2 z3 z4 z5 z7 z8 z9 z10 z11 h HBF0
  have HBU := Lib.hid (fun i => show Ba.uniB (U.X i) = !Ba.badU U i from by unfold Ba.badU; rw [Bool.not_not])
  generalize Ba.badU U = bu at *
  generalize Ba.ownX m P C.n = OX at *
  obtain ⟨er, her⟩ : ∃ z, Ba.inE m C P U s = z := ⟨_, rfl⟩
  rw [her] at HO
  rw [her]
  clear her
  generalize Ba.nmsE N = nE at *
  generalize Ba.fitE m (C.n : Int) P N U = fE at *
  obtain ⟨j2, hj0, hz0, hz1, hz2⟩ := info_parts info_inflow
  have LI := Lib.hid hj0; have LZ0 := Lib.hid hz0; have LZ1 := Lib.hid hz1; have LZ2 := Lib.hid hz2
  clear hj0 hz0 hz1 hz2
  obtain ⟨UX, hUX⟩ : ∃ z, U.X = z := ⟨_, rfl⟩
  rw [hUX] at HUV HUX HBU HO
  obtain ⟨NX, hNX⟩ : ∃ z, N.X = z := ⟨_, rfl⟩
  rw [hNX] at HNX
  rw [hNX]
  clear hUX hNX
  unfold Ms.Mesh.val Ba.Ser.val at *
  generalize m.S.A = sA at *; generalize m.S.n = sn at *; generalize m.S.c = sc at *; generalize m.F.A = fA at *; generalize m.F.n = fn at *; generalize m.F.c = fc at *
  generalize s.fr = fr at *; generalize s.st = st at *; generalize s.ds.A = dA at *; generalize s.ds.n = dn at *; generalize s.ds.c = dc at *
  generalize P.A = pA at *; generalize P.n = pn at *; generalize P.c = pc at *
  generalize C.A = cA at *; generalize C.n = cn at *; generalize C.c = cc at *
  generalize N.A = nA at *; generalize N.n = nn at *; generalize N.c = nc at *
  rw [z8'] at HUV HUX HUA HF HO HER l3 ⊢
  clear z8'
  generalize U.A = uA' at *; generalize U.c = uc' at *; generalize U.b = ub at *; generalize U.o = uo at *
  generalize N.b = nb at *; generalize N.o = no_ at *
  go_enter Tryz.func24, Tryz.ntmps24
  go_wp2_with fail
  refine (HV.out _ (by exact gr_auto)).mono ?_
  rintro e w1 ⟨rfl, hb1⟩
  have g1 : Gr w w1 := Gr.trans (by exact gr_auto) hb1
  have d0 := Gr.at hb1 (b := w.heap.size) (o := 0) (v := .slice sA sn sc) (by simp [go_sem])
  have d1 := Gr.at hb1 (b := w.heap.size) (o := 1) (v := .slice fA fn fc) (by simp [go_sem])
  have d2 := Gr.at hb1 (b := w.heap.size + 1) (o := 0) (v := .int .i64 fr) (by simp [go_sem])
  have d3 := Gr.at hb1 (b := w.heap.size + 1) (o := 1) (v := .int .i64 st) (by simp [go_sem])
  have d4 := Gr.at hb1 (b := w.heap.size + 1) (o := 2) (v := .slice dA dn dc) (by simp [go_sem])
  clear HV hb1
  go_wp2_with fail
  refine (HC.out _ g1).mono ?_
  rintro e w2 ⟨rfl, hb2⟩
  have g2 := g1.trans hb2
  replace d0 := Gr.at hb2 d0; replace d1 := Gr.at hb2 d1; replace d2 := Gr.at hb2 d2; replace d3 := Gr.at hb2 d3; replace d4 := Gr.at hb2 d4
  clear HC hb2
  go_wp2_with fail
  refine (HS.out _ g2).mono ?_
  rintro e w3 ⟨rfl, hb3⟩
  have g3 := g2.trans hb3
  replace d0 := Gr.at hb3 d0; replace d1 := Gr.at hb3 d1; replace d2 := Gr.at hb3 d2; replace d3 := Gr.at hb3 d3; replace d4 := Gr.at hb3 d4
  clear HS hb3
  go_wp2_with fail
  have HD := Lib.hid (And.intro d0 (And.intro d1 (And.intro d2 (And.intro d3 d4))))
  clear d0 d1 d2 d3 d4
  go_loopw [14] (fun x wr => ∃ i : Nat, i ≤ nn ∧ x = .int .i64 (i : Int) ∧ Hid (∀ j, j < i → bu j = false) ∧ Gr w3 wr) (fun x _ => nn - (intOf x).toNat)
  case atStart => exact ⟨0, Nat.zero_le _, rfl, Lib.hid (fun j hj => absurd hj (Nat.not_lt_zero j)), Gr.refl _⟩
  case round =>
    obtain ⟨i, hi, rfl, HQ, hg⟩ := hrel
    rename World => W1
    by_cases hlt : i < nn
    · obtain rfl := HUA.out (by omega)
      have ib0 : (0 : Int) ≤ (i : Int) := by omega
      have ib1 : (i : Int) < (nn : Int) := by omega
      have gw := g3.trans hg
      have u0 := Gr.at gw (HUX.out i hlt)
      have HVi := Lib.hid (HUV.out i hlt)
      rw [show Ba.uniB (UX i) = !bu i from HBU.out i] at HVi
      have HBF := Lib.hid (fun (q : bu i = true) => HER.out ⟨i, hlt, q⟩)
      have HQ2 := Lib.hid (fun (q : bu i = false) j (hj : j < i + 1) => show bu j = false from by
        by_cases e : j = i
        · rw [e]; exact q
        · exact HQ.out j (by omega))
      clear HUX HUA HUV HBU HQ HER HO HRW HNX HNA HIV HN HF
      generalize (UX i).A = vA at *; generalize (UX i).n = vn at *; generalize (UX i).c = vc at *
      cases hb : bu i
      · rw [hb] at HVi
        go_wp2_with fail
        refine (HVi.out _ gw).mono ?_
        rintro e w5 ⟨rfl, hb5⟩
        go_wp2_with fail
        go_roundw
        case rel => exact ⟨i + 1, by omega, by go_num, Lib.hid (HQ2.out hb), hg.trans hb5⟩
        case measure => simp [intOf]; omega
      · rw [hb] at HVi
        exact (HBF.out hb).elim
    · obtain rfl : nn = i := by omega
      have gw := g3.trans hg
      obtain ⟨d0, d1, d2, d3, d4⟩ := HD.out
      replace d0 := Gr.at hg d0; replace d1 := Gr.at hg d1; replace d2 := Gr.at hg d2; replace d3 := Gr.at hg d3; replace d4 := Gr.at hg d4
      have hq := HQ.out
      have q0 : (nE != 0) = false := by rw [hnE]; rfl
      have q1 : (fE != 0) = false := by rw [hfE]; rfl
      clear HER HBU HUV HQ hq
      go_wp2_with fail
      refine (HN.out _ gw).mono ?_
      rintro e w4 ⟨rfl, hb4⟩
      have g4 := gw.trans hb4
      replace d0 := Gr.at hb4 d0; replace d1 := Gr.at hb4 d1; replace d2 := Gr.at hb4 d2; replace d3 := Gr.at hb4 d3; replace d4 := Gr.at hb4 d4
      clear HN
      go_wp2_with fail
      refine (HF.out _ g4).mono ?_
      rintro e w5 ⟨rfl, hb5⟩
      have g5 := g4.trans hb5
      replace d0 := Gr.at hb5 d0; replace d1 := Gr.at hb5 d1; replace d2 := Gr.at hb5 d2; replace d3 := Gr.at hb5 d3; replace d4 := Gr.at hb5 d4
      clear HF
      go_wp2_with fail
      replace HD := Lib.hid (And.intro d0 (And.intro d1 (And.intro d2 (And.intro d3 d4))))
      clear d0 d1 d2 d3 d4
      go_loopw [17, 18] (fun v x wr => ∃ i V, i ≤ nn ∧ x = .int .i64 (i : Int) ∧ Hid (InSt wr w5.heap.size v i NX V) ∧ Hid (∀ j, j < i → er j = 0 ∧ inV m C P U s j (V j)) ∧ Gr w5 wr) (fun _ x _ => nn - (intOf x).toNat)
      case atStart => exact ⟨0, fun _ => ⟨none, 0, 0, 0, 0, fun _ => 0⟩, Nat.zero_le _, rfl, Lib.hid (InSt.nil _ _ _ _), Lib.hid (fun j hj => absurd hj (Nat.not_lt_zero j)), Gr.refl _⟩
      case round =>
        clear hg
        obtain ⟨i, V, hi2, rfl, HI, HE, hg⟩ := hrel
        rename World => W2
        by_cases hlt : i < nn
        · obtain rfl := HNA.out (by omega); obtain rfl := HUA.out (by omega)
          obtain ⟨OA, oc, ob, rfl, -⟩ := HI.out.opened
          have ib0 : (0 : Int) ≤ (i : Int) := by omega
          have ib1 : (i : Int) < (nn : Int) := by omega
          have gw2 := g5.trans hg
          have n0 := Gr.at gw2 (HNX.out i hlt)
          have u0 := Gr.at gw2 (HUX.out i (by omega))
          obtain ⟨e0, e1, e2, e3, e4⟩ := HD.out
          replace e0 := Gr.at hg e0; replace e1 := Gr.at hg e1; replace e2 := Gr.at hg e2; replace e3 := Gr.at hg e3; replace e4 := Gr.at hg e4
          have HOi := Lib.hid (fun A c b o W hW ha => HO.out i A c b o W (by omega) hW ha)
          have HRi := Lib.hid (fun W hW => HRW.out i W hW)
          have hgs := Gr.size hg
          clear HO HUX HNX HNA HUA HRW
          obtain ⟨uA, huA⟩ : ∃ q, (UX i).A = q := ⟨_, rfl⟩
          obtain ⟨un, hun⟩ : ∃ q, (UX i).n = q := ⟨_, rfl⟩
          obtain ⟨uc, huc⟩ : ∃ q, (UX i).c = q := ⟨_, rfl⟩
          rw [huA, hun, huc] at u0 HOi
          clear huA hun huc
          have bln := World.block_lt_of_cell? _ _ n0
          have blu := World.block_lt_of_cell? _ _ u0
          simp only at bln blu
          go_wp2_with fail
          have s0 : ∀ w', Gr W2 w' → w'.cell? ⟨ub, uo + i, none⟩ = some (.slice uA un uc) := fun w' hgW => Gr.at hgW u0
          have s1 : ∀ w', Gr W2 w' → w'.cell? ⟨w.heap.size + 1, 0, none⟩ = some (.int .i64 fr) := fun w' hgW => Gr.at hgW e2
          have s2 : ∀ w', Gr W2 w' → w'.cell? ⟨w.heap.size + 1, 1, none⟩ = some (.int .i64 st) := fun w' hgW => Gr.at hgW e3
          have s3 : ∀ w', Gr W2 w' → w'.cell? ⟨w.heap.size + 1, 2, none⟩ = some (.slice dA dn dc) := fun w' hgW => Gr.at hgW e4
          have s4 : ∀ w', Gr W2 w' → w'.cell? ⟨w.heap.size, 0, none⟩ = some (.slice sA sn sc) := fun w' hgW => Gr.at hgW e0
          have s5 : ∀ w', Gr W2 w' → w'.cell? ⟨w.heap.size, 1, none⟩ = some (.slice fA fn fc) := fun w' hgW => Gr.at hgW e1
          clear u0 e0 e1 e2 e3 e4
          go_region_held3 (fun w' => Gr W2 w') (exact gr_auto) (first | (go_at_call 64; refine (HRi.out _ (gw2.trans (by exact gr_auto))).mono ?_; rintro e w6 ⟨A6, c6, b6, o6, rfl, ha6, hb6⟩) | (go_at_call 63; refine (HOi.out _ _ _ _ _ (gw2.trans (by exact gr_auto)) (ha6.gr (by exact gr_auto))).mono ?_; rintro e w7 ⟨r, rfl, r1, r2, r3, r5, hb7⟩))
          all_goals (
          have hg7 : Gr W2 w7 := by assumption
          have GX := gw2
          by_cases hz : er i = 0
          · have q2 : (er i != 0) = false := by rw [hz]; rfl
            have hv := Lib.hid (r2 hz)
            have HZ := Lib.hid hz
            have G17 : Gr W2 w7 := hg7
            have HI7 := Lib.hid (HI.out.gr G17).out
            have hgs7 := Gr.size G17
            have n7 := Gr.at G17 n0
            have hsz6 : W2.heap.size ≤ w6.heap.size := by have z := Gr.size hb6; exact z
            clear s0 s1 s2 s3 s4 s5 hz n0
            go_upto_region 21 with fail
            go_wp2_with (at_builtin; refine wpList_append_lies _ rfl _ _ 53 rfl w5.heap.size 92 j2 (.agg #[.string ⟨#[]⟩, .slice none 0 0]) 2 40 Tryz.underlying53 LI.out LZ0.out LZ1.out LZ2.out rfl (by decide) (.slice OA i oc) i (fl NX V i) rfl (ownsRow_gr HI7.out (Gr.alloc (Gr.refl w7) _)) ⟨w7.heap.size, 0, none⟩ 1 1 [.string (NX i), .slice r.A r.n r.c] rfl rfl (by intro p u hp; rcases p with _ | _ | p <;> simp at hp <;> (try subst hp) <;> first | (simp [Addr.add, go_sem]; done) | (simp [Addr.add]; done)) (by intro u hu; simp at hu; rcases hu with rfl | rfl <;> rfl) (by decide) (by unfold maxLen; omega) (by omega) (by simp; omega) _ rfl ?_)
            intro GG pp w8 ho hr ht8 hl8
            have hf : 0 < r.n → W2.heap.size ≤ r.b := fun hn => by
              have b := r5 hn
              (try simp [go_sem] at b)
              omega
            have GA : Gr w7 (w7.alloc (Obj.cells #[.string (NX i), .slice r.A r.n r.c] 92)) := Gr.alloc (Gr.refl w7) _
            have HI8 := Lib.hid (HI.out.push (G17.trans GA) (r1.gr GA) hf ho hr (by rcases ht8 with q | q; exact .inl q.symm; exact .inr (by show some GG = _; rw [q]; try simp)))
            have HE8 := Lib.hid (fun j (hj : j < i + 1) => show er j = 0 ∧ inV m C P U s j ((fun q => if q = i then r else V q) j) from by
              by_cases e : j = i
              · subst e; simp only [if_true]; exact ⟨HZ.out, hv.out⟩
              · simp only [if_neg e]; exact HE.out j (by omega))
            have g28 : Gr w5 w8 := Gr.own (hg.trans (G17.trans GA)) (Nat.le_refl _) (ownsRow_gr HI7.out GA) hr
            clear ho hr ht8 hl8 HI7 HI HE
            go_wp2_with fail
            go_roundw
            case rel => exact ⟨i + 1, _, by omega, by go_num, HI8, HE8, g28⟩
            case measure => simp [intOf]; omega
          · have q2 : (er i != 0) = true := bne_iff_ne.2 hz
            clear s0 s1 s2 s3 s4 s5
            go_wp2_with fail
            go_ret2
            exact ⟨er i, none, 0, 0, 0, fun _ => ⟨none, 0, 0, 0, 0, fun _ => 0⟩, rfl, GX.trans hg7, fun h => absurd h hz, fun _ => ⟨rfl, i, hlt, rfl, fun j hj => (HE.out j hj).1⟩⟩)
        · obtain rfl : nn = i := by omega
          obtain ⟨OA, oc, ob, rfl, o1, o2, o3, o4⟩ := HI.out.opened
          have HO1 := Lib.hid o1; have HO4 := Lib.hid o4
          clear o1 o4
          go_wp2_with fail
          go_ret2
          exact ⟨0, OA, nn, oc, ob, V, rfl, g5.trans hg, fun _ => ⟨rfl, HO1.out, o2, o3, fun j hj => ⟨(HE.out j hj).1, (HO4.out j hj).1, (HO4.out j hj).2, HI.out.row j hj, ((HIV.out j (V j)).1 (HE.out j hj).2).1, ((HIV.out j (V j)).1 (HE.out j hj).2).2⟩⟩, fun h => absurd rfl h⟩
end Go.Proofs.YtajhhplgcegodaaGreatDoor
