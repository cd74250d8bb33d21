/-
  The law ArealWeights. (Printed by mkzl.py.)
-/
import Derived.Test.YtajhhplgcegodaaGreatDoorZwB
import Derived.Test.YtajhhplgcegodaaGreatDoorArI
import Derived.Test.YtajhhplgcegodaaGreatDoorArL
set_option linter.unusedVariables false
set_option linter.unusedSimpArgs false
namespace Go.Proofs.YtajhhplgcegodaaGreatDoor
open Go.RowKit
attribute [local go_sem ↓] Go.wp_at_zero Go.wp_at_succ
namespace Ba
def larB (m : Ms.Mesh) : Bool := (decide (60 < m.S.n) && decide (m.S.n ≤ 2000)) || ((decide (60 < m.F.n) && decide (m.F.n ≤ 4000)) || (decide (2010 < m.S.n) || decide (4010 < m.F.n)))
theorem larB_no {m : Ms.Mesh} (h : larB m = false) : Ms.smB m = false ∨ (m.S.n ≤ 60 ∧ m.F.n ≤ 60) := by
  unfold larB at h
  simp only [Bool.or_eq_false_iff, Bool.and_eq_false_iff, decide_eq_false_iff_not] at h
  by_cases q : m.S.n ≤ 60 ∧ m.F.n ≤ 60
  · exact Or.inr q
  · left
    unfold Ms.smB
    by_cases p : m.S.n ≤ 2000
    · rw [decide_eq_false (show ¬ m.F.n ≤ 4000 by omega), Bool.and_false]
    · rw [decide_eq_false p]; rfl
end Ba
set_option maxRecDepth 100000 in
set_option maxHeartbeats 4000000 in
theorem large_any (m : Ms.Mesh) (w : World) : Calls Tryz.prog 7 #[m.val] w fun e w' => e = .returned (.bool (Ba.larB m)) ∧ Gr w w' := by
  unfold Ba.larB Ms.Mesh.val
  generalize m.S.A = sA at *; generalize m.S.n = sn at *; generalize m.S.c = sc at *; generalize m.F.A = fA at *; generalize m.F.n = fn at *; generalize m.F.c = fc at *
  by_cases a0 : 60 < sn <;> by_cases a1 : sn ≤ 2000 <;> by_cases a2 : 60 < fn <;> by_cases a3 : fn ≤ 4000 <;> by_cases a4 : 2010 < sn <;> by_cases a5 : 4010 < fn
  all_goals first
    | (exfalso; omega)
    | (
       go_enter Tryz.func7, Tryz.ntmps7
       go_wp2_with fail
       go_ret
       exact ⟨ret_bool (Bool.eq_iff_iff.2 (by simp <;> omega)), gr_auto⟩)
/-- Two answers of Weights: equal slices. -/
theorem we_eq {m : Ms.Mesh} {P : Ba.SlI} {G : Ba.SlGauge} {k : Int} (r t : Ba.SlI) (W : World) (hr : r.At W) (ht : t.At W) (rn : r.n = Ba.weN m P G k) (tn : t.n = Ba.weN m P G k) (rX : ∀ j, j < r.n → r.X j = Ba.wtS m P.X G k m.F.n j) (tX : ∀ j, j < t.n → t.X j = Ba.wtS m P.X G k m.F.n j) :
    Calls Tryz.prog 11 #[.slice r.A r.n r.c, .slice t.A t.n t.c] W fun e w' => e = .returned (.bool true) ∧ Gr W w' := by
  have h := equal_any r t W hr ht
  have e : Ba.eqI r t = true := Ba.eqI_of (rn.trans tn.symm) (fun j hj => (rX j hj).trans (tX j (by omega)).symm)
  rw [e] at h; exact h
set_option maxRecDepth 100000 in
set_option maxHeartbeats 4000000 in
theorem aw_law (m : Ms.Mesh) (P : Ba.SlI) (G : Ba.SlGauge) (k : Int) (w : World) (h : m.At w) (hP : P.At w) (hG : G.At w) (_ : Ba.i64 k) : Calls Tryz.prog 3 #[m.val, .slice P.A P.n P.c, .slice G.A G.n G.c, .int .i64 k] w fun e w' => e = .returned (.bool true) ∧ Gr w w' := by
  have HA := Lib.hid (fun W => awake_any W)
  have HL := Lib.hid (fun W => large_any m W)
  have HM := Lib.hid (fun W (hW : Gr w W) => many_any G W (hG.gr hW))
  have hpm := Nat.le_trans hP.hc hP.hb; have hgm := Nat.le_trans hG.hc hG.hb
  have PRE := True.intro
  cases hl : Ba.larB m
  · have hs := Ba.larB_no hl
    rw [hl] at HL
    cases hq : Ba.manB G
    · rw [hq] at HM
      by_cases h5 : P.n ≤ 5000
      · have HW := Lib.hid (fun W (hW : Gr w W) => we_any m P G k W ⟨h.s.gr hW, h.f.gr hW⟩ (hP.gr hW) (hG.gr hW) hs)
        have HR := Lib.hid (fun W (hW : Gr w W) => rwe_any m P G k W ⟨h.s.gr hW, h.f.gr hW⟩ (hP.gr hW) (hG.gr hW) hs)
        have HE := Lib.hid (fun r t W => we_eq (m := m) (P := P) (G := G) (k := k) r t W)
        clear h hP hG hl hs hq
        unfold RetWe at HW HR
        generalize Ba.weE m P G k = ee at *
        generalize Ba.weN m P G k = en at *
        generalize Ba.wtS m P.X G k m.F.n = ws at *
        unfold Ms.Mesh.val at *
        generalize m.S.A = sA at *; generalize m.S.n = sn at *; generalize m.S.c = sc at *; generalize m.F.A = fA at *; generalize m.F.n = fn at *; generalize m.F.c = fc at *
        generalize P.A = pA at *; generalize P.n = pn at *; generalize P.c = pc at *
        generalize G.A = gA at *; generalize G.n = gn at *; generalize G.c = gc at *
        have h6 : ¬ (5000 : Int) < (pn : Int) := by omega
        go_enter Tryz.func3, Tryz.ntmps3
        go_wp2_with fail
        refine (HA.out _).mono ?_
        rintro e w1 ⟨rfl, hb1⟩
        have g1 : Gr w w1 := Gr.trans (by exact gr_auto) hb1
        have d0 := Gr.at hb1 (b := w.heap.size) (o := 0) (v := .slice sA sn sc) (by simp [go_sem])
        have d1 := Gr.at hb1 (b := w.heap.size) (o := 1) (v := .slice fA fn fc) (by simp [go_sem])
        clear HA hb1
        go_wp2_with fail
        -- @a
        refine (HL.out _).mono ?_
        rintro e w2 ⟨rfl, hb2⟩
        have g2 := g1.trans hb2
        replace d0 := Gr.at hb2 d0; replace d1 := Gr.at hb2 d1
        clear HL hb2
        go_wp2_with fail
        -- @b
        refine (HM.out _ g2).mono ?_
        rintro e w3 ⟨rfl, hb3⟩
        have g3 := g2.trans hb3
        replace d0 := Gr.at hb3 d0; replace d1 := Gr.at hb3 d1
        clear HM hb3
        go_wp2_with fail
        -- @c
        refine (HW.out _ g3).mono ?_
        rintro e w4 ⟨r, rfl, hrA, hrn, hrX, hb4⟩
        have g4 := g3.trans hb4
        replace d0 := Gr.at hb4 d0; replace d1 := Gr.at hb4 d1
        clear HW hb4
        have HRA := Lib.hid (And.intro hrA (And.intro hrn hrX))
        clear hrA hrn hrX
        go_wp2_with fail
        -- @d
        refine (HR.out _ g4).mono ?_
        rintro e w5 ⟨t, rfl, htA, htn, htX, hb5⟩
        have g5 := g4.trans hb5
        have HEQ := Lib.hid (HE.out r t w5 (HRA.out.1.gr hb5) htA HRA.out.2.1 htn HRA.out.2.2 htX)
        have ee1 : (ee == ee) = true := beq_self_eq_true ee
        clear HR HE hb5 htA htn htX HRA
        go_wp2_with fail
        -- @e
        refine HEQ.out.mono ?_
        rintro e w6 ⟨rfl, hb6⟩
        clear HEQ
        go_wp2_with fail
        -- @f
        go_ret
        exact ⟨rfl, g5.trans hb6⟩
      · have h6 : (5000 : Int) < (P.n : Int) := by omega
        clear h hP hG hl hs hq h5
        unfold Ms.Mesh.val at *
        generalize m.S.A = sA at *; generalize m.S.n = sn at *; generalize m.S.c = sc at *; generalize m.F.A = fA at *; generalize m.F.n = fn at *; generalize m.F.c = fc at *
        generalize P.A = pA at *; generalize P.n = pn at *; generalize P.c = pc at *
        generalize G.A = gA at *; generalize G.n = gn at *; generalize G.c = gc at *
        go_enter Tryz.func3, Tryz.ntmps3
        go_wp2_with fail
        refine (HA.out _).mono ?_
        rintro e w1 ⟨rfl, hb1⟩
        have g1 : Gr w w1 := Gr.trans (by exact gr_auto) hb1
        have d0 := Gr.at hb1 (b := w.heap.size) (o := 0) (v := .slice sA sn sc) (by simp [go_sem])
        have d1 := Gr.at hb1 (b := w.heap.size) (o := 1) (v := .slice fA fn fc) (by simp [go_sem])
        clear HA hb1
        go_wp2_with fail
        refine (HL.out _).mono ?_
        rintro e w2 ⟨rfl, hb2⟩
        have g2 := g1.trans hb2
        clear HL hb2
        go_wp2_with fail
        refine (HM.out _ g2).mono ?_
        rintro e w3 ⟨rfl, hb3⟩
        clear HM
        go_wp2_with fail
        -- @g
        go_ret
        exact ⟨rfl, g2.trans hb3⟩
    · rw [hq] at HM
      clear h hP hG hl hs hq
      unfold Ms.Mesh.val at *
      generalize m.S.A = sA at *; generalize m.S.n = sn at *; generalize m.S.c = sc at *; generalize m.F.A = fA at *; generalize m.F.n = fn at *; generalize m.F.c = fc at *
      generalize P.A = pA at *; generalize P.n = pn at *; generalize P.c = pc at *
      generalize G.A = gA at *; generalize G.n = gn at *; generalize G.c = gc at *
      go_enter Tryz.func3, Tryz.ntmps3
      go_wp2_with fail
      refine (HA.out _).mono ?_
      rintro e w1 ⟨rfl, hb1⟩
      have g1 : Gr w w1 := Gr.trans (by exact gr_auto) hb1
      have d0 := Gr.at hb1 (b := w.heap.size) (o := 0) (v := .slice sA sn sc) (by simp [go_sem])
      have d1 := Gr.at hb1 (b := w.heap.size) (o := 1) (v := .slice fA fn fc) (by simp [go_sem])
      clear HA hb1
      go_wp2_with fail
      refine (HL.out _).mono ?_
      rintro e w2 ⟨rfl, hb2⟩
      have g2 := g1.trans hb2
      clear HL hb2
      go_wp2_with fail
      refine (HM.out _ g2).mono ?_
      rintro e w3 ⟨rfl, hb3⟩
      clear HM
      go_wp2_with fail
      -- @h
      go_ret
      exact ⟨rfl, g2.trans hb3⟩
  · rw [hl] at HL
    clear h hP hG hl HM
    unfold Ms.Mesh.val at *
    generalize m.S.A = sA at *; generalize m.S.n = sn at *; generalize m.S.c = sc at *; generalize m.F.A = fA at *; generalize m.F.n = fn at *; generalize m.F.c = fc at *
    generalize P.A = pA at *; generalize P.n = pn at *; generalize P.c = pc at *
    generalize G.A = gA at *; generalize G.n = gn at *; generalize G.c = gc at *
    go_enter Tryz.func3, Tryz.ntmps3
    go_wp2_with fail
    refine (HA.out _).mono ?_
    rintro e w1 ⟨rfl, hb1⟩
    have g1 : Gr w w1 := Gr.trans (by exact gr_auto) hb1
    have d0 := Gr.at hb1 (b := w.heap.size) (o := 0) (v := .slice sA sn sc) (by simp [go_sem])
    have d1 := Gr.at hb1 (b := w.heap.size) (o := 1) (v := .slice fA fn fc) (by simp [go_sem])
    clear HA hb1
    go_wp2_with fail
    refine (HL.out _).mono ?_
    rintro e w2 ⟨rfl, hb2⟩
    clear HL
    go_wp2_with fail
    -- @i
    go_ret
    exact ⟨rfl, g1.trans hb2⟩
/-- ArealWeights returns true. -/
theorem weights_law (s : Ba.SlSpot) (f : Ba.SlFace) (P : Ba.SlI) (G : Ba.SlGauge) (k : Int) (w : World) (h1 : s.At w) (h2 : f.At w) (hP : P.At w) (hG : G.At w) (hk : -9223372036854775808 ≤ k ∧ k ≤ 9223372036854775807) : Calls Tryz.prog 3 #[(Ms.Mesh.mk s f).val, .slice P.A P.n P.c, .slice G.A G.n G.c, .int .i64 k] w fun e w' => e = .returned (.bool true) ∧ Gr w w' := aw_law _ P G k w ⟨h1, h2⟩ hP hG hk
end Go.Proofs.YtajhhplgcegodaaGreatDoor
