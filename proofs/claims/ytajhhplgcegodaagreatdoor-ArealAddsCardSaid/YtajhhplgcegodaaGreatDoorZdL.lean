/-
  The law ArealAdds. (Printed by mkzd.py.)
-/
import Derived.Test.YtajhhplgcegodaaGreatDoorZwL
import Derived.Test.YtajhhplgcegodaaGreatDoorZdP
set_option linter.unusedVariables false
set_option linter.unusedSimpArgs false
namespace Go.Proofs.YtajhhplgcegodaaGreatDoor
open Go.RowKit
attribute [local go_sem ↓] Go.wp_at_zero Go.wp_at_succ
namespace Ba
def badQ (P : SlI) (i : Nat) : Bool := decide (P.X i < -1) || decide (9 < P.X i)
theorem badQ_rng {P : SlI} {n : Nat} (h : any (badQ P) n = false) {i : Nat} (hi : i < n) : -1 ≤ P.X i ∧ P.X i ≤ 9 := by
  cases e : badQ P i with
  | true => rw [Ms.any_hit e hi] at h; cases h
  | false =>
    unfold badQ at e
    rw [Bool.or_eq_false_iff, decide_eq_false_iff_not, decide_eq_false_iff_not] at e
    omega
theorem badQ_I {P : SlI} {n : Nat} (h : any (badQ P) n = false) : any (badI P) n = false ∧ any (badA P) n = false := by
  have q : ∀ i, i < n → -1 ≤ P.X i ∧ P.X i ≤ 9 := fun i hi => badQ_rng h hi
  constructor
  · cases e : any (badI P) n with
    | false => rfl
    | true =>
      obtain ⟨i, hi, e⟩ := (Ms.any_iff _ _).1 e
      have := q i hi
      unfold badI at e
      rw [Bool.or_eq_true, decide_eq_true_eq, decide_eq_true_eq] at e; omega
  · cases e : any (badA P) n with
    | false => rfl
    | true =>
      obtain ⟨i, hi, e⟩ := (Ms.any_iff _ _).1 e
      have := q i hi
      unfold badA at e
      rw [Bool.or_eq_true, decide_eq_true_eq, decide_eq_true_eq] at e; omega
theorem weE_ok {m : Ms.Mesh} {P : SlI} {G : SlGauge} {k : Nat} (hv : Ms.vlB m = true) (hg : gasB G = true) (hn : P.n = m.F.n) (hk : k < 10) (hb : any (badI P) P.n = false) : weE m P G (k : Int) = 0 ∧ weN m P G (k : Int) = G.n := by
  have e : weE m P G (k : Int) = 0 := by
    unfold weE inl
    rw [hv, hg, if_pos hn, hb, decide_eq_true (by omega), decide_eq_true (by omega)]; rfl
  exact ⟨e, by unfold weN; rw [if_pos e]⟩
theorem cls_ok {m : Ms.Mesh} (hv : Ms.vlB m = true) {i : Nat} (hi : i < m.F.n) : 0 ≤ (m.F.D i).k ∧ (m.F.D i).k < 16 := by
  have h := Ms.vl_fc hv hi
  unfold Ms.fcB at h
  simp only [Bool.and_eq_true] at h
  have := Ms.bt_iff.1 h.2.2.2.2.2.2
  omega
end Ba
theorem adq_any (x : Int) (w : World) : Calls Tryz.prog 15 #[.int .i64 x] w fun e w' => e = .returned (.bool (decide (x < -1) || decide (9 < x))) ∧ Gr w w' := by
  cases t0 : decide (x < -1)
  · cases t1 : decide (9 < x)
    · go_enter Tryz.func15, Tryz.ntmps15
      go_wp2_with fail
      go_ret
      exact ⟨rfl, gr_auto⟩
    · go_enter Tryz.func15, Tryz.ntmps15
      go_wp2_with fail
      go_ret
      exact ⟨rfl, gr_auto⟩
  · go_enter Tryz.func15, Tryz.ntmps15
    go_wp2_with fail
    go_ret
    exact ⟨rfl, gr_auto⟩
set_option maxRecDepth 100000 in
set_option maxHeartbeats 4000000 in
theorem ad_1 (m : Ms.Mesh) (P : Ba.SlI) (G : Ba.SlGauge) (w : World) (h : m.At w) (hP : P.At w) (hG : G.At w) (hl : Ba.larB m = true) : Calls Tryz.prog 4 #[m.val, .slice P.A P.n P.c, .slice G.A G.n G.c] w fun e w' => e = .returned (.bool true) ∧ Gr w w' := by
  have HA := Lib.hid (fun W => awake_any W)
  have HL := Lib.hid (fun W (_ : Gr w W) => large_any m W)
  rw [hl] at HL
  have hpm := Nat.le_trans hP.hc hP.hb; have hgm := Nat.le_trans hG.hc hG.hb; have hfm := Nat.le_trans h.f.hc h.f.hb
  clear h hP hG hl
  unfold Ms.Mesh.val at *
  generalize m.S.A = sA at *; generalize m.S.n = sn at *; generalize m.S.c = sc at *; generalize m.F.A = fA at *; generalize m.F.n = fn at *; generalize m.F.c = fc at *
  generalize P.A = pA at *; generalize P.n = pn at *; generalize P.c = pc at *
  generalize G.A = gA at *; generalize G.n = gn at *; generalize G.c = gc at *
  go_enter Tryz.func4, Tryz.ntmps4
  go_wp2_with fail
  refine (HA.out _).mono ?_
  rintro e w1 ⟨rfl, hb1⟩
  have g1 : Gr w w1 := Gr.trans (by exact gr_auto) hb1
  have d0 := Gr.at hb1 (b := w.heap.size) (o := 0) (v := .slice sA sn sc) (by simp [go_sem])
  have d1 := Gr.at hb1 (b := w.heap.size) (o := 1) (v := .slice fA fn fc) (by simp [go_sem])
  clear HA hb1
  go_wp2_with fail
  refine (HL.out _ g1).mono ?_
  rintro e w2 ⟨rfl, hb2⟩
  have g2 := g1.trans hb2
  replace d0 := Gr.at hb2 d0; replace d1 := Gr.at hb2 d1
  clear HL hb2
  go_wp2_with fail
  go_ret
  exact ⟨rfl, g2⟩
set_option maxRecDepth 100000 in
set_option maxHeartbeats 4000000 in
theorem ad_2 (m : Ms.Mesh) (P : Ba.SlI) (G : Ba.SlGauge) (w : World) (h : m.At w) (hP : P.At w) (hG : G.At w) (hl : Ba.larB m = false) (h20 : 20 < G.n) : Calls Tryz.prog 4 #[m.val, .slice P.A P.n P.c, .slice G.A G.n G.c] w fun e w' => e = .returned (.bool true) ∧ Gr w w' := by
  have HA := Lib.hid (fun W => awake_any W)
  have HL := Lib.hid (fun W (_ : Gr w W) => large_any m W)
  rw [hl] at HL
  have hpm := Nat.le_trans hP.hc hP.hb; have hgm := Nat.le_trans hG.hc hG.hb; have hfm := Nat.le_trans h.f.hc h.f.hb
  have h21 : (20 : Int) < (G.n : Int) := by omega
  clear h hP hG hl h20
  unfold Ms.Mesh.val at *
  generalize m.S.A = sA at *; generalize m.S.n = sn at *; generalize m.S.c = sc at *; generalize m.F.A = fA at *; generalize m.F.n = fn at *; generalize m.F.c = fc at *
  generalize P.A = pA at *; generalize P.n = pn at *; generalize P.c = pc at *
  generalize G.A = gA at *; generalize G.n = gn at *; generalize G.c = gc at *
  go_enter Tryz.func4, Tryz.ntmps4
  go_wp2_with fail
  refine (HA.out _).mono ?_
  rintro e w1 ⟨rfl, hb1⟩
  have g1 : Gr w w1 := Gr.trans (by exact gr_auto) hb1
  have d0 := Gr.at hb1 (b := w.heap.size) (o := 0) (v := .slice sA sn sc) (by simp [go_sem])
  have d1 := Gr.at hb1 (b := w.heap.size) (o := 1) (v := .slice fA fn fc) (by simp [go_sem])
  clear HA hb1
  go_wp2_with fail
  refine (HL.out _ g1).mono ?_
  rintro e w2 ⟨rfl, hb2⟩
  have g2 := g1.trans hb2
  replace d0 := Gr.at hb2 d0; replace d1 := Gr.at hb2 d1
  clear HL hb2
  go_wp2_with fail
  go_ret
  exact ⟨rfl, g2⟩
set_option maxRecDepth 100000 in
set_option maxHeartbeats 4000000 in
theorem ad_3 (m : Ms.Mesh) (P : Ba.SlI) (G : Ba.SlGauge) (w : World) (h : m.At w) (hP : P.At w) (hG : G.At w) (hl : Ba.larB m = false) (h20 : G.n ≤ 20) (hq : Ba.manB G = true) : Calls Tryz.prog 4 #[m.val, .slice P.A P.n P.c, .slice G.A G.n G.c] w fun e w' => e = .returned (.bool true) ∧ Gr w w' := by
  have HA := Lib.hid (fun W => awake_any W)
  have HL := Lib.hid (fun W (_ : Gr w W) => large_any m W)
  rw [hl] at HL
  have HM := Lib.hid (fun W (hW : Gr w W) => many_any G W (hG.gr hW))
  rw [hq] at HM
  have hpm := Nat.le_trans hP.hc hP.hb; have hgm := Nat.le_trans hG.hc hG.hb; have hfm := Nat.le_trans h.f.hc h.f.hb
  have h21 : ¬ (20 : Int) < (G.n : Int) := by omega
  clear h hP hG hl hq
  unfold Ms.Mesh.val at *
  generalize m.S.A = sA at *; generalize m.S.n = sn at *; generalize m.S.c = sc at *; generalize m.F.A = fA at *; generalize m.F.n = fn at *; generalize m.F.c = fc at *
  generalize P.A = pA at *; generalize P.n = pn at *; generalize P.c = pc at *
  generalize G.A = gA at *; generalize G.n = gn at *; generalize G.c = gc at *
  go_enter Tryz.func4, Tryz.ntmps4
  go_wp2_with fail
  refine (HA.out _).mono ?_
  rintro e w1 ⟨rfl, hb1⟩
  have g1 : Gr w w1 := Gr.trans (by exact gr_auto) hb1
  have d0 := Gr.at hb1 (b := w.heap.size) (o := 0) (v := .slice sA sn sc) (by simp [go_sem])
  have d1 := Gr.at hb1 (b := w.heap.size) (o := 1) (v := .slice fA fn fc) (by simp [go_sem])
  clear HA hb1
  go_wp2_with fail
  refine (HL.out _ g1).mono ?_
  rintro e w2 ⟨rfl, hb2⟩
  have g2 := g1.trans hb2
  replace d0 := Gr.at hb2 d0; replace d1 := Gr.at hb2 d1
  clear HL hb2
  go_wp2_with fail
  refine (HM.out _ g2).mono ?_
  rintro e w3 ⟨rfl, hb3⟩
  have g3 := g2.trans hb3
  replace d0 := Gr.at hb3 d0; replace d1 := Gr.at hb3 d1
  clear HM hb3
  go_wp2_with fail
  go_ret
  exact ⟨rfl, g3⟩
set_option maxRecDepth 100000 in
set_option maxHeartbeats 4000000 in
theorem ad_4 (m : Ms.Mesh) (P : Ba.SlI) (G : Ba.SlGauge) (w : World) (h : m.At w) (hP : P.At w) (hG : G.At w) (hl : Ba.larB m = false) (h20 : G.n ≤ 20) (hq : Ba.manB G = false) (hg : Ba.gasB G = false) : Calls Tryz.prog 4 #[m.val, .slice P.A P.n P.c, .slice G.A G.n G.c] w fun e w' => e = .returned (.bool true) ∧ Gr w w' := by
  have HA := Lib.hid (fun W => awake_any W)
  have HL := Lib.hid (fun W (_ : Gr w W) => large_any m W)
  rw [hl] at HL
  have HM := Lib.hid (fun W (hW : Gr w W) => many_any G W (hG.gr hW))
  rw [hq] at HM
  have HG := Lib.hid (fun W (hW : Gr w W) => rgvals_any G W (hG.gr hW))
  rw [hg] at HG
  have hpm := Nat.le_trans hP.hc hP.hb; have hgm := Nat.le_trans hG.hc hG.hb; have hfm := Nat.le_trans h.f.hc h.f.hb
  have h21 : ¬ (20 : Int) < (G.n : Int) := by omega
  clear h hP hG hl hq hg
  unfold Ms.Mesh.val at *
  generalize m.S.A = sA at *; generalize m.S.n = sn at *; generalize m.S.c = sc at *; generalize m.F.A = fA at *; generalize m.F.n = fn at *; generalize m.F.c = fc at *
  generalize P.A = pA at *; generalize P.n = pn at *; generalize P.c = pc at *
  generalize G.A = gA at *; generalize G.n = gn at *; generalize G.c = gc at *
  go_enter Tryz.func4, Tryz.ntmps4
  go_wp2_with fail
  refine (HA.out _).mono ?_
  rintro e w1 ⟨rfl, hb1⟩
  have g1 : Gr w w1 := Gr.trans (by exact gr_auto) hb1
  have d0 := Gr.at hb1 (b := w.heap.size) (o := 0) (v := .slice sA sn sc) (by simp [go_sem])
  have d1 := Gr.at hb1 (b := w.heap.size) (o := 1) (v := .slice fA fn fc) (by simp [go_sem])
  clear HA hb1
  go_wp2_with fail
  refine (HL.out _ g1).mono ?_
  rintro e w2 ⟨rfl, hb2⟩
  have g2 := g1.trans hb2
  replace d0 := Gr.at hb2 d0; replace d1 := Gr.at hb2 d1
  clear HL hb2
  go_wp2_with fail
  refine (HM.out _ g2).mono ?_
  rintro e w3 ⟨rfl, hb3⟩
  have g3 := g2.trans hb3
  replace d0 := Gr.at hb3 d0; replace d1 := Gr.at hb3 d1
  clear HM hb3
  go_wp2_with fail
  refine (HG.out _ g3).mono ?_
  rintro e w4 ⟨rfl, hb4⟩
  have g4 := g3.trans hb4
  replace d0 := Gr.at hb4 d0; replace d1 := Gr.at hb4 d1
  clear HG hb4
  go_wp2_with fail
  go_ret
  exact ⟨rfl, g4⟩
set_option maxRecDepth 100000 in
set_option maxHeartbeats 4000000 in
theorem ad_5 (m : Ms.Mesh) (P : Ba.SlI) (G : Ba.SlGauge) (w : World) (h : m.At w) (hP : P.At w) (hG : G.At w) (hl : Ba.larB m = false) (h20 : G.n ≤ 20) (hq : Ba.manB G = false) (hg : Ba.gasB G = true) (hv : Ms.vlB m = false) : Calls Tryz.prog 4 #[m.val, .slice P.A P.n P.c, .slice G.A G.n G.c] w fun e w' => e = .returned (.bool true) ∧ Gr w w' := by
  have HA := Lib.hid (fun W => awake_any W)
  have HL := Lib.hid (fun W (_ : Gr w W) => large_any m W)
  rw [hl] at HL
  have HM := Lib.hid (fun W (hW : Gr w W) => many_any G W (hG.gr hW))
  rw [hq] at HM
  have HG := Lib.hid (fun W (hW : Gr w W) => rgvals_any G W (hG.gr hW))
  rw [hg] at HG
  have HV := Lib.hid (fun W (hW : Gr w W) => rs_valid m W ⟨h.s.gr hW, h.f.gr hW⟩ (Ba.larB_no hl))
  rw [hv] at HV
  have hpm := Nat.le_trans hP.hc hP.hb; have hgm := Nat.le_trans hG.hc hG.hb; have hfm := Nat.le_trans h.f.hc h.f.hb
  have h21 : ¬ (20 : Int) < (G.n : Int) := by omega
  clear h hP hG hl hq hg hv
  unfold Ms.Mesh.val at *
  generalize m.S.A = sA at *; generalize m.S.n = sn at *; generalize m.S.c = sc at *; generalize m.F.A = fA at *; generalize m.F.n = fn at *; generalize m.F.c = fc at *
  generalize P.A = pA at *; generalize P.n = pn at *; generalize P.c = pc at *
  generalize G.A = gA at *; generalize G.n = gn at *; generalize G.c = gc at *
  go_enter Tryz.func4, Tryz.ntmps4
  go_wp2_with fail
  refine (HA.out _).mono ?_
  rintro e w1 ⟨rfl, hb1⟩
  have g1 : Gr w w1 := Gr.trans (by exact gr_auto) hb1
  have d0 := Gr.at hb1 (b := w.heap.size) (o := 0) (v := .slice sA sn sc) (by simp [go_sem])
  have d1 := Gr.at hb1 (b := w.heap.size) (o := 1) (v := .slice fA fn fc) (by simp [go_sem])
  clear HA hb1
  go_wp2_with fail
  refine (HL.out _ g1).mono ?_
  rintro e w2 ⟨rfl, hb2⟩
  have g2 := g1.trans hb2
  replace d0 := Gr.at hb2 d0; replace d1 := Gr.at hb2 d1
  clear HL hb2
  go_wp2_with fail
  refine (HM.out _ g2).mono ?_
  rintro e w3 ⟨rfl, hb3⟩
  have g3 := g2.trans hb3
  replace d0 := Gr.at hb3 d0; replace d1 := Gr.at hb3 d1
  clear HM hb3
  go_wp2_with fail
  refine (HG.out _ g3).mono ?_
  rintro e w4 ⟨rfl, hb4⟩
  have g4 := g3.trans hb4
  replace d0 := Gr.at hb4 d0; replace d1 := Gr.at hb4 d1
  clear HG hb4
  go_wp2_with fail
  refine (HV.out _ g4).mono ?_
  rintro e w5 ⟨rfl, hb5⟩
  have g5 := g4.trans hb5
  replace d0 := Gr.at hb5 d0; replace d1 := Gr.at hb5 d1
  clear HV hb5
  go_wp2_with fail
  go_ret
  exact ⟨rfl, g5⟩
set_option maxRecDepth 100000 in
set_option maxHeartbeats 4000000 in
theorem ad_6 (m : Ms.Mesh) (P : Ba.SlI) (G : Ba.SlGauge) (w : World) (h : m.At w) (hP : P.At w) (hG : G.At w) (hl : Ba.larB m = false) (h20 : G.n ≤ 20) (hq : Ba.manB G = false) (hg : Ba.gasB G = true) (hv : Ms.vlB m = true) (hn : P.n ≠ m.F.n) : Calls Tryz.prog 4 #[m.val, .slice P.A P.n P.c, .slice G.A G.n G.c] w fun e w' => e = .returned (.bool true) ∧ Gr w w' := by
  have HA := Lib.hid (fun W => awake_any W)
  have HL := Lib.hid (fun W (_ : Gr w W) => large_any m W)
  rw [hl] at HL
  have HM := Lib.hid (fun W (hW : Gr w W) => many_any G W (hG.gr hW))
  rw [hq] at HM
  have HG := Lib.hid (fun W (hW : Gr w W) => rgvals_any G W (hG.gr hW))
  rw [hg] at HG
  have HV := Lib.hid (fun W (hW : Gr w W) => rs_valid m W ⟨h.s.gr hW, h.f.gr hW⟩ (Ba.larB_no hl))
  rw [hv] at HV
  have hpm := Nat.le_trans hP.hc hP.hb; have hgm := Nat.le_trans hG.hc hG.hb; have hfm := Nat.le_trans h.f.hc h.f.hb
  have h21 : ¬ (20 : Int) < (G.n : Int) := by omega
  have hn2 : ¬ (P.n : Int) = (m.F.n : Int) := by omega
  clear h hP hG hl hq hg hv hn
  unfold Ms.Mesh.val at *
  generalize m.S.A = sA at *; generalize m.S.n = sn at *; generalize m.S.c = sc at *; generalize m.F.A = fA at *; generalize m.F.n = fn at *; generalize m.F.c = fc at *
  generalize P.A = pA at *; generalize P.n = pn at *; generalize P.c = pc at *
  generalize G.A = gA at *; generalize G.n = gn at *; generalize G.c = gc at *
  go_enter Tryz.func4, Tryz.ntmps4
  go_wp2_with fail
  refine (HA.out _).mono ?_
  rintro e w1 ⟨rfl, hb1⟩
  have g1 : Gr w w1 := Gr.trans (by exact gr_auto) hb1
  have d0 := Gr.at hb1 (b := w.heap.size) (o := 0) (v := .slice sA sn sc) (by simp [go_sem])
  have d1 := Gr.at hb1 (b := w.heap.size) (o := 1) (v := .slice fA fn fc) (by simp [go_sem])
  clear HA hb1
  go_wp2_with fail
  refine (HL.out _ g1).mono ?_
  rintro e w2 ⟨rfl, hb2⟩
  have g2 := g1.trans hb2
  replace d0 := Gr.at hb2 d0; replace d1 := Gr.at hb2 d1
  clear HL hb2
  go_wp2_with fail
  refine (HM.out _ g2).mono ?_
  rintro e w3 ⟨rfl, hb3⟩
  have g3 := g2.trans hb3
  replace d0 := Gr.at hb3 d0; replace d1 := Gr.at hb3 d1
  clear HM hb3
  go_wp2_with fail
  refine (HG.out _ g3).mono ?_
  rintro e w4 ⟨rfl, hb4⟩
  have g4 := g3.trans hb4
  replace d0 := Gr.at hb4 d0; replace d1 := Gr.at hb4 d1
  clear HG hb4
  go_wp2_with fail
  refine (HV.out _ g4).mono ?_
  rintro e w5 ⟨rfl, hb5⟩
  have g5 := g4.trans hb5
  replace d0 := Gr.at hb5 d0; replace d1 := Gr.at hb5 d1
  clear HV hb5
  go_wp2_with fail
  go_ret
  exact ⟨rfl, g5⟩
set_option maxRecDepth 100000 in
set_option maxHeartbeats 4000000 in
theorem ad_7 (m : Ms.Mesh) (P : Ba.SlI) (G : Ba.SlGauge) (w : World) (h : m.At w) (hP : P.At w) (hG : G.At w) (hl : Ba.larB m = false) (h20 : G.n ≤ 20) (hq : Ba.manB G = false) (hg : Ba.gasB G = true) (hv : Ms.vlB m = true) (hn : P.n = m.F.n) (hb : Ba.any (Ba.badQ P) P.n = true) : Calls Tryz.prog 4 #[m.val, .slice P.A P.n P.c, .slice G.A G.n G.c] w fun e w' => e = .returned (.bool true) ∧ Gr w w' := by
  have HA := Lib.hid (fun W => awake_any W)
  have HL := Lib.hid (fun W (_ : Gr w W) => large_any m W)
  rw [hl] at HL
  have HM := Lib.hid (fun W (hW : Gr w W) => many_any G W (hG.gr hW))
  rw [hq] at HM
  have HG := Lib.hid (fun W (hW : Gr w W) => rgvals_any G W (hG.gr hW))
  rw [hg] at HG
  have HV := Lib.hid (fun W (hW : Gr w W) => rs_valid m W ⟨h.s.gr hW, h.f.gr hW⟩ (Ba.larB_no hl))
  rw [hv] at HV
  have HQ := Lib.hid (fun W (hW : Gr w W) => has_int 15 #[] P (Ba.badQ P) W (hP.gr hW) (enter_of Tryz.func15 (by kernel_rfl) (by kernel_rfl)) (fun i _ W' _ => adq_any (P.X i) W'))
  rw [hb] at HQ
  have hpm := Nat.le_trans hP.hc hP.hb; have hgm := Nat.le_trans hG.hc hG.hb; have hfm := Nat.le_trans h.f.hc h.f.hb
  have h21 : ¬ (20 : Int) < (G.n : Int) := by omega
  rw [hn] at *
  clear h hP hG hl hq hg hv hn hb
  unfold Ms.Mesh.val at *
  generalize m.S.A = sA at *; generalize m.S.n = sn at *; generalize m.S.c = sc at *; generalize m.F.A = fA at *; generalize m.F.n = fn at *; generalize m.F.c = fc at *
  generalize P.A = pA at *; generalize P.n = pn at *; generalize P.c = pc at *
  generalize G.A = gA at *; generalize G.n = gn at *; generalize G.c = gc at *
  go_enter Tryz.func4, Tryz.ntmps4
  go_wp2_with fail
  refine (HA.out _).mono ?_
  rintro e w1 ⟨rfl, hb1⟩
  have g1 : Gr w w1 := Gr.trans (by exact gr_auto) hb1
  have d0 := Gr.at hb1 (b := w.heap.size) (o := 0) (v := .slice sA sn sc) (by simp [go_sem])
  have d1 := Gr.at hb1 (b := w.heap.size) (o := 1) (v := .slice fA fn fc) (by simp [go_sem])
  clear HA hb1
  go_wp2_with fail
  refine (HL.out _ g1).mono ?_
  rintro e w2 ⟨rfl, hb2⟩
  have g2 := g1.trans hb2
  replace d0 := Gr.at hb2 d0; replace d1 := Gr.at hb2 d1
  clear HL hb2
  go_wp2_with fail
  refine (HM.out _ g2).mono ?_
  rintro e w3 ⟨rfl, hb3⟩
  have g3 := g2.trans hb3
  replace d0 := Gr.at hb3 d0; replace d1 := Gr.at hb3 d1
  clear HM hb3
  go_wp2_with fail
  refine (HG.out _ g3).mono ?_
  rintro e w4 ⟨rfl, hb4⟩
  have g4 := g3.trans hb4
  replace d0 := Gr.at hb4 d0; replace d1 := Gr.at hb4 d1
  clear HG hb4
  go_wp2_with fail
  refine (HV.out _ g4).mono ?_
  rintro e w5 ⟨rfl, hb5⟩
  have g5 := g4.trans hb5
  replace d0 := Gr.at hb5 d0; replace d1 := Gr.at hb5 d1
  clear HV hb5
  go_wp2_with fail
  refine (HQ.out _ g5).mono ?_
  rintro e w6 ⟨rfl, hb6⟩
  have g6 := g5.trans hb6
  replace d0 := Gr.at hb6 d0; replace d1 := Gr.at hb6 d1
  clear HQ hb6
  go_wp2_with fail
  go_ret
  exact ⟨rfl, g6⟩
set_option maxRecDepth 100000 in
set_option maxHeartbeats 4000000 in
theorem ad_8 (m : Ms.Mesh) (P : Ba.SlI) (G : Ba.SlGauge) (w : World) (h : m.At w) (hP : P.At w) (hG : G.At w) (hl : Ba.larB m = false) (h20 : G.n ≤ 20) (hq : Ba.manB G = false) (hg : Ba.gasB G = true) (hv : Ms.vlB m = true) (hn : P.n = m.F.n) (hb : Ba.any (Ba.badQ P) P.n = false) : Calls Tryz.prog 4 #[m.val, .slice P.A P.n P.c, .slice G.A G.n G.c] w fun e w' => e = .returned (.bool true) ∧ Gr w w' := by
  have HA := Lib.hid (fun W => awake_any W)
  have HL := Lib.hid (fun W (_ : Gr w W) => large_any m W)
  rw [hl] at HL
  have HM := Lib.hid (fun W (hW : Gr w W) => many_any G W (hG.gr hW))
  rw [hq] at HM
  have HG := Lib.hid (fun W (hW : Gr w W) => rgvals_any G W (hG.gr hW))
  rw [hg] at HG
  have HV := Lib.hid (fun W (hW : Gr w W) => rs_valid m W ⟨h.s.gr hW, h.f.gr hW⟩ (Ba.larB_no hl))
  rw [hv] at HV
  have HQ := Lib.hid (fun W (hW : Gr w W) => has_int 15 #[] P (Ba.badQ P) W (hP.gr hW) (enter_of Tryz.func15 (by kernel_rfl) (by kernel_rfl)) (fun i _ W' _ => adq_any (P.X i) W'))
  rw [hb] at HQ
  have hpm := Nat.le_trans hP.hc hP.hb; have hgm := Nat.le_trans hG.hc hG.hb; have hfm := Nat.le_trans h.f.hc h.f.hb
  have h21 : ¬ (20 : Int) < (G.n : Int) := by omega
  have hsm : m.S.n ≤ 61 ∧ m.F.n ≤ 61 := by
    rcases Ba.larB_no hl with q | q
    · exfalso
      unfold Ms.vlB at hv
      rw [q] at hv; cases hv
    · exact ⟨by omega, by omega⟩
  have hbI := Ba.badQ_I hb
  obtain ⟨n1, n2, -⟩ := Ba.gas_parts hg
  have HAR := Lib.hid (fun W (hW : Gr w W) => ar_ok m P 16 W ⟨h.s.gr hW, h.f.gr hW⟩ (hP.gr hW) hsm hv hn (by omega) (by omega) hbI.2 (fun i hi => by have := Ba.cls_ok hv hi; omega))
  have HW := Lib.hid (fun k W (hW : Gr w W) => we_any m P G k W ⟨h.s.gr hW, h.f.gr hW⟩ (hP.gr hW) (hG.gr hW) (Ba.larB_no hl))
  have HW1 := Lib.hid (fun k W (hW : Gr w W) => we_any m P (Ba.one G) k W ⟨h.s.gr hW, h.f.gr hW⟩ (hP.gr hW) ((Ba.one_at hG n1).gr hW) (Ba.larB_no hl))
  have HE := Lib.hid (fun (k : Nat) (hk : k < 10) => Ba.weE_ok hv hg hn hk hbI.1)
  have HE1 := Lib.hid (fun (k : Nat) (hk : k < 10) => Ba.weE_ok hv (Ba.one_ok hg) hn hk hbI.1)
  have HS := Lib.hid (fun (k : Nat) => Ba.wt_sum m P.X G (k : Int) n1 m.F.n)
  have HS1 := Lib.hid (fun (k : Nat) => Ba.one_sum m P.X G (k : Int) m.F.n)
  have HSA := Lib.hid (fun (k : Nat) => Ba.ar_sum m P.X k 16 m.F.n (fun i hi => by have := Ba.cls_ok hv hi; omega))
  have HSN := Lib.hid (fun (k : Nat) (hk : Ba.arK P.X m.F.n ≤ k) => Ba.cl_none (m := m) hk)
  have HWB := Lib.hid (fun (k : Int) g => Ba.wtS_bd hv (P := P.X) (G := G) (k := k) g m.F.n (Nat.le_refl _))
  have HAB := Lib.hid (fun r c => Ba.arS_bd hv (P := P.X) r c m.F.n (Nat.le_refl _))
  have eo : (Ba.one G).A = G.A ∧ (Ba.one G).n = 1 ∧ (Ba.one G).c = G.c := ⟨rfl, rfl, rfl⟩
  rw [eo.1, eo.2.2] at HW1
  rw [eo.2.1] at HW1 HE1
  unfold RetWe at HW HW1
  unfold RetAr at HAR
  rw [hn] at HAR
  have hf60 := hsm.2
  have hgc := hG.hc
  rw [hn] at *
  clear h hP hG hl hq hg hb hbI hsm hv hn eo
  unfold Ms.Mesh.val at *
  generalize m.S.A = sA at *; generalize m.S.n = sn at *; generalize m.S.c = sc at *; generalize m.F.A = fA at *; generalize m.F.n = fn at *; generalize m.F.c = fc at *
  generalize P.A = pA at *; generalize P.n = pn at *; generalize P.c = pc at *
  generalize G.A = gA at *; generalize G.n = gn at *; generalize G.c = gc at *
  go_enter Tryz.func4, Tryz.ntmps4
  go_wp2_with fail
  refine (HA.out _).mono ?_
  rintro e w1 ⟨rfl, hb1⟩
  have g1 : Gr w w1 := Gr.trans (by exact gr_auto) hb1
  have d0 := Gr.at hb1 (b := w.heap.size) (o := 0) (v := .slice sA sn sc) (by simp [go_sem])
  have d1 := Gr.at hb1 (b := w.heap.size) (o := 1) (v := .slice fA fn fc) (by simp [go_sem])
  clear HA hb1
  go_wp2_with fail
  refine (HL.out _ g1).mono ?_
  rintro e w2 ⟨rfl, hb2⟩
  have g2 := g1.trans hb2
  replace d0 := Gr.at hb2 d0; replace d1 := Gr.at hb2 d1
  clear HL hb2
  go_wp2_with fail
  refine (HM.out _ g2).mono ?_
  rintro e w3 ⟨rfl, hb3⟩
  have g3 := g2.trans hb3
  replace d0 := Gr.at hb3 d0; replace d1 := Gr.at hb3 d1
  clear HM hb3
  go_wp2_with fail
  refine (HG.out _ g3).mono ?_
  rintro e w4 ⟨rfl, hb4⟩
  have g4 := g3.trans hb4
  replace d0 := Gr.at hb4 d0; replace d1 := Gr.at hb4 d1
  clear HG hb4
  go_wp2_with fail
  refine (HV.out _ g4).mono ?_
  rintro e w5 ⟨rfl, hb5⟩
  have g5 := g4.trans hb5
  replace d0 := Gr.at hb5 d0; replace d1 := Gr.at hb5 d1
  clear HV hb5
  go_wp2_with fail
  refine (HQ.out _ g5).mono ?_
  rintro e w6 ⟨rfl, hb6⟩
  have g6 := g5.trans hb6
  replace d0 := Gr.at hb6 d0; replace d1 := Gr.at hb6 d1
  clear HQ hb6
  go_wp2_with fail
  -- @a
  refine (HAR.out _ g6).mono ?_
  rintro e w7 ⟨v, B, rfl, hAr, hb7⟩
  have g7 := g6.trans hb7
  replace d0 := Gr.at hb7 d0; replace d1 := Gr.at hb7 d1
  obtain ⟨A, cp, bo, rfl, hA, hc1, hc2, hcel⟩ := ownsRow_at hAr.out
  have HAr := Lib.hid hAr
  have HCE := Lib.hid (fun r (hr : r < Ba.arK P.X fn) => (hcel r hr).trans (rv_get B 16 hr))
  clear HAR hb7 hAr hcel g1 g2 g3 g4 g5
  obtain ⟨K, hK⟩ : ∃ q, Ba.arK P.X fn = q := ⟨_, rfl⟩
  rw [hK] at HAr HSN hA hc1 ⊢
  simp only [hK] at HCE
  clear hK
  go_wp2_with fail
  -- @b
  have HD := Lib.hid (And.intro d0 d1)
  clear d0 d1
  go_loopw [63] (fun x wr => ∃ k : Nat, k ≤ 10 ∧ x = .int .i64 (k : Int) ∧ Gr w7 wr) (fun x _ => 10 - (intOf x).toNat)
  case atStart => exact ⟨0, by omega, rfl, Gr.refl _⟩
  case round =>
    obtain ⟨k, hk, rfl, hg⟩ := hrel
    rename World => W1
    have gw := g7.trans hg
    by_cases hlt : k < 10
    · have ib0 : (0 : Int) ≤ (k : Int) := by omega
      have ib1 : (k : Int) < 10 := by omega
      have d0 := Gr.at hg HD.out.1; have d1 := Gr.at hg HD.out.2
      obtain ⟨e1, e2⟩ := HE.out k hlt
      obtain ⟨e3, e4⟩ := HE1.out k hlt
      have HWk := Lib.hid (HW.out (k : Int)); have HW1k := Lib.hid (HW1.out (k : Int))
      rw [e1, e2] at HWk
      rw [e3, e4] at HW1k
      have hs := HS.out k; have hs1 := HS1.out k; have hsa := HSA.out k
      have HSNk := Lib.hid (HSN.out k)
      have HWBk := Lib.hid (HWB.out (k : Int))
      have HABk := Lib.hid (HAB.out k)
      obtain ⟨T, hT⟩ : ∃ q, Ba.clT m P.X (k : Int) fn = q := ⟨_, rfl⟩
      rw [hT] at hs hs1 hsa HSNk
      have HSk := Lib.hid (And.intro hs (And.intro hs1 hsa))
      clear HW HW1 HE HE1 HS HS1 HSA HSN HWB HAB e1 e2 e3 e4 hs hs1 hsa hT
      -- @c
      go_wp2_with fail
      -- @d
      refine (HWk.out _ gw).mono ?_
      rintro e w8 ⟨r, rfl, hrA, hrn, hrX, hb8⟩
      have g8 := gw.trans hb8
      replace d0 := Gr.at hb8 d0; replace d1 := Gr.at hb8 d1
      have g78 := hg.trans hb8
      have HR8 := Lib.hid (And.intro hrA (And.intro hrn hrX))
      clear HWk hb8 hrA hrn hrX gw hg
      go_wp2_with fail
      -- @e
      have sl1 : (1 : Int) ≤ (gc : Int) := by omega
      have sl2 : (1 : Int) ≤ (gn : Int) := by omega
      refine name_world ?_; intro W2 hW2
      have g2 : Gr w W2 := by rw [hW2]; exact g8
      have gb8 : Gr w8 W2 := by rw [hW2]; exact Gr.refl _
      have s2_0 : ∀ w', Gr W2 w' → w'.cell? ⟨w.heap.size, 0, none⟩ = some (.slice sA sn sc) := fun w' h => Gr.at h (Gr.at gb8 d0)
      have s2_1 : ∀ w', Gr W2 w' → w'.cell? ⟨w.heap.size, 1, none⟩ = some (.slice fA fn fc) := fun w' h => Gr.at h (Gr.at gb8 d1)
      have zW2 : w.heap.size < W2.heap.size := World.block_lt_of_cell? _ _ (s2_0 W2 (Gr.refl _))
      clear hW2 d0 d1
      first | (go_region_held3 (fun w' => Gr W2 w') (exact gr_auto) ((go_at_call 9; refine (HW1k.out _ (Gr.drew g2)).mono ?_; rintro e w9 ⟨t, rfl, htA, htn, htX, hb9⟩))) | fail
      -- @f
      have gg : Gr w8 w9 := gb8.trans ((Gr.drew (Gr.refl _)).trans hb9)
      have g9 : Gr w7 w9 := g78.trans gg
      obtain ⟨q1, q2, q3⟩ := HR8.out
      have er := q1.hA (by omega)
      have et := htA.hA (by omega)
      have HRX := Lib.hid (show ∀ j, j < gn → w9.cell? ⟨r.b, r.o + j, none⟩ = some (.int .i64 (Ba.wtS m P.X G (k : Int) fn j)) from fun j hj => by
        have := ((q1.gr gg).hX j (by omega)).1
        rw [q3 j (by omega)] at this; exact this)
      have ht0 : w9.cell? ⟨t.b, t.o, none⟩ = some (.int .i64 T) := by
        have := (htA.hX 0 (by omega)).1
        rw [htX 0 (by omega), HSk.out.2.1] at this; exact this
      have HT0 := Lib.hid ht0
      have hs := HSk.out.1
      simp only [er, q2, et, htn]
      clear HR8 HW1k s2_0 s2_1 gb8 g78 hb9 gg q1 q2 q3 er et htA htn htX ht0
      obtain ⟨rA, rn, rc, rb, rq, rX⟩ := r
      obtain ⟨tA, tn, tc, tb, tq, tX⟩ := t
      simp only at HRX HT0 ⊢
      have HWS := Lib.hid (fun n => Ba.smZ_bd (f := Ba.wtS m P.X G (k : Int) fn) (M := 137359788634800128) (fun i => ⟨(HWBk.out i).1, by have := (HWBk.out i).2; omega⟩) n)
      have HAS := Lib.hid (fun n => Ba.smZ_bd (f := Ba.arS m P.X fn k) (M := 137359788634800128) (fun i => ⟨(HABk.out i).1, by have := (HABk.out i).2; omega⟩) n)
      have HW0 := Lib.hid (fun i => (HWBk.out i).1)
      have hsa := HSk.out.2.2
      clear HWBk HABk HSk
      have HSTW := Lib.hid (fun n => show Ba.smZ (Ba.wtS m P.X G (k : Int) fn) (n + 1) = Ba.smZ (Ba.wtS m P.X G (k : Int) fn) n + Ba.wtS m P.X G (k : Int) fn n from rfl)
      have HSTA := Lib.hid (fun n => show Ba.smZ (Ba.arS m P.X fn k) (n + 1) = Ba.smZ (Ba.arS m P.X fn k) n + Ba.arS m P.X fn k n from rfl)
      have hw0 : Ba.smZ (Ba.wtS m P.X G (k : Int) fn) 0 = 0 := rfl
      have ha0 : Ba.smZ (Ba.arS m P.X fn k) 0 = 0 := rfl
      have HROW := Lib.hid (fun (hkK : k < K) c (hc : c < 16) => (HAr.out.row k hkK c hc).1)
      have HCEk := Lib.hid (HCE.out k)
      generalize Ba.smZ (Ba.wtS m P.X G (k : Int) fn) = sw at *
      generalize Ba.smZ (Ba.arS m P.X fn k) = sa at *
      generalize Ba.wtS m P.X G (k : Int) fn = ws at *
      generalize Ba.arS m P.X fn k = as' at *
      clear HAr HCE HD
      -- @g
      go_wp2_with fail
      -- @h
      go_loopw [14, 103] (fun v x wr => ∃ j : Nat, j ≤ gn ∧ x = .int .i64 (j : Int) ∧ v = .int .i64 (sw j) ∧ Gr w9 wr) (fun _ x _ => gn - (intOf x).toNat)
      case atStart => exact ⟨0, Nat.zero_le _, rfl, by rw [hw0], Gr.refl _⟩
      case round =>
        obtain ⟨j, hj, rfl, rfl, hgj⟩ := hrel
        rename World => W3
        by_cases hlj : j < gn
        · have jb0 : (0 : Int) ≤ (j : Int) := by omega
          have jb1 : (j : Int) < (gn : Int) := by omega
          have cj := Gr.at hgj (HRX.out j hlj)
          have hst := HSTW.out j
          have b1 := HWS.out j; have b2 := HWS.out (j + 1)
          rw [hst] at b2
          have w0 := HW0.out j
          have HST2 := Lib.hid hst
          have bl := World.block_lt_of_cell? _ _ cj
          simp only at bl
          clear HRX HSTW HSTA HWS HAS HW0 HROW HCEk HT0 hst
          generalize ws j = wj at *
          generalize sw j = sj at *
          have bt1 : -9223372036854775808 ≤ sj + wj := by omega
          have bt2 : sj + wj ≤ 9223372036854775807 := by omega
          have wn : ¬ wj < 0 := by omega
          clear b1 b2 w0
          -- @i
          go_wp2_with fail
          -- @j
          go_roundw
          case rel => exact ⟨j + 1, by omega, by go_num, by rw [HST2.out], hgj⟩
          case measure => simp [intOf]; omega
        · obtain rfl : gn = j := by omega
          rw [hs]
          have gW3 : Gr w7 W3 := g9.trans hgj
          have tt := Gr.at hgj HT0.out
          have tz := World.block_lt_of_cell? _ _ tt
          simp only at tz
          have TB := HWS.out gn
          rw [hs] at TB
          have tne : (T != T) = false := by simp
          have HT9 := HT0
          clear HRX HSTW HWS HW0 HT0
          by_cases hkK : k < K
          · obtain rfl := hA (by omega)
            have kb : (k : Int) < (K : Int) := by omega
            have ck := Gr.at gW3 (HCEk.out hkK)
            have bl := World.block_lt_of_cell? _ _ ck
            simp only at bl
            have HRO := Lib.hid (fun c hc => HROW.out hkK c hc)
            clear HCEk HROW HSNk
            obtain ⟨BK, hBK⟩ : ∃ q, B k = q := ⟨_, rfl⟩
            rw [hBK] at ck
            simp only [hBK] at HRO
            clear hBK
            -- @k
            go_wp2_with fail
            -- @l
            clear ck tt tz
            go_loopw [15, 122] (fun v x wr => ∃ c : Nat, c ≤ 16 ∧ x = .int .i64 (c : Int) ∧ v = .int .i64 (sa c) ∧ Gr W3 wr) (fun _ x _ => 16 - (intOf x).toNat)
            case atStart => exact ⟨0, by omega, rfl, by rw [ha0], Gr.refl _⟩
            case round =>
              obtain ⟨c, hc, rfl, rfl, hgc⟩ := hrel
              rename World => W4
              by_cases hlc : c < 16
              · have jb0 : (0 : Int) ≤ (c : Int) := by omega
                have jb1 : (c : Int) < 16 := by omega
                have cc := Gr.at (gW3.trans hgc) (HRO.out c hlc)
                have hst := HSTA.out c
                have b1 := HAS.out c; have b2 := HAS.out (c + 1)
                rw [hst] at b2
                have HST2 := Lib.hid hst
                have bl2 := World.block_lt_of_cell? _ _ cc
                simp only at bl2
                clear HSTA HAS HRO hst
                generalize as' c = wj at *
                generalize sa c = sj at *
                have bt1 : -9223372036854775808 ≤ sj + wj := by omega
                have bt2 : sj + wj ≤ 9223372036854775807 := by omega
                clear b1 b2
                -- @m
                go_wp2_with fail
                go_roundw
                case rel => exact ⟨c + 1, by omega, by go_num, by rw [HST2.out], hgc.trans (by exact gr_auto)⟩
                case measure => simp [intOf]; omega
              · obtain rfl : c = 16 := by omega
                rw [hsa]
                have HTT := Lib.hid gW3
                clear HSTA HAS HRO
                have tt := Gr.at (hgj.trans hgc) HT9.out
                have tz := World.block_lt_of_cell? _ _ tt
                simp only at tz
                -- @n
                go_wp2_with fail
                -- @o
                go_roundw
                case rel => exact ⟨k + 1, by omega, by go_num, gW3.trans hgc⟩
                case measure => simp [intOf]; omega
          · have hT0 := HSNk.out (by omega)
            have kb : ¬ (k : Int) < (K : Int) := by omega
            subst hT0
            clear HCEk HROW HSNk HSTA HAS hs hsa
            -- @p
            go_wp2_with fail
            -- @q
            go_roundw
            case rel => exact ⟨k + 1, by omega, by go_num, gW3⟩
            case measure => simp [intOf]; omega
    · obtain rfl : k = 10 := by omega
      clear HW HW1 HE HE1 HS HS1 HSA HSN HWB HAB
      go_wp2_with fail
      go_ret
      exact ⟨rfl, gw⟩
/-- ArealAdds returns true. -/
theorem adds_law (s : Ba.SlSpot) (f : Ba.SlFace) (P : Ba.SlI) (G : Ba.SlGauge) (w : World) (h1 : s.At w) (h2 : f.At w) (hP : P.At w) (hG : G.At w) : Calls Tryz.prog 4 #[(Ms.Mesh.mk s f).val, .slice P.A P.n P.c, .slice G.A G.n G.c] w fun e w' => e = .returned (.bool true) ∧ Gr w w' := by
  cases hl : Ba.larB (Ms.Mesh.mk s f)
  · by_cases h20 : G.n ≤ 20
    · cases hq : Ba.manB G
      · cases hg : Ba.gasB G
        · exact ad_4 _ P G w ⟨h1, h2⟩ hP hG hl h20 hq hg
        · cases hv : Ms.vlB (Ms.Mesh.mk s f)
          · exact ad_5 _ P G w ⟨h1, h2⟩ hP hG hl h20 hq hg hv
          · by_cases hn : P.n = f.n
            · cases hb : Ba.any (Ba.badQ P) P.n
              · exact ad_8 _ P G w ⟨h1, h2⟩ hP hG hl h20 hq hg hv hn hb
              · exact ad_7 _ P G w ⟨h1, h2⟩ hP hG hl h20 hq hg hv hn hb
            · exact ad_6 _ P G w ⟨h1, h2⟩ hP hG hl h20 hq hg hv hn
      · exact ad_3 _ P G w ⟨h1, h2⟩ hP hG hl h20 hq
    · exact ad_2 _ P G w ⟨h1, h2⟩ hP hG hl (by omega)
  · exact ad_1 _ P G w ⟨h1, h2⟩ hP hG hl
end Go.Proofs.YtajhhplgcegodaaGreatDoor
