/-
  The law MeshChecks. (Printed by mkch.py.)
-/
import Derived.Test.YtajhhplgcegodaaDoorMsTb
import Derived.Test.YtajhhplgcegodaaDoorMsS
set_option linter.unusedVariables false
set_option linter.unusedSimpArgs false
namespace Go.Proofs.YtajhhplgcegodaaDoor
open Go.RowKit
namespace Ms
theorem ff_get : ∀ {l : List (Nat × Nat)} {j : Nat} {x : Nat × Nat}, l[j]? = some x → (ff l)[j * 2]? = some (.int .i64 (x.1 : Int)) ∧ (ff l)[j * 2 + 1]? = some (.string ⟨(Lib.decDigits x.2).toArray⟩)
  | [], j, t, h => by simp at h
  | a :: l, 0, t, h => by
    simp only [List.getElem?_cons_zero, Option.some.injEq] at h
    subst h
    exact ⟨rfl, rfl⟩
  | a :: l, j + 1, t, h => by
    rw [List.getElem?_cons_succ] at h
    obtain ⟨h0, h1⟩ := ff_get h
    rw [ff]
    have hl : ∀ (q : Nat) (x : Value), (ff l)[j * 2 + q]? = some x → ([Value.int .i64 (a.1 : Int), .string ⟨(Lib.decDigits a.2).toArray⟩] ++ ff l)[(j + 1) * 2 + q]? = some x := fun q x hx => by
      rw [List.getElem?_append_right (by simp; omega)]
      rw [show (j + 1) * 2 + q - [Value.int .i64 (a.1 : Int), .string ⟨(Lib.decDigits a.2).toArray⟩].length = j * 2 + q by simp; omega]
      exact hx
    exact ⟨hl 0 _ h0, hl 1 _ h1⟩
def fK (L : List (Nat × Nat)) (i : Nat) : Int := ((L.getD i (0, 0)).1 : Int)
def fS (L : List (Nat × Nat)) (i : Nat) : ByteArray := ⟨(Lib.decDigits (L.getD i (0, 0)).2).toArray⟩
end Ms
/-- A slice of findings that a call owns. -/
theorem own_fnd {w : World} {base E : Nat} {v : Value} {L : List (Nat × Nat)} (h : w.ownsRow base E 2 v L.length (Ms.ff L)) : ∃ (A : Option Addr) (c b : Nat), v = .slice A L.length c ∧ (0 < L.length → A = some ⟨b, 0, none⟩) ∧ L.length ≤ c ∧ c ≤ 9223372036854775807 ∧ ∀ i, i < L.length → w.cell? ⟨b, i * 2, none⟩ = some (.int .i64 (Ms.fK L i)) ∧ w.cell? ⟨b, i * 2 + 1, none⟩ = some (.string (Ms.fS L i)) := by
  have h' := h
  obtain ⟨hl, ⟨rfl, he⟩ | ⟨g, cap, cur, rfl, hb, hc, hn, hm, r⟩⟩ := h
  · have e0 : L.length = 0 := he
    rw [e0]
    exact ⟨none, 0, 0, rfl, fun h => absurd h (by omega), Nat.le_refl _, by omega, fun i hi => absurd hi (by omega)⟩
  · refine ⟨some ⟨g, 0, none⟩, cap, g, rfl, fun _ => rfl, hn, by unfold maxLen at hm; exact hm, fun i hi => ?_⟩
    have e : L[i]? = some (L.getD i (0, 0)) := by rw [List.getElem?_eq_getElem hi, List.getD, List.getElem?_eq_getElem hi]; rfl
    obtain ⟨h0, h1⟩ := Ms.ff_get e
    exact ⟨(h'.cellAt (i * 2) (by omega)).trans h0, (h'.cellAt (i * 2 + 1) (by omega)).trans h1⟩
set_option maxRecDepth 100000 in
set_option maxHeartbeats 4000000 in
theorem mc_small (m : Ms.Mesh) (w : World) (hf : ¬ (m.S.n ≤ 60 ∧ m.F.n ≤ 60)) (hs : Ms.smB m = true) : Calls Tryd.prog 3 #[m.val] w fun e w' => e = .returned (.bool true) ∧ Gr w w' := by
  have HA := Lib.hid (fun W => aw_any W)
  have HF := Lib.hid (fun W => few_any m W)
  have HS := Lib.hid (fun W => rs_small m W)
  rw [show (decide (m.S.n ≤ 60) && decide (m.F.n ≤ 60)) = false from by rw [← Bool.not_eq_true, Bool.and_eq_true, decide_eq_true_eq, decide_eq_true_eq]; exact hf] at HF
  rw [hs] at HS
  clear hf hs
  unfold Ms.Mesh.val at *
  generalize m.S.A = sA at *; generalize m.S.n = sn at *; generalize m.S.c = sc at *; generalize m.F.A = fA at *; generalize m.F.n = fn at *; generalize m.F.c = fc at *
  go_enter Tryd.func3, Tryd.ntmps3
  go_wp2_with fail
  refine (HA.out _).mono ?_
  rintro e w1 ⟨rfl, hb1⟩
  clear HA
  have g1 : Gr w w1 := Gr.trans (by exact gr_auto) hb1
  have d0 := Gr.at hb1 (b := w.heap.size) (o := 0) (v := .slice sA sn sc) (by simp [go_sem])
  have d1 := Gr.at hb1 (b := w.heap.size) (o := 1) (v := .slice fA fn fc) (by simp [go_sem])
  clear hb1
  -- @a
  go_wp2_with fail
  refine (HF.out _).mono ?_
  rintro e w2 ⟨rfl, hb2⟩
  clear HF
  replace d0 := Gr.at hb2 d0; replace d1 := Gr.at hb2 d1
  have g2 := g1.trans hb2
  clear g1 hb2
  go_wp2_with fail
  refine (HS.out _).mono ?_
  rintro e w3 ⟨rfl, hb3⟩
  replace d0 := Gr.at hb3 d0; replace d1 := Gr.at hb3 d1
  have g3 := g2.trans hb3
  clear g2 hb3
  go_wp2_with fail
  go_ret
  exact ⟨rfl, g3⟩
set_option maxRecDepth 100000 in
set_option maxHeartbeats 4000000 in
theorem mc_out1 (m : Ms.Mesh) (w : World) (hf : ¬ (m.S.n ≤ 60 ∧ m.F.n ≤ 60)) (hs : Ms.smB m = false) (hb : 2050 < m.S.n) : Calls Tryd.prog 3 #[m.val] w fun e w' => e = .returned (.bool true) ∧ Gr w w' := by
  have HA := Lib.hid (fun W => aw_any W)
  have HF := Lib.hid (fun W => few_any m W)
  have HS := Lib.hid (fun W => rs_small m W)
  rw [show (decide (m.S.n ≤ 60) && decide (m.F.n ≤ 60)) = false from by rw [← Bool.not_eq_true, Bool.and_eq_true, decide_eq_true_eq, decide_eq_true_eq]; exact hf] at HF
  rw [hs] at HS
  clear hf hs
  unfold Ms.Mesh.val at *
  generalize m.S.A = sA at *; generalize m.S.n = sn at *; generalize m.S.c = sc at *; generalize m.F.A = fA at *; generalize m.F.n = fn at *; generalize m.F.c = fc at *
  go_enter Tryd.func3, Tryd.ntmps3
  go_wp2_with fail
  refine (HA.out _).mono ?_
  rintro e w1 ⟨rfl, hb1⟩
  clear HA
  have g1 : Gr w w1 := Gr.trans (by exact gr_auto) hb1
  have d0 := Gr.at hb1 (b := w.heap.size) (o := 0) (v := .slice sA sn sc) (by simp [go_sem])
  have d1 := Gr.at hb1 (b := w.heap.size) (o := 1) (v := .slice fA fn fc) (by simp [go_sem])
  clear hb1
  -- @a
  go_wp2_with fail
  refine (HF.out _).mono ?_
  rintro e w2 ⟨rfl, hb2⟩
  clear HF
  replace d0 := Gr.at hb2 d0; replace d1 := Gr.at hb2 d1
  have g2 := g1.trans hb2
  clear g1 hb2
  have q1 : (2050 : Int) < (sn : Int) := by omega
  go_wp2_with fail
  refine (HS.out _).mono ?_
  rintro e w3 ⟨rfl, hb3⟩
  replace d0 := Gr.at hb3 d0; replace d1 := Gr.at hb3 d1
  have g3 := g2.trans hb3
  clear g2 hb3
  go_wp2_with fail
  go_ret
  exact ⟨rfl, g3⟩
set_option maxRecDepth 100000 in
set_option maxHeartbeats 4000000 in
theorem mc_out2 (m : Ms.Mesh) (w : World) (hf : ¬ (m.S.n ≤ 60 ∧ m.F.n ≤ 60)) (hs : Ms.smB m = false) (ha : m.S.n ≤ 2050) (hb : 4050 < m.F.n) : Calls Tryd.prog 3 #[m.val] w fun e w' => e = .returned (.bool true) ∧ Gr w w' := by
  have HA := Lib.hid (fun W => aw_any W)
  have HF := Lib.hid (fun W => few_any m W)
  have HS := Lib.hid (fun W => rs_small m W)
  rw [show (decide (m.S.n ≤ 60) && decide (m.F.n ≤ 60)) = false from by rw [← Bool.not_eq_true, Bool.and_eq_true, decide_eq_true_eq, decide_eq_true_eq]; exact hf] at HF
  rw [hs] at HS
  clear hf hs
  unfold Ms.Mesh.val at *
  generalize m.S.A = sA at *; generalize m.S.n = sn at *; generalize m.S.c = sc at *; generalize m.F.A = fA at *; generalize m.F.n = fn at *; generalize m.F.c = fc at *
  go_enter Tryd.func3, Tryd.ntmps3
  go_wp2_with fail
  refine (HA.out _).mono ?_
  rintro e w1 ⟨rfl, hb1⟩
  clear HA
  have g1 : Gr w w1 := Gr.trans (by exact gr_auto) hb1
  have d0 := Gr.at hb1 (b := w.heap.size) (o := 0) (v := .slice sA sn sc) (by simp [go_sem])
  have d1 := Gr.at hb1 (b := w.heap.size) (o := 1) (v := .slice fA fn fc) (by simp [go_sem])
  clear hb1
  -- @a
  go_wp2_with fail
  refine (HF.out _).mono ?_
  rintro e w2 ⟨rfl, hb2⟩
  clear HF
  replace d0 := Gr.at hb2 d0; replace d1 := Gr.at hb2 d1
  have g2 := g1.trans hb2
  clear g1 hb2
  have q1 : ¬ (2050 : Int) < (sn : Int) := by omega
  have q2 : (4050 : Int) < (fn : Int) := by omega
  go_wp2_with fail
  refine (HS.out _).mono ?_
  rintro e w3 ⟨rfl, hb3⟩
  replace d0 := Gr.at hb3 d0; replace d1 := Gr.at hb3 d1
  have g3 := g2.trans hb3
  clear g2 hb3
  go_wp2_with fail
  go_ret
  exact ⟨rfl, g3⟩
set_option maxRecDepth 100000 in
set_option maxHeartbeats 4000000 in
theorem mc_big (m : Ms.Mesh) (w : World) (h : m.At w) (hf : ¬ (m.S.n ≤ 60 ∧ m.F.n ≤ 60)) (hs : Ms.smB m = false) (ha : m.S.n ≤ 2050) (hb : m.F.n ≤ 4050) : Calls Tryd.prog 3 #[m.val] w fun e w' => e = .returned (.bool true) ∧ Gr w w' := by
  have HA := Lib.hid (fun W => aw_any W)
  have HF := Lib.hid (fun W => few_any m W)
  have HS := Lib.hid (fun W => rs_small m W)
  rw [show (decide (m.S.n ≤ 60) && decide (m.F.n ≤ 60)) = false from by rw [← Bool.not_eq_true, Bool.and_eq_true, decide_eq_true_eq, decide_eq_true_eq]; exact hf] at HF
  rw [hs] at HS
  have HC := Lib.hid (fun W => ms_check_big m W hs)
  have HV := Lib.hid (fun W (hW : Gr w W) => ms_valid m W ⟨h.s.gr hW, h.f.gr hW⟩ (Or.inl hs))
  rw [show Ms.vlB m = false from by unfold Ms.vlB; rw [hs]; rfl] at HV
  clear hf hs h
  unfold Ms.Mesh.val at *
  generalize m.S.A = sA at *; generalize m.S.n = sn at *; generalize m.S.c = sc at *; generalize m.F.A = fA at *; generalize m.F.n = fn at *; generalize m.F.c = fc at *
  go_enter Tryd.func3, Tryd.ntmps3
  go_wp2_with fail
  refine (HA.out _).mono ?_
  rintro e w1 ⟨rfl, hb1⟩
  clear HA
  have g1 : Gr w w1 := Gr.trans (by exact gr_auto) hb1
  have d0 := Gr.at hb1 (b := w.heap.size) (o := 0) (v := .slice sA sn sc) (by simp [go_sem])
  have d1 := Gr.at hb1 (b := w.heap.size) (o := 1) (v := .slice fA fn fc) (by simp [go_sem])
  clear hb1
  -- @a
  go_wp2_with fail
  refine (HF.out _).mono ?_
  rintro e w2 ⟨rfl, hb2⟩
  clear HF
  replace d0 := Gr.at hb2 d0; replace d1 := Gr.at hb2 d1
  have g2 := g1.trans hb2
  clear g1 hb2
  have q1 : ¬ (2050 : Int) < (sn : Int) := by omega
  have q2 : ¬ (4050 : Int) < (fn : Int) := by omega
  go_wp2_with fail
  refine (HS.out _).mono ?_
  rintro e w3 ⟨rfl, hb3⟩
  replace d0 := Gr.at hb3 d0; replace d1 := Gr.at hb3 d1
  have g3 := g2.trans hb3
  clear g2 hb3
  go_wp2_with fail
  -- @b
  refine (HC.out _).mono ?_
  rintro e w4 ⟨rfl, hb4⟩
  replace d0 := Gr.at hb4 d0; replace d1 := Gr.at hb4 d1
  have g4 := g3.trans hb4
  clear HC g3 hb4
  go_wp2_with fail
  -- @c
  refine (HS.out _).mono ?_
  rintro e w5 ⟨rfl, hb5⟩
  replace d0 := Gr.at hb5 d0; replace d1 := Gr.at hb5 d1
  have g5 := g4.trans hb5
  clear HS g4 hb5
  go_wp2_with fail
  -- @d
  refine (HV.out _ g5).mono ?_
  rintro e w6 ⟨rfl, hb6⟩
  go_wp2_with fail
  go_ret
  exact ⟨rfl, g5.trans hb6⟩
set_option maxRecDepth 100000 in
set_option maxHeartbeats 4000000 in
theorem mc_few (m : Ms.Mesh) (w : World) (h : m.At w) (h1 : m.S.n ≤ 60) (h2 : m.F.n ≤ 60) : Calls Tryd.prog 3 #[m.val] w fun e w' => e = .returned (.bool true) ∧ Gr w w' := by
  have hsm : Ms.smB m = true := by unfold Ms.smB; rw [decide_eq_true (by omega), decide_eq_true (by omega)]; rfl
  have HA := Lib.hid (fun W => aw_any W)
  have HF := Lib.hid (fun W => few_any m W)
  have HS := Lib.hid (fun W => rs_small m W)
  rw [decide_eq_true h1, decide_eq_true h2, Bool.and_self] at HF
  rw [hsm] at HS
  have HC := Lib.hid (fun W (hW : Gr w W) => ms_check m W ⟨h.s.gr hW, h.f.gr hW⟩ (by omega) (by omega))
  have HR := Lib.hid (fun W (hW : Gr w W) => rs_check m W ⟨h.s.gr hW, h.f.gr hW⟩ h1 h2)
  have HV := Lib.hid (fun W (hW : Gr w W) => ms_valid m W ⟨h.s.gr hW, h.f.gr hW⟩ (Or.inr ⟨by omega, by omega⟩))
  have HQ := Lib.hid (show Ms.vlB m = decide ((Ms.fnd m 7).length = 0) from by unfold Ms.vlB; rw [hsm]; cases Ms.fnd m 7 <;> rfl)
  have hl := Ms.fnd_le m (Nat.le_trans h1 (by decide)) (Nat.le_trans h2 (by decide)) 7
  unfold RetChk at HC
  unfold RetRChk at HR
  clear h hsm
  unfold Ms.Mesh.val at *
  generalize m.S.A = sA at *; generalize m.S.n = sn at *; generalize m.S.c = sc at *; generalize m.F.A = fA at *; generalize m.F.n = fn at *; generalize m.F.c = fc at *
  generalize Ms.vlB m = q at *
  obtain ⟨L, hL⟩ : ∃ L, Ms.fnd m 7 = L := ⟨_, rfl⟩
  simp only [hL] at HC HR HQ hl
  clear hL
  go_enter Tryd.func3, Tryd.ntmps3
  go_wp2_with fail
  refine (HA.out _).mono ?_
  rintro e w1 ⟨rfl, hb1⟩
  clear HA
  have g1 : Gr w w1 := Gr.trans (by exact gr_auto) hb1
  have d0 := Gr.at hb1 (b := w.heap.size) (o := 0) (v := .slice sA sn sc) (by simp [go_sem])
  have d1 := Gr.at hb1 (b := w.heap.size) (o := 1) (v := .slice fA fn fc) (by simp [go_sem])
  clear hb1
  -- @a
  go_wp2_with fail
  refine (HF.out _).mono ?_
  rintro e w2 ⟨rfl, hb2⟩
  clear HF
  replace d0 := Gr.at hb2 d0; replace d1 := Gr.at hb2 d1
  have g2 := g1.trans hb2
  clear g1 hb2
  have q1 : ¬ (2050 : Int) < (sn : Int) := by omega
  have q2 : ¬ (4050 : Int) < (fn : Int) := by omega
  go_wp2_with fail
  -- @e
  refine (HC.out _ g2).mono ?_
  rintro e w4 ⟨v, rfl, hv, hb4⟩
  obtain ⟨A1, c1, b1, rfl, hA1, hn1, hc1, hcel1⟩ := own_fnd hv
  replace d0 := Gr.at hb4 d0; replace d1 := Gr.at hb4 d1
  have g4 := g2.trans hb4
  clear HC g2 hb4 hv
  go_wp2_with fail
  -- @f
  refine (HS.out _).mono ?_
  rintro e w5 ⟨rfl, hb5⟩
  replace d0 := Gr.at hb5 d0; replace d1 := Gr.at hb5 d1
  have g5 := g4.trans hb5
  clear HS g4
  have HK1 := Lib.hid (fun i hi => And.intro (Gr.at hb5 (hcel1 i hi).1) (Gr.at hb5 (hcel1 i hi).2))
  clear hcel1 hb5
  go_wp2_with fail
  -- @g
  refine (HR.out _ g5).mono ?_
  rintro e w6 ⟨v, rfl, hv, hb6⟩
  obtain ⟨A2, c2, b2, rfl, hA2, hn2, hc2, hcel2⟩ := own_fnd hv
  replace d0 := Gr.at hb6 d0; replace d1 := Gr.at hb6 d1
  have g6 := g5.trans hb6
  have HE := Lib.hid (eq_f (Ms.fK L) (Ms.fS L) A1 A2 L.length c1 c2 b1 b2 w6 hn1 hn2 hc1 hc2 hA1 hA2 (fun i hi => ⟨Gr.at hb6 (HK1.out i hi).1, Gr.at hb6 (HK1.out i hi).2⟩) hcel2)
  clear HR g5 hb6 hv hcel2 HK1 hA1 hA2
  go_wp2_with fail
  -- @h
  refine HE.out.mono ?_
  rintro e w7 ⟨rfl, hb7⟩
  replace d0 := Gr.at hb7 d0; replace d1 := Gr.at hb7 d1
  have g7 := g6.trans hb7
  clear HE g6 hb7
  go_wp2_with fail
  -- @i
  refine (HV.out _ g7).mono ?_
  rintro e w8 ⟨rfl, hb8⟩
  have hq := HQ.out
  by_cases hz : L.length = 0
  · rw [decide_eq_true hz] at hq
    subst hq
    have t0 : ((L.length : Int) == 0) = true := by rw [hz]; rfl
    clear HQ HV
    go_wp2_with fail
    go_ret
    exact ⟨rfl, g7.trans hb8⟩
  · rw [decide_eq_false hz] at hq
    subst hq
    have t0 : ((L.length : Int) == 0) = false := beq_eq_false_iff_ne.2 (by omega)
    have t1 : ¬ (L.length : Int) = 0 := by omega
    clear HQ HV
    go_wp2_with fail
    go_ret
    exact ⟨rfl, g7.trans hb8⟩
/-- MeshChecks returns true. -/
theorem checks_law (s : Ba.SlSpot) (f : Ba.SlFace) (w : World) (h1 : s.At w) (h2 : f.At w) : Calls Tryd.prog 3 #[(Ms.Mesh.mk s f).val] w fun e w' => e = .returned (.bool true) ∧ Gr w w' := by
  by_cases hf : s.n ≤ 60 ∧ f.n ≤ 60
  · exact mc_few _ w ⟨h1, h2⟩ hf.1 hf.2
  · cases hs : Ms.smB ⟨s, f⟩
    · by_cases ha : s.n ≤ 2050
      · by_cases hb : f.n ≤ 4050
        · exact mc_big _ w ⟨h1, h2⟩ hf hs ha hb
        · exact mc_out2 _ w hf hs ha (by show 4050 < f.n; omega)
      · exact mc_out1 _ w hf hs (by show 2050 < s.n; omega)
    · exact mc_small _ w hf hs
end Go.Proofs.YtajhhplgcegodaaDoor
