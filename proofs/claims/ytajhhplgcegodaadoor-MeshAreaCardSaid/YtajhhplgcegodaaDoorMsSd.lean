/-
  The law MeshSides. (Printed by mksd.py.)
-/
import Derived.Test.YtajhhplgcegodaaDoorMsTb
import Derived.Test.YtajhhplgcegodaaDoorMsS
set_option linter.unusedVariables false
set_option linter.unusedSimpArgs false
namespace Go.Proofs.YtajhhplgcegodaaDoor
open Go.RowKit
namespace Ms
theorem nbL_len (m : Mesh) : ∀ n, (nbL m n).length = n * 3
  | 0 => rfl
  | n + 1 => by rw [nbL, List.length_append, nbL_len m n]; simp; omega
theorem nbL_get (m : Mesh) : ∀ {n i : Nat}, i < n → (nbL m n)[i * 3]? = some (.int .i64 (nb m i 0)) ∧ (nbL m n)[i * 3 + 1]? = some (.int .i64 (nb m i 1)) ∧ (nbL m n)[i * 3 + 2]? = some (.int .i64 (nb m i 2))
  | 0, i, h => absurd h (by omega)
  | n + 1, i, h => by
    rw [nbL]
    by_cases e : i = n
    · subst e
      have q : ∀ k, (nbL m i ++ [Value.int .i64 (nb m i 0), .int .i64 (nb m i 1), .int .i64 (nb m i 2)])[i * 3 + k]? = [Value.int .i64 (nb m i 0), .int .i64 (nb m i 1), .int .i64 (nb m i 2)][k]? := fun k => by
        rw [List.getElem?_append_right (by rw [nbL_len]; omega), nbL_len, show i * 3 + k - i * 3 = k by omega]
      exact ⟨q 0, q 1, q 2⟩
    · obtain ⟨a, b, c⟩ := nbL_get m (n := n) (i := i) (by omega)
      have hl := nbL_len m n
      exact ⟨by rw [List.getElem?_append_left (by omega)]; exact a, by rw [List.getElem?_append_left (by omega)]; exact b, by rw [List.getElem?_append_left (by omega)]; exact c⟩
end Ms
theorem own_nb {w : World} {base E n : Nat} {v : Value} {m : Ms.Mesh} (h : w.ownsRow base E 3 v n (Ms.nbL m n)) : ∃ (A : Option Addr) (c b : Nat), v = .slice A n c ∧ (0 < n → A = some ⟨b, 0, none⟩) ∧ n ≤ c ∧ c ≤ 9223372036854775807 ∧ ∀ i, i < n → w.cell? ⟨b, i * 3, none⟩ = some (.int .i64 (Ms.nb m i 0)) ∧ w.cell? ⟨b, i * 3 + 1, none⟩ = some (.int .i64 (Ms.nb m i 1)) ∧ w.cell? ⟨b, i * 3 + 2, none⟩ = some (.int .i64 (Ms.nb m i 2)) := by
  have h' := h
  obtain ⟨hl, ⟨rfl, he⟩ | ⟨g, cap, cur, rfl, hb, hc, hn, hm, r⟩⟩ := h
  · have e0 : n = 0 := he
    subst e0
    exact ⟨none, 0, 0, rfl, fun h => absurd h (by omega), Nat.le_refl _, by omega, fun i hi => absurd hi (by omega)⟩
  · refine ⟨some ⟨g, 0, none⟩, cap, g, rfl, fun _ => rfl, hn, by unfold maxLen at hm; exact hm, fun i hi => ?_⟩
    obtain ⟨h0, h1, h2⟩ := Ms.nbL_get m hi
    exact ⟨(h'.cellAt (i * 3) (by omega)).trans h0, (h'.cellAt (i * 3 + 1) (by omega)).trans h1, (h'.cellAt (i * 3 + 2) (by omega)).trans h2⟩
theorem near_cells {m : Ms.Mesh} {w : World} {G n : Nat} (h : ∀ t, t < 3 * n → w.cell? ⟨G, t, none⟩ = some (.int .i64 (Ms.nb m (t / 3) (t % 3)))) : ∀ i, i < n → w.cell? ⟨G, i * 3, none⟩ = some (.int .i64 (Ms.nb m i 0)) ∧ w.cell? ⟨G, i * 3 + 1, none⟩ = some (.int .i64 (Ms.nb m i 1)) ∧ w.cell? ⟨G, i * 3 + 2, none⟩ = some (.int .i64 (Ms.nb m i 2)) := fun i hi => by
  have q : ∀ k, k < 3 → w.cell? ⟨G, i * 3 + k, none⟩ = some (.int .i64 (Ms.nb m i k)) := fun k hk => by
    have := h (i * 3 + k) (by omega)
    rw [show (i * 3 + k) / 3 = i by omega, show (i * 3 + k) % 3 = k by omega] at this
    exact this
  exact ⟨q 0 (by omega), q 1 (by omega), q 2 (by omega)⟩
set_option maxRecDepth 100000 in
set_option maxHeartbeats 4000000 in
theorem sd_out (m : Ms.Mesh) (w : World) (hf : ¬ (m.S.n ≤ 60 ∧ m.F.n ≤ 60)) : Calls Tryd.prog 5 #[m.val] w fun e w' => e = .returned (.bool true) ∧ Gr w w' := by
  have HA := Lib.hid (fun W => aw_any W)
  have HF := Lib.hid (fun W => few_any m W)
  rw [show (decide (m.S.n ≤ 60) && decide (m.F.n ≤ 60)) = false from by rw [← Bool.not_eq_true, Bool.and_eq_true, decide_eq_true_eq, decide_eq_true_eq]; exact hf] at HF
  clear hf
  unfold Ms.Mesh.val at *
  generalize m.S.A = sA at *; generalize m.S.n = sn at *; generalize m.S.c = sc at *; generalize m.F.A = fA at *; generalize m.F.n = fn at *; generalize m.F.c = fc at *
  go_enter Tryd.func5, Tryd.ntmps5
  go_wp2_with fail
  refine (HA.out _).mono ?_
  rintro e w1 ⟨rfl, hb1⟩
  clear HA
  have g1 : Gr w w1 := Gr.trans (by exact gr_auto) hb1
  have d0 := Gr.at hb1 (b := w.heap.size) (o := 0) (v := .slice sA sn sc) (by simp [go_sem])
  have d1 := Gr.at hb1 (b := w.heap.size) (o := 1) (v := .slice fA fn fc) (by simp [go_sem])
  clear hb1
  -- @a
  go_wp2_with fail
  refine (HF.out _).mono ?_
  rintro e w2 ⟨rfl, hb2⟩
  clear HF
  replace d0 := Gr.at hb2 d0; replace d1 := Gr.at hb2 d1
  have g2 := g1.trans hb2
  clear g1 hb2
  go_wp2_with fail
  go_ret
  exact ⟨rfl, g2⟩
set_option maxRecDepth 100000 in
set_option maxHeartbeats 4000000 in
theorem sd_no (m : Ms.Mesh) (w : World) (h : m.At w) (hf : m.S.n ≤ 60 ∧ m.F.n ≤ 60) (hv : Ms.vlB m = false) : Calls Tryd.prog 5 #[m.val] w fun e w' => e = .returned (.bool true) ∧ Gr w w' := by
  have HA := Lib.hid (fun W => aw_any W)
  have HF := Lib.hid (fun W => few_any m W)
  rw [decide_eq_true hf.1, decide_eq_true hf.2, Bool.and_self] at HF
  have HN := Lib.hid (fun W (hW : Gr w W) => ms_Neighbours_no m W ⟨h.s.gr hW, h.f.gr hW⟩ (Or.inr ⟨by omega, by omega⟩) hv)
  have HB := Lib.hid (fun W (hW : Gr w W) => ms_border_no m W ⟨h.s.gr hW, h.f.gr hW⟩ (Or.inr ⟨by omega, by omega⟩) hv)
  have HV := Lib.hid (fun W (hW : Gr w W) => rs_valid m W ⟨h.s.gr hW, h.f.gr hW⟩ (Or.inr hf))
  rw [hv] at HV
  clear h hf hv
  unfold Ms.Mesh.val at *
  generalize m.S.A = sA at *; generalize m.S.n = sn at *; generalize m.S.c = sc at *; generalize m.F.A = fA at *; generalize m.F.n = fn at *; generalize m.F.c = fc at *
  go_enter Tryd.func5, Tryd.ntmps5
  go_wp2_with fail
  refine (HA.out _).mono ?_
  rintro e w1 ⟨rfl, hb1⟩
  clear HA
  have g1 : Gr w w1 := Gr.trans (by exact gr_auto) hb1
  have d0 := Gr.at hb1 (b := w.heap.size) (o := 0) (v := .slice sA sn sc) (by simp [go_sem])
  have d1 := Gr.at hb1 (b := w.heap.size) (o := 1) (v := .slice fA fn fc) (by simp [go_sem])
  clear hb1
  -- @a
  go_wp2_with fail
  refine (HF.out _).mono ?_
  rintro e w2 ⟨rfl, hb2⟩
  clear HF
  replace d0 := Gr.at hb2 d0; replace d1 := Gr.at hb2 d1
  have g2 := g1.trans hb2
  clear g1 hb2
  go_wp2_with fail
  -- @b
  refine (HN.out _ g2).mono ?_
  rintro e w3 ⟨rfl, hb3⟩
  replace d0 := Gr.at hb3 d0; replace d1 := Gr.at hb3 d1
  have g3 := g2.trans hb3
  clear HN g2 hb3
  go_wp2_with fail
  -- @c
  refine (HB.out _ g3).mono ?_
  rintro e w4 ⟨rfl, hb4⟩
  replace d0 := Gr.at hb4 d0; replace d1 := Gr.at hb4 d1
  have g4 := g3.trans hb4
  clear HB g3 hb4
  go_wp2_with fail
  -- @d
  refine (HV.out _ g4).mono ?_
  rintro e w5 ⟨rfl, hb5⟩
  replace d0 := Gr.at hb5 d0; replace d1 := Gr.at hb5 d1
  have g5 := g4.trans hb5
  clear HV g4 hb5
  go_wp2_with fail
  -- @e
  go_ret
  exact ⟨rfl, g5⟩
set_option maxRecDepth 100000 in
set_option maxHeartbeats 4000000 in
theorem sd_yes (m : Ms.Mesh) (w : World) (h : m.At w) (hf : m.S.n ≤ 60 ∧ m.F.n ≤ 60) (hv : Ms.vlB m = true) : Calls Tryd.prog 5 #[m.val] w fun e w' => e = .returned (.bool true) ∧ Gr w w' := by
  have HA := Lib.hid (fun W => aw_any W)
  have HF := Lib.hid (fun W => few_any m W)
  rw [decide_eq_true hf.1, decide_eq_true hf.2, Bool.and_self] at HF
  have HN := Lib.hid (fun W (hW : Gr w W) => ms_neigh m W ⟨h.s.gr hW, h.f.gr hW⟩ ⟨by omega, by omega⟩ hv)
  have HB := Lib.hid (fun W (hW : Gr w W) => ms_border m W ⟨h.s.gr hW, h.f.gr hW⟩ ⟨by omega, by omega⟩ hv)
  have HV := Lib.hid (fun W (hW : Gr w W) => rs_valid m W ⟨h.s.gr hW, h.f.gr hW⟩ (Or.inr hf))
  rw [hv] at HV
  have HRN := Lib.hid (fun W (hW : Gr w W) => rs_neigh m W (h.f.gr hW) hf.2)
  have HRB := Lib.hid (fun W (hW : Gr w W) => rs_border m W ⟨h.s.gr hW, h.f.gr hW⟩ ⟨by omega, by omega⟩ hv)
  have HLE := Lib.hid (Ms.bS_len (m := m) (3 * m.F.n))
  have hn := hf.2
  clear h hf hv
  unfold RetNear at HN
  unfold RetRb RetBo at HRB
  unfold RetBo at HB
  unfold Ms.Mesh.val at *
  generalize m.S.A = sA at *; generalize m.S.n = sn at *; generalize m.S.c = sc at *; generalize m.F.A = fA at *; generalize m.F.n = fn at *; generalize m.F.c = fc at *
  go_enter Tryd.func5, Tryd.ntmps5
  go_wp2_with fail
  refine (HA.out _).mono ?_
  rintro e w1 ⟨rfl, hb1⟩
  clear HA
  have g1 : Gr w w1 := Gr.trans (by exact gr_auto) hb1
  have d0 := Gr.at hb1 (b := w.heap.size) (o := 0) (v := .slice sA sn sc) (by simp [go_sem])
  have d1 := Gr.at hb1 (b := w.heap.size) (o := 1) (v := .slice fA fn fc) (by simp [go_sem])
  clear hb1
  -- @a
  go_wp2_with fail
  refine (HF.out _).mono ?_
  rintro e w2 ⟨rfl, hb2⟩
  clear HF
  replace d0 := Gr.at hb2 d0; replace d1 := Gr.at hb2 d1
  have g2 := g1.trans hb2
  clear g1 hb2
  go_wp2_with fail
  -- @f
  refine (HN.out _ g2).mono ?_
  rintro e w3 ⟨v, rfl, G, rfl, -, hcn, hb3⟩
  replace d0 := Gr.at hb3 d0; replace d1 := Gr.at hb3 d1
  have g3 := g2.trans hb3
  have HCN := Lib.hid (near_cells hcn)
  clear HN g2 hb3 hcn
  go_wp2_with fail
  -- @g
  refine (HB.out _ g3).mono ?_
  rintro e w4 ⟨v, rfl, V, hbr, hb4⟩
  replace d0 := Gr.at hb4 d0; replace d1 := Gr.at hb4 d1
  have g4 := g3.trans hb4
  have HCN4 := Lib.hid (fun i hi => And.intro (Gr.at hb4 (HCN.out i hi).1) (And.intro (Gr.at hb4 (HCN.out i hi).2.1) (Gr.at hb4 (HCN.out i hi).2.2)))
  obtain ⟨L, hL⟩ : ∃ L, (Ms.bS m (3 * fn)).2 = L := ⟨_, rfl⟩
  rw [hL] at hbr HLE
  simp only [hL] at HRB
  obtain ⟨A1, c1, b1, rfl, hA1, hn1, hc1, hr1⟩ := brd_rows hbr
  have HR1 := Lib.hid hr1
  clear HB g3 hbr hr1 hL HCN
  go_wp2_with fail
  -- @h
  refine (HV.out _ g4).mono ?_
  rintro e w5 ⟨rfl, hb5⟩
  replace d0 := Gr.at hb5 d0; replace d1 := Gr.at hb5 d1
  have g5 := g4.trans hb5
  have g45 := hb4
  clear HV hb4 g45
  go_wp2_with fail
  -- @i
  refine (HRN.out _ g5).mono ?_
  rintro e w6 ⟨v, rfl, hvn, hb6⟩
  replace d0 := Gr.at hb6 d0; replace d1 := Gr.at hb6 d1
  have g6 := g5.trans hb6
  obtain ⟨A2, c2, b2, rfl, hA2, hn2, hc2, hcel2⟩ := own_nb hvn
  have g46 := hb5.trans hb6
  have HE := Lib.hid (eq_3 (fun i => Ms.nb m i 0) (fun i => Ms.nb m i 1) (fun i => Ms.nb m i 2) (some ⟨G, 0, none⟩) A2 fn fn c2 G b2 w6 (Nat.le_refl _) hn2 (by omega) hc2 (fun _ => rfl) hA2 (fun i hi => ⟨Gr.at g46 (HCN4.out i hi).1, Gr.at g46 (HCN4.out i hi).2.1, Gr.at g46 (HCN4.out i hi).2.2⟩) hcel2)
  clear HRN g4 g5 hb5 hb6 hvn hcel2 HCN4 hA2
  go_wp2_with fail
  -- @j
  refine HE.out.mono ?_
  rintro e w7 ⟨rfl, hb7⟩
  replace d0 := Gr.at hb7 d0; replace d1 := Gr.at hb7 d1
  have g7 := g6.trans hb7
  have g47 := g46.trans hb7
  clear HE g6 hb7 g46
  go_wp2_with fail
  -- @k
  refine (HRB.out _ g7).mono ?_
  rintro e w8 ⟨v, rfl, V2, hbr, hb8⟩
  have g8 := g7.trans hb8
  obtain ⟨A3, c3, b3, rfl, hA3, hn3, hc3, hr3⟩ := brd_rows hbr
  have HE := Lib.hid (eq_rows A1 A3 L.length c1 c3 b1 b3 _ _ w8 hn1 hn3 hc1 hc3 hA1 hA3 (HR1.out.gr (g47.trans hb8)) hr3)
  clear HRB hbr hr3 HR1 hA1 hA3 g47 hb8 g7
  go_wp2_with fail
  -- @l
  refine HE.out.mono ?_
  rintro e w9 ⟨rfl, hb9⟩
  clear HE
  go_wp2_with fail
  -- @m
  go_ret
  exact ⟨rfl, g8.trans hb9⟩
/-- MeshSides returns true. -/
theorem sides_law (s : Ba.SlSpot) (f : Ba.SlFace) (w : World) (h1 : s.At w) (h2 : f.At w) : Calls Tryd.prog 5 #[(Ms.Mesh.mk s f).val] w fun e w' => e = .returned (.bool true) ∧ Gr w w' := by
  by_cases hf : s.n ≤ 60 ∧ f.n ≤ 60
  · cases hv : Ms.vlB ⟨s, f⟩
    · exact sd_no _ w ⟨h1, h2⟩ hf hv
    · exact sd_yes _ w ⟨h1, h2⟩ hf hv
  · exact sd_out _ w hf
end Go.Proofs.YtajhhplgcegodaaDoor
