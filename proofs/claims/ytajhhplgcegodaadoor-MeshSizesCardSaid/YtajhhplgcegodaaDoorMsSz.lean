/-
  The law MeshSizes. (Printed by mksz.py.)
-/
import Derived.Test.YtajhhplgcegodaaDoorMsTb
import Derived.Test.YtajhhplgcegodaaDoorMsS
import Derived.Test.YtajhhplgcegodaaDoorMsRm
import Derived.Test.YtajhhplgcegodaaDoorMsSm
set_option linter.unusedVariables false
set_option linter.unusedSimpArgs false
namespace Go.Proofs.YtajhhplgcegodaaDoor
open Go.RowKit
namespace Ms
/-- Move's error number for a valid surface. -/
def mvK (m : Mesh) (x y z : Int) : Int := if far3 x y z || mvBad m x y z then 5 else 0
def mvN (m : Mesh) (x y z : Int) (n : Nat) : Nat := if far3 x y z || mvBad m x y z then 0 else n
end Ms
/-- Move's answer for a valid surface: a surface, and an error number. -/
def RetMw (m : Ms.Mesh) (x y z : Int) (w : World) (e : Ending) (w' : World) : Prop :=
  ∃ a : Ms.Mesh, e = .returned (.tuple #[a.val, .int .i64 (Ms.mvK m x y z)]) ∧ a.At w' ∧ a.S.n = Ms.mvN m x y z m.S.n ∧ a.S.D = (fun i => Ms.mvS x y z (m.S.D i)) ∧ a.F.n = Ms.mvN m x y z m.F.n ∧ a.F.D = m.F.D ∧ Gr w w'
theorem mw_none (m : Ms.Mesh) (x y z : Int) (w w' : World) (h : (Ms.far3 x y z || Ms.mvBad m x y z) = true) (g : Gr w w') : RetMw m x y z w (.returned (.tuple #[.agg #[.slice none 0 0, .slice none 0 0], .int .i64 5])) w' := by
  refine ⟨⟨⟨none, 0, 0, 0, 0, fun i => Ms.mvS x y z (m.S.D i)⟩, ⟨none, 0, 0, 0, 0, m.F.D⟩⟩, ?_, ⟨⟨fun h => absurd h (by show ¬ 0 < 0; omega), Nat.le_refl _, by show 0 ≤ 9223372036854775807; omega, fun i hi => absurd hi (by show ¬ i < 0; omega)⟩, ⟨fun h => absurd h (by show ¬ 0 < 0; omega), Nat.le_refl _, by show 0 ≤ 9223372036854775807; omega, fun i hi => absurd hi (by show ¬ i < 0; omega)⟩⟩, ?_, rfl, ?_, rfl, g⟩
  · unfold Ms.mvK; rw [if_pos h]; rfl
  · unfold Ms.mvN; rw [if_pos h]
  · unfold Ms.mvN; rw [if_pos h]
theorem mw_of {m : Ms.Mesh} {x y z : Int} {w w' : World} {e : Ending} (hf : Ms.far3 x y z = false) (h : RetMv m x y z w e w') : RetMw m x y z w e w' := by
  rcases h with ⟨hb, rfl, g⟩ | ⟨hb, a, rfl, hA, h1, h2, h3, h4, g⟩
  · exact mw_none m x y z w w' (by rw [hf, hb]; rfl) g
  · have hq : (Ms.far3 x y z || Ms.mvBad m x y z) = false := by rw [hf, hb]; rfl
    refine ⟨a, ?_, hA, ?_, h2, ?_, h4, g⟩
    · unfold Ms.mvK; rw [hq]; rfl
    · unfold Ms.mvN; rw [hq, h1]; rfl
    · unfold Ms.mvN; rw [hq, h3]; rfl
theorem ms_move (m : Ms.Mesh) (x y z : Int) (w : World) (h : m.At w) (hs : m.S.n ≤ 61 ∧ m.F.n ≤ 61) (hv : Ms.vlB m = true) (hx : Ba.i64 x ∧ Ba.i64 y ∧ Ba.i64 z) : Calls Tryd.prog 35 #[m.val, .int .i64 x, .int .i64 y, .int .i64 z] w (RetMw m x y z w) := by
  cases hf : Ms.far3 x y z
  · exact (ms_move_near m x y z w h hs hv hx hf).mono fun e w' hr => mw_of hf hr
  · refine (ms_move_far m x y z w h hs hv hx hf).mono ?_
    rintro e w' ⟨rfl, g⟩
    exact mw_none m x y z w w' (by rw [hf]; rfl) g
theorem rs_move (m : Ms.Mesh) (x y z : Int) (w : World) (h : m.At w) (hs : m.S.n ≤ 61 ∧ m.F.n ≤ 61) (hv : Ms.vlB m = true) : Calls Tryd.prog 38 #[m.val, .int .i64 x, .int .i64 y, .int .i64 z] w (RetMw m x y z w) := by
  cases hf : Ms.far3 x y z
  · exact (rs_move_near m x y z w h hs hv hf).mono fun e w' hr => mw_of hf hr
  · refine (rs_move_far m x y z w hf).mono ?_
    rintro e w' ⟨rfl, g⟩
    exact mw_none m x y z w w' (by rw [hf]; rfl) g
set_option maxRecDepth 100000 in
set_option maxHeartbeats 8000000 in
theorem sz_out (m : Ms.Mesh) (q x y z : Int) (w : World) (hf : ¬ (m.S.n ≤ 60 ∧ m.F.n ≤ 60)) : Calls Tryd.prog 7 #[m.val, .int .i64 q, .int .i64 x, .int .i64 y, .int .i64 z] w fun e w' => e = .returned (.bool true) ∧ Gr w w' := by
  have HA := Lib.hid (fun W => aw_any W)
  have HF := Lib.hid (fun W => few_any m W)
  rw [show (decide (m.S.n ≤ 60) && decide (m.F.n ≤ 60)) = false from by rw [← Bool.not_eq_true, Bool.and_eq_true, decide_eq_true_eq, decide_eq_true_eq]; exact hf] at HF
  clear hf
  unfold Ms.Mesh.val at *
  generalize m.S.A = sA at *; generalize m.S.n = sn at *; generalize m.S.c = sc at *; generalize m.F.A = fA at *; generalize m.F.n = fn at *; generalize m.F.c = fc at *
  go_enter Tryd.func7, Tryd.ntmps7
  go_wp2_with fail
  refine (HA.out _).mono ?_
  rintro e w1 ⟨rfl, hb1⟩
  clear HA
  have g1 : Gr w w1 := Gr.trans (by exact gr_auto) hb1
  have d0 := Gr.at hb1 (b := w.heap.size) (o := 0) (v := .slice sA sn sc) (by simp [go_sem])
  have d1 := Gr.at hb1 (b := w.heap.size) (o := 1) (v := .slice fA fn fc) (by simp [go_sem])
  clear hb1
  go_wp2_with fail
  refine (HF.out _).mono ?_
  rintro e w2 ⟨rfl, hb2⟩
  clear HF
  replace d0 := Gr.at hb2 d0; replace d1 := Gr.at hb2 d1
  have g2 := g1.trans hb2
  clear g1 hb2
  go_wp2_with fail
  go_ret
  exact ⟨rfl, g2⟩
set_option maxRecDepth 100000 in
set_option maxHeartbeats 8000000 in
theorem sz_no (m : Ms.Mesh) (q x y z : Int) (w : World) (h : m.At w) (hf : m.S.n ≤ 60 ∧ m.F.n ≤ 60) (hv : Ms.vlB m = false) : Calls Tryd.prog 7 #[m.val, .int .i64 q, .int .i64 x, .int .i64 y, .int .i64 z] w fun e w' => e = .returned (.bool true) ∧ Gr w w' := by
  have HA := Lib.hid (fun W => aw_any W)
  have HF := Lib.hid (fun W => few_any m W)
  rw [decide_eq_true hf.1, decide_eq_true hf.2, Bool.and_self] at HF
  have HT := Lib.hid (fun W (hW : Gr w W) => ms_Twice_no m q W ⟨h.s.gr hW, h.f.gr hW⟩ (Or.inr ⟨by omega, by omega⟩) hv)
  have HO := Lib.hid (fun W (hW : Gr w W) => ms_Total_no m W ⟨h.s.gr hW, h.f.gr hW⟩ (Or.inr ⟨by omega, by omega⟩) hv)
  have HM := Lib.hid (fun W (hW : Gr w W) => ms_move_no m x y z W ⟨h.s.gr hW, h.f.gr hW⟩ (Or.inr ⟨by omega, by omega⟩) hv)
  have HV := Lib.hid (fun W (hW : Gr w W) => rs_valid m W ⟨h.s.gr hW, h.f.gr hW⟩ (Or.inr hf))
  have HN := Lib.hid (fun W => none_any W)
  rw [hv] at HV
  clear h hf hv
  unfold Ms.Mesh.val at *
  generalize m.S.A = sA at *; generalize m.S.n = sn at *; generalize m.S.c = sc at *; generalize m.F.A = fA at *; generalize m.F.n = fn at *; generalize m.F.c = fc at *
  go_enter Tryd.func7, Tryd.ntmps7
  go_wp2_with fail
  refine (HA.out _).mono ?_
  rintro e w1 ⟨rfl, hb1⟩
  clear HA
  have g1 : Gr w w1 := Gr.trans (by exact gr_auto) hb1
  have d0 := Gr.at hb1 (b := w.heap.size) (o := 0) (v := .slice sA sn sc) (by simp [go_sem])
  have d1 := Gr.at hb1 (b := w.heap.size) (o := 1) (v := .slice fA fn fc) (by simp [go_sem])
  clear hb1
  go_wp2_with fail
  refine (HF.out _).mono ?_
  rintro e w2 ⟨rfl, hb2⟩
  clear HF
  replace d0 := Gr.at hb2 d0; replace d1 := Gr.at hb2 d1
  have g2 := g1.trans hb2
  clear g1 hb2
  go_wp2_with fail
  -- @a
  refine (HT.out _ g2).mono ?_
  rintro e w3 ⟨rfl, hb3⟩
  replace d0 := Gr.at hb3 d0; replace d1 := Gr.at hb3 d1
  have g3 := g2.trans hb3
  clear HT g2 hb3
  go_wp2_with fail
  -- @b
  refine (HO.out _ g3).mono ?_
  rintro e w4 ⟨rfl, hb4⟩
  replace d0 := Gr.at hb4 d0; replace d1 := Gr.at hb4 d1
  have g4 := g3.trans hb4
  clear HO g3 hb4
  go_wp2_with fail
  -- @c
  refine (HM.out _ g4).mono ?_
  rintro e w5 ⟨rfl, hb5⟩
  replace d0 := Gr.at hb5 d0; replace d1 := Gr.at hb5 d1
  have g5 := g4.trans hb5
  clear HM g4 hb5
  have zz := World.block_lt_of_cell? _ _ d0
  simp only at zz
  go_wp2_with fail
  obtain ⟨W6, hW6⟩ : ∃ W, w5.alloc (Obj.cells #[.slice none 0 0, .slice none 0 0] 25) = W := ⟨_, rfl⟩
  have g56 : Gr w5 W6 := hW6 ▸ Gr.alloc (Gr.refl w5) _
  have v0 : W6.cell? ⟨w5.heap.size, 0, none⟩ = some (.slice none 0 0) := by rw [← hW6]; simp [go_sem]
  have v1 : W6.cell? ⟨w5.heap.size, 1, none⟩ = some (.slice none 0 0) := by rw [← hW6]; simp [go_sem]
  replace d0 := Gr.at g56 d0; replace d1 := Gr.at g56 d1
  have g6 := g5.trans g56
  rw [hW6]
  clear hW6 g56 g5
  -- @d
  refine (HV.out _ g6).mono ?_
  rintro e w7 ⟨rfl, hb7⟩
  replace d0 := Gr.at hb7 d0; replace d1 := Gr.at hb7 d1; replace v0 := Gr.at hb7 v0; replace v1 := Gr.at hb7 v1
  have g7 := g6.trans hb7
  clear HV g6 hb7
  go_wp2_with fail
  -- @e
  refine (HN.out _).mono ?_
  rintro e w8 ⟨rfl, hb8⟩
  go_wp2_with fail
  -- @f
  go_ret
  exact ⟨rfl, g7.trans hb8⟩
set_option maxRecDepth 100000 in
set_option maxHeartbeats 8000000 in
theorem sz_low (m : Ms.Mesh) (q : Int) (hq : (decide (0 ≤ q) && decide (q < (m.F.n : Int))) = false) (hq1 : q < 0) (x y z : Int) (w : World) (h : m.At w) (hf : m.S.n ≤ 60 ∧ m.F.n ≤ 60) (hv : Ms.vlB m = true) (hx : Ba.i64 x ∧ Ba.i64 y ∧ Ba.i64 z) : Calls Tryd.prog 7 #[m.val, .int .i64 q, .int .i64 x, .int .i64 y, .int .i64 z] w fun e w' => e = .returned (.bool true) ∧ Gr w w' := by
  have HA := Lib.hid (fun W => aw_any W)
  have HF := Lib.hid (fun W => few_any m W)
  rw [decide_eq_true hf.1, decide_eq_true hf.2, Bool.and_self] at HF
  have HT := Lib.hid (fun W (hW : Gr w W) => ms_Twice_range m q W ⟨h.s.gr hW, h.f.gr hW⟩ ⟨by omega, by omega⟩ hv hq)
  have HO := Lib.hid (fun W (hW : Gr w W) => ms_total m W ⟨h.s.gr hW, h.f.gr hW⟩ ⟨by omega, by omega⟩ hv)
  have HM := Lib.hid (fun W (hW : Gr w W) => ms_move m x y z W ⟨h.s.gr hW, h.f.gr hW⟩ ⟨by omega, by omega⟩ hv hx)
  have HV := Lib.hid (fun W (hW : Gr w W) => rs_valid m W ⟨h.s.gr hW, h.f.gr hW⟩ (Or.inr hf))
  have HRM := Lib.hid (fun W (hW : Gr w W) => rs_move m x y z W ⟨h.s.gr hW, h.f.gr hW⟩ ⟨by omega, by omega⟩ hv)
  have HRO := Lib.hid (fun W (hW : Gr w W) => rs_total m W ⟨h.s.gr hW, h.f.gr hW⟩ (by omega) hv)
  rw [hv] at HV
  unfold RetMw at HM HRM
  have hnn := hf.2
  clear h hf hv hx
  generalize Ms.totI m m.F.n = TO at *
  generalize Ms.mvK m x y z = KK at *
  generalize Ms.mvN m x y z m.S.n = N1 at *
  generalize Ms.mvN m x y z m.F.n = N2 at *
  generalize (fun i => Ms.mvS x y z (m.S.D i)) = DD at *
  generalize m.F.D = FD at *
  unfold Ms.Mesh.val at *
  generalize m.S.A = sA at *; generalize m.S.n = sn at *; generalize m.S.c = sc at *; generalize m.F.A = fA at *; generalize m.F.n = fn at *; generalize m.F.c = fc at *
  go_enter Tryd.func7, Tryd.ntmps7
  go_wp2_with fail
  refine (HA.out _).mono ?_
  rintro e w1 ⟨rfl, hb1⟩
  clear HA
  have g1 : Gr w w1 := Gr.trans (by exact gr_auto) hb1
  have d0 := Gr.at hb1 (b := w.heap.size) (o := 0) (v := .slice sA sn sc) (by simp [go_sem])
  have d1 := Gr.at hb1 (b := w.heap.size) (o := 1) (v := .slice fA fn fc) (by simp [go_sem])
  clear hb1
  go_wp2_with fail
  refine (HF.out _).mono ?_
  rintro e w2 ⟨rfl, hb2⟩
  clear HF
  replace d0 := Gr.at hb2 d0; replace d1 := Gr.at hb2 d1
  have g2 := g1.trans hb2
  clear g1 hb2
  go_wp2_with fail
  -- @a
  refine (HT.out _ g2).mono ?_
  rintro e w3 ⟨rfl, hb3⟩
  replace d0 := Gr.at hb3 d0; replace d1 := Gr.at hb3 d1
  have g3 := g2.trans hb3
  clear HT g2 hb3
  go_wp2_with fail
  -- @b
  refine (HO.out _ g3).mono ?_
  rintro e w4 ⟨rfl, hb4⟩
  replace d0 := Gr.at hb4 d0; replace d1 := Gr.at hb4 d1
  have g4 := g3.trans hb4
  clear HO g3 hb4
  go_wp2_with fail
  -- @c
  refine (HM.out _ g4).mono ?_
  rintro e w5 ⟨a, rfl, hA, a1, a2, a3, a4, hb5⟩
  replace d0 := Gr.at hb5 d0; replace d1 := Gr.at hb5 d1
  have g5 := g4.trans hb5
  clear HM g4 hb5
  obtain ⟨W6, hW6⟩ : ∃ W, w5.alloc (Obj.cells #[.slice a.S.A a.S.n a.S.c, .slice a.F.A a.F.n a.F.c] 25) = W := ⟨_, rfl⟩
  have g56 : Gr w5 W6 := hW6 ▸ Gr.alloc (Gr.refl w5) _
  have v0 : W6.cell? ⟨w5.heap.size, 0, none⟩ = some (.slice a.S.A a.S.n a.S.c) := by rw [← hW6]; simp [go_sem]
  have v1 : W6.cell? ⟨w5.heap.size, 1, none⟩ = some (.slice a.F.A a.F.n a.F.c) := by rw [← hW6]; simp [go_sem]
  replace d0 := Gr.at g56 d0; replace d1 := Gr.at g56 d1
  have g6 := g5.trans g56
  have HAA := Lib.hid (And.intro (hA.gr g56) (And.intro a1 (And.intro a2 (And.intro a3 a4))))
  clear hA a1 a2 a3 a4
  go_wp2_with fail
  try rw [hW6]
  clear hW6 g56 g5
  -- @d
  refine (HV.out _ g6).mono ?_
  rintro e w7 ⟨rfl, hb7⟩
  replace d0 := Gr.at hb7 d0; replace d1 := Gr.at hb7 d1; replace v0 := Gr.at hb7 v0; replace v1 := Gr.at hb7 v1
  have g7 := g6.trans hb7
  have g67 := hb7
  clear HV g6 hb7
  go_wp2_with fail
  -- @e
  -- @g
  refine (HRM.out _ g7).mono ?_
  rintro e w9 ⟨b, rfl, hB, b1, b2, b3, b4, hb9⟩
  replace d0 := Gr.at hb9 d0; replace d1 := Gr.at hb9 d1; replace v0 := Gr.at hb9 v0; replace v1 := Gr.at hb9 v1
  have g9 := g7.trans hb9
  have g69 := g67.trans hb9
  clear HRM g7 hb9 g67
  obtain ⟨W10, hW10⟩ : ∃ W, w9.alloc (Obj.cells #[.slice b.S.A b.S.n b.S.c, .slice b.F.A b.F.n b.F.c] 25) = W := ⟨_, rfl⟩
  have g90 : Gr w9 W10 := hW10 ▸ Gr.alloc (Gr.refl w9) _
  have u0 : W10.cell? ⟨w9.heap.size, 0, none⟩ = some (.slice b.S.A b.S.n b.S.c) := by rw [← hW10]; simp [go_sem]
  have u1 : W10.cell? ⟨w9.heap.size, 1, none⟩ = some (.slice b.F.A b.F.n b.F.c) := by rw [← hW10]; simp [go_sem]
  replace d0 := Gr.at g90 d0; replace d1 := Gr.at g90 d1; replace v0 := Gr.at g90 v0; replace v1 := Gr.at g90 v1
  have g10 := g9.trans g90
  obtain ⟨hA, a1, a2, a3, a4⟩ := HAA.out
  have HSM := Lib.hid (fun W (hW : Gr W10 W) => rs_same_eq a b W (hA.gr (g69.trans (g90.trans hW))) (hB.gr (g90.trans hW)) (b1.trans a1.symm) (fun i _ => by rw [a2, b2]) (b3.trans a3.symm) (fun i _ => by rw [a4, b4]))
  unfold Ms.Mesh.val at HSM
  clear hA a1 a2 a3 a4 hB b1 b2 b3 b4 HAA g69
  go_wp2_with fail
  try rw [hW10]
  clear hW10 g90 g9
  -- @h
  refine (HRO.out _ g10).mono ?_
  rintro e w11 ⟨rfl, hb11⟩
  replace d0 := Gr.at hb11 d0; replace d1 := Gr.at hb11 d1; replace v0 := Gr.at hb11 v0; replace v1 := Gr.at hb11 v1; replace u0 := Gr.at hb11 u0; replace u1 := Gr.at hb11 u1
  clear HRO
  go_wp2_with fail
  -- @i
  refine (HSM.out _ hb11).mono ?_
  rintro e w12 ⟨rfl, hb12⟩
  clear HSM
  go_wp2_with fail
  -- @j
  go_ret
  exact ⟨by first | rfl | (simp; done), g10.trans (hb11.trans hb12)⟩
set_option maxRecDepth 100000 in
set_option maxHeartbeats 8000000 in
theorem sz_high (m : Ms.Mesh) (q : Int) (hq : (decide (0 ≤ q) && decide (q < (m.F.n : Int))) = false) (hq1 : ¬ q < 0) (hq2 : (m.F.n : Int) ≤ q) (x y z : Int) (w : World) (h : m.At w) (hf : m.S.n ≤ 60 ∧ m.F.n ≤ 60) (hv : Ms.vlB m = true) (hx : Ba.i64 x ∧ Ba.i64 y ∧ Ba.i64 z) : Calls Tryd.prog 7 #[m.val, .int .i64 q, .int .i64 x, .int .i64 y, .int .i64 z] w fun e w' => e = .returned (.bool true) ∧ Gr w w' := by
  have HA := Lib.hid (fun W => aw_any W)
  have HF := Lib.hid (fun W => few_any m W)
  rw [decide_eq_true hf.1, decide_eq_true hf.2, Bool.and_self] at HF
  have HT := Lib.hid (fun W (hW : Gr w W) => ms_Twice_range m q W ⟨h.s.gr hW, h.f.gr hW⟩ ⟨by omega, by omega⟩ hv hq)
  have HO := Lib.hid (fun W (hW : Gr w W) => ms_total m W ⟨h.s.gr hW, h.f.gr hW⟩ ⟨by omega, by omega⟩ hv)
  have HM := Lib.hid (fun W (hW : Gr w W) => ms_move m x y z W ⟨h.s.gr hW, h.f.gr hW⟩ ⟨by omega, by omega⟩ hv hx)
  have HV := Lib.hid (fun W (hW : Gr w W) => rs_valid m W ⟨h.s.gr hW, h.f.gr hW⟩ (Or.inr hf))
  have HRM := Lib.hid (fun W (hW : Gr w W) => rs_move m x y z W ⟨h.s.gr hW, h.f.gr hW⟩ ⟨by omega, by omega⟩ hv)
  have HRO := Lib.hid (fun W (hW : Gr w W) => rs_total m W ⟨h.s.gr hW, h.f.gr hW⟩ (by omega) hv)
  rw [hv] at HV
  unfold RetMw at HM HRM
  have hnn := hf.2
  clear h hf hv hx
  generalize Ms.totI m m.F.n = TO at *
  generalize Ms.mvK m x y z = KK at *
  generalize Ms.mvN m x y z m.S.n = N1 at *
  generalize Ms.mvN m x y z m.F.n = N2 at *
  generalize (fun i => Ms.mvS x y z (m.S.D i)) = DD at *
  generalize m.F.D = FD at *
  unfold Ms.Mesh.val at *
  generalize m.S.A = sA at *; generalize m.S.n = sn at *; generalize m.S.c = sc at *; generalize m.F.A = fA at *; generalize m.F.n = fn at *; generalize m.F.c = fc at *
  go_enter Tryd.func7, Tryd.ntmps7
  go_wp2_with fail
  refine (HA.out _).mono ?_
  rintro e w1 ⟨rfl, hb1⟩
  clear HA
  have g1 : Gr w w1 := Gr.trans (by exact gr_auto) hb1
  have d0 := Gr.at hb1 (b := w.heap.size) (o := 0) (v := .slice sA sn sc) (by simp [go_sem])
  have d1 := Gr.at hb1 (b := w.heap.size) (o := 1) (v := .slice fA fn fc) (by simp [go_sem])
  clear hb1
  go_wp2_with fail
  refine (HF.out _).mono ?_
  rintro e w2 ⟨rfl, hb2⟩
  clear HF
  replace d0 := Gr.at hb2 d0; replace d1 := Gr.at hb2 d1
  have g2 := g1.trans hb2
  clear g1 hb2
  go_wp2_with fail
  -- @a
  refine (HT.out _ g2).mono ?_
  rintro e w3 ⟨rfl, hb3⟩
  replace d0 := Gr.at hb3 d0; replace d1 := Gr.at hb3 d1
  have g3 := g2.trans hb3
  clear HT g2 hb3
  go_wp2_with fail
  -- @b
  refine (HO.out _ g3).mono ?_
  rintro e w4 ⟨rfl, hb4⟩
  replace d0 := Gr.at hb4 d0; replace d1 := Gr.at hb4 d1
  have g4 := g3.trans hb4
  clear HO g3 hb4
  go_wp2_with fail
  -- @c
  refine (HM.out _ g4).mono ?_
  rintro e w5 ⟨a, rfl, hA, a1, a2, a3, a4, hb5⟩
  replace d0 := Gr.at hb5 d0; replace d1 := Gr.at hb5 d1
  have g5 := g4.trans hb5
  clear HM g4 hb5
  obtain ⟨W6, hW6⟩ : ∃ W, w5.alloc (Obj.cells #[.slice a.S.A a.S.n a.S.c, .slice a.F.A a.F.n a.F.c] 25) = W := ⟨_, rfl⟩
  have g56 : Gr w5 W6 := hW6 ▸ Gr.alloc (Gr.refl w5) _
  have v0 : W6.cell? ⟨w5.heap.size, 0, none⟩ = some (.slice a.S.A a.S.n a.S.c) := by rw [← hW6]; simp [go_sem]
  have v1 : W6.cell? ⟨w5.heap.size, 1, none⟩ = some (.slice a.F.A a.F.n a.F.c) := by rw [← hW6]; simp [go_sem]
  replace d0 := Gr.at g56 d0; replace d1 := Gr.at g56 d1
  have g6 := g5.trans g56
  have HAA := Lib.hid (And.intro (hA.gr g56) (And.intro a1 (And.intro a2 (And.intro a3 a4))))
  clear hA a1 a2 a3 a4
  go_wp2_with fail
  try rw [hW6]
  clear hW6 g56 g5
  -- @d
  refine (HV.out _ g6).mono ?_
  rintro e w7 ⟨rfl, hb7⟩
  replace d0 := Gr.at hb7 d0; replace d1 := Gr.at hb7 d1; replace v0 := Gr.at hb7 v0; replace v1 := Gr.at hb7 v1
  have g7 := g6.trans hb7
  have g67 := hb7
  clear HV g6 hb7
  go_wp2_with fail
  -- @e
  -- @g
  refine (HRM.out _ g7).mono ?_
  rintro e w9 ⟨b, rfl, hB, b1, b2, b3, b4, hb9⟩
  replace d0 := Gr.at hb9 d0; replace d1 := Gr.at hb9 d1; replace v0 := Gr.at hb9 v0; replace v1 := Gr.at hb9 v1
  have g9 := g7.trans hb9
  have g69 := g67.trans hb9
  clear HRM g7 hb9 g67
  obtain ⟨W10, hW10⟩ : ∃ W, w9.alloc (Obj.cells #[.slice b.S.A b.S.n b.S.c, .slice b.F.A b.F.n b.F.c] 25) = W := ⟨_, rfl⟩
  have g90 : Gr w9 W10 := hW10 ▸ Gr.alloc (Gr.refl w9) _
  have u0 : W10.cell? ⟨w9.heap.size, 0, none⟩ = some (.slice b.S.A b.S.n b.S.c) := by rw [← hW10]; simp [go_sem]
  have u1 : W10.cell? ⟨w9.heap.size, 1, none⟩ = some (.slice b.F.A b.F.n b.F.c) := by rw [← hW10]; simp [go_sem]
  replace d0 := Gr.at g90 d0; replace d1 := Gr.at g90 d1; replace v0 := Gr.at g90 v0; replace v1 := Gr.at g90 v1
  have g10 := g9.trans g90
  obtain ⟨hA, a1, a2, a3, a4⟩ := HAA.out
  have HSM := Lib.hid (fun W (hW : Gr W10 W) => rs_same_eq a b W (hA.gr (g69.trans (g90.trans hW))) (hB.gr (g90.trans hW)) (b1.trans a1.symm) (fun i _ => by rw [a2, b2]) (b3.trans a3.symm) (fun i _ => by rw [a4, b4]))
  unfold Ms.Mesh.val at HSM
  clear hA a1 a2 a3 a4 hB b1 b2 b3 b4 HAA g69
  go_wp2_with fail
  try rw [hW10]
  clear hW10 g90 g9
  -- @h
  refine (HRO.out _ g10).mono ?_
  rintro e w11 ⟨rfl, hb11⟩
  replace d0 := Gr.at hb11 d0; replace d1 := Gr.at hb11 d1; replace v0 := Gr.at hb11 v0; replace v1 := Gr.at hb11 v1; replace u0 := Gr.at hb11 u0; replace u1 := Gr.at hb11 u1
  clear HRO
  go_wp2_with fail
  -- @i
  refine (HSM.out _ hb11).mono ?_
  rintro e w12 ⟨rfl, hb12⟩
  clear HSM
  go_wp2_with fail
  -- @j
  go_ret
  exact ⟨by first | rfl | (simp; done), g10.trans (hb11.trans hb12)⟩
set_option maxRecDepth 100000 in
set_option maxHeartbeats 8000000 in
theorem sz_in (m : Ms.Mesh) (i : Nat) (hi : i < m.F.n) (x y z : Int) (w : World) (h : m.At w) (hf : m.S.n ≤ 60 ∧ m.F.n ≤ 60) (hv : Ms.vlB m = true) (hx : Ba.i64 x ∧ Ba.i64 y ∧ Ba.i64 z) : Calls Tryd.prog 7 #[m.val, .int .i64 (i : Int), .int .i64 x, .int .i64 y, .int .i64 z] w fun e w' => e = .returned (.bool true) ∧ Gr w w' := by
  have HA := Lib.hid (fun W => aw_any W)
  have HF := Lib.hid (fun W => few_any m W)
  rw [decide_eq_true hf.1, decide_eq_true hf.2, Bool.and_self] at HF
  have HT := Lib.hid (fun W (hW : Gr w W) => ms_Twice m i W ⟨h.s.gr hW, h.f.gr hW⟩ ⟨by omega, by omega⟩ hv hi)
  have HRT := Lib.hid (fun W (hW : Gr w W) => rs_Twice m i W ⟨h.s.gr hW, h.f.gr hW⟩ hv hi)
  generalize Ms.tTn (Ms.tri m (m.F.D i)) = TV at *
  have ib0 : (0 : Int) ≤ (i : Int) := by omega
  have ib1 : (i : Int) < (m.F.n : Int) := by omega
  have ib2 : ¬ (i : Int) < 0 := by omega
  have ib3 : ¬ (m.F.n : Int) ≤ (i : Int) := by omega
  have HO := Lib.hid (fun W (hW : Gr w W) => ms_total m W ⟨h.s.gr hW, h.f.gr hW⟩ ⟨by omega, by omega⟩ hv)
  have HM := Lib.hid (fun W (hW : Gr w W) => ms_move m x y z W ⟨h.s.gr hW, h.f.gr hW⟩ ⟨by omega, by omega⟩ hv hx)
  have HV := Lib.hid (fun W (hW : Gr w W) => rs_valid m W ⟨h.s.gr hW, h.f.gr hW⟩ (Or.inr hf))
  have HRM := Lib.hid (fun W (hW : Gr w W) => rs_move m x y z W ⟨h.s.gr hW, h.f.gr hW⟩ ⟨by omega, by omega⟩ hv)
  have HRO := Lib.hid (fun W (hW : Gr w W) => rs_total m W ⟨h.s.gr hW, h.f.gr hW⟩ (by omega) hv)
  rw [hv] at HV
  unfold RetMw at HM HRM
  have hnn := hf.2
  clear h hf hv hx
  generalize Ms.totI m m.F.n = TO at *
  generalize Ms.mvK m x y z = KK at *
  generalize Ms.mvN m x y z m.S.n = N1 at *
  generalize Ms.mvN m x y z m.F.n = N2 at *
  generalize (fun i => Ms.mvS x y z (m.S.D i)) = DD at *
  generalize m.F.D = FD at *
  unfold Ms.Mesh.val at *
  generalize m.S.A = sA at *; generalize m.S.n = sn at *; generalize m.S.c = sc at *; generalize m.F.A = fA at *; generalize m.F.n = fn at *; generalize m.F.c = fc at *
  go_enter Tryd.func7, Tryd.ntmps7
  go_wp2_with fail
  refine (HA.out _).mono ?_
  rintro e w1 ⟨rfl, hb1⟩
  clear HA
  have g1 : Gr w w1 := Gr.trans (by exact gr_auto) hb1
  have d0 := Gr.at hb1 (b := w.heap.size) (o := 0) (v := .slice sA sn sc) (by simp [go_sem])
  have d1 := Gr.at hb1 (b := w.heap.size) (o := 1) (v := .slice fA fn fc) (by simp [go_sem])
  clear hb1
  go_wp2_with fail
  refine (HF.out _).mono ?_
  rintro e w2 ⟨rfl, hb2⟩
  clear HF
  replace d0 := Gr.at hb2 d0; replace d1 := Gr.at hb2 d1
  have g2 := g1.trans hb2
  clear g1 hb2
  go_wp2_with fail
  -- @a
  refine (HT.out _ g2).mono ?_
  rintro e w3 ⟨rfl, hb3⟩
  replace d0 := Gr.at hb3 d0; replace d1 := Gr.at hb3 d1
  have g3 := g2.trans hb3
  clear HT g2 hb3
  go_wp2_with fail
  -- @b
  refine (HO.out _ g3).mono ?_
  rintro e w4 ⟨rfl, hb4⟩
  replace d0 := Gr.at hb4 d0; replace d1 := Gr.at hb4 d1
  have g4 := g3.trans hb4
  clear HO g3 hb4
  go_wp2_with fail
  -- @c
  refine (HM.out _ g4).mono ?_
  rintro e w5 ⟨a, rfl, hA, a1, a2, a3, a4, hb5⟩
  replace d0 := Gr.at hb5 d0; replace d1 := Gr.at hb5 d1
  have g5 := g4.trans hb5
  clear HM g4 hb5
  obtain ⟨W6, hW6⟩ : ∃ W, w5.alloc (Obj.cells #[.slice a.S.A a.S.n a.S.c, .slice a.F.A a.F.n a.F.c] 25) = W := ⟨_, rfl⟩
  have g56 : Gr w5 W6 := hW6 ▸ Gr.alloc (Gr.refl w5) _
  have v0 : W6.cell? ⟨w5.heap.size, 0, none⟩ = some (.slice a.S.A a.S.n a.S.c) := by rw [← hW6]; simp [go_sem]
  have v1 : W6.cell? ⟨w5.heap.size, 1, none⟩ = some (.slice a.F.A a.F.n a.F.c) := by rw [← hW6]; simp [go_sem]
  replace d0 := Gr.at g56 d0; replace d1 := Gr.at g56 d1
  have g6 := g5.trans g56
  have HAA := Lib.hid (And.intro (hA.gr g56) (And.intro a1 (And.intro a2 (And.intro a3 a4))))
  clear hA a1 a2 a3 a4
  go_wp2_with fail
  try rw [hW6]
  clear hW6 g56 g5
  -- @d
  refine (HV.out _ g6).mono ?_
  rintro e w7 ⟨rfl, hb7⟩
  replace d0 := Gr.at hb7 d0; replace d1 := Gr.at hb7 d1; replace v0 := Gr.at hb7 v0; replace v1 := Gr.at hb7 v1
  have g7 := g6.trans hb7
  have g67 := hb7
  clear HV g6 hb7
  go_wp2_with fail
  -- @e
  refine (HRT.out _ g7).mono ?_
  rintro e w8 ⟨rfl, hb8⟩
  replace d0 := Gr.at hb8 d0; replace d1 := Gr.at hb8 d1; replace v0 := Gr.at hb8 v0; replace v1 := Gr.at hb8 v1
  have g8 := g7.trans hb8
  have g68 := g67.trans hb8
  clear HRT g7 hb8 g67
  go_wp2_with fail
  -- @f
  -- @g
  refine (HRM.out _ g8).mono ?_
  rintro e w9 ⟨b, rfl, hB, b1, b2, b3, b4, hb9⟩
  replace d0 := Gr.at hb9 d0; replace d1 := Gr.at hb9 d1; replace v0 := Gr.at hb9 v0; replace v1 := Gr.at hb9 v1
  have g9 := g8.trans hb9
  have g69 := g68.trans hb9
  clear HRM g8 hb9 g68
  obtain ⟨W10, hW10⟩ : ∃ W, w9.alloc (Obj.cells #[.slice b.S.A b.S.n b.S.c, .slice b.F.A b.F.n b.F.c] 25) = W := ⟨_, rfl⟩
  have g90 : Gr w9 W10 := hW10 ▸ Gr.alloc (Gr.refl w9) _
  have u0 : W10.cell? ⟨w9.heap.size, 0, none⟩ = some (.slice b.S.A b.S.n b.S.c) := by rw [← hW10]; simp [go_sem]
  have u1 : W10.cell? ⟨w9.heap.size, 1, none⟩ = some (.slice b.F.A b.F.n b.F.c) := by rw [← hW10]; simp [go_sem]
  replace d0 := Gr.at g90 d0; replace d1 := Gr.at g90 d1; replace v0 := Gr.at g90 v0; replace v1 := Gr.at g90 v1
  have g10 := g9.trans g90
  obtain ⟨hA, a1, a2, a3, a4⟩ := HAA.out
  have HSM := Lib.hid (fun W (hW : Gr W10 W) => rs_same_eq a b W (hA.gr (g69.trans (g90.trans hW))) (hB.gr (g90.trans hW)) (b1.trans a1.symm) (fun i _ => by rw [a2, b2]) (b3.trans a3.symm) (fun i _ => by rw [a4, b4]))
  unfold Ms.Mesh.val at HSM
  clear hA a1 a2 a3 a4 hB b1 b2 b3 b4 HAA g69
  go_wp2_with fail
  try rw [hW10]
  clear hW10 g90 g9
  -- @h
  refine (HRO.out _ g10).mono ?_
  rintro e w11 ⟨rfl, hb11⟩
  replace d0 := Gr.at hb11 d0; replace d1 := Gr.at hb11 d1; replace v0 := Gr.at hb11 v0; replace v1 := Gr.at hb11 v1; replace u0 := Gr.at hb11 u0; replace u1 := Gr.at hb11 u1
  clear HRO
  go_wp2_with fail
  -- @i
  refine (HSM.out _ hb11).mono ?_
  rintro e w12 ⟨rfl, hb12⟩
  clear HSM
  go_wp2_with fail
  -- @j
  go_ret
  exact ⟨by first | rfl | (simp; done), g10.trans (hb11.trans hb12)⟩
/-- MeshSizes returns true. -/
theorem sizes_law (s : Ba.SlSpot) (f : Ba.SlFace) (q x y z : Int) (w : World) (h1 : s.At w) (h2 : f.At w) (_ : -9223372036854775808 ≤ q ∧ q ≤ 9223372036854775807) (hx : -9223372036854775808 ≤ x ∧ x ≤ 9223372036854775807) (hy : -9223372036854775808 ≤ y ∧ y ≤ 9223372036854775807) (hz : -9223372036854775808 ≤ z ∧ z ≤ 9223372036854775807) : Calls Tryd.prog 7 #[(Ms.Mesh.mk s f).val, .int .i64 q, .int .i64 x, .int .i64 y, .int .i64 z] w fun e w' => e = .returned (.bool true) ∧ Gr w w' := by
  have hb : Ba.i64 x ∧ Ba.i64 y ∧ Ba.i64 z := by unfold Ba.i64; omega
  by_cases hf : s.n ≤ 60 ∧ f.n ≤ 60
  · cases hv : Ms.vlB ⟨s, f⟩
    · exact sz_no _ q x y z w ⟨h1, h2⟩ hf hv
    · by_cases q0 : q < 0
      · exact sz_low _ q (by rw [decide_eq_false (by omega)]; rfl) q0 x y z w ⟨h1, h2⟩ hf hv hb
      · by_cases q1 : (f.n : Int) ≤ q
        · exact sz_high _ q (by rw [Bool.and_eq_false_iff]; exact Or.inr (decide_eq_false (by show ¬ q < (f.n : Int); omega))) q0 q1 x y z w ⟨h1, h2⟩ hf hv hb
        · obtain ⟨i, rfl⟩ : ∃ i : Nat, (i : Int) = q := ⟨q.toNat, by omega⟩
          exact sz_in _ i (by show i < f.n; omega) x y z w ⟨h1, h2⟩ hf hv hb
  · exact sz_out _ q x y z w hf
end Go.Proofs.YtajhhplgcegodaaDoor
