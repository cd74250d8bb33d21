/-
  Surfaces: the reference's far and Move. (Printed by mkrm.py.)
-/
import Derived.Test.YtajhhplgcegodaaDoorMsMv
set_option linter.unusedVariables false
set_option linter.unusedSimpArgs false
namespace Go.Proofs.YtajhhplgcegodaaDoor
open Go.RowKit
theorem rs_far (n : Int) (w : World) : Calls Tryd.prog 80 #[.int .i64 n] w fun e w' => e = .returned (.bool (Ms.farB n)) ∧ Gr w w' := by
  unfold Ms.farB
  go_enter Tryd.func80, Tryd.ntmps80
  cases h1 : decide (n < -67108864)
  · have h2 := of_decide_eq_false h1
    go_wp2_with fail
    go_ret
    exact ⟨rfl, by exact gr_auto⟩
  · have h2 := of_decide_eq_true h1
    go_wp2_with fail
    go_ret
    exact ⟨rfl, by exact gr_auto⟩
set_option maxRecDepth 100000 in
set_option maxHeartbeats 8000000 in
theorem rs_move_far1 (m : Ms.Mesh) (x y z : Int) (w : World) (h1 : Ms.farB x = true) : Calls Tryd.prog 38 #[m.val, .int .i64 x, .int .i64 y, .int .i64 z] w fun e w' => e = .returned (.tuple #[(.agg #[.slice none 0 0, .slice none 0 0]), .int .i64 5]) ∧ Gr w w' := by
  have HX1 := Lib.hid (fun W => rs_far x W)
  rw [h1] at HX1
  clear h1
  unfold Ms.Mesh.val at *
  generalize m.S.A = sA at *; generalize m.S.n = sn at *; generalize m.S.c = sc at *; generalize m.F.A = fA at *; generalize m.F.n = fn at *; generalize m.F.c = fc at *
  go_enter Tryd.func38, Tryd.ntmps38
  go_wp2_with fail
  -- @a
  refine (HX1.out _).mono ?_
  rintro e w1 ⟨rfl, hb1⟩
  clear HX1
  have g1 : Gr w w1 := Gr.trans (by exact gr_auto) hb1
  have d0 := Gr.at hb1 (b := w.heap.size) (o := 0) (v := .slice sA sn sc) (by simp [go_sem])
  have d1 := Gr.at hb1 (b := w.heap.size) (o := 1) (v := .slice fA fn fc) (by simp [go_sem])
  have r0 : Own w1 (w.heap.size + 1) 0 (.slice none 0 0) := Own.gr ⟨by simp [go_sem], by simp [go_sem]⟩ hb1
  have r1 : Own w1 (w.heap.size + 1) 1 (.slice none 0 0) := Own.gr ⟨by simp [go_sem], by simp [go_sem]⟩ hb1
  have z1 : w.heap.size + 2 ≤ w1.heap.size := by have := Gr.size hb1; simp at this; omega
  clear hb1
  have x0 := r0.1; have x1 := r0.2; have x2 := r1.1; have x3 := r1.2
  go_wp2_with fail
  have f0 := (Own.other (b' := w.heap.size + 1) (o' := 1) (u := .slice none 0 0) (Own.set (u := .slice none 0 0) r0) (Or.inr (by omega))).1
  have f1 := (Own.set (u := .slice none 0 0) (Own.other (b' := w.heap.size + 1) (o' := 0) (u := .slice none 0 0) r1 (Or.inr (by omega)))).1
  have gg := Gr.setCell (Gr.setCell g1 (p := ⟨w.heap.size + 1, 0, none⟩) (by simp) (.slice none 0 0)) (p := ⟨w.heap.size + 1, 1, none⟩) (by simp) (.slice none 0 0)
  refine bodyPost_ret (by simp [results, Tryd.results38, go_sem, f0, f1]; try rfl) rfl ?_
  exact ⟨rfl, gg⟩
set_option maxRecDepth 100000 in
set_option maxHeartbeats 8000000 in
theorem rs_move_far2 (m : Ms.Mesh) (x y z : Int) (w : World) (h1 : Ms.farB x = false) (h2 : Ms.farB y = true) : Calls Tryd.prog 38 #[m.val, .int .i64 x, .int .i64 y, .int .i64 z] w fun e w' => e = .returned (.tuple #[(.agg #[.slice none 0 0, .slice none 0 0]), .int .i64 5]) ∧ Gr w w' := by
  have HX1 := Lib.hid (fun W => rs_far x W)
  rw [h1] at HX1
  clear h1
  have HX2 := Lib.hid (fun W => rs_far y W)
  rw [h2] at HX2
  clear h2
  unfold Ms.Mesh.val at *
  generalize m.S.A = sA at *; generalize m.S.n = sn at *; generalize m.S.c = sc at *; generalize m.F.A = fA at *; generalize m.F.n = fn at *; generalize m.F.c = fc at *
  go_enter Tryd.func38, Tryd.ntmps38
  go_wp2_with fail
  -- @a
  refine (HX1.out _).mono ?_
  rintro e w1 ⟨rfl, hb1⟩
  clear HX1
  have g1 : Gr w w1 := Gr.trans (by exact gr_auto) hb1
  have d0 := Gr.at hb1 (b := w.heap.size) (o := 0) (v := .slice sA sn sc) (by simp [go_sem])
  have d1 := Gr.at hb1 (b := w.heap.size) (o := 1) (v := .slice fA fn fc) (by simp [go_sem])
  have r0 : Own w1 (w.heap.size + 1) 0 (.slice none 0 0) := Own.gr ⟨by simp [go_sem], by simp [go_sem]⟩ hb1
  have r1 : Own w1 (w.heap.size + 1) 1 (.slice none 0 0) := Own.gr ⟨by simp [go_sem], by simp [go_sem]⟩ hb1
  have z1 : w.heap.size + 2 ≤ w1.heap.size := by have := Gr.size hb1; simp at this; omega
  clear hb1
  go_wp2_with fail
  refine (HX2.out _).mono ?_
  rintro e w2 ⟨rfl, hb2⟩
  clear HX2
  have g2 := g1.trans hb2
  replace d0 := Gr.at hb2 d0; replace d1 := Gr.at hb2 d1
  replace r0 := r0.gr hb2; replace r1 := r1.gr hb2
  have z2 := Nat.le_trans z1 (Gr.size hb2)
  clear hb2 g1 z1
  have x0 := r0.1; have x1 := r0.2; have x2 := r1.1; have x3 := r1.2
  go_wp2_with fail
  have f0 := (Own.other (b' := w.heap.size + 1) (o' := 1) (u := .slice none 0 0) (Own.set (u := .slice none 0 0) r0) (Or.inr (by omega))).1
  have f1 := (Own.set (u := .slice none 0 0) (Own.other (b' := w.heap.size + 1) (o' := 0) (u := .slice none 0 0) r1 (Or.inr (by omega)))).1
  have gg := Gr.setCell (Gr.setCell g2 (p := ⟨w.heap.size + 1, 0, none⟩) (by simp) (.slice none 0 0)) (p := ⟨w.heap.size + 1, 1, none⟩) (by simp) (.slice none 0 0)
  refine bodyPost_ret (by simp [results, Tryd.results38, go_sem, f0, f1]; try rfl) rfl ?_
  exact ⟨rfl, gg⟩
set_option maxRecDepth 100000 in
set_option maxHeartbeats 8000000 in
theorem rs_move_far3 (m : Ms.Mesh) (x y z : Int) (w : World) (h1 : Ms.farB x = false) (h2 : Ms.farB y = false) (h3 : Ms.farB z = true) : Calls Tryd.prog 38 #[m.val, .int .i64 x, .int .i64 y, .int .i64 z] w fun e w' => e = .returned (.tuple #[(.agg #[.slice none 0 0, .slice none 0 0]), .int .i64 5]) ∧ Gr w w' := by
  have HX1 := Lib.hid (fun W => rs_far x W)
  rw [h1] at HX1
  clear h1
  have HX2 := Lib.hid (fun W => rs_far y W)
  rw [h2] at HX2
  clear h2
  have HX3 := Lib.hid (fun W => rs_far z W)
  rw [h3] at HX3
  clear h3
  unfold Ms.Mesh.val at *
  generalize m.S.A = sA at *; generalize m.S.n = sn at *; generalize m.S.c = sc at *; generalize m.F.A = fA at *; generalize m.F.n = fn at *; generalize m.F.c = fc at *
  go_enter Tryd.func38, Tryd.ntmps38
  go_wp2_with fail
  -- @a
  refine (HX1.out _).mono ?_
  rintro e w1 ⟨rfl, hb1⟩
  clear HX1
  have g1 : Gr w w1 := Gr.trans (by exact gr_auto) hb1
  have d0 := Gr.at hb1 (b := w.heap.size) (o := 0) (v := .slice sA sn sc) (by simp [go_sem])
  have d1 := Gr.at hb1 (b := w.heap.size) (o := 1) (v := .slice fA fn fc) (by simp [go_sem])
  have r0 : Own w1 (w.heap.size + 1) 0 (.slice none 0 0) := Own.gr ⟨by simp [go_sem], by simp [go_sem]⟩ hb1
  have r1 : Own w1 (w.heap.size + 1) 1 (.slice none 0 0) := Own.gr ⟨by simp [go_sem], by simp [go_sem]⟩ hb1
  have z1 : w.heap.size + 2 ≤ w1.heap.size := by have := Gr.size hb1; simp at this; omega
  clear hb1
  go_wp2_with fail
  refine (HX2.out _).mono ?_
  rintro e w2 ⟨rfl, hb2⟩
  clear HX2
  have g2 := g1.trans hb2
  replace d0 := Gr.at hb2 d0; replace d1 := Gr.at hb2 d1
  replace r0 := r0.gr hb2; replace r1 := r1.gr hb2
  have z2 := Nat.le_trans z1 (Gr.size hb2)
  clear hb2 g1 z1
  go_wp2_with fail
  refine (HX3.out _).mono ?_
  rintro e w3 ⟨rfl, hb3⟩
  clear HX3
  have g3 := g2.trans hb3
  replace d0 := Gr.at hb3 d0; replace d1 := Gr.at hb3 d1
  replace r0 := r0.gr hb3; replace r1 := r1.gr hb3
  have z3 := Nat.le_trans z2 (Gr.size hb3)
  clear hb3 g2 z2
  have x0 := r0.1; have x1 := r0.2; have x2 := r1.1; have x3 := r1.2
  go_wp2_with fail
  have f0 := (Own.other (b' := w.heap.size + 1) (o' := 1) (u := .slice none 0 0) (Own.set (u := .slice none 0 0) r0) (Or.inr (by omega))).1
  have f1 := (Own.set (u := .slice none 0 0) (Own.other (b' := w.heap.size + 1) (o' := 0) (u := .slice none 0 0) r1 (Or.inr (by omega)))).1
  have gg := Gr.setCell (Gr.setCell g3 (p := ⟨w.heap.size + 1, 0, none⟩) (by simp) (.slice none 0 0)) (p := ⟨w.heap.size + 1, 1, none⟩) (by simp) (.slice none 0 0)
  refine bodyPost_ret (by simp [results, Tryd.results38, go_sem, f0, f1]; try rfl) rfl ?_
  exact ⟨rfl, gg⟩
theorem rs_move_far (m : Ms.Mesh) (x y z : Int) (w : World) (hf : Ms.far3 x y z = true) : Calls Tryd.prog 38 #[m.val, .int .i64 x, .int .i64 y, .int .i64 z] w fun e w' => e = .returned (.tuple #[(.agg #[.slice none 0 0, .slice none 0 0]), .int .i64 5]) ∧ Gr w w' := by
  cases h1 : Ms.farB x
  · cases h2 : Ms.farB y
    · cases h3 : Ms.farB z
      · unfold Ms.far3 at hf; rw [h1, h2, h3] at hf; cases hf
      · exact rs_move_far3 m x y z w h1 h2 h3
    · exact rs_move_far2 m x y z w h1 h2
  · exact rs_move_far1 m x y z w h1
set_option maxRecDepth 100000 in
set_option maxHeartbeats 8000000 in
theorem rs_move_near (m : Ms.Mesh) (x y z : Int) (w : World) (h : m.At w) (hs : m.S.n ≤ 61 ∧ m.F.n ≤ 61) (hv : Ms.vlB m = true) (hf : Ms.far3 x y z = false) : Calls Tryd.prog 38 #[m.val, .int .i64 x, .int .i64 y, .int .i64 z] w (RetMv m x y z w) := by
  have HCP := Lib.hid (fun W (hW : Gr w W) => rs_copy m W ⟨h.s.gr hW, h.f.gr hW⟩ ⟨by omega, by omega⟩)
  have HSB := Lib.hid (fun i (hi : i < m.S.n) => Ms.spB_bd (Ms.vl_sp hv hi))
  have HRT := Lib.hid (fun s W => rs_spot s W)
  have HOK := Lib.hid (fun i (hi : i < m.F.n) => (h.f.hD i hi).2)
  unfold Ms.far3 at hf
  simp only [Bool.or_eq_false_iff] at hf
  have HX1 := Lib.hid (fun W => rs_far x W); have HX2 := Lib.hid (fun W => rs_far y W); have HX3 := Lib.hid (fun W => rs_far z W)
  rw [hf.1] at HX1; rw [hf.2.1] at HX2; rw [hf.2.2] at HX3
  have hxb := Ms.far_bd hf.1; have hyb := Ms.far_bd hf.2.1; have hzb := Ms.far_bd hf.2.2
  have hs1 := hs.1
  have HMB := Lib.hid (show Ms.mvBad m x y z = Ba.any (fun i => !Ms.spB (Ms.mvS x y z (m.S.D i))) m.S.n from rfl)
  clear h hs hv hf
  unfold RetCp at HCP
  unfold RetMv
  obtain ⟨B, hB⟩ : ∃ B, (fun i => !Ms.spB (Ms.mvS x y z (m.S.D i))) = B := ⟨_, rfl⟩
  have HBD := Lib.hid (fun i => show B i = !Ms.spB (Ms.mvS x y z (m.S.D i)) from congrFun hB.symm i)
  rw [hB] at HMB
  generalize Ms.mvBad m x y z = MB at *
  clear hB
  unfold Ms.Mesh.val at *
  obtain ⟨sA, hsA⟩ : ∃ A, m.S.A = A := ⟨_, rfl⟩; obtain ⟨sc, hsc⟩ : ∃ n, m.S.c = n := ⟨_, rfl⟩; obtain ⟨fA, hfA⟩ : ∃ A, m.F.A = A := ⟨_, rfl⟩; obtain ⟨fc, hfc⟩ : ∃ n, m.F.c = n := ⟨_, rfl⟩
  obtain ⟨sn, hsn⟩ : ∃ n, m.S.n = n := ⟨_, rfl⟩; obtain ⟨fn, hfn⟩ : ∃ n, m.F.n = n := ⟨_, rfl⟩
  have HNN := Lib.hid (And.intro hsn hfn)
  rw [hsA, hsc, hfA, hfc, hsn, hfn] at HCP ⊢
  rw [hsn] at HSB hs1 HMB
  rw [hfn] at HOK
  clear hsA hsc hfA hfc hsn hfn
  go_enter Tryd.func38, Tryd.ntmps38
  go_wp2_with fail
  -- @a
  refine (HX1.out _).mono ?_
  rintro e w1 ⟨rfl, hb1⟩
  clear HX1
  have g1 : Gr w w1 := Gr.trans (by exact gr_auto) hb1
  have d0 := Gr.at hb1 (b := w.heap.size) (o := 0) (v := .slice sA sn sc) (by simp [go_sem])
  have d1 := Gr.at hb1 (b := w.heap.size) (o := 1) (v := .slice fA fn fc) (by simp [go_sem])
  have r0 : Own w1 (w.heap.size + 1) 0 (.slice none 0 0) := Own.gr ⟨by simp [go_sem], by simp [go_sem]⟩ hb1
  have r1 : Own w1 (w.heap.size + 1) 1 (.slice none 0 0) := Own.gr ⟨by simp [go_sem], by simp [go_sem]⟩ hb1
  have z1 : w.heap.size + 2 ≤ w1.heap.size := by have := Gr.size hb1; simp at this; omega
  clear hb1
  go_wp2_with fail
  refine (HX2.out _).mono ?_
  rintro e w2 ⟨rfl, hb2⟩
  clear HX2
  have g2 := g1.trans hb2
  replace d0 := Gr.at hb2 d0; replace d1 := Gr.at hb2 d1
  replace r0 := r0.gr hb2; replace r1 := r1.gr hb2
  have z2 := Nat.le_trans z1 (Gr.size hb2)
  clear hb2 g1 z1
  go_wp2_with fail
  refine (HX3.out _).mono ?_
  rintro e w4 ⟨rfl, hb4⟩
  clear HX3
  have g4 := g2.trans hb4
  replace d0 := Gr.at hb4 d0; replace d1 := Gr.at hb4 d1
  replace r0 := r0.gr hb4; replace r1 := r1.gr hb4
  have z4 := Nat.le_trans z2 (Gr.size hb4)
  clear hb4 g2 z2
  go_wp2_with fail
  -- @d
  refine (HCP.out _ g4).mono ?_
  rintro e w3 ⟨v, rfl, y0, y1, rfl, hb3, l0, l1⟩
  clear HCP
  obtain ⟨A0, c0, g, A1, c1, rfl, u1, u2, hA0, hBg, hgn, hrow, rfl, v1, v2, hap, hfr⟩ := cp_open (m := m) (w := w4) (W := w3) (by rw [HNN.out.1]; exact l0) (by rw [HNN.out.2]; exact l1) hb3
  clear l0 l1
  rw [HNN.out.1] at u1 hA0 hrow ⊢
  rw [HNN.out.2] at v1 hap hfr ⊢
  have HA0 := Lib.hid hA0; have HAP := Lib.hid hap; have HFR := Lib.hid hfr
  rw [Ms.spX_zero m.S.D x y z] at hrow
  replace r0 := r0.gr hb3; replace r1 := r1.gr hb3
  have g3 := g4.trans hb3
  have zg := Gr.size g4
  have z3 := Nat.le_trans z4 (Gr.size hb3)
  obtain ⟨W5, hW5⟩ : ∃ W, w3.alloc (Obj.cells #[.slice A0 sn c0, .slice A1 fn c1] 25) = W := ⟨_, rfl⟩
  have g35 : Gr w3 W5 := hW5 ▸ Gr.alloc (Gr.refl w3) _
  have b0 : W5.cell? ⟨w3.heap.size, 0, none⟩ = some (.slice A0 sn c0) := by rw [← hW5]; simp [go_sem]
  have b1 : W5.cell? ⟨w3.heap.size, 1, none⟩ = some (.slice A1 fn c1) := by rw [← hW5]; simp [go_sem]
  have z5 : w3.heap.size < W5.heap.size := by rw [← hW5]; simp
  have HROW := Lib.hid (hrow.gr g35)
  replace r0 := r0.gr g35; replace r1 := r1.gr g35
  have g5 := g3.trans g35
  have HF5 := Lib.hid (fun h => ownsRow_gr (HFR.out h) g35)
  obtain ⟨B10, hB10⟩ : ∃ B, w3.heap.size = B := ⟨_, rfl⟩
  rw [hB10] at b0 b1 hgn z5
  clear d0 d1 hA0 hap hfr hrow hb3 g35 HFR g3
  -- @e
  go_wp2_with fail
  clear hW5
  -- @f
  go_loopw [11] (fun s11 wr => ∃ i : Nat, i ≤ sn ∧ s11 = .int .i64 (i : Int) ∧ Hid (Ba.any B i = false) ∧ Hid (Row wr g (3 * sn) (Ms.spX m.S.D x y z (i * 3))) ∧ GrX g W5 wr) (fun s11 _ => sn - (intOf s11).toNat)
  case atStart => exact ⟨0, by omega, rfl, Lib.hid rfl, HROW, GrX.refl _ _⟩
  case round =>
    clear HROW
    obtain ⟨i, hi, rfl, HQ, HR, hg⟩ := hrel
    rename World => W6
    have gw6 : Gr w W6 := GrX.gr g5 (by omega) hg
    replace b0 := GrX.at hg (by omega) b0; replace b1 := GrX.at hg (by omega) b1
    replace r0 := r0.grx hg (by omega); replace r1 := r1.grx hg (by omega)
    by_cases hlt : i < sn
    · obtain rfl := HA0.out (by omega)
      have ib0 : (0 : Int) ≤ (i : Int) := by omega
      have ib1 : (i : Int) < (sn : Int) := by omega
      have sb := HSB.out i hlt
      obtain ⟨e0, e1, e2⟩ := Ms.spX_at m.S.D x y z (i := i) (t0 := i * 3) (Nat.le_refl _)
      have o0 := HR.out (i * 3) (by omega); have o1 := HR.out (i * 3 + 1) (by omega); have o2 := HR.out (i * 3 + 2) (by omega)
      rw [e0] at o0; rw [e1] at o1; rw [e2] at o2
      have HNEW := Lib.hid (Ms.spX_new m.S.D x y z (i := i) (t0 := (i + 1) * 3) (by omega)); have HOLD := Lib.hid (fun t h => Ms.spX_old m.S.D x y z (i := i) (t := t) h)
      have hBD := HBD.out i
      obtain ⟨s, hs⟩ : ∃ s, m.S.D i = s := ⟨_, rfl⟩
      simp only [hs] at sb o0 o1 o2
      rw [hs] at hBD HNEW
      have HRi := Lib.hid (HRT.out (Ms.mvS x y z s))
      obtain ⟨q, hq⟩ : ∃ q, Ms.spB (Ms.mvS x y z s) = q := ⟨_, rfl⟩
      rw [hq] at HRi hBD
      unfold Ms.mvS Ba.Spot.val at HRi
      have HBI := Lib.hid hBD
      clear hs hq e0 e1 e2 hBD HSB HRT HBD
      have q0 := o0.1; have q1 := o1.1; have q2 := o2.1; have p0 := o0.2; have p1 := o1.2; have p2 := o2.2
      have a1a : -9223372036854775808 ≤ s.x + x := by omega
      have a1b : s.x + x ≤ 9223372036854775807 := by omega
      have a2a : -9223372036854775808 ≤ s.y + y := by omega
      have a2b : s.y + y ≤ 9223372036854775807 := by omega
      have a3a : -9223372036854775808 ≤ s.z + z := by omega
      have a3b : s.z + z ≤ 9223372036854775807 := by omega
      have zg6 := World.block_lt_of_cell? _ _ q0
      have zb6 := World.block_lt_of_cell? _ _ b0
      have zr6 := World.block_lt_of_cell? _ _ r0.1
      simp only at zg6 zb6 zr6
      clear sb
      -- @g
      go_upto_region 9 with fail
      -- @h
      obtain ⟨W7, hW7⟩ : ∃ W, W6.alloc (Obj.cells #[.int .i64 (s.x + x), .int .i64 (s.y + y), .int .i64 (s.z + z)] 74) = W := ⟨_, rfl⟩
      have g67 : Gr W6 W7 := hW7 ▸ Gr.alloc (Gr.refl W6) _
      have t0 : W7.cell? ⟨W6.heap.size, 0, none⟩ = some (.int .i64 (s.x + x)) := by rw [← hW7]; simp [go_sem]
      have t1 : W7.cell? ⟨W6.heap.size, 1, none⟩ = some (.int .i64 (s.y + y)) := by rw [← hW7]; simp [go_sem]
      have t2 : W7.cell? ⟨W6.heap.size, 2, none⟩ = some (.int .i64 (s.z + z)) := by rw [← hW7]; simp [go_sem]
      rw [hW7]
      clear hW7 q0 q1 q2 p0 p1 p2 zg6 zb6 zr6
      obtain ⟨BS, hBS⟩ : ∃ B, W6.heap.size = B := ⟨_, rfl⟩
      rw [hBS] at t0 t1 t2 ⊢
      clear hBS
      -- @i
      go_wp2_with fail
      -- @k
      refine (HRi.out _).mono ?_
      rintro e w8 ⟨rfl, hb8⟩
      have g68 := g67.trans hb8
      replace b0 := Gr.at g68 b0; replace b1 := Gr.at g68 b1
      replace r0 := r0.gr g68; replace r1 := r1.gr g68
      replace o0 := o0.gr g68; replace o1 := o1.gr g68; replace o2 := o2.gr g68
      replace t0 := Gr.at hb8 t0; replace t1 := Gr.at hb8 t1; replace t2 := Gr.at hb8 t2
      have HR8 := Lib.hid (HR.out.gr g68)
      replace gw6 := gw6.trans g68
      replace hg := hg.grown g68
      clear HRi hb8 HR g67 g68
      cases q
      · have hmb := Ms.any_hit (p := B) (by rw [HBI.out]; rfl) hlt
        have x0 := r0.1; have x1 := r0.2; have x2 := r1.1; have x3 := r1.2
        have HMT := Lib.hid (HMB.out.trans hmb)
        clear HBI HQ hmb HR8 HNEW HOLD o0 o1 o2
        go_wp2_with fail
        -- @l
        have f0 := (Own.other (b' := w.heap.size + 1) (o' := 1) (u := .slice none 0 0) (Own.set (u := .slice none 0 0) r0) (Or.inr (by omega))).1
        have f1 := (Own.set (u := .slice none 0 0) (Own.other (b' := w.heap.size + 1) (o' := 0) (u := .slice none 0 0) r1 (Or.inr (by omega)))).1
        have gg := Gr.setCell (Gr.setCell gw6 (p := ⟨w.heap.size + 1, 0, none⟩) (by simp) (.slice none 0 0)) (p := ⟨w.heap.size + 1, 1, none⟩) (by simp) (.slice none 0 0)
        refine bodyPost_ret (by simp [results, Tryd.results38, go_sem, f0, f1]; try rfl) rfl ?_
        exact Or.inl ⟨HMT.out, rfl, gg⟩
      · have HQ2 := Lib.hid (Ms.any_go HQ.out (by rw [HBI.out]; rfl))
        clear HBI HQ
        have q0 := o0.1; have q1 := o1.1; have q2 := o2.1; have p0 := o0.2; have p1 := o1.2; have p2 := o2.2
        obtain ⟨W9, hW9⟩ : ∃ W, ((w8.setCell ⟨g, i * 3, none⟩ (.int .i64 (s.x + x))).setCell ⟨g, i * 3 + 1, none⟩ (.int .i64 (s.y + y))).setCell ⟨g, i * 3 + 2, none⟩ (.int .i64 (s.z + z)) = W := ⟨_, rfl⟩
        have gx7 : GrX g w8 W9 := hW9 ▸ (GrX.setCell (p := ⟨g, i * 3 + 2, none⟩) (GrX.setCell (p := ⟨g, i * 3 + 1, none⟩) (GrX.setCell (p := ⟨g, i * 3, none⟩) (GrX.refl g w8) rfl _) rfl _) rfl _)
        have n0 : Own W9 g (i * 3) (.int .i64 (s.x + x)) := hW9 ▸ (Own.other (Own.other (Own.set o0) (Or.inr (by omega))) (Or.inr (by omega)))
        have n1 : Own W9 g (i * 3 + 1) (.int .i64 (s.y + y)) := hW9 ▸ (Own.other (Own.set (Own.other o1 (Or.inr (by omega)))) (Or.inr (by omega)))
        have n2 : Own W9 g (i * 3 + 2) (.int .i64 (s.z + z)) := hW9 ▸ (Own.set (Own.other (Own.other o2 (Or.inr (by omega))) (Or.inr (by omega))))
        have HR9 := Lib.hid (show Row W9 g (3 * sn) (Ms.spX m.S.D x y z ((i + 1) * 3)) from fun t ht => by
          by_cases h0 : t = i * 3
          · subst h0; rw [HNEW.out.1]; exact n0
          · by_cases h1 : t = i * 3 + 1
            · subst h1; rw [HNEW.out.2.1]; exact n1
            · by_cases h2 : t = i * 3 + 2
              · subst h2; rw [HNEW.out.2.2]; exact n2
              · rw [HOLD.out t ⟨h0, h1, h2⟩]
                exact hW9 ▸ (Own.other (Own.other (Own.other (HR8.out t ht) (Or.inr h0)) (Or.inr h1)) (Or.inr h2)))
        have hg9 := hg.trans gx7
        clear n0 n1 n2 gx7 HR8 HNEW HOLD o0 o1 o2 hg r0 r1 b1
        -- @m
        go_wp2_with fail
        -- @n
        try rw [hW9]
        go_roundw
        case rel => exact ⟨i + 1, by omega, by go_num, HQ2, HR9, hg9⟩
        case measure => simp [intOf]; omega
    · obtain rfl : sn = i := by omega
      have x0 := r0.1; have x1 := r0.2; have x2 := r1.1; have x3 := r1.2
      have HMT := Lib.hid (HMB.out.trans HQ.out)
      have HF6 := Lib.hid (fun h => ownsRow_grx (HF5.out h) hg (HAP.out h))
      clear HQ HF5 HAP hg
      -- @n2
      go_wp2_with fail
      -- @o
      have gx : GrX (w.heap.size + 1) W6 ((W6.setCell ⟨w.heap.size + 1, 0, none⟩ (.slice A0 sn c0)).setCell ⟨w.heap.size + 1, 1, none⟩ (.slice A1 fn c1)) := GrX.setCell (p := ⟨w.heap.size + 1, 1, none⟩) (GrX.setCell (p := ⟨w.heap.size + 1, 0, none⟩) (GrX.refl (w.heap.size + 1) W6) rfl _) rfl _
      have f0 := (Own.other (b' := w.heap.size + 1) (o' := 1) (u := .slice A1 fn c1) (Own.set (u := .slice A0 sn c0) r0) (Or.inr (by omega))).1
      have f1 := (Own.set (u := .slice A1 fn c1) (Own.other (b' := w.heap.size + 1) (o' := 0) (u := .slice A0 sn c0) r1 (Or.inr (by omega)))).1
      have gg := GrX.gr gw6 (by omega) gx
      have HRf := Lib.hid (fun t ht => (HR.out t ht).grx gx (show g ≠ w.heap.size + 1 by omega))
      have HFf := Lib.hid (fun h => ownsRow_grx (HF6.out h) gx (own_ne (HF6.out h) (by omega)))
      have hc1 := v2
      clear gx HR HF6
      generalize ((W6.setCell ⟨w.heap.size + 1, 0, none⟩ (.slice A0 sn c0)).setCell ⟨w.heap.size + 1, 1, none⟩ (.slice A1 fn c1)) = Wf at *
      refine bodyPost_ret (by simp [results, Tryd.results38, go_sem, f0, f1]; try rfl) rfl ?_
      obtain ⟨fb, hF, -⟩ := face_open (m := m) (w := w4) (W := Wf) (A1 := A1) (c1 := c1) (by rw [HNN.out.2]; exact HFf.out) (by rw [HNN.out.2]; exact v1) v2 (by rw [HNN.out.2]; exact HOK.out)
      rw [HNN.out.2] at hF
      refine Or.inr ⟨HMT.out, ⟨⟨A0, sn, c0, g, 0, fun i => Ms.mvS x y z (m.S.D i)⟩, ⟨A1, fn, c1, fb, 0, m.F.D⟩⟩, rfl, ⟨⟨HA0.out, u1, u2, fun i hi => ?_⟩, hF⟩, rfl, rfl, rfl, rfl, gg⟩
      have hi : i < sn := hi
      obtain ⟨e0, e1, e2⟩ := Ms.spX_new m.S.D x y z (i := i) (t0 := sn * 3) (by omega)
      have c0 := (HRf.out (i * 3) (by omega)).1; have c1 := (HRf.out (i * 3 + 1) (by omega)).1; have c2 := (HRf.out (i * 3 + 2) (by omega)).1
      rw [e0] at c0; rw [e1] at c1; rw [e2] at c2
      have sb := HSB.out i hi
      refine ⟨?_, ?_⟩
      · simp only [Nat.zero_add]; exact ⟨c0, c1, c2⟩
      · unfold Ms.mvS Ba.Spot.Ok Ba.i64
        simp only
        omega
end Go.Proofs.YtajhhplgcegodaaDoor
