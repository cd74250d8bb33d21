/-
  The law MeshArea. (Printed by mkarea.py.)
-/
import Derived.Test.YtajhhplgcegodaaDoorMsS
import Derived.Test.YtajhhplgcegodaaDoorMsSd
import Derived.Test.YtajhhplgcegodaaDoorMsSm
import Derived.Test.YtajhhplgcegodaaDoorMsPt
set_option linter.unusedVariables false
set_option linter.unusedSimpArgs false
namespace Go.Proofs.YtajhhplgcegodaaDoor
open Go.RowKit
/-- Points as cells. -/
def fpt (X Y : Nat → Int) : Nat → List Value
  | 0 => []
  | n + 1 => fpt X Y n ++ [.int .i64 (X n), .int .i64 (Y n)]
theorem fpt_len (X Y : Nat → Int) : ∀ n, (fpt X Y n).length = n * 2
  | 0 => rfl
  | n + 1 => by rw [fpt, List.length_append, fpt_len X Y n]; simp; omega
theorem fpt_get (X Y : Nat → Int) : ∀ {n j : Nat}, j < n → (fpt X Y n)[j * 2]? = some (.int .i64 (X j)) ∧ (fpt X Y n)[j * 2 + 1]? = some (.int .i64 (Y j))
  | 0, _, h => by omega
  | n + 1, j, h => by
    rw [fpt]
    by_cases e : j = n
    · subst e
      have q : ∀ (l : List Value) k, l.length = j * 2 → ∀ r : List Value, (l ++ r)[j * 2 + k]? = r[k]? := fun l k hl r => by
        rw [List.getElem?_append_right (by omega), hl, show j * 2 + k - j * 2 = k by omega]
      exact ⟨q _ 0 (fpt_len X Y j) _, q _ 1 (fpt_len X Y j) _⟩
    · obtain ⟨h0, h1⟩ := fpt_get X Y (n := n) (j := j) (by omega)
      have hl := fpt_len X Y n
      exact ⟨by rw [List.getElem?_append_left (by omega)]; exact h0, by rw [List.getElem?_append_left (by omega)]; exact h1⟩
/-- A slice of points that a call owns. -/
theorem own_pt {w : World} {base E n : Nat} {v : Value} {X Y : Nat → Int} (h : w.ownsRow base E 2 v n (fpt X Y n)) (hb : ∀ i, i < n → Ms.cd (X i) ∧ Ms.cd (Y i)) : ∃ (A : Option Addr) (c b : Nat), v = .slice A n c ∧ (Ba.SlPoint.mk A n c b 0 (fun i => ⟨X i, Y i⟩)).At w := by
  have h' := h
  obtain ⟨hl', ⟨rfl, he⟩ | ⟨g, cap, cur, rfl, hb', hc, hn, hm, r⟩⟩ := h
  · subst he
    exact ⟨none, 0, 0, rfl, ⟨fun h => absurd h (Nat.lt_irrefl 0), Nat.le_refl _, (by show 0 ≤ 9223372036854775807; omega), fun i hi => absurd hi (Nat.not_lt_zero i)⟩⟩
  · refine ⟨_, cap, g, rfl, ⟨fun _ => rfl, hn, by unfold maxLen at hm; exact hm, fun i hi => ?_⟩⟩
    have hin : i < n := hi
    obtain ⟨h0, h1⟩ := fpt_get X Y hin
    have c : ∀ q, q < 2 → w.cell? ⟨g, i * 2 + q, none⟩ = (fpt X Y n)[i * 2 + q]? := fun q hq => h'.cellAt (i * 2 + q) (by omega)
    have ok := hb i hin
    unfold Ms.cd at ok
    refine ⟨⟨?_, ?_⟩, ?_⟩
    · show w.cell? ⟨g, 0 + i * 2, none⟩ = _; rw [Nat.zero_add]; exact (c 0 (by omega)).trans h0
    · show w.cell? ⟨g, 0 + i * 2 + 1, none⟩ = _; rw [Nat.zero_add]; exact (c 1 (by omega)).trans h1
    · unfold Ba.Point.Ok Ba.i64; simp only; omega
theorem info_point : (Tryd.prog.info? 76).map (fun i => (i.zero, i.size, i.bytes)) = some (some (.agg #[.int .i64 0, .int .i64 0]), 2, 16) := by kernel_rfl
set_option maxRecDepth 100000 in
set_option maxHeartbeats 8000000 in
theorem ar_out (m : Ms.Mesh) (x y z : Int) (w : World) (hf : ¬ (m.S.n ≤ 60 ∧ m.F.n ≤ 60)) : Calls Tryd.prog 8 #[m.val, .int .i32 x, .int .i32 y, .int .i32 z] w fun e w' => e = .returned (.bool true) ∧ Gr w w' := by
  have HA := Lib.hid (fun W => aw_any W)
  have HF := Lib.hid (fun W => few_any m W)
  rw [show (decide (m.S.n ≤ 60) && decide (m.F.n ≤ 60)) = false from by rw [← Bool.not_eq_true, Bool.and_eq_true, decide_eq_true_eq, decide_eq_true_eq]; exact hf] at HF
  clear hf
  unfold Ms.Mesh.val at *
  generalize m.S.A = sA at *; generalize m.S.n = sn at *; generalize m.S.c = sc at *; generalize m.F.A = fA at *; generalize m.F.n = fn at *; generalize m.F.c = fc at *
  go_enter Tryd.func8, Tryd.ntmps8
  go_wp2_with fail
  refine (HA.out _).mono ?_
  rintro e w1 ⟨rfl, hb1⟩
  clear HA
  have g1 : Gr w w1 := Gr.trans (by exact gr_auto) hb1
  have d0 := Gr.at hb1 (b := w.heap.size) (o := 0) (v := .slice sA sn sc) (by simp [go_sem])
  have d1 := Gr.at hb1 (b := w.heap.size) (o := 1) (v := .slice fA fn fc) (by simp [go_sem])
  clear hb1
  go_wp2_with fail
  refine (HF.out _).mono ?_
  rintro e w2 ⟨rfl, hb2⟩
  clear HF
  replace d0 := Gr.at hb2 d0; replace d1 := Gr.at hb2 d1
  have g2 := g1.trans hb2
  clear g1 hb2
  go_wp2_with fail
  go_ret
  exact ⟨rfl, g2⟩
set_option maxRecDepth 100000 in
set_option maxHeartbeats 8000000 in
theorem ar_no (m : Ms.Mesh) (x y z : Int) (w : World) (h : m.At w) (hf : m.S.n ≤ 60 ∧ m.F.n ≤ 60) (hv : Ms.vlB m = false) : Calls Tryd.prog 8 #[m.val, .int .i32 x, .int .i32 y, .int .i32 z] w fun e w' => e = .returned (.bool true) ∧ Gr w w' := by
  have HA := Lib.hid (fun W => aw_any W)
  have HF := Lib.hid (fun W => few_any m W)
  rw [decide_eq_true hf.1, decide_eq_true hf.2, Bool.and_self] at HF
  have HT := Lib.hid (fun W (hW : Gr w W) => ms_Total_no m W ⟨h.s.gr hW, h.f.gr hW⟩ (Or.inr ⟨by omega, by omega⟩) hv)
  have HB := Lib.hid (fun W (hW : Gr w W) => ms_border_no m W ⟨h.s.gr hW, h.f.gr hW⟩ (Or.inr ⟨by omega, by omega⟩) hv)
  have HV := Lib.hid (fun W (hW : Gr w W) => ms_valid m W ⟨h.s.gr hW, h.f.gr hW⟩ (Or.inr ⟨by omega, by omega⟩))
  rw [hv] at HV
  clear h hf hv
  unfold Ms.Mesh.val at *
  generalize m.S.A = sA at *; generalize m.S.n = sn at *; generalize m.S.c = sc at *; generalize m.F.A = fA at *; generalize m.F.n = fn at *; generalize m.F.c = fc at *
  go_enter Tryd.func8, Tryd.ntmps8
  go_wp2_with fail
  refine (HA.out _).mono ?_
  rintro e w1 ⟨rfl, hb1⟩
  clear HA
  have g1 : Gr w w1 := Gr.trans (by exact gr_auto) hb1
  have d0 := Gr.at hb1 (b := w.heap.size) (o := 0) (v := .slice sA sn sc) (by simp [go_sem])
  have d1 := Gr.at hb1 (b := w.heap.size) (o := 1) (v := .slice fA fn fc) (by simp [go_sem])
  clear hb1
  go_wp2_with fail
  refine (HF.out _).mono ?_
  rintro e w2 ⟨rfl, hb2⟩
  clear HF
  replace d0 := Gr.at hb2 d0; replace d1 := Gr.at hb2 d1
  have g2 := g1.trans hb2
  clear g1 hb2
  go_wp2_with fail
  -- @a
  refine (HT.out _ g2).mono ?_
  rintro e w3 ⟨rfl, hb3⟩
  replace d0 := Gr.at hb3 d0; replace d1 := Gr.at hb3 d1
  have g3 := g2.trans hb3
  clear HT g2 hb3
  go_wp2_with fail
  -- @b
  refine (HB.out _ g3).mono ?_
  rintro e w4 ⟨rfl, hb4⟩
  replace d0 := Gr.at hb4 d0; replace d1 := Gr.at hb4 d1
  have g4 := g3.trans hb4
  clear HB g3 hb4
  go_wp2_with fail
  -- @c
  refine (HV.out _ g4).mono ?_
  rintro e w5 ⟨rfl, hb5⟩
  replace d0 := Gr.at hb5 d0; replace d1 := Gr.at hb5 d1
  have g5 := g4.trans hb5
  clear HV g4 hb5
  go_wp2_with fail
  -- @d
  go_ret
  exact ⟨rfl, g5⟩
/-- How many spots and faces there are. -/
structure NN (m : Ms.Mesh) (sn fn : Nat) : Prop where
  s : m.S.n = sn
  f : m.F.n = fn
/-- Twice the area of face i is positive, and sums stay in range. -/
theorem tn_bd {m : Ms.Mesh} (hv : Ms.vlB m = true) {i : Nat} (hi : i < m.F.n) : 0 < Ms.tTn (Ms.tri m (m.F.D i)) ∧ Ms.tTn (Ms.tri m (m.F.D i)) ≤ 2251799813685248 := ⟨Ms.vl_tn hv hi, (Ms.tTn_bd (Ms.tri_ok (Ms.vl_fc hv hi))).2⟩
theorem far_small {x y z : Int} (hx : -33554432 ≤ x ∧ x ≤ 33554432) (hy : -33554432 ≤ y ∧ y ≤ 33554432) (hz : -33554432 ≤ z ∧ z ≤ 33554432) : Ms.far3 x y z = false := by
  have f : ∀ n : Int, -33554432 ≤ n ∧ n ≤ 33554432 → Ms.farB n = false := fun n hn => by
    unfold Ms.farB
    rw [decide_eq_false (by omega), decide_eq_false (by omega)]; rfl
  unfold Ms.far3
  rw [f x hx, f y hy, f z hz]; rfl
theorem tdiv_bd {x : Int} (hx : -2147483648 ≤ x ∧ x ≤ 2147483647) : -33554432 ≤ x.tdiv 64 ∧ x.tdiv 64 ≤ 33554432 := by
  rcases Int.le_total 0 x with h | h
  · rw [Int.tdiv_eq_ediv_of_nonneg h]; omega
  · have e : (-x).tdiv 64 = -(x.tdiv 64) := Int.neg_tdiv x 64
    rw [Int.tdiv_eq_ediv_of_nonneg (by omega)] at e
    omega
set_option maxRecDepth 100000 in
set_option maxHeartbeats 8000000 in
theorem ar_yes (m : Ms.Mesh) (x y z : Int) (w : World) (h : m.At w) (hf : m.S.n ≤ 60 ∧ m.F.n ≤ 60) (hv : Ms.vlB m = true) (hx : -2147483648 ≤ x ∧ x ≤ 2147483647) (hy : -2147483648 ≤ y ∧ y ≤ 2147483647) (hz : -2147483648 ≤ z ∧ z ≤ 2147483647) : Calls Tryd.prog 8 #[m.val, .int .i32 x, .int .i32 y, .int .i32 z] w fun e w' => e = .returned (.bool true) ∧ Gr w w' := by
  have HA := Lib.hid (fun W => aw_any W)
  have HF := Lib.hid (fun W => few_any m W)
  rw [decide_eq_true hf.1, decide_eq_true hf.2, Bool.and_self] at HF
  have HT := Lib.hid (fun W (hW : Gr w W) => ms_total m W ⟨h.s.gr hW, h.f.gr hW⟩ ⟨by omega, by omega⟩ hv)
  have HB := Lib.hid (fun W (hW : Gr w W) => ms_border m W ⟨h.s.gr hW, h.f.gr hW⟩ ⟨by omega, by omega⟩ hv)
  have HTF := Lib.hid (fun i (hi : i < m.F.n) W (hW : Gr w W) => ms_Twice m i W ⟨h.s.gr hW, h.f.gr hW⟩ ⟨by omega, by omega⟩ hv hi)
  have HTP := Lib.hid (fun i (hi : i < m.F.n) => tn_bd hv hi)
  have HTS := Lib.hid (fun i => show Ms.totI m (i + 1) = Ms.totI m i + Ms.tTn (Ms.tri m (m.F.D i)) from rfl)
  have HTB := Lib.hid (fun i hi => Ms.totI_bd hv i hi)
  have HMV := Lib.hid (fun W (hW : Gr w W) => ms_move_near m (x.tdiv 64) (y.tdiv 64) (z.tdiv 64) W ⟨h.s.gr hW, h.f.gr hW⟩ ⟨by omega, by omega⟩ hv (by have := tdiv_bd hx; have := tdiv_bd hy; have := tdiv_bd hz; unfold Ba.i64; omega) (far_small (tdiv_bd hx) (tdiv_bd hy) (tdiv_bd hz)))
  have HNM := Lib.hid (fun W (hW : Gr w W) => ms_neigh m W ⟨h.s.gr hW, h.f.gr hW⟩ ⟨by omega, by omega⟩ hv)
  have HVD := Lib.hid hv
  have HSA := Lib.hid h.s.hA
  have HSP := Lib.hid (fun i (hi : i < m.S.n) => (h.s.hD i hi).1)
  have hsc1 := h.s.hc; have hsc2 := h.s.hb
  have HOKc := Lib.hid (Ms.area_ok hv).cnt
  have HOKl := Lib.hid (fun r k => (Ms.area_ok hv).len r k)
  have HOKp := Lib.hid (fun r j k l => (Ms.area_ok hv).pt r j k l)
  have HOKs := Lib.hid (fun r k => (Ms.area_ok hv).step r k)
  have HOKb := Lib.hid (fun r k => (Ms.area_ok hv).bd r k)
  have HOKa := Lib.hid (Ms.area_ok hv).all
  have HNN := Lib.hid (show NN m m.S.n m.F.n from ⟨rfl, rfl⟩)
  have HSM := Lib.hid (fun (b : Ms.Mesh) W (hW : Gr w W) (hbA : b.At W) (e1 : m.S.n = b.S.n) (e2 : ∀ i, i < b.S.n → m.S.D i = b.S.D i) (e3 : m.F.n = b.F.n) (e4 : ∀ i, i < b.F.n → m.F.D i = b.F.D i) => rs_same_eq b m W hbA ⟨h.s.gr hW, h.f.gr hW⟩ e1 e2 e3 e4)
  have hn := hf.2; have hns := hf.1
  have tx := tdiv_bd hx; have ty := tdiv_bd hy; have tz := tdiv_bd hz
  clear h hf hv
  unfold RetBo at HB
  obtain ⟨j5, hj0, hj1, hj2, hj3⟩ := info_parts info_point
  have KI := Lib.hid hj0; have KZ0 := Lib.hid hj1; have KZ1 := Lib.hid hj2; have KZ2 := Lib.hid hj3
  clear hj0 hj1 hj2 hj3
  unfold RetNear at HNM
  generalize hTO : Ms.totI m m.F.n = TO at HT HOKa
  have HTO := Lib.hid hTO
  clear hTO
  unfold Ms.Mesh.val at *
  generalize m.S.A = sA at *; generalize m.S.n = sn at *; generalize m.S.c = sc at *; generalize m.F.A = fA at *; generalize m.F.n = fn at *; generalize m.F.c = fc at *
  go_enter Tryd.func8, Tryd.ntmps8
  go_wp2_with fail
  refine (HA.out _).mono ?_
  rintro e w1 ⟨rfl, hb1⟩
  clear HA
  have g1 : Gr w w1 := Gr.trans (by exact gr_auto) hb1
  have d0 := Gr.at hb1 (b := w.heap.size) (o := 0) (v := .slice sA sn sc) (by simp [go_sem])
  have d1 := Gr.at hb1 (b := w.heap.size) (o := 1) (v := .slice fA fn fc) (by simp [go_sem])
  clear hb1
  go_wp2_with fail
  refine (HF.out _).mono ?_
  rintro e w2 ⟨rfl, hb2⟩
  clear HF
  replace d0 := Gr.at hb2 d0; replace d1 := Gr.at hb2 d1
  have g2 := g1.trans hb2
  clear g1 hb2
  go_wp2_with fail
  -- @a
  refine (HT.out _ g2).mono ?_
  rintro e w3 ⟨rfl, hb3⟩
  replace d0 := Gr.at hb3 d0; replace d1 := Gr.at hb3 d1
  have g3 := g2.trans hb3
  clear HT g2 hb3
  go_wp2_with fail
  -- @b
  refine (HB.out _ g3).mono ?_
  rintro e w4 ⟨v, rfl, V, hbr, hb4⟩
  replace d0 := Gr.at hb4 d0; replace d1 := Gr.at hb4 d1
  have g4 := g3.trans hb4
  obtain ⟨L, hL⟩ : ∃ L, (Ms.bS m (3 * fn)).2 = L := ⟨_, rfl⟩
  rw [hL] at hbr HOKc HOKl HOKp HOKs HOKb HOKa
  obtain ⟨A1, c1, b1, rfl, hA1, hn1, hc1, hr1⟩ := brd_rows hbr
  have HR1 := Lib.hid hr1
  clear HB g3 hb4 hbr hr1 hL
  go_wp2_with fail
  -- @c
  have HD := Lib.hid (And.intro d0 d1)
  have hLn := HOKc.out
  clear HOKc
  have hsz4 : w.heap.size < w4.heap.size := World.block_lt_of_cell? _ _ d0
  clear d0 d1
  go_loopw [13, 61] (fun v u wr => ∃ r : Nat, r ≤ L.length ∧ u = .int .i64 (r : Int) ∧ v = .int .i64 (Ms.bsm m L r) ∧ Gr w4 wr) (fun _ u _ => L.length - (intOf u).toNat)
  case atStart => exact ⟨0, Nat.zero_le _, rfl, by rw [Ms.bsm_zero], Gr.refl _⟩
  case round =>
    obtain ⟨r, hr, rfl, rfl, hg⟩ := hrel
    rename World => W1
    by_cases hlr : r < L.length
    · obtain rfl := hA1 (by omega)
      have rb0 : (0 : Int) ≤ (r : Int) := by omega
      have rb1 : (r : Int) < (L.length : Int) := by omega
      obtain ⟨P, C, B, p1, p2, p3, p4, p5⟩ := HR1.out r hlr
      replace p1 := Gr.at hg p1
      obtain ⟨hn3, hn4⟩ := HOKl.out r hlr
      have HPJ := Lib.hid (fun j => HOKp.out r j hlr)
      have hst := HOKs.out r hlr
      have hbd1 := HOKb.out r hr; have hbd2 := HOKb.out (r + 1) hlr
      rw [hst] at hbd2
      have HST := Lib.hid hst
      have HP5 := Lib.hid p5
      obtain rfl := p4 (by show 0 < (L.getD r []).length; omega)
      clear HR1 HOKl HOKp HOKs HOKb HOKa p5 p4 hst HTF HTP HTS HTB HMV HNM HVD HSM HNN HTO
      obtain ⟨len, hlen⟩ : ∃ k, L.length = k := ⟨_, rfl⟩
      simp only [hlen] at *
      obtain ⟨l, hl⟩ : ∃ x, L.getD r [] = x := ⟨_, rfl⟩
      rw [hl] at HPJ HP5 HST hn3 hn4 hbd2
      simp only [hl] at p1 p2
      obtain ⟨n, hnl⟩ : ∃ k, l.length = k := ⟨_, rfl⟩
      rw [hnl] at HPJ HST hn3 hn4 hbd2 p1 p2
      simp only [hnl] at HP5
      clear hl hnl
      obtain ⟨fv, hfv⟩ : ∃ q, Ms.fanS (Ms.rX m l) (Ms.rY m l) (n - 2) = q := ⟨_, rfl⟩
      rw [hfv] at HST hbd2
      have HFV := Lib.hid hfv
      clear hfv
      have bt1 : -9223372036854775808 ≤ Ms.bsm m L r + fv := by omega
      have bt2 : Ms.bsm m L r + fv ≤ 9223372036854775807 := by omega
      clear hbd1 hbd2
      -- @d
      go_wp2_with fail
      -- @e
      clear p1
      go_loopw [16, 67] (fun pv u wr => ∃ j : Nat, j ≤ n ∧ u = .int .i64 (j : Int) ∧ Hid (wr.ownsRow w4.heap.size 76 2 pv j (fpt (Ms.rX m l) (Ms.rY m l) j)) ∧ Gr w4 wr) (fun _ u _ => n - (intOf u).toNat)
      case atStart => exact ⟨0, Nat.zero_le _, rfl, World.ownsRow_nil _ _ _ _, hg⟩
      case round =>
        clear hg
        obtain ⟨j, hj, rfl, HO, hg⟩ := hrel
        rename World => W2
        by_cases hlj : j < n
        · have jb0 : (0 : Int) ≤ (j : Int) := by omega
          have jb1 : (j : Int) < (n : Int) := by omega
          obtain ⟨i, i1, i2, i3, i4, i5, i6⟩ := HPJ.out j hlj
          have cj := Gr.at hg (HP5.out j hlj)
          rw [i1] at cj
          obtain rfl := HSA.out (by omega)
          obtain ⟨a0, a1, a2⟩ := HSP.out i i2
          have gw := g4.trans hg
          replace a0 := Gr.at gw a0; replace a1 := Gr.at gw a1
          have HFX := Lib.hid (show fpt (Ms.rX m l) (Ms.rY m l) (j + 1) = fpt (Ms.rX m l) (Ms.rY m l) j ++ [.int .i64 (m.S.D i).x, .int .i64 (m.S.D i).y] from by rw [fpt, i5, i6])
          have d0 := Gr.at hg HD.out.1
          have ib0 : (0 : Int) ≤ (i : Int) := by omega
          have ib1 : (i : Int) < (sn : Int) := by omega
          have hW4 := Gr.size hg
          have bl := World.block_lt_of_cell? _ _ cj
          have bs := World.block_lt_of_cell? _ _ a0
          simp only at bl bs
          have hW5 : w.heap.size < W2.heap.size := World.block_lt_of_cell? _ _ d0
          clear HPJ HP5 i1 i3 i4 i5 i6 HSA HSP a2 gw HD
          generalize (m.S.D i).x = px at *; generalize (m.S.D i).y = py at *
          -- @f
          go_upto_region 17 with fail
          -- @g
          go_region_law (refine step_append_lies _ (by rfl) _ _ 72 (by rfl) w4.heap.size 76 j5 (.agg #[.int .i64 0, .int .i64 0]) 2 16 Tryd.underlying72 KI.out KZ0.out KZ1.out KZ2.out rfl (by decide) u16 j (fpt (Ms.rX m l) (Ms.rY m l) j) (by rfl) (ownsRow_gr HO.out (by exact gr_auto)) _ 1 1 [.int .i64 px, .int .i64 py] (by rfl) rfl (by intro p u hp; rcases p with _ | _ | p <;> simp at hp <;> (try subst hp) <;> first | (simp [Addr.add, go_sem]; done) | (simp [Addr.add]; done)) (by intro u hu; simp at hu; rcases hu with rfl | rfl <;> rfl) (by omega) (by unfold maxLen; omega) (by omega) (by first | omega | (simp; omega)) _ rfl ?_; intro G15 cp15 w15 hown15 hgrow15 hat15 hlt15; have GG : Gr w4 w15 := Gr.own (show Gr w4 _ from Gr.trans hg (by exact gr_auto)) (Nat.le_refl _) (ownsRow_gr HO.out (by exact gr_auto)) hgrow15)
          -- @h
          all_goals (
            have HO2 := Lib.hid hown15
            clear hown15 hgrow15 hat15 hlt15 HO a0 a1 cj d0
            go_wp2_with fail
            go_roundw
            case rel => exact ⟨j + 1, by omega, by go_num, by rw [HFX.out]; exact HO2, GG⟩
            case measure => simp [intOf]; omega)
        · obtain rfl : n = j := by omega
          obtain ⟨A, c, b, rfl, hpt⟩ := own_pt HO.out (fun i hi => by obtain ⟨_, _, _, i3, i4, _, _⟩ := HPJ.out i hi; exact ⟨i3, i4⟩)
          have HTW := Lib.hid (fun W (hW : Gr W2 W) => pl_twice _ W (hpt.gr hW) (fun i hi => by obtain ⟨_, _, _, i3, i4, _, _⟩ := HPJ.out i hi; exact Ms.ptB_iff.2 ⟨i3, i4⟩) hn3 (by show n ≤ 1000; omega))
          have HTV := Lib.hid (fun W (hW : Gr W2 W) => show Calls Tryd.prog 41 #[.slice A n c] W fun e w' => e = .returned (.tuple #[.int .i64 fv, .int .i64 0]) ∧ Gr W w' from HFV.out ▸ HTW.out W hW)
          clear HTW HPJ hpt HO HP5 HFV
          -- @i
          go_wp2_with fail
          -- @j
          refine (HTV.out _ (by exact gr_auto)).mono ?_
          rintro e w5 ⟨rfl, hb5⟩
          clear HTV
          go_wp2_with fail
          -- @k
          go_roundw
          case rel => exact ⟨r + 1, by omega, by go_num, by rw [HST.out], hg.trans hb5⟩
          case measure => simp [intOf]; omega
    · obtain hrL : L.length = r := by omega
      rw [← hrL, HOKa.out]
      have d1 := Gr.at hg HD.out.2
      clear HR1 HOKl HOKp HOKs HOKb HOKa hrL HSA HSP
      -- @l
      go_wp2_with fail
      -- @m
      clear d1
      go_loopw [21, 102] (fun v u wr => ∃ i : Nat, i ≤ fn ∧ u = .int .i64 (i : Int) ∧ v = .int .i64 (Ms.totI m i) ∧ Gr w4 wr) (fun _ u _ => fn - (intOf u).toNat)
      case atStart => exact ⟨0, Nat.zero_le _, rfl, rfl, hg⟩
      case round =>
        clear hg
        obtain ⟨i, hi, rfl, rfl, hg⟩ := hrel
        rename World => W2
        have gw := g4.trans hg
        have d0 := Gr.at hg HD.out.1; have d1 := Gr.at hg HD.out.2
        by_cases hlt : i < fn
        · have ib0 : (0 : Int) ≤ (i : Int) := by omega
          have ib1 : (i : Int) < (fn : Int) := by omega
          have HTi := Lib.hid (HTF.out i hlt)
          obtain ⟨t0, t1⟩ := HTP.out i hlt
          have hsi := HTS.out i
          have e1 := HTB.out i hi; have e2 := HTB.out (i + 1) hlt
          rw [hsi] at e2
          have HSI := Lib.hid hsi
          clear HTF HTP HTS HTB hsi HMV HNM HVD HSM HNN HTO
          generalize Ms.tTn (Ms.tri m (m.F.D i)) = tv at *
          have bt1 : -9223372036854775808 ≤ Ms.totI m i + tv := by omega
          have bt2 : Ms.totI m i + tv ≤ 9223372036854775807 := by omega
          have t2 : ¬ tv ≤ 0 := by omega
          clear e1 e2 t0
          have hW5 : w.heap.size < W2.heap.size := World.block_lt_of_cell? _ _ d0
          -- @n
          go_wp2_with fail
          -- @o
          refine (HTi.out _ gw).mono ?_
          rintro e w5 ⟨rfl, hb5⟩
          clear HTi d0 d1 gw
          go_wp2_with fail
          -- @p
          go_roundw
          case rel => exact ⟨i + 1, by omega, by go_num, by rw [HSI.out], hg.trans hb5⟩
          case measure => simp [intOf]; omega
        · obtain rfl : fn = i := by omega
          rw [HTO.out]
          clear HTF HTP HTS HTB
          have hW5 : w.heap.size < W2.heap.size := World.block_lt_of_cell? _ _ d0
          have zx : -9223372036854775808 ≤ x.tdiv 64 := by omega
          have zx2 : x.tdiv 64 ≤ 9223372036854775807 := by omega
          have zy : -9223372036854775808 ≤ y.tdiv 64 := by omega
          have zy2 : y.tdiv 64 ≤ 9223372036854775807 := by omega
          have zz : -9223372036854775808 ≤ z.tdiv 64 := by omega
          have zz2 : z.tdiv 64 ≤ 9223372036854775807 := by omega
          have HD2 := Lib.hid (And.intro d0 d1)
          -- @q
          go_wp2_with fail
          -- @r
          skip
          refine (HMV.out _ gw).mono ?_
          rintro e w5 (⟨hbad, rfl, hb5⟩ | ⟨hgd, a, rfl, haA, ha1, ha2, ha3, ha4, hb5⟩)
          · have HN0 := Lib.hid (fun W => none_any W)
            have g5 := gw.trans hb5
            clear HMV HNM HVD HSM HNN HTO hbad hb5 d0 d1 hg gw
            -- @s
            go_wp2_with fail
            -- @t
            refine (HN0.out _).mono ?_
            rintro e w6 ⟨rfl, hb6⟩
            clear HN0
            go_wp2_with fail
            -- @u
            go_ret
            exact ⟨rfl, g5.trans (Gr.trans (by exact gr_auto) hb6)⟩
          · have hmo : Ms.Moved m a (x.tdiv 64) (y.tdiv 64) (z.tdiv 64) := ⟨ha1, ha2, ha3, ha4⟩
            have hva := hmo.vl hgd HVD.out
            have hbk := hmo.back HVD.out
            have hsn := HNN.out.s; have hfn := HNN.out.f
            have hla : a.S.n ≤ 61 ∧ a.F.n ≤ 61 := by rw [ha1, ha3, hsn, hfn]; omega
            have HMB := Lib.hid (fun W (hW : Gr w5 W) => ms_move_near a (-(x.tdiv 64)) (-(y.tdiv 64)) (-(z.tdiv 64)) W (haA.gr hW) hla hva (by unfold Ba.i64; omega) (far_small (by omega) (by omega) (by omega)))
            have HTA := Lib.hid (fun W (hW : Gr w5 W) => ms_total a W (haA.gr hW) hla hva)
            have hta : Ms.totI a a.F.n = TO := by rw [ha3, hfn, hmo.tot]; exact HTO.out
            rw [hta] at HTA
            have HNA := Lib.hid (fun W (hW : Gr w5 W) => ms_neigh a W (haA.gr hW) hla hva)
            unfold RetNear at HNA
            simp only [hmo.nb] at HNA
            have g5 := gw.trans hb5
            replace d0 := Gr.at hb5 d0; replace d1 := Gr.at hb5 d1
            have HE := Lib.hid (And.intro ha1 (And.intro ha2 (And.intro ha3 (And.intro ha4 (And.intro hsn (And.intro hfn (And.intro hbk hmo)))))))
            simp only [Ms.Mesh.val, ha1, hsn, ha3, hfn] at HMB HTA HNA ⊢
            have zx3 : -9223372036854775808 ≤ -(x.tdiv 64) := by omega
            have zx4 : -(x.tdiv 64) ≤ 9223372036854775807 := by omega
            have zy3 : -9223372036854775808 ≤ -(y.tdiv 64) := by omega
            have zy4 : -(y.tdiv 64) ≤ 9223372036854775807 := by omega
            have zz3 : -9223372036854775808 ≤ -(z.tdiv 64) := by omega
            have zz4 : -(z.tdiv 64) ≤ 9223372036854775807 := by omega
            clear HMV HTO HNN hbk hmo ha1 ha2 ha3 ha4 hsn hfn hla hta hva haA hgd hg gw HVD hb5
            generalize a.S.A = aA at HMB HTA HNA ⊢; generalize a.S.c = ac at HMB HTA HNA ⊢; generalize a.F.A = cA at HMB HTA HNA ⊢; generalize a.F.c = cc at HMB HTA HNA ⊢
            -- @v
            go_wp2_with fail
            -- @w
            obtain ⟨W6, hW6⟩ : ∃ W, w5.alloc (Obj.cells #[.slice aA sn ac, .slice cA fn cc] 25) = W := ⟨_, rfl⟩
            have g56 : Gr w5 W6 := hW6 ▸ Gr.alloc (Gr.refl w5) _
            have v0 : W6.cell? ⟨w5.heap.size, 0, none⟩ = some (.slice aA sn ac) := by rw [← hW6]; simp [go_sem]
            have v1 : W6.cell? ⟨w5.heap.size, 1, none⟩ = some (.slice cA fn cc) := by rw [← hW6]; simp [go_sem]
            replace d0 := Gr.at g56 d0; replace d1 := Gr.at g56 d1
            obtain ⟨VB, hVB⟩ : ∃ B, w5.heap.size = B := ⟨_, rfl⟩
            rw [hVB] at v0 v1
            rw [hW6, hVB]
            clear hW6 hVB
            refine (HMB.out _ g56).mono ?_
            rintro e w7 (⟨hbad2, -, -⟩ | ⟨-, b, rfl, hbA, hb1', hb2', hb3', hb4', hb7⟩)
            · exfalso
              have q := HE.out.2.2.2.2.2.2.1
              rw [q] at hbad2
              cases hbad2
            · obtain ⟨ha1, ha2, ha3, ha4, hsn, hfn, -, -⟩ := HE.out
              have g57 := g56.trans hb7
              have HSB := Lib.hid (fun W (hW : Gr w7 W) => HSM.out b W (g5.trans (g57.trans hW)) (hbA.gr hW) (by rw [hb1', ha1, hsn]) (fun i hi => by
                rw [hb2', ha2]
                show m.S.D i = Ms.mvS (-(x.tdiv 64)) (-(y.tdiv 64)) (-(z.tdiv 64)) (Ms.mvS (x.tdiv 64) (y.tdiv 64) (z.tdiv 64) (m.S.D i))
                exact (Ms.mv_twice _ _ _ _).symm) (by rw [hb3', ha3, hfn]) (fun i hi => by rw [hb4', ha4]))
              replace d0 := Gr.at hb7 d0; replace d1 := Gr.at hb7 d1; replace v0 := Gr.at hb7 v0; replace v1 := Gr.at hb7 v1
              simp only [Ms.Mesh.val, hb1', ha1, hsn, hb3', ha3, hfn] at HSB ⊢
              clear HE HMB HSM hbA hb1' hb2' hb3' hb4' ha1 ha2 ha3 ha4 hsn hfn hb7 g56 zx zx2 zy zy2 zz zz2 zx3 zx4 zy3 zy4 zz3 zz4
              generalize b.S.A = bA at HSB ⊢; generalize b.S.c = bc at HSB ⊢; generalize b.F.A = eA at HSB ⊢; generalize b.F.c = ec at HSB ⊢
              have bv := World.block_lt_of_cell? _ _ v0; have bw := World.block_lt_of_cell? _ _ d0
              simp only at bv bw
              -- @x
              go_wp2_with fail
              -- @y
              obtain ⟨W8, hW8⟩ : ∃ W, w7.alloc (Obj.cells #[.slice bA sn bc, .slice eA fn ec] 25) = W := ⟨_, rfl⟩
              have g78 : Gr w7 W8 := hW8 ▸ Gr.alloc (Gr.refl w7) _
              have u0 : W8.cell? ⟨w7.heap.size, 0, none⟩ = some (.slice bA sn bc) := by rw [← hW8]; simp [go_sem]
              have u1 : W8.cell? ⟨w7.heap.size, 1, none⟩ = some (.slice eA fn ec) := by rw [← hW8]; simp [go_sem]
              replace d0 := Gr.at g78 d0; replace d1 := Gr.at g78 d1; replace v0 := Gr.at g78 v0; replace v1 := Gr.at g78 v1
              obtain ⟨UB, hUB⟩ : ∃ B, w7.heap.size = B := ⟨_, rfl⟩
              rw [hUB] at u0 u1
              rw [hW8, hUB]
              clear hW8 hUB
              have g58 := g57.trans g78
              refine (HTA.out _ g58).mono ?_
              rintro e w9 ⟨rfl, hb9⟩
              replace d0 := Gr.at hb9 d0; replace d1 := Gr.at hb9 d1; replace v0 := Gr.at hb9 v0; replace v1 := Gr.at hb9 v1; replace u0 := Gr.at hb9 u0; replace u1 := Gr.at hb9 u1
              have g79 := g78.trans hb9; have g59 := g58.trans hb9
              clear HTA hb9 g58 g78
              go_wp2_with fail
              -- @z1
              refine (HNM.out _ (g5.trans g59)).mono ?_
              rintro e w10 ⟨nv, rfl, G1, rfl, -, hc1', hb10⟩
              replace d0 := Gr.at hb10 d0; replace d1 := Gr.at hb10 d1; replace v0 := Gr.at hb10 v0; replace v1 := Gr.at hb10 v1; replace u0 := Gr.at hb10 u0; replace u1 := Gr.at hb10 u1
              have g710 := g79.trans hb10; have g510 := g59.trans hb10
              have HC1 := Lib.hid (near_cells hc1')
              clear HNM hb10 hc1' g79 g59
              go_wp2_with fail
              -- @z2
              refine (HNA.out _ g510).mono ?_
              rintro e w11 ⟨nv, rfl, G2, rfl, -, hc2', hb11⟩
              replace d0 := Gr.at hb11 d0; replace d1 := Gr.at hb11 d1; replace u0 := Gr.at hb11 u0; replace u1 := Gr.at hb11 u1
              have g711 := g710.trans hb11
              have HC2 := Lib.hid (near_cells hc2')
              have HC3 := Lib.hid (fun i hi => And.intro (Gr.at hb11 (HC1.out i hi).1) (And.intro (Gr.at hb11 (HC1.out i hi).2.1) (Gr.at hb11 (HC1.out i hi).2.2)))
              have g511 := g510.trans hb11
              clear HNA hb11 hc2' g710 g510 HC1 v0 v1
              go_wp2_with fail
              -- @z3
              refine (HSB.out _ g711).mono ?_
              rintro e w12 ⟨rfl, hb12⟩
              have HEQ := Lib.hid (eq_3 (fun i => Ms.nb m i 0) (fun i => Ms.nb m i 1) (fun i => Ms.nb m i 2) (some ⟨G1, 0, none⟩) (some ⟨G2, 0, none⟩) fn fn fn G1 G2 w12 (Nat.le_refl _) (Nat.le_refl _) (by omega) (by omega) (fun _ => rfl) (fun _ => rfl) (fun i hi => ⟨Gr.at hb12 (HC3.out i hi).1, Gr.at hb12 (HC3.out i hi).2.1, Gr.at hb12 (HC3.out i hi).2.2⟩) (fun i hi => ⟨Gr.at hb12 (HC2.out i hi).1, Gr.at hb12 (HC2.out i hi).2.1, Gr.at hb12 (HC2.out i hi).2.2⟩))
              have g512 := g511.trans hb12
              clear HSB HC2 HC3 hb12 g711 g511 u0 u1 d0 d1
              go_wp2_with fail
              -- @z4
              refine HEQ.out.mono ?_
              rintro e w13 ⟨rfl, hb13⟩
              clear HEQ
              go_wp2_with fail
              -- @z5
              go_ret
              exact ⟨rfl, g5.trans (g512.trans hb13)⟩
/-- MeshArea returns true. -/
theorem area_law (s : Ba.SlSpot) (f : Ba.SlFace) (x y z : Int) (w : World) (h1 : s.At w) (h2 : f.At w) (hx : -2147483648 ≤ x ∧ x ≤ 2147483647) (hy : -2147483648 ≤ y ∧ y ≤ 2147483647) (hz : -2147483648 ≤ z ∧ z ≤ 2147483647) : Calls Tryd.prog 8 #[(Ms.Mesh.mk s f).val, .int .i32 x, .int .i32 y, .int .i32 z] w fun e w' => e = .returned (.bool true) ∧ Gr w w' := by
  by_cases hf : s.n ≤ 60 ∧ f.n ≤ 60
  · cases hv : Ms.vlB (Ms.Mesh.mk s f)
    · exact ar_no _ x y z w ⟨h1, h2⟩ hf hv
    · exact ar_yes _ x y z w ⟨h1, h2⟩ hf hv hx hy hz
  · exact ar_out _ x y z w hf
end Go.Proofs.YtajhhplgcegodaaDoor
