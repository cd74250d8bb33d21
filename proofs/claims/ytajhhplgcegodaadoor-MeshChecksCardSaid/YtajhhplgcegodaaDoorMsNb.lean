/-
  Surfaces: mesh.Neighbours, twice, isFace, Twice, Total. (Printed by mknb.py.)
-/
import Derived.Test.YtajhhplgcegodaaDoorMsWa
import Derived.Test.YtajhhplgcegodaaDoorMsI
set_option linter.unusedVariables false
set_option linter.unusedSimpArgs false
namespace Go.Proofs.YtajhhplgcegodaaDoor
open Go.RowKit
set_option maxRecDepth 100000 in
set_option maxHeartbeats 4000000 in
theorem ms_Neighbours_no (m : Ms.Mesh) (w : World) (h : m.At w) (hs : Ms.smB m = false ∨ (m.S.n ≤ 61 ∧ m.F.n ≤ 61)) (hv : Ms.vlB m = false) : Calls Tryd.prog 17 #[m.val] w fun e w' => e = .returned (.tuple #[.slice none 0 0, .int .i64 1]) ∧ Gr w w' := by
  have HV := Lib.hid (fun W (hW : Gr w W) => ms_valid m W ⟨h.s.gr hW, h.f.gr hW⟩ hs)
  rw [hv] at HV
  clear h hs hv
  unfold Ms.Mesh.val at *
  generalize m.S.A = sA at *; generalize m.S.n = sn at *; generalize m.S.c = sc at *; generalize m.F.A = fA at *; generalize m.F.n = fn at *; generalize m.F.c = fc at *
  go_enter Tryd.func17, Tryd.ntmps17
  go_wp2_with fail
  refine (HV.out _ (by exact gr_auto)).mono ?_
  rintro e w1 ⟨rfl, hb1⟩
  clear HV
  have g1 : Gr w w1 := Gr.trans (by exact gr_auto) hb1
  go_wp2_with fail
  go_ret2
  exact ⟨rfl, g1⟩
set_option maxRecDepth 100000 in
set_option maxHeartbeats 4000000 in
theorem ms_Total_no (m : Ms.Mesh) (w : World) (h : m.At w) (hs : Ms.smB m = false ∨ (m.S.n ≤ 61 ∧ m.F.n ≤ 61)) (hv : Ms.vlB m = false) : Calls Tryd.prog 34 #[m.val] w fun e w' => e = .returned (.tuple #[.int .i64 0, .int .i64 1]) ∧ Gr w w' := by
  have HV := Lib.hid (fun W (hW : Gr w W) => ms_valid m W ⟨h.s.gr hW, h.f.gr hW⟩ hs)
  rw [hv] at HV
  clear h hs hv
  unfold Ms.Mesh.val at *
  generalize m.S.A = sA at *; generalize m.S.n = sn at *; generalize m.S.c = sc at *; generalize m.F.A = fA at *; generalize m.F.n = fn at *; generalize m.F.c = fc at *
  go_enter Tryd.func34, Tryd.ntmps34
  go_wp2_with fail
  refine (HV.out _ (by exact gr_auto)).mono ?_
  rintro e w1 ⟨rfl, hb1⟩
  clear HV
  have g1 : Gr w w1 := Gr.trans (by exact gr_auto) hb1
  go_wp2_with fail
  go_ret2
  exact ⟨rfl, g1⟩
set_option maxRecDepth 100000 in
set_option maxHeartbeats 4000000 in
theorem ms_Twice_no (m : Ms.Mesh) (q : Int) (w : World) (h : m.At w) (hs : Ms.smB m = false ∨ (m.S.n ≤ 61 ∧ m.F.n ≤ 61)) (hv : Ms.vlB m = false) : Calls Tryd.prog 33 #[m.val, .int .i64 q] w fun e w' => e = .returned (.tuple #[.int .i64 0, .int .i64 1]) ∧ Gr w w' := by
  have HV := Lib.hid (fun W (hW : Gr w W) => ms_valid m W ⟨h.s.gr hW, h.f.gr hW⟩ hs)
  rw [hv] at HV
  clear h hs hv
  unfold Ms.Mesh.val at *
  generalize m.S.A = sA at *; generalize m.S.n = sn at *; generalize m.S.c = sc at *; generalize m.F.A = fA at *; generalize m.F.n = fn at *; generalize m.F.c = fc at *
  go_enter Tryd.func33, Tryd.ntmps33
  go_wp2_with fail
  refine (HV.out _ (by exact gr_auto)).mono ?_
  rintro e w1 ⟨rfl, hb1⟩
  clear HV
  have g1 : Gr w w1 := Gr.trans (by exact gr_auto) hb1
  go_wp2_with fail
  go_ret2
  exact ⟨rfl, g1⟩
set_option maxRecDepth 100000 in
set_option maxHeartbeats 4000000 in
theorem ms_neigh (m : Ms.Mesh) (w : World) (h : m.At w) (hs : m.S.n ≤ 61 ∧ m.F.n ≤ 61) (hv : Ms.vlB m = true) : Calls Tryd.prog 17 #[m.val] w fun e w' => ∃ v, e = .returned (.tuple #[v, .int .i64 0]) ∧ RetNear m w w' v := by
  have HV := Lib.hid (fun W (hW : Gr w W) => ms_valid m W ⟨h.s.gr hW, h.f.gr hW⟩ (Or.inr hs))
  rw [hv] at HV
  have HN := Lib.hid (fun W (hW : Gr w W) => ms_near m W (h.f.gr hW) hv hs.2)
  clear h hs hv
  unfold RetNear at *
  generalize Ms.nb m = NB at *
  unfold Ms.Mesh.val at *
  generalize m.S.A = sA at *; generalize m.S.n = sn at *; generalize m.S.c = sc at *; generalize m.F.A = fA at *; generalize m.F.n = fn at *; generalize m.F.c = fc at *
  go_enter Tryd.func17, Tryd.ntmps17
  go_wp2_with fail
  refine (HV.out _ (by exact gr_auto)).mono ?_
  rintro e w1 ⟨rfl, hb1⟩
  clear HV
  have g1 : Gr w w1 := Gr.trans (by exact gr_auto) hb1
  have d0 := Gr.at hb1 (b := w.heap.size) (o := 0) (v := .slice sA sn sc) (by simp [go_sem])
  have d1 := Gr.at hb1 (b := w.heap.size) (o := 1) (v := .slice fA fn fc) (by simp [go_sem])
  have z1 := Gr.size g1
  clear hb1
  go_wp2_with fail
  refine (HN.out _ g1).mono ?_
  rintro e w2 ⟨v, rfl, G, rfl, hG, hc, hb2⟩
  clear HN
  go_wp2_with fail
  go_ret2
  exact ⟨_, rfl, G, rfl, by omega, hc, g1.trans hb2⟩
set_option maxRecDepth 100000 in
set_option maxHeartbeats 4000000 in
theorem ms_twice (m : Ms.Mesh) (f : Ba.Face) (w : World) (h : m.S.At w) (hf : Ms.fcB m f = true) : Calls Tryd.prog 77 #[m.val, f.val] w fun e w' => e = .returned (.int .i64 (Ms.tTn (Ms.tri m f))) ∧ Gr w w' := by
  have HT := Lib.hid (fun W (hW : Gr w W) => ms_tri m f W (h.gr hW) hf)
  have htk := Ms.tri_ok hf
  clear h hf
  obtain ⟨t, ht⟩ : ∃ t, Ms.tri m f = t := ⟨_, rfl⟩
  rw [ht] at HT htk ⊢
  unfold Ba.Tri.val at HT
  unfold Ms.tOk at htk
  have HU := Lib.hid (fun W => ms_turn t.x0 t.y0 t.x1 t.y1 t.x2 t.y2 W htk.1 htk.2.1 htk.2.2.1 htk.2.2.2.1 htk.2.2.2.2.1 htk.2.2.2.2.2)
  clear ht htk
  unfold Ms.tTn
  generalize Ms.tr2 t.x0 t.y0 t.x1 t.y1 t.x2 t.y2 = v at *
  unfold Ba.Face.val at *
  unfold Ms.Mesh.val at *
  generalize m.S.A = sA at *; generalize m.S.n = sn at *; generalize m.S.c = sc at *; generalize m.F.A = fA at *; generalize m.F.n = fn at *; generalize m.F.c = fc at *
  obtain ⟨a, b, c, k⟩ := f
  simp only at *
  go_enter Tryd.func77, Tryd.ntmps77
  go_wp2_with fail
  refine (HT.out _ (by exact gr_auto)).mono ?_
  rintro e w1 ⟨rfl, hb1⟩
  clear HT
  have g1 : Gr w w1 := Gr.trans (by exact gr_auto) hb1
  -- @ta
  go_wp2_with fail
  -- @tb
  refine (HU.out _).mono ?_
  rintro e w2 ⟨rfl, hb2⟩
  go_wp2_with fail
  -- @tc
  go_ret
  exact ⟨rfl, by exact gr_auto⟩
set_option maxRecDepth 100000 in
set_option maxHeartbeats 4000000 in
theorem ms_isface (m : Ms.Mesh) (q : Int) (w : World) : Calls Tryd.prog 76 #[m.val, .int .i64 q] w fun e w' => e = .returned (.bool (decide (0 ≤ q) && decide (q < (m.F.n : Int)))) ∧ Gr w w' := by
  unfold Ms.Mesh.val at *
  generalize m.S.A = sA at *; generalize m.S.n = sn at *; generalize m.S.c = sc at *; generalize m.F.A = fA at *; generalize m.F.n = fn at *; generalize m.F.c = fc at *
  go_enter Tryd.func76, Tryd.ntmps76
  cases h1 : decide (0 ≤ q)
  · have := of_decide_eq_false h1
    go_wp2_with fail
    go_ret
    exact ⟨rfl, by exact gr_auto⟩
  · have := of_decide_eq_true h1
    go_wp2_with fail
    go_ret
    exact ⟨rfl, by exact gr_auto⟩
set_option maxRecDepth 100000 in
set_option maxHeartbeats 4000000 in
theorem ms_Twice_range (m : Ms.Mesh) (q : Int) (w : World) (h : m.At w) (hs : m.S.n ≤ 61 ∧ m.F.n ≤ 61) (hv : Ms.vlB m = true) (hq : (decide (0 ≤ q) && decide (q < (m.F.n : Int))) = false) : Calls Tryd.prog 33 #[m.val, .int .i64 q] w fun e w' => e = .returned (.tuple #[.int .i64 0, .int .i64 2]) ∧ Gr w w' := by
  have HV := Lib.hid (fun W (hW : Gr w W) => ms_valid m W ⟨h.s.gr hW, h.f.gr hW⟩ (Or.inr hs))
  rw [hv] at HV
  have HI := Lib.hid (fun W => ms_isface m q W)
  rw [hq] at HI
  clear h hs hv hq
  unfold Ms.Mesh.val at *
  generalize m.S.A = sA at *; generalize m.S.n = sn at *; generalize m.S.c = sc at *; generalize m.F.A = fA at *; generalize m.F.n = fn at *; generalize m.F.c = fc at *
  -- @e0
  go_enter Tryd.func33, Tryd.ntmps33
  -- @e1
  go_wp2_with fail
  -- @e2
  refine (HV.out _ (by exact gr_auto)).mono ?_
  rintro e w1 ⟨rfl, hb1⟩
  clear HV
  have g1 : Gr w w1 := Gr.trans (by exact gr_auto) hb1
  have d0 := Gr.at hb1 (b := w.heap.size) (o := 0) (v := .slice sA sn sc) (by simp [go_sem])
  have d1 := Gr.at hb1 (b := w.heap.size) (o := 1) (v := .slice fA fn fc) (by simp [go_sem])
  clear hb1
  -- @e3
  go_wp2_with fail
  -- @e4
  refine (HI.out _).mono ?_
  rintro e w2 ⟨rfl, hb2⟩
  clear HI
  go_wp2_with fail
  go_ret2
  exact ⟨rfl, g1.trans hb2⟩
set_option maxRecDepth 100000 in
set_option maxHeartbeats 4000000 in
theorem ms_Twice (m : Ms.Mesh) (i : Nat) (w : World) (h : m.At w) (hs : m.S.n ≤ 61 ∧ m.F.n ≤ 61) (hv : Ms.vlB m = true) (hi : i < m.F.n) : Calls Tryd.prog 33 #[m.val, .int .i64 (i : Int)] w fun e w' => e = .returned (.tuple #[.int .i64 (Ms.tTn (Ms.tri m (m.F.D i))), .int .i64 0]) ∧ Gr w w' := by
  obtain ⟨q, hq'⟩ : ∃ q : Int, (i : Int) = q := ⟨_, rfl⟩
  have HV := Lib.hid (fun W (hW : Gr w W) => ms_valid m W ⟨h.s.gr hW, h.f.gr hW⟩ (Or.inr hs))
  rw [hv] at HV
  have HI := Lib.hid (fun W => ms_isface m (i : Int) W)
  rw [decide_eq_true (by omega), decide_eq_true (by omega), Bool.and_self] at HI
  have HT := Lib.hid (fun W (hW : Gr w W) => ms_twice m (m.F.D i) W (h.s.gr hW) (Ms.vl_fc hv hi))
  obtain ⟨⟨a0, a1, a2, a3⟩, -⟩ := h.f.hD i hi
  have HFA := h.f.hA (by omega)
  have hfc := h.f.hc; have hfb := h.f.hb
  have hbb := World.block_lt_of_cell? _ _ a0
  have ib0 : (0 : Int) ≤ (i : Int) := by omega
  have ib1 : (i : Int) < (m.F.n : Int) := by omega
  clear h hs hv hq' q
  generalize Ms.tTn (Ms.tri m (m.F.D i)) = TV at *
  unfold Ba.Face.val at HT
  generalize m.F.D i = f at *
  unfold Ms.Mesh.val at *
  rw [HFA] at HV HI HT ⊢
  generalize m.S.A = sA at *; generalize m.S.n = sn at *; generalize m.S.c = sc at *; generalize m.F.n = fn at *; generalize m.F.c = fc at *
  generalize m.F.b = fb at *; generalize m.F.o = fo at *
  clear HFA
  -- @e0
  go_enter Tryd.func33, Tryd.ntmps33
  -- @e1
  go_wp2_with fail
  -- @e2
  refine (HV.out _ (by exact gr_auto)).mono ?_
  rintro e w1 ⟨rfl, hb1⟩
  clear HV
  have g1 : Gr w w1 := Gr.trans (by exact gr_auto) hb1
  have d0 := Gr.at hb1 (b := w.heap.size) (o := 0) (v := .slice sA sn sc) (by simp [go_sem])
  have d1 := Gr.at hb1 (b := w.heap.size) (o := 1) (v := .slice (some ⟨fb, fo, none⟩) fn fc) (by simp [go_sem])
  clear hb1
  -- @e3
  go_wp2_with fail
  -- @e4
  refine (HI.out _).mono ?_
  rintro e w2 ⟨rfl, hb2⟩
  clear HI
  replace a0 := Gr.at (g1.trans hb2) a0; replace a1 := Gr.at (g1.trans hb2) a1; replace a2 := Gr.at (g1.trans hb2) a2; replace a3 := Gr.at (g1.trans hb2) a3
  replace d0 := Gr.at hb2 d0; replace d1 := Gr.at hb2 d1
  have g2 := g1.trans hb2
  clear g1 hb2
  -- @wa
  go_wp2_with fail
  -- @wb
  (first | refine name_world ?_ | refine (show (∀ W, W = _ → Calls _ _ _ W _) → Calls _ _ _ _ _ from fun h => h _ rfl) ?_); intro W6 hW6
  have g6 : Gr w W6 := by rw [hW6]; exact gr_auto
  have gb6_w2 : Gr w2 W6 := by (try clear g6); rw [hW6]; exact gr_auto
  have k6_0 : W6.cell? ⟨w.heap.size, 0, none⟩ = some (.slice sA sn sc) := by rw [hW6]; first | (simp [go_sem, *]; done) | (refine Gr.at ?_ (by assumption); exact gr_auto)
  have b6_0 : w.heap.size < W6.heap.size := World.block_lt_of_cell? _ _ k6_0
  have k6_1 : W6.cell? ⟨w.heap.size, 1, none⟩ = some (.slice (some ⟨fb, fo, none⟩) fn fc) := by rw [hW6]; first | (simp [go_sem, *]; done) | (refine Gr.at ?_ (by assumption); exact gr_auto)
  have k6_2 : W6.cell? ⟨fb, fo + i * 4, none⟩ = some (.int .i64 f.a) := by rw [hW6]; first | (simp [go_sem, *]; done) | (refine Gr.at ?_ (by assumption); exact gr_auto)
  have b6_2 : fb < W6.heap.size := World.block_lt_of_cell? _ _ k6_2
  have k6_3 : W6.cell? ⟨fb, fo + i * 4 + 1, none⟩ = some (.int .i64 f.b) := by rw [hW6]; first | (simp [go_sem, *]; done) | (refine Gr.at ?_ (by assumption); exact gr_auto)
  have k6_4 : W6.cell? ⟨fb, fo + i * 4 + 2, none⟩ = some (.int .i64 f.c) := by rw [hW6]; first | (simp [go_sem, *]; done) | (refine Gr.at ?_ (by assumption); exact gr_auto)
  have k6_5 : W6.cell? ⟨fb, fo + i * 4 + 3, none⟩ = some (.int .i64 f.k) := by rw [hW6]; first | (simp [go_sem, *]; done) | (refine Gr.at ?_ (by assumption); exact gr_auto)
  clear hW6
  have s6_0 : ∀ gw : GW W6, gw.1.cell? ⟨w.heap.size, 0, none⟩ = some (.slice sA sn sc) := fun gw => Gr.at gw.2 k6_0
  have s6_1 : ∀ gw : GW W6, gw.1.cell? ⟨w.heap.size, 1, none⟩ = some (.slice (some ⟨fb, fo, none⟩) fn fc) := fun gw => Gr.at gw.2 k6_1
  have s6_2 : ∀ gw : GW W6, gw.1.cell? ⟨fb, fo + i * 4, none⟩ = some (.int .i64 f.a) := fun gw => Gr.at gw.2 k6_2
  have s6_3 : ∀ gw : GW W6, gw.1.cell? ⟨fb, fo + i * 4 + 1, none⟩ = some (.int .i64 f.b) := fun gw => Gr.at gw.2 k6_3
  have s6_4 : ∀ gw : GW W6, gw.1.cell? ⟨fb, fo + i * 4 + 2, none⟩ = some (.int .i64 f.c) := fun gw => Gr.at gw.2 k6_4
  have s6_5 : ∀ gw : GW W6, gw.1.cell? ⟨fb, fo + i * 4 + 3, none⟩ = some (.int .i64 f.k) := fun gw => Gr.at gw.2 k6_5
  have Q1 := Lib.hid (fun gw : GW W6 => gw_call (HT.out gw.1 (g2.trans (gb6_w2.trans gw.2))))
  refine wp_region_gr (by kernel_rfl) (by kernel_rfl) ?_
  repeat (go_big_quiet_step ((go_at_call 77; with_reducible exact Q1.out _)))
  refine wpQuiet_nil ?_
  intro w7 hb7
  clear s6_0 s6_1 s6_2 s6_3 s6_4 s6_5
  have g7 : Gr w w7 := g6.trans hb7
  have k6_0 := Gr.at hb7 k6_0
  have k6_1 := Gr.at hb7 k6_1
  have k6_2 := Gr.at hb7 k6_2
  have k6_3 := Gr.at hb7 k6_3
  have k6_4 := Gr.at hb7 k6_4
  have k6_5 := Gr.at hb7 k6_5
  -- @wc
  go_wp2_with fail
  go_ret2
  exact ⟨rfl, g2.trans (gb6_w2.trans hb7)⟩
namespace Ms
/-- The turns of the first i faces together. -/
def totI (m : Mesh) : Nat → Int
  | 0 => 0
  | i + 1 => totI m i + tTn (tri m (m.F.D i))
theorem tTn_bd {t : Tri} (h : tOk t) : -2251799813685248 ≤ tTn t ∧ tTn t ≤ 2251799813685248 := tr2_bd h.1 h.2.1 h.2.2.1 h.2.2.2.1 h.2.2.2.2.1 h.2.2.2.2.2
theorem totI_bd {m : Mesh} (hv : vlB m = true) : ∀ i, i ≤ m.F.n → -(2251799813685248 * (i : Int)) ≤ totI m i ∧ totI m i ≤ 2251799813685248 * (i : Int)
  | 0, _ => by simp [totI]
  | i + 1, h => by
    have a := totI_bd hv i (by omega)
    have b := tTn_bd (tri_ok (vl_fc hv (i := i) (by omega)))
    rw [totI]; omega
end Ms
set_option maxRecDepth 100000 in
set_option maxHeartbeats 4000000 in
theorem ms_total (m : Ms.Mesh) (w : World) (h : m.At w) (hs : m.S.n ≤ 61 ∧ m.F.n ≤ 61) (hv : Ms.vlB m = true) : Calls Tryd.prog 34 #[m.val] w fun e w' => e = .returned (.tuple #[.int .i64 (Ms.totI m m.F.n), .int .i64 0]) ∧ Gr w w' := by
  have HV := Lib.hid (fun W (hW : Gr w W) => ms_valid m W ⟨h.s.gr hW, h.f.gr hW⟩ (Or.inr hs))
  rw [hv] at HV
  have HT := Lib.hid (fun i (hi : i < m.F.n) W (hW : Gr w W) => ms_twice m (m.F.D i) W (h.s.gr hW) (Ms.vl_fc hv hi))
  have HFP := Lib.hid (fun i (hi : i < m.F.n) => h.f.hD i hi)
  have HFA := Lib.hid h.f.hA
  have hfc := h.f.hc; have hfb := h.f.hb
  have hn := hs.2
  have HBD := Lib.hid (fun i hi => Ms.totI_bd hv i hi)
  have HST := Lib.hid (fun i => show Ms.totI m (i + 1) = Ms.totI m i + Ms.tTn (Ms.tri m (m.F.D i)) from rfl)
  clear h hs hv
  unfold Ms.Mesh.val at *
  generalize m.S.A = sA at *; generalize m.S.n = sn at *; generalize m.S.c = sc at *
  obtain ⟨fA, hfA⟩ : ∃ A, m.F.A = A := ⟨_, rfl⟩; obtain ⟨fn, hfn⟩ : ∃ n, m.F.n = n := ⟨_, rfl⟩; obtain ⟨fc', hfc'⟩ : ∃ c, m.F.c = c := ⟨_, rfl⟩
  rw [hfA, hfn, hfc'] at HV HT ⊢
  rw [hfA, hfn] at HFA
  rw [hfn] at HFP hfc hn HBD
  rw [hfc'] at hfc hfb
  clear hfA hfn hfc'
  go_enter Tryd.func34, Tryd.ntmps34
  go_wp2_with fail
  refine (HV.out _ (by exact gr_auto)).mono ?_
  rintro e w1 ⟨rfl, hb1⟩
  clear HV
  have g1 : Gr w w1 := Gr.trans (by exact gr_auto) hb1
  have d0 := Gr.at hb1 (b := w.heap.size) (o := 0) (v := .slice sA sn sc) (by simp [go_sem])
  have d1 := Gr.at hb1 (b := w.heap.size) (o := 1) (v := .slice fA fn fc') (by simp [go_sem])
  clear hb1
  go_wp2_with fail
  go_loopw [4, 13] (fun v x wr => ∃ i : Nat, i ≤ fn ∧ x = .int .i64 (i : Int) ∧ v = .int .i64 (Ms.totI m i) ∧ Gr w1 wr) (fun _ x _ => fn - (intOf x).toNat)
  case atStart => exact ⟨0, Nat.zero_le _, rfl, rfl, Gr.refl _⟩
  case round =>
    obtain ⟨i, hi, rfl, rfl, hg⟩ := hrel
    rename World => W1
    replace d0 := Gr.at hg d0; replace d1 := Gr.at hg d1
    have gw := g1.trans hg
    by_cases hlt : i < fn
    · obtain rfl := HFA.out (by omega)
      have ib0 : (0 : Int) ≤ (i : Int) := by omega
      have ib1 : (i : Int) < (fn : Int) := by omega
      obtain ⟨⟨a0, a1, a2, a3⟩, fo⟩ := HFP.out i hlt
      replace a0 := Gr.at gw a0; replace a1 := Gr.at gw a1; replace a2 := Gr.at gw a2; replace a3 := Gr.at gw a3
      have HTi := Lib.hid (HT.out i hlt)
      have HSi := HST.out i
      have b1 := HBD.out i hi; have b2 := HBD.out (i + 1) hlt
      rw [HSi] at b2
      have HS2 := Lib.hid HSi
      clear HT HST HBD HFP HFA HSi
      generalize Ms.tTn (Ms.tri m (m.F.D i)) = tv at *
      unfold Ba.Face.val at HTi
      obtain ⟨f, hf⟩ : ∃ f, m.F.D i = f := ⟨_, rfl⟩
      simp only [hf] at a0 a1 a2 a3 HTi
      clear hf fo
      have bt1 : -9223372036854775808 ≤ Ms.totI m i + tv := by omega
      have bt2 : Ms.totI m i + tv ≤ 9223372036854775807 := by omega
      have zs := World.block_lt_of_cell? _ _ d0
      simp only at zs
      -- @a
      go_wp2_with fail
      -- @b
      refine (HTi.out _ (by exact gr_auto)).mono ?_
      rintro e w3 ⟨rfl, hb3⟩
      clear HTi
      have hg3 : Gr w1 w3 := hg.trans (Gr.trans (by exact gr_auto) hb3)
      clear b1 b2
      go_wp2_with fail
      -- @c
      go_roundw
      case rel => exact ⟨i + 1, by omega, by go_num, by rw [HS2.out], hg3⟩
      case measure => simp [intOf]; omega
    · obtain rfl : fn = i := by omega
      go_wp2_with fail
      -- @d
      go_ret2
      exact ⟨rfl, g1.trans hg⟩
end Go.Proofs.YtajhhplgcegodaaDoor
