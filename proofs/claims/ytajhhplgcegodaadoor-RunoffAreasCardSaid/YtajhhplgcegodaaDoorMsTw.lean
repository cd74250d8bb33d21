/-
  Surfaces: twice the area of a face: the program's and the reference's. (Printed by mktw.py.) No condition but what stands at each theorem.
-/
import Derived.Test.YtajhhplgcegodaaDoorGA7
import Derived.Test.YtajhhplgcegodaaDoorMsJ
set_option linter.unusedVariables false
set_option linter.unusedSimpArgs false
namespace Go.Proofs.YtajhhplgcegodaaDoor
open Go.RowKit
attribute [local go_sem ↓] Go.wp_at_zero Go.wp_at_succ
namespace Ms
theorem idx_nil {p : Nat → Bool} {n : Nat} (h : idx p n = []) (i : Nat) (hi : i < n) : p i = false := by
  cases e : p i with
  | false => rfl
  | true =>
    have := idx_mem.2 ⟨hi, e⟩
    rw [h] at this; cases this
theorem fnd_nil {m : Mesh} : ∀ {K k : Nat}, fnd m K = [] → k < K → ∀ i, i < num m k → kd m k i = false
  | 0, k, _, h => absurd h (by omega)
  | K + 1, k, h, hk => by
    rw [fnd, List.append_eq_nil_iff] at h
    by_cases e : k = K
    · subst e
      intro i hi
      exact idx_nil (List.map_eq_nil_iff.1 h.2) i hi
    · exact fnd_nil h.1 (by omega)
theorem vl_kd {m : Mesh} (h : vlB m = true) {k i : Nat} (hk : k < 7) (hi : i < num m k) : kd m k i = false := by
  unfold vlB at h
  rw [Bool.and_eq_true, List.isEmpty_iff] at h
  exact fnd_nil h.2 hk i hi
theorem vl_fc {m : Mesh} (h : vlB m = true) {i : Nat} (hi : i < m.F.n) : fcB m (m.F.D i) = true := by
  have h3 := vl_kd h (k := 3) (i := i) (by omega) (by unfold num; rw [if_neg (by omega)]; exact hi)
  simpa [kd] using h3
theorem vl_tn {m : Mesh} (h : vlB m = true) {i : Nat} (hi : i < m.F.n) : 0 < tTn (tri m (m.F.D i)) := by
  have h4 := vl_kd h (k := 4) (i := i) (by omega) (by unfold num; rw [if_neg (by omega)]; exact hi)
  have h3 := vl_fc h hi
  simpa [kd, h3] using h4
theorem tTn_bd {t : Tri} (h : tOk t) : -2251799813685248 ≤ tTn t ∧ tTn t ≤ 2251799813685248 := tr2_bd h.1 h.2.1 h.2.2.1 h.2.2.2.1 h.2.2.2.2.1 h.2.2.2.2.2
end Ms
set_option maxRecDepth 100000 in
set_option maxHeartbeats 4000000 in
theorem ms_twice (m : Ms.Mesh) (f : Ba.Face) (w : World) (h : m.S.At w) (hf : Ms.fcB m f = true) : Calls Tryd.prog 77 #[m.val, f.val] w fun e w' => e = .returned (.int .i64 (Ms.tTn (Ms.tri m f))) ∧ Gr w w' := by
  have HT := Lib.hid (fun W (hW : Gr w W) => ms_tri m f W (h.gr hW) hf)
  have htk := Ms.tri_ok hf
  clear h hf
  obtain ⟨t, ht⟩ : ∃ t, Ms.tri m f = t := ⟨_, rfl⟩
  rw [ht] at HT htk ⊢
  unfold Ba.Tri.val at HT
  unfold Ms.tOk at htk
  have HU := Lib.hid (fun W => ms_turn t.x0 t.y0 t.x1 t.y1 t.x2 t.y2 W htk.1 htk.2.1 htk.2.2.1 htk.2.2.2.1 htk.2.2.2.2.1 htk.2.2.2.2.2)
  clear ht htk
  unfold Ms.tTn
  generalize Ms.tr2 t.x0 t.y0 t.x1 t.y1 t.x2 t.y2 = v at *
  unfold Ba.Face.val at *
  unfold Ms.Mesh.val at *
  generalize m.S.A = sA at *; generalize m.S.n = sn at *; generalize m.S.c = sc at *; generalize m.F.A = fA at *; generalize m.F.n = fn at *; generalize m.F.c = fc at *
  obtain ⟨a, b, c, k⟩ := f
  simp only at *
  go_enter Tryd.func77, Tryd.ntmps77
  go_wp2_with fail
  refine (HT.out _ (by exact gr_auto)).mono ?_
  rintro e w1 ⟨rfl, hb1⟩
  clear HT
  have g1 : Gr w w1 := Gr.trans (by exact gr_auto) hb1
  -- @ta
  go_wp2_with fail
  -- @tb
  refine (HU.out _).mono ?_
  rintro e w2 ⟨rfl, hb2⟩
  go_wp2_with fail
  -- @tc
  go_ret
  exact ⟨rfl, by exact gr_auto⟩
set_option maxRecDepth 100000 in
set_option maxHeartbeats 4000000 in
theorem ms_isface (m : Ms.Mesh) (q : Int) (w : World) : Calls Tryd.prog 76 #[m.val, .int .i64 q] w fun e w' => e = .returned (.bool (decide (0 ≤ q) && decide (q < (m.F.n : Int)))) ∧ Gr w w' := by
  unfold Ms.Mesh.val at *
  generalize m.S.A = sA at *; generalize m.S.n = sn at *; generalize m.S.c = sc at *; generalize m.F.A = fA at *; generalize m.F.n = fn at *; generalize m.F.c = fc at *
  go_enter Tryd.func76, Tryd.ntmps76
  cases h1 : decide (0 ≤ q)
  · have := of_decide_eq_false h1
    go_wp2_with fail
    go_ret
    exact ⟨rfl, by exact gr_auto⟩
  · have := of_decide_eq_true h1
    go_wp2_with fail
    go_ret
    exact ⟨rfl, by exact gr_auto⟩
set_option maxRecDepth 100000 in
set_option maxHeartbeats 4000000 in
theorem ms_Twice_no (m : Ms.Mesh) (q : Int) (w : World) (h : m.At w) (hs : Ms.smB m = false ∨ (m.S.n ≤ 61 ∧ m.F.n ≤ 61)) (hv : Ms.vlB m = false) : Calls Tryd.prog 33 #[m.val, .int .i64 q] w fun e w' => e = .returned (.tuple #[.int .i64 0, .int .i64 1]) ∧ Gr w w' := by
  have HV := Lib.hid (fun W (hW : Gr w W) => ms_valid m W ⟨h.s.gr hW, h.f.gr hW⟩ hs)
  rw [hv] at HV
  clear h hs hv
  unfold Ms.Mesh.val at *
  generalize m.S.A = sA at *; generalize m.S.n = sn at *; generalize m.S.c = sc at *; generalize m.F.A = fA at *; generalize m.F.n = fn at *; generalize m.F.c = fc at *
  go_enter Tryd.func33, Tryd.ntmps33
  go_wp2_with fail
  refine (HV.out _ (by exact gr_auto)).mono ?_
  rintro e w1 ⟨rfl, hb1⟩
  clear HV
  have g1 : Gr w w1 := Gr.trans (by exact gr_auto) hb1
  go_wp2_with fail
  go_ret2
  exact ⟨rfl, g1⟩
set_option maxRecDepth 100000 in
set_option maxHeartbeats 4000000 in
theorem ms_Twice_range (m : Ms.Mesh) (q : Int) (w : World) (h : m.At w) (hs : m.S.n ≤ 61 ∧ m.F.n ≤ 61) (hv : Ms.vlB m = true) (hq : (decide (0 ≤ q) && decide (q < (m.F.n : Int))) = false) : Calls Tryd.prog 33 #[m.val, .int .i64 q] w fun e w' => e = .returned (.tuple #[.int .i64 0, .int .i64 2]) ∧ Gr w w' := by
  have HV := Lib.hid (fun W (hW : Gr w W) => ms_valid m W ⟨h.s.gr hW, h.f.gr hW⟩ (Or.inr hs))
  rw [hv] at HV
  have HI := Lib.hid (fun W => ms_isface m q W)
  rw [hq] at HI
  clear h hs hv hq
  unfold Ms.Mesh.val at *
  generalize m.S.A = sA at *; generalize m.S.n = sn at *; generalize m.S.c = sc at *; generalize m.F.A = fA at *; generalize m.F.n = fn at *; generalize m.F.c = fc at *
  -- @e0
  go_enter Tryd.func33, Tryd.ntmps33
  -- @e1
  go_wp2_with fail
  -- @e2
  refine (HV.out _ (by exact gr_auto)).mono ?_
  rintro e w1 ⟨rfl, hb1⟩
  clear HV
  have g1 : Gr w w1 := Gr.trans (by exact gr_auto) hb1
  have d0 := Gr.at hb1 (b := w.heap.size) (o := 0) (v := .slice sA sn sc) (by simp [go_sem])
  have d1 := Gr.at hb1 (b := w.heap.size) (o := 1) (v := .slice fA fn fc) (by simp [go_sem])
  clear hb1
  -- @e3
  go_wp2_with fail
  -- @e4
  refine (HI.out _).mono ?_
  rintro e w2 ⟨rfl, hb2⟩
  clear HI
  go_wp2_with fail
  go_ret2
  exact ⟨rfl, g1.trans hb2⟩
set_option maxRecDepth 100000 in
set_option maxHeartbeats 4000000 in
theorem ms_Twice (m : Ms.Mesh) (i : Nat) (w : World) (h : m.At w) (hs : m.S.n ≤ 61 ∧ m.F.n ≤ 61) (hv : Ms.vlB m = true) (hi : i < m.F.n) : Calls Tryd.prog 33 #[m.val, .int .i64 (i : Int)] w fun e w' => e = .returned (.tuple #[.int .i64 (Ms.tTn (Ms.tri m (m.F.D i))), .int .i64 0]) ∧ Gr w w' := by
  obtain ⟨q, hq'⟩ : ∃ q : Int, (i : Int) = q := ⟨_, rfl⟩
  have HV := Lib.hid (fun W (hW : Gr w W) => ms_valid m W ⟨h.s.gr hW, h.f.gr hW⟩ (Or.inr hs))
  rw [hv] at HV
  have HI := Lib.hid (fun W => ms_isface m (i : Int) W)
  rw [decide_eq_true (by omega), decide_eq_true (by omega), Bool.and_self] at HI
  have HT := Lib.hid (fun W (hW : Gr w W) => ms_twice m (m.F.D i) W (h.s.gr hW) (Ms.vl_fc hv hi))
  obtain ⟨⟨a0, a1, a2, a3⟩, -⟩ := h.f.hD i hi
  have HFA := h.f.hA (by omega)
  have hfc := h.f.hc; have hfb := h.f.hb
  have hbb := World.block_lt_of_cell? _ _ a0
  have ib0 : (0 : Int) ≤ (i : Int) := by omega
  have ib1 : (i : Int) < (m.F.n : Int) := by omega
  clear h hs hv hq' q
  generalize Ms.tTn (Ms.tri m (m.F.D i)) = TV at *
  unfold Ba.Face.val at HT
  generalize m.F.D i = f at *
  unfold Ms.Mesh.val at *
  rw [HFA] at HV HI HT ⊢
  generalize m.S.A = sA at *; generalize m.S.n = sn at *; generalize m.S.c = sc at *; generalize m.F.n = fn at *; generalize m.F.c = fc at *
  generalize m.F.b = fb at *; generalize m.F.o = fo at *
  clear HFA
  -- @e0
  go_enter Tryd.func33, Tryd.ntmps33
  -- @e1
  go_wp2_with fail
  -- @e2
  refine (HV.out _ (by exact gr_auto)).mono ?_
  rintro e w1 ⟨rfl, hb1⟩
  clear HV
  have g1 : Gr w w1 := Gr.trans (by exact gr_auto) hb1
  have d0 := Gr.at hb1 (b := w.heap.size) (o := 0) (v := .slice sA sn sc) (by simp [go_sem])
  have d1 := Gr.at hb1 (b := w.heap.size) (o := 1) (v := .slice (some ⟨fb, fo, none⟩) fn fc) (by simp [go_sem])
  clear hb1
  -- @e3
  go_wp2_with fail
  -- @e4
  refine (HI.out _).mono ?_
  rintro e w2 ⟨rfl, hb2⟩
  clear HI
  replace a0 := Gr.at (g1.trans hb2) a0; replace a1 := Gr.at (g1.trans hb2) a1; replace a2 := Gr.at (g1.trans hb2) a2; replace a3 := Gr.at (g1.trans hb2) a3
  replace d0 := Gr.at hb2 d0; replace d1 := Gr.at hb2 d1
  have g2 := g1.trans hb2
  clear g1 hb2
  -- @wa
  go_wp2_with fail
  -- @wb
  (first | refine name_world ?_ | refine (show (∀ W, W = _ → Calls _ _ _ W _) → Calls _ _ _ _ _ from fun h => h _ rfl) ?_); intro W6 hW6
  have g6 : Gr w W6 := by rw [hW6]; exact gr_auto
  have gb6_w2 : Gr w2 W6 := by (try clear g6); rw [hW6]; exact gr_auto
  have k6_0 : W6.cell? ⟨w.heap.size, 0, none⟩ = some (.slice sA sn sc) := by rw [hW6]; first | (simp [go_sem, *]; done) | (refine Gr.at ?_ (by assumption); exact gr_auto)
  have b6_0 : w.heap.size < W6.heap.size := World.block_lt_of_cell? _ _ k6_0
  have k6_1 : W6.cell? ⟨w.heap.size, 1, none⟩ = some (.slice (some ⟨fb, fo, none⟩) fn fc) := by rw [hW6]; first | (simp [go_sem, *]; done) | (refine Gr.at ?_ (by assumption); exact gr_auto)
  have k6_2 : W6.cell? ⟨fb, fo + i * 4, none⟩ = some (.int .i64 f.a) := by rw [hW6]; first | (simp [go_sem, *]; done) | (refine Gr.at ?_ (by assumption); exact gr_auto)
  have b6_2 : fb < W6.heap.size := World.block_lt_of_cell? _ _ k6_2
  have k6_3 : W6.cell? ⟨fb, fo + i * 4 + 1, none⟩ = some (.int .i64 f.b) := by rw [hW6]; first | (simp [go_sem, *]; done) | (refine Gr.at ?_ (by assumption); exact gr_auto)
  have k6_4 : W6.cell? ⟨fb, fo + i * 4 + 2, none⟩ = some (.int .i64 f.c) := by rw [hW6]; first | (simp [go_sem, *]; done) | (refine Gr.at ?_ (by assumption); exact gr_auto)
  have k6_5 : W6.cell? ⟨fb, fo + i * 4 + 3, none⟩ = some (.int .i64 f.k) := by rw [hW6]; first | (simp [go_sem, *]; done) | (refine Gr.at ?_ (by assumption); exact gr_auto)
  clear hW6
  have s6_0 : ∀ gw : GW W6, gw.1.cell? ⟨w.heap.size, 0, none⟩ = some (.slice sA sn sc) := fun gw => Gr.at gw.2 k6_0
  have s6_1 : ∀ gw : GW W6, gw.1.cell? ⟨w.heap.size, 1, none⟩ = some (.slice (some ⟨fb, fo, none⟩) fn fc) := fun gw => Gr.at gw.2 k6_1
  have s6_2 : ∀ gw : GW W6, gw.1.cell? ⟨fb, fo + i * 4, none⟩ = some (.int .i64 f.a) := fun gw => Gr.at gw.2 k6_2
  have s6_3 : ∀ gw : GW W6, gw.1.cell? ⟨fb, fo + i * 4 + 1, none⟩ = some (.int .i64 f.b) := fun gw => Gr.at gw.2 k6_3
  have s6_4 : ∀ gw : GW W6, gw.1.cell? ⟨fb, fo + i * 4 + 2, none⟩ = some (.int .i64 f.c) := fun gw => Gr.at gw.2 k6_4
  have s6_5 : ∀ gw : GW W6, gw.1.cell? ⟨fb, fo + i * 4 + 3, none⟩ = some (.int .i64 f.k) := fun gw => Gr.at gw.2 k6_5
  have Q1 := Lib.hid (fun gw : GW W6 => gw_call (HT.out gw.1 (g2.trans (gb6_w2.trans gw.2))))
  refine wp_region_gr (by kernel_rfl) (by kernel_rfl) ?_
  repeat (go_big_quiet_step ((go_at_call 77; with_reducible exact Q1.out _)))
  refine wpQuiet_nil ?_
  intro w7 hb7
  clear s6_0 s6_1 s6_2 s6_3 s6_4 s6_5
  have g7 : Gr w w7 := g6.trans hb7
  have k6_0 := Gr.at hb7 k6_0
  have k6_1 := Gr.at hb7 k6_1
  have k6_2 := Gr.at hb7 k6_2
  have k6_3 := Gr.at hb7 k6_3
  have k6_4 := Gr.at hb7 k6_4
  have k6_5 := Gr.at hb7 k6_5
  -- @wc
  go_wp2_with fail
  go_ret2
  exact ⟨rfl, g2.trans (gb6_w2.trans hb7)⟩
set_option maxRecDepth 100000 in
set_option maxHeartbeats 4000000 in
theorem rs_Twice (m : Ms.Mesh) (i : Nat) (w : World) (h : m.At w) (hv : Ms.vlB m = true) (hi : i < m.F.n) : Calls Tryd.prog 37 #[m.val, .int .i64 (i : Int)] w fun e w' => e = .returned (.int .i64 (Ms.tTn (Ms.tri m (m.F.D i)))) ∧ Gr w w' := by
  have HT := Lib.hid (fun W (hW : Gr w W) => rs_fturn m (m.F.D i) W (h.s.gr hW) (Ms.vl_fc hv hi))
  obtain ⟨⟨a0, a1, a2, a3⟩, -⟩ := h.f.hD i hi
  have HFA := h.f.hA (by omega)
  have hfc := h.f.hc; have hfb := h.f.hb
  have hbb := World.block_lt_of_cell? _ _ a0
  have ib0 : (0 : Int) ≤ (i : Int) := by omega
  have ib1 : (i : Int) < (m.F.n : Int) := by omega
  clear h hv
  generalize Ms.tTn (Ms.tri m (m.F.D i)) = TV at *
  unfold Ba.Face.val at HT
  generalize m.F.D i = f at *
  unfold Ms.Mesh.val at *
  rw [HFA] at HT ⊢
  generalize m.S.A = sA at *; generalize m.S.n = sn at *; generalize m.S.c = sc at *; generalize m.F.n = fn at *; generalize m.F.c = fc at *
  generalize m.F.b = fb at *; generalize m.F.o = fo at *
  clear HFA
  go_enter Tryd.func37, Tryd.ntmps37
  go_wp2_with fail
  obtain ⟨W1, hW1⟩ : ∃ W, w.alloc (Obj.cells #[.slice sA sn sc, .slice (some ⟨fb, fo, none⟩) fn fc] 25) = W := ⟨_, rfl⟩
  have g1 : Gr w W1 := hW1 ▸ Gr.alloc (Gr.refl w) _
  have d0 : W1.cell? ⟨w.heap.size, 0, none⟩ = some (.slice sA sn sc) := by rw [← hW1]; simp [go_sem]
  have d1 : W1.cell? ⟨w.heap.size, 1, none⟩ = some (.slice (some ⟨fb, fo, none⟩) fn fc) := by rw [← hW1]; simp [go_sem]
  replace a0 := Gr.at g1 a0; replace a1 := Gr.at g1 a1; replace a2 := Gr.at g1 a2; replace a3 := Gr.at g1 a3
  try rw [hW1]
  clear hW1
  -- @d
  (first | refine name_world ?_ | refine (show (∀ W, W = _ → Calls _ _ _ W _) → Calls _ _ _ _ _ from fun h => h _ rfl) ?_); intro W6 hW6
  have g6 : Gr w W6 := by rw [hW6]; exact gr_auto
  have gb6_W1 : Gr W1 W6 := by (try clear g6); rw [hW6]; exact gr_auto
  have k6_0 : W6.cell? ⟨w.heap.size, 0, none⟩ = some (.slice sA sn sc) := by rw [hW6]; first | (simp [go_sem, *]; done) | (refine Gr.at ?_ (by assumption); exact gr_auto)
  have b6_0 : w.heap.size < W6.heap.size := World.block_lt_of_cell? _ _ k6_0
  have k6_1 : W6.cell? ⟨w.heap.size, 1, none⟩ = some (.slice (some ⟨fb, fo, none⟩) fn fc) := by rw [hW6]; first | (simp [go_sem, *]; done) | (refine Gr.at ?_ (by assumption); exact gr_auto)
  have k6_2 : W6.cell? ⟨fb, fo + i * 4, none⟩ = some (.int .i64 f.a) := by rw [hW6]; first | (simp [go_sem, *]; done) | (refine Gr.at ?_ (by assumption); exact gr_auto)
  have b6_2 : fb < W6.heap.size := World.block_lt_of_cell? _ _ k6_2
  have k6_3 : W6.cell? ⟨fb, fo + i * 4 + 1, none⟩ = some (.int .i64 f.b) := by rw [hW6]; first | (simp [go_sem, *]; done) | (refine Gr.at ?_ (by assumption); exact gr_auto)
  have k6_4 : W6.cell? ⟨fb, fo + i * 4 + 2, none⟩ = some (.int .i64 f.c) := by rw [hW6]; first | (simp [go_sem, *]; done) | (refine Gr.at ?_ (by assumption); exact gr_auto)
  have k6_5 : W6.cell? ⟨fb, fo + i * 4 + 3, none⟩ = some (.int .i64 f.k) := by rw [hW6]; first | (simp [go_sem, *]; done) | (refine Gr.at ?_ (by assumption); exact gr_auto)
  clear hW6
  have s6_0 : ∀ gw : GW W6, gw.1.cell? ⟨w.heap.size, 0, none⟩ = some (.slice sA sn sc) := fun gw => Gr.at gw.2 k6_0
  have s6_1 : ∀ gw : GW W6, gw.1.cell? ⟨w.heap.size, 1, none⟩ = some (.slice (some ⟨fb, fo, none⟩) fn fc) := fun gw => Gr.at gw.2 k6_1
  have s6_2 : ∀ gw : GW W6, gw.1.cell? ⟨fb, fo + i * 4, none⟩ = some (.int .i64 f.a) := fun gw => Gr.at gw.2 k6_2
  have s6_3 : ∀ gw : GW W6, gw.1.cell? ⟨fb, fo + i * 4 + 1, none⟩ = some (.int .i64 f.b) := fun gw => Gr.at gw.2 k6_3
  have s6_4 : ∀ gw : GW W6, gw.1.cell? ⟨fb, fo + i * 4 + 2, none⟩ = some (.int .i64 f.c) := fun gw => Gr.at gw.2 k6_4
  have s6_5 : ∀ gw : GW W6, gw.1.cell? ⟨fb, fo + i * 4 + 3, none⟩ = some (.int .i64 f.k) := fun gw => Gr.at gw.2 k6_5
  have Q1 := Lib.hid (fun gw : GW W6 => gw_call (HT.out gw.1 (g1.trans (gb6_W1.trans gw.2))))
  refine wp_region_gr (by kernel_rfl) (by kernel_rfl) ?_
  repeat (go_big_quiet_step ((go_at_call 67; with_reducible exact Q1.out _)))
  refine wpQuiet_nil ?_
  intro w7 hb7
  clear s6_0 s6_1 s6_2 s6_3 s6_4 s6_5
  have g7 : Gr w w7 := g6.trans hb7
  have k6_0 := Gr.at hb7 k6_0
  have k6_1 := Gr.at hb7 k6_1
  have k6_2 := Gr.at hb7 k6_2
  have k6_3 := Gr.at hb7 k6_3
  have k6_4 := Gr.at hb7 k6_4
  have k6_5 := Gr.at hb7 k6_5
  go_wp2_with fail
  go_ret
  exact ⟨rfl, g1.trans (gb6_W1.trans hb7)⟩
end Go.Proofs.YtajhhplgcegodaaDoor
