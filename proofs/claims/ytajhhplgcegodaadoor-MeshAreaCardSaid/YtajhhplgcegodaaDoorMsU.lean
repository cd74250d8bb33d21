/-
  Surfaces: the reference's Across.
-/
import Derived.Test.YtajhhplgcegodaaDoorMsT
set_option linter.unusedVariables false
set_option linter.unusedSimpArgs false
namespace Go.Proofs.YtajhhplgcegodaaDoor
open Go.RowKit
namespace Ms
/-- Across side k of face i. -/
def acO (m : Mesh) (i k : Nat) : Option Nat := sdO m (cor (m.F.D i) (k + 1)) (cor (m.F.D i) k)
theorem sdV_two (o : Option Nat) : ∃ x y : Int, sdV o = .tuple #[.int .i64 x, .int .i64 y] := by
  cases o with
  | none => exact ⟨-1, 0, rfl⟩
  | some t => exact ⟨_, _, rfl⟩
end Ms
set_option maxRecDepth 100000 in
set_option maxHeartbeats 4000000 in
theorem rs_across (m : Ms.Mesh) (i k : Nat) (hi : i < m.F.n) (hk : k < 3) (w : World) (h : m.F.At w) : Calls Tryd.prog 73 #[m.val, .int .i64 (i : Int), .int .i64 (k : Int)] w fun e w' => e = .returned (Ms.sdV (Ms.acO m i k)) ∧ Gr w w' := by
  obtain ⟨⟨a0, a1, a2, a3⟩, fo⟩ := h.hD i hi
  have HFA := h.hA (by omega)
  have hfc := h.hc; have hfb := h.hb
  have hb1 := World.block_lt_of_cell? _ _ a0
  have HSD := Lib.hid (fun W (hW : Gr w W) => rs_side m (Ms.cor (m.F.D i) (k + 1)) (Ms.cor (m.F.D i) k) W (h.gr hW))
  have HC1 := Lib.hid (fun W => rs_corner (m.F.D i) k (by omega) W); have HC2 := Lib.hid (fun W => rs_corner (m.F.D i) (k + 1) (by omega) W)
  obtain ⟨p, q, hv⟩ := Ms.sdV_two (Ms.sdO m (Ms.cor (m.F.D i) (k + 1)) (Ms.cor (m.F.D i) k))
  unfold Ms.acO
  rw [hv] at HSD ⊢
  clear hv h fo
  rw [show ((k + 1 : Nat) : Int) = (k : Int) + 1 from by omega] at HC2
  unfold Ms.Mesh.val at *
  rw [HFA] at HSD ⊢
  generalize m.S.A = sA at *; generalize m.S.n = sn at *; generalize m.S.c = sc at *
  generalize m.F.n = fn at *; generalize m.F.c = fc' at *
  generalize Ms.cor (m.F.D i) k = x at *; generalize Ms.cor (m.F.D i) (k + 1) = y at *
  generalize m.F.D i = f at *
  unfold Ba.Face.val at HC1 HC2
  generalize m.F.b = fb at *; generalize m.F.o = fo at *
  have ib0 : (0 : Int) ≤ (i : Int) := by omega
  have ib1 : (i : Int) < (fn : Int) := by omega
  have kb0 : (0 : Int) ≤ (k : Int) := by omega
  have kb1 : (k : Int) < 3 := by omega
  clear HFA
  go_enter Tryd.func73, Tryd.ntmps73
  -- @a
  go_upto_region 2 with fail
  -- @b
  obtain ⟨W5, hW5⟩ : ∃ W, ((w.alloc (Obj.cells #[.slice sA sn sc, .slice (some ⟨fb, fo, none⟩) fn fc'] 25)).alloc (Obj.cells #[.int .i64 f.a, .int .i64 f.b, .int .i64 f.c, .int .i64 f.k] 43)) = W := ⟨_, rfl⟩
  have g5 : Gr w W5 := hW5 ▸ (Gr.trans (Gr.alloc (Gr.refl w) _) (Gr.alloc (Gr.refl _) _))
  have z0 : W5.cell? ⟨w.heap.size, 0, none⟩ = some (.slice sA sn sc) := by rw [← hW5]; simp [go_sem]
  have z1 : W5.cell? ⟨w.heap.size, 1, none⟩ = some (.slice (some ⟨fb, fo, none⟩) fn fc') := by rw [← hW5]; simp [go_sem]
  have f0 : W5.cell? ⟨w.heap.size + 1, 0, none⟩ = some (.int .i64 f.a) := by rw [← hW5]; simp [go_sem]
  have f1 : W5.cell? ⟨w.heap.size + 1, 1, none⟩ = some (.int .i64 f.b) := by rw [← hW5]; simp [go_sem]
  have f2 : W5.cell? ⟨w.heap.size + 1, 2, none⟩ = some (.int .i64 f.c) := by rw [← hW5]; simp [go_sem]
  have f3 : W5.cell? ⟨w.heap.size + 1, 3, none⟩ = some (.int .i64 f.k) := by rw [← hW5]; simp [go_sem]
  rw [hW5]
  clear hW5 a0 a1 a2 a3
  -- @c
  (first | refine name_world ?_ | refine (show (∀ W, W = _ → Calls _ _ _ W _) → Calls _ _ _ _ _ from fun h => h _ rfl) ?_); intro W6 hW6
  have g6 : Gr w W6 := by rw [hW6]; exact gr_auto
  have gb6_W5 : Gr W5 W6 := by (try clear g6); rw [hW6]; exact gr_auto
  have k6_0 : W6.cell? ⟨w.heap.size, 0, none⟩ = some (.slice sA sn sc) := by rw [hW6]; first | (simp [go_sem, *]; done) | (refine Gr.at ?_ (by assumption); exact gr_auto)
  have b6_0 : w.heap.size < W6.heap.size := World.block_lt_of_cell? _ _ k6_0
  have k6_1 : W6.cell? ⟨w.heap.size, 1, none⟩ = some (.slice (some ⟨fb, fo, none⟩) fn fc') := by rw [hW6]; first | (simp [go_sem, *]; done) | (refine Gr.at ?_ (by assumption); exact gr_auto)
  have k6_2 : W6.cell? ⟨w.heap.size + 1, 0, none⟩ = some (.int .i64 f.a) := by rw [hW6]; first | (simp [go_sem, *]; done) | (refine Gr.at ?_ (by assumption); exact gr_auto)
  have b6_2 : w.heap.size + 1 < W6.heap.size := World.block_lt_of_cell? _ _ k6_2
  have k6_3 : W6.cell? ⟨w.heap.size + 1, 1, none⟩ = some (.int .i64 f.b) := by rw [hW6]; first | (simp [go_sem, *]; done) | (refine Gr.at ?_ (by assumption); exact gr_auto)
  have k6_4 : W6.cell? ⟨w.heap.size + 1, 2, none⟩ = some (.int .i64 f.c) := by rw [hW6]; first | (simp [go_sem, *]; done) | (refine Gr.at ?_ (by assumption); exact gr_auto)
  have k6_5 : W6.cell? ⟨w.heap.size + 1, 3, none⟩ = some (.int .i64 f.k) := by rw [hW6]; first | (simp [go_sem, *]; done) | (refine Gr.at ?_ (by assumption); exact gr_auto)
  clear hW6
  have s6_0 : ∀ gw : GW W6, gw.1.cell? ⟨w.heap.size, 0, none⟩ = some (.slice sA sn sc) := fun gw => Gr.at gw.2 k6_0
  have s6_1 : ∀ gw : GW W6, gw.1.cell? ⟨w.heap.size, 1, none⟩ = some (.slice (some ⟨fb, fo, none⟩) fn fc') := fun gw => Gr.at gw.2 k6_1
  have s6_2 : ∀ gw : GW W6, gw.1.cell? ⟨w.heap.size + 1, 0, none⟩ = some (.int .i64 f.a) := fun gw => Gr.at gw.2 k6_2
  have s6_3 : ∀ gw : GW W6, gw.1.cell? ⟨w.heap.size + 1, 1, none⟩ = some (.int .i64 f.b) := fun gw => Gr.at gw.2 k6_3
  have s6_4 : ∀ gw : GW W6, gw.1.cell? ⟨w.heap.size + 1, 2, none⟩ = some (.int .i64 f.c) := fun gw => Gr.at gw.2 k6_4
  have s6_5 : ∀ gw : GW W6, gw.1.cell? ⟨w.heap.size + 1, 3, none⟩ = some (.int .i64 f.k) := fun gw => Gr.at gw.2 k6_5
  have Q1 := Lib.hid (fun gw : GW W6 => gw_call (HC1.out gw.1))
  have Q2 := Lib.hid (fun gw : GW W6 => gw_call (HC2.out gw.1))
  have Q3 := Lib.hid (fun gw : GW W6 => gw_call (HSD.out gw.1 (g5.trans (gb6_W5.trans gw.2))))
  refine wp_region_gr (by kernel_rfl) (by kernel_rfl) ?_
  repeat (go_big_quiet_step (first | (go_at_call 74; with_reducible exact Q1.out _) | (go_at_call 74; with_reducible exact Q2.out _) | (go_at_call 99; with_reducible exact Q3.out _)))
  refine wpQuiet_nil ?_
  intro w7 hb7
  clear s6_0 s6_1 s6_2 s6_3 s6_4 s6_5
  have g7 : Gr w w7 := g6.trans hb7
  have k6_0 := Gr.at hb7 k6_0
  have k6_1 := Gr.at hb7 k6_1
  have k6_2 := Gr.at hb7 k6_2
  have k6_3 := Gr.at hb7 k6_3
  have k6_4 := Gr.at hb7 k6_4
  have k6_5 := Gr.at hb7 k6_5
  -- @d
  go_wp2_with fail
  go_ret2
  exact ⟨rfl, g5.trans (gb6_W5.trans hb7)⟩
end Go.Proofs.YtajhhplgcegodaaDoor
