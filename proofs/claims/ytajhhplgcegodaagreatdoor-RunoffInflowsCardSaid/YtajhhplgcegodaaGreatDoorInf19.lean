/-
  Surfaces: mesh.Check. (Printed by mkf.py.)
-/
import Derived.Test.YtajhhplgcegodaaGreatDoorInf18
import Derived.Test.YtajhhplgcegodaaGreatDoorInf08
import Derived.Deep.DeepCutAuto
import Derived.Deep.RegionWith
set_option linter.unusedVariables false
set_option linter.unusedSimpArgs false
namespace Go.Proofs.YtajhhplgcegodaaGreatDoor
open Go.RowKit
attribute [local go_sem ↓] Go.wp_at_zero Go.wp_at_succ
theorem info_int : (Tryz.prog.info? 3).map (fun i => (i.zero, i.size, i.bytes)) = some (some (.int .i64 0), 1, 8) := by kernel_rfl
theorem info_bool : (Tryz.prog.info? 4).map (fun i => (i.zero, i.size, i.bytes)) = some (some (.bool false), 1, 1) := by kernel_rfl
theorem info_tri : (Tryz.prog.info? 171).map (fun i => (i.zero, i.size, i.bytes)) = some (some (.agg #[.int .i64 0, .int .i64 0, .int .i64 0, .int .i64 0, .int .i64 0, .int .i64 0]), 6, 48) := by kernel_rfl
theorem info_fnd : (Tryz.prog.info? 128).map (fun i => (i.zero, i.size, i.bytes)) = some (some (.agg #[.int .i64 0, .string ⟨#[]⟩]), 2, 24) := by kernel_rfl
set_option maxRecDepth 100000 in
set_option maxHeartbeats 8000000 in
theorem ms_check_big (m : Ms.Mesh) (w : World) (hs : Ms.smB m = false) : Calls Tryz.prog 75 #[m.val] w fun e w' => e = .returned (.tuple #[.slice none 0 0, .int .i64 4]) ∧ Gr w w' := by
  have HS := Lib.hid (fun W => ms_small m W)
  rw [hs] at HS
  clear hs
  unfold Ms.Mesh.val at *
  generalize m.S.A = sA at *; generalize m.S.n = sn at *; generalize m.S.c = sc at *; generalize m.F.A = fA at *; generalize m.F.n = fn at *; generalize m.F.c = fc at *
  go_enter Tryz.func75, Tryz.ntmps75
  go_wp2_with fail
  refine (HS.out _).mono ?_
  rintro e w1 ⟨rfl, hb1⟩
  clear HS
  go_wp2_with fail
  go_ret2
  exact ⟨rfl, gr_auto⟩
theorem ix7_0 (V : Nat → Value) (w : World) : (Instr.index 163 (.agg #[V 0, V 1, V 2, V 3, V 4, V 5, V 6]) (.int .i64 0)).run Tryz.prog w = .ok (V 0) w := by kernel_rfl
theorem ix7_1 (V : Nat → Value) (w : World) : (Instr.index 163 (.agg #[V 0, V 1, V 2, V 3, V 4, V 5, V 6]) (.int .i64 1)).run Tryz.prog w = .ok (V 1) w := by kernel_rfl
theorem ix7_2 (V : Nat → Value) (w : World) : (Instr.index 163 (.agg #[V 0, V 1, V 2, V 3, V 4, V 5, V 6]) (.int .i64 2)).run Tryz.prog w = .ok (V 2) w := by kernel_rfl
theorem ix7_3 (V : Nat → Value) (w : World) : (Instr.index 163 (.agg #[V 0, V 1, V 2, V 3, V 4, V 5, V 6]) (.int .i64 3)).run Tryz.prog w = .ok (V 3) w := by kernel_rfl
theorem ix7_4 (V : Nat → Value) (w : World) : (Instr.index 163 (.agg #[V 0, V 1, V 2, V 3, V 4, V 5, V 6]) (.int .i64 4)).run Tryz.prog w = .ok (V 4) w := by kernel_rfl
theorem ix7_5 (V : Nat → Value) (w : World) : (Instr.index 163 (.agg #[V 0, V 1, V 2, V 3, V 4, V 5, V 6]) (.int .i64 5)).run Tryz.prog w = .ok (V 5) w := by kernel_rfl
theorem ix7_6 (V : Nat → Value) (w : World) : (Instr.index 163 (.agg #[V 0, V 1, V 2, V 3, V 4, V 5, V 6]) (.int .i64 6)).run Tryz.prog w = .ok (V 6) w := by kernel_rfl
theorem ix7 (V : Nat → Value) (k : Nat) (hk : k < 7) (w : World) : (Instr.index 163 (.agg #[V 0, V 1, V 2, V 3, V 4, V 5, V 6]) (.int .i64 (k : Int))).run Tryz.prog w = .ok (V k) w := by
  rcases (by omega : k = 0 ∨ k = 1 ∨ k = 2 ∨ k = 3 ∨ k = 4 ∨ k = 5 ∨ k = 6) with rfl | rfl | rfl | rfl | rfl | rfl | rfl
  · exact ix7_0 V w
  · exact ix7_1 V w
  · exact ix7_2 V w
  · exact ix7_3 V w
  · exact ix7_4 V w
  · exact ix7_5 V w
  · exact ix7_6 V w
theorem zero_bool (w : World) : (zeroValue 4).run Tryz.prog w = .ok (.bool false) w := by kernel_rfl
def RetChk (m : Ms.Mesh) (w : World) (e : Ending) (w' : World) : Prop := ∃ v, e = .returned (.tuple #[v, .int .i64 0]) ∧ w'.ownsRow w.heap.size 128 2 v (Ms.fnd m 7).length (Ms.ff (Ms.fnd m 7)) ∧ Gr w w'
set_option maxRecDepth 100000 in
set_option maxHeartbeats 8000000 in
theorem ms_check (m : Ms.Mesh) (w : World) (h : m.At w) (hs : m.S.n ≤ 61) (hf : m.F.n ≤ 61) : Calls Tryz.prog 75 #[m.val] w (RetChk m w) := by
  have HS := Lib.hid (fun W => ms_small m W)
  rw [show Ms.smB m = true by unfold Ms.smB; rw [decide_eq_true (by omega), decide_eq_true (by omega)]; rfl] at HS
  have HSP := Lib.hid (fun i (hi : i < m.S.n) => h.s.hD i hi)
  have HFP := Lib.hid (fun i (hi : i < m.F.n) => h.f.hD i hi)
  have HSA := Lib.hid h.s.hA; have HFA := Lib.hid h.f.hA
  have HR := Lib.hid (fun i (_ : i < m.S.n) W => ms_right (m.S.D i) W)
  have HPT := Lib.hid (fun i (hi : i < m.S.n) W (hW : Gr w W) => ms_point m i W (h.s.gr hW) hi)
  have HTR := Lib.hid (fun f W (hW : Gr w W) (hf : Ms.fcB m f = true) => ms_tri m f W (h.s.gr hW) hf)
  have HCK := Lib.hid (fun x BX G W (h0 : W.cell? ⟨w.heap.size, 0, none⟩ = some (.slice m.S.A m.S.n m.S.c)) (h1 : W.cell? ⟨BX, 0, none⟩ = some (.slice (some ⟨G, 0, none⟩) m.S.n m.S.n)) (hr : ∀ j, j < m.S.n → W.cell? ⟨G, j, none⟩ = some (.bool (!Ms.spB (m.S.D j)))) => ms_ck1 m x w.heap.size BX G W (by omega) h0 h1 hr)
  have hsc := h.s.hc; have hsb := h.s.hb; have hfc := h.f.hc; have hfb := h.f.hb
  obtain ⟨ib, hi0, hz0, hz1, hz2⟩ := info_parts info_bool
  have KB := Lib.hid hi0; have KB0 := Lib.hid hz0; have KB1 := Lib.hid hz1; have KB2 := Lib.hid hz2
  clear hi0 hz0 hz1 hz2
  obtain ⟨ii, hi0, hz0, hz1, hz2⟩ := info_parts info_int
  have KI := Lib.hid hi0; have KI0 := Lib.hid hz0; have KI1 := Lib.hid hz1; have KI2 := Lib.hid hz2
  clear hi0 hz0 hz1 hz2
  obtain ⟨it, hi0, hz0, hz1, hz2⟩ := info_parts info_tri
  have TI := Lib.hid hi0; have TI0 := Lib.hid hz0; have TI1 := Lib.hid hz1; have TI2 := Lib.hid hz2
  clear hi0 hz0 hz1 hz2
  obtain ⟨ig, hi0, hz0, hz1, hz2⟩ := info_parts info_fnd
  have GI := Lib.hid hi0; have GI0 := Lib.hid hz0; have GI1 := Lib.hid hz1; have GI2 := Lib.hid hz2
  clear hi0 hz0 hz1 hz2
  clear h
  unfold Ms.Mesh.val at *
  obtain ⟨sA, hsA⟩ : ∃ A, m.S.A = A := ⟨_, rfl⟩; obtain ⟨sn, hsn⟩ : ∃ n, m.S.n = n := ⟨_, rfl⟩; obtain ⟨sc, hsc'⟩ : ∃ c, m.S.c = c := ⟨_, rfl⟩
  obtain ⟨fA, hfA⟩ : ∃ A, m.F.A = A := ⟨_, rfl⟩; obtain ⟨fn, hfn⟩ : ∃ n, m.F.n = n := ⟨_, rfl⟩; obtain ⟨fc, hfc'⟩ : ∃ c, m.F.c = c := ⟨_, rfl⟩
  rw [hsA, hsn, hsc', hfA, hfn, hfc'] at HS HPT HTR ⊢
  rw [hsA, hsn, hsc'] at HCK
  rw [hsA, hsn] at HSA
  rw [hfA, hfn] at HFA
  rw [hsn] at HSP HR hs hsc
  rw [hfn] at HFP hf hfc
  rw [hsc'] at hsc hsb
  rw [hfc'] at hfc hfb
  have HN := Lib.hid (And.intro hsn (And.intro hfn (And.intro hsA (And.intro hsc' (And.intro hfA hfc')))))
  clear hsA hsn hsc' hfA hfn hfc'
  have hmm := @run_makeMap Tryz.prog
  go_enter Tryz.func75, Tryz.ntmps75
  go_wp2_with fail
  refine (HS.out _).mono ?_
  rintro e w1 ⟨rfl, hb1⟩
  clear HS
  have d0 := Gr.at hb1 (b := w.heap.size) (o := 0) (v := .slice sA sn sc) (by simp [go_sem])
  have d1 := Gr.at hb1 (b := w.heap.size) (o := 1) (v := .slice fA fn fc) (by simp [go_sem])
  have g1 : Gr w w1 := Gr.trans (by exact gr_auto) hb1
  have zz1 := Gr.size hb1
  simp at zz1
  have z1 : w.heap.size < w1.heap.size := by omega
  clear hb1
  go_wp2_with (at_make; refine wpList_make_full _ rfl _ _ _ rfl w.heap.size 4 ib (.bool false) 1 Tryz.underlying164 KB.out KB0.out KB1.out .i64 .i64 sn sn sn rfl rfl rfl rfl ?d1 ?d2 ?d3 ?_)
  case d1 => rw [KB2.out]; omega
  case d2 => unfold maxLen; omega
  case d3 => simp; omega
  intro w2 hown hgrow
  have hg12 : Gr w1 w2 := (Gr.alloc (Gr.refl w1) _).trans (grown_gr hgrow)
  have g2 := g1.trans hg12
  have hrow := Lib.hid (made_row hown)
  have HFB := Lib.hid (fun k (hk : k < 7) => Own.gr (b := w1.heap.size) (o := k) (v := .slice none 0 0) (w := w1.alloc (Obj.cells #[.slice none 0 0, .slice none 0 0, .slice none 0 0, .slice none 0 0, .slice none 0 0, .slice none 0 0, .slice none 0 0] 163)) ⟨by match k, hk with | 0, _ => simp [go_sem] | 1, _ => simp [go_sem] | 2, _ => simp [go_sem] | 3, _ => simp [go_sem] | 4, _ => simp [go_sem] | 5, _ => simp [go_sem] | 6, _ => simp [go_sem], by match k, hk with | 0, _ => simp [go_sem] | 1, _ => simp [go_sem] | 2, _ => simp [go_sem] | 3, _ => simp [go_sem] | 4, _ => simp [go_sem] | 5, _ => simp [go_sem] | 6, _ => simp [go_sem]⟩ (grown_gr hgrow))
  have zz2 := hgrow.size
  simp at zz2
  replace d0 := Gr.at hg12 d0; replace d1 := Gr.at hg12 d1
  clear hown hgrow
  have y0 : w.heap.size < w2.heap.size := by omega
  go_wp2_with fail
  refine name_world ?_; intro W0 hW0
  have gb0 : Gr w2 W0 := by rw [hW0]; exact gr_auto
  have g0 : Gr w W0 := g2.trans gb0
  have e0 : W0.cell? ⟨w2.heap.size, 0, none⟩ = some (.slice (some ⟨w1.heap.size + 1, 0, none⟩) sn sn) := by rw [hW0]; simp [go_sem]
  have HM := Lib.hid (show MapIs Tryz.prog 61 W0 (w2.heap.size + 1) 0 (Ms.setF (Ms.atP m 0)) from by rw [hW0, ← Ms.atP_nil]; exact map_made (by simp))
  have hz0 : W0.heap.size = w2.heap.size + 2 := by rw [hW0]; simp
  clear hW0
  replace d0 := Gr.at gb0 d0; replace d1 := Gr.at gb0 d1
  have HF := Lib.hid (show Fnd W0 W0.heap.size w1.heap.size 7 (fun _ => .slice none 0 0) (Ms.lst m 0 0) from ⟨fun k hk => (HFB.out k hk).gr gb0, Fam.nil.as (fun k _ => by show (Ms.idx _ _).length = 0; split <;> rfl) (fun k _ => by show ((Ms.idx _ _).map _) = []; split <;> rfl)⟩)
  have HW := Lib.hid (show Row W0 (w1.heap.size + 1) sn (fun j => .bool (if j < 0 then !Ms.spB (m.S.D j) else false)) from fun j hj => by show Own W0 _ j (.bool (if j < 0 then _ else false)); rw [if_neg (by omega)]; exact (hrow.out j hj).gr gb0)
  have hG : 0 < sn → w1.heap.size + 1 < w2.heap.size := fun hn => World.block_lt_of_cell? _ _ (hrow.out 0 hn).1
  have HGl := Lib.hid hG
  clear hrow HFB hG gb0 hg12 g2
  obtain ⟨FB, hFB⟩ : ∃ z, w1.heap.size = z := ⟨_, rfl⟩
  obtain ⟨BX, hBX⟩ : ∃ z, w2.heap.size = z := ⟨_, rfl⟩
  simp only [hFB, hBX] at HF HW HM HGl e0 hz0 zz2 z1
  rw [hFB, hBX]
  clear hFB hBX y0 g1
  obtain ⟨MB, hMB⟩ : ∃ z, BX + 1 = z := ⟨_, rfl⟩
  obtain ⟨G, hGe⟩ : ∃ z, FB + 1 = z := ⟨_, rfl⟩
  rw [hMB] at HM ⊢
  rw [hGe] at HW e0 HGl ⊢
  obtain ⟨base, hbase⟩ : ∃ z, W0.heap.size = z := ⟨_, rfl⟩
  rw [hbase] at HF hz0
  have hb0 : base ≤ W0.heap.size := by omega
  have HZ := Lib.hid (show (w.heap.size < FB ∧ FB < BX ∧ FB < G ∧ BX < MB ∧ MB < base ∧ FB < base) ∧ (0 < sn → G < BX) ∧ G = FB + 1 ∧ MB = BX + 1 from ⟨by omega, HGl.out, by omega, by omega⟩)
  clear hMB hGe hbase hz0 zz2 HGl zz1 z1
  go_loopw [33] (fun x wr => ∃ (i : Nat) (V : Nat → Value), i ≤ sn ∧ x = .int .i64 (i : Int) ∧ Hid (Fnd wr base FB 7 V (Ms.lst m i 0)) ∧ Hid (Row wr G sn (fun j => .bool (if j < i then !Ms.spB (m.S.D j) else false))) ∧ Hid (MapIs Tryz.prog 61 wr MB i (Ms.setF (Ms.atP m i))) ∧ wr.cell? ⟨BX, 0, none⟩ = some (.slice (some ⟨G, 0, none⟩) sn sn) ∧ wr.cell? ⟨w.heap.size, 0, none⟩ = some (.slice sA sn sc) ∧ wr.cell? ⟨w.heap.size, 1, none⟩ = some (.slice fA fn fc) ∧ base ≤ wr.heap.size ∧ Gr w wr) (fun x _ => sn - (intOf x).toNat)
  case atStart => exact ⟨0, _, Nat.zero_le _, rfl, HF, HW, HM, e0, d0, d1, hb0, g0⟩
  case round =>
    clear HF HW HM e0 d0 d1 hb0 g0
    obtain ⟨i, V, hi, rfl, HF, HW, HM, e0, d0, d1, hb, gr⟩ := hrel
    by_cases hlt : i < sn
    · obtain rfl := HSA.out (by omega)
      obtain ⟨⟨s0, s1, s2⟩, so⟩ := HSP.out i hlt
      have ib0 : (0 : Int) ≤ (i : Int) := by omega
      have ib1 : (i : Int) < (sn : Int) := by omega
      replace s0 := Gr.at gr s0; replace s1 := Gr.at gr s1; replace s2 := Gr.at gr s2
      have HRi := Lib.hid (HR.out i hlt)
      have HPi := Lib.hid (fun W (hW : Gr w W) => HPT.out i hlt W hW)
      clear HSP HR HPT HFP HTR HCK
      obtain ⟨q1, hq1⟩ : ∃ q, Ms.spB (m.S.D i) = q := ⟨_, rfl⟩
      obtain ⟨s, hs_⟩ : ∃ s, m.S.D i = s := ⟨_, rfl⟩
      rw [hq1] at HRi
      simp only [hs_] at HRi HPi s0 s1 s2 so
      unfold Ba.Spot.val at HRi
      have hGi : G < BX := HZ.out.2.1 (by omega)
      have og := HW.out i hlt
      go_wp2_with fail
      (first | refine name_world ?_ | refine (show (∀ W, W = _ → Calls _ _ _ W _) → Calls _ _ _ _ _ from fun h => h _ rfl) ?_); intro W1 hW1
      have g1 : Gr w W1 := by rw [hW1]; exact gr_auto
      have gb1_wr : Gr wr W1 := by (try clear g1); rw [hW1]; exact gr_auto
      have k1_0 : W1.cell? ⟨BX, 0, none⟩ = some (.slice (some ⟨G, 0, none⟩) sn sn) := by rw [hW1]; first | (simp [go_sem, *]; done) | (refine Gr.at ?_ (by assumption); exact gr_auto)
      have b1_0 : BX < W1.heap.size := World.block_lt_of_cell? _ _ k1_0
      have k1_1 : W1.cell? ⟨wr.heap.size, 0, none⟩ = some (.int .i64 s.x) := by rw [hW1]; first | (simp [go_sem, *]; done) | (refine Gr.at ?_ (by assumption); exact gr_auto)
      have b1_1 : wr.heap.size < W1.heap.size := World.block_lt_of_cell? _ _ k1_1
      have k1_2 : W1.cell? ⟨wr.heap.size, 1, none⟩ = some (.int .i64 s.y) := by rw [hW1]; first | (simp [go_sem, *]; done) | (refine Gr.at ?_ (by assumption); exact gr_auto)
      have k1_3 : W1.cell? ⟨wr.heap.size, 2, none⟩ = some (.int .i64 s.z) := by rw [hW1]; first | (simp [go_sem, *]; done) | (refine Gr.at ?_ (by assumption); exact gr_auto)
      have k1_4 : W1.cell? ⟨w.heap.size, 0, none⟩ = some (.slice (some ⟨m.S.b, m.S.o, none⟩) sn sc) := by rw [hW1]; first | (simp [go_sem, *]; done) | (refine Gr.at ?_ (by assumption); exact gr_auto)
      have b1_4 : w.heap.size < W1.heap.size := World.block_lt_of_cell? _ _ k1_4
      have k1_5 : W1.cell? ⟨w.heap.size, 1, none⟩ = some (.slice fA fn fc) := by rw [hW1]; first | (simp [go_sem, *]; done) | (refine Gr.at ?_ (by assumption); exact gr_auto)
      clear hW1
      have s1_0 : ∀ gw : GW W1, gw.1.cell? ⟨BX, 0, none⟩ = some (.slice (some ⟨G, 0, none⟩) sn sn) := fun gw => Gr.at gw.2 k1_0
      have s1_1 : ∀ gw : GW W1, gw.1.cell? ⟨wr.heap.size, 0, none⟩ = some (.int .i64 s.x) := fun gw => Gr.at gw.2 k1_1
      have s1_2 : ∀ gw : GW W1, gw.1.cell? ⟨wr.heap.size, 1, none⟩ = some (.int .i64 s.y) := fun gw => Gr.at gw.2 k1_2
      have s1_3 : ∀ gw : GW W1, gw.1.cell? ⟨wr.heap.size, 2, none⟩ = some (.int .i64 s.z) := fun gw => Gr.at gw.2 k1_3
      have s1_4 : ∀ gw : GW W1, gw.1.cell? ⟨w.heap.size, 0, none⟩ = some (.slice (some ⟨m.S.b, m.S.o, none⟩) sn sc) := fun gw => Gr.at gw.2 k1_4
      have s1_5 : ∀ gw : GW W1, gw.1.cell? ⟨w.heap.size, 1, none⟩ = some (.slice fA fn fc) := fun gw => Gr.at gw.2 k1_5
      have HRq := Lib.hid (fun gw : GW W1 => gw_call (HRi.out gw.1))
      have og1 := og.gr gb1_wr
      refine wp_region_gr_tail 6 (by kernel_rfl) (by kernel_rfl) ?_
      simp only [List.take_succ_cons, List.take_zero, List.drop_succ_cons, List.drop_zero]
      repeat (go_big_quiet_step ((go_at_call 127; with_reducible exact HRq.out _)))
      refine wpQuiet_nil ?_
      intro w3 hb3
      clear s1_0 s1_1 s1_2 s1_3 s1_4 s1_5
      have g3 : Gr w w3 := g1.trans hb3
      have k1_0 := Gr.at hb3 k1_0
      have k1_1 := Gr.at hb3 k1_1
      have k1_2 := Gr.at hb3 k1_2
      have k1_3 := Gr.at hb3 k1_3
      have k1_4 := Gr.at hb3 k1_4
      have k1_5 := Gr.at hb3 k1_5
      clear HRq HRi
      have og3 := og1.gr hb3
      have gw3 : Gr wr w3 := gb1_wr.trans hb3
      have hz3 := Gr.size gw3
      have x3 := og3.1; have y3 := og3.2
      have HZ2 := Lib.hid (And.intro HZ.out.1 hGi)
      obtain ⟨⟨zw, zF, zFG, zB, zM, zFb⟩, zG⟩ := HZ2.out
      cases q1
      · obtain ⟨W4, hW4⟩ : ∃ W, w3.setCell ⟨G, i, none⟩ (.bool true) = W := ⟨_, rfl⟩
        have gx4 : GrX G w3 W4 := hW4 ▸ GrX.setCell (GrX.refl G w3) rfl _
        have e4 : W4.cell? ⟨BX, 0, none⟩ = some (.slice (some ⟨G, 0, none⟩) sn sn) := GrX.at gx4 (by omega) k1_0
        have d40 : W4.cell? ⟨w.heap.size, 0, none⟩ = some (.slice (some ⟨m.S.b, m.S.o, none⟩) sn sc) := GrX.at gx4 (by omega) k1_4; have d41 : W4.cell? ⟨w.heap.size, 1, none⟩ = some (.slice fA fn fc) := GrX.at gx4 (by omega) k1_5
        have u4 : W4.cell? ⟨G, i, none⟩ = some (.bool true) := by rw [← hW4]; exact (Own.set og3).1
        have HF4 := Lib.hid ((HF.out.gr gw3).grx gx4 (by omega) (by omega))
        have HW4 := Lib.hid (show Row W4 G sn (fun j => .bool (if j < i + 1 then !Ms.spB (m.S.D j) else false)) from hW4 ▸ Row.set (k := i) (u := .bool true) (HW.out.gr gw3) (by show Value.bool (if i < i + 1 then _ else false) = _; rw [if_pos (by omega), hq1]; rfl) (fun j hj hne => by show Value.bool (if j < i + 1 then _ else false) = .bool (if j < i then _ else false); by_cases c : j < i; rw [if_pos c, if_pos (by omega)]; rw [if_neg c, if_neg (by omega)]))
        have HM4 := Lib.hid ((HM.out.gr gw3).grx gx4 (by omega))
        have hb4 : base ≤ W4.heap.size := by have := gx4.size; omega
        have G4 : Gr w W4 := GrX.gr (gr.trans gw3) (by omega) gx4
        have g34 : Gr wr W4 ∨ True := Or.inr trivial
        clear g34
        have hk1 : Ms.kd m 1 i = true := by show (!Ms.spB (m.S.D i)) = true; rw [hq1]; rfl
        have hk2 : Ms.kd m 2 i = false := by show (Ms.spB (m.S.D i) && _) = false; rw [hq1]; rfl
        have HL := Lib.hid (Ms.lst_push (j := 0) (by omega) hk1 (fun q h1 h2 => by rw [Ms.kd12 hk1 hk2 q h1, if_neg h2]; split <;> rfl))
        rw [← Ms.atP_far (i := i) hq1] at HM4
        replace hW4 := hW4
        go_upto_region 11 with fail
        clear HF HW HM e0 d0 d1 hb gr x3 y3 og1 og3 k1_0 k1_1 k1_2 k1_3 k1_4 k1_5 gx4 gw3 hb3 g3 gb1_wr g1 b1_0 b1_1 b1_4 s0 s1 s2 hz3 hk1 hk2 hq1
        have aaj := Lib.hid (HF4.out.gr (Gr.alloc (Gr.refl W4) (Obj.cells #[.int .i64 (i : Int)] 3)))
        have ccj := (HF4.out.cel 1 (by omega)).1
        have cbj := World.block_lt_of_cell? _ _ ccj
        have llj : (Ms.lst m i 0 1).length ≤ 61 := by unfold Ms.lst; refine Nat.le_trans (Ms.idx_le _ _) ?_; split <;> omega
        go_wp2_with (at_builtin; refine wpList_append_lies _ rfl _ _ 26 rfl base 3 ii (.int .i64 0) 1 8 Tryz.underlying26 KI.out KI0.out KI1.out KI2.out rfl (by decide) (V 1) (Ms.lst m i 0 1).length (fi (Ms.lst m i 0 1)) rfl (aaj.out.row (by omega)) ⟨W4.heap.size, 0, none⟩ 1 1 [.int .i64 (i : Int)] rfl rfl (by intro p u hp; rcases p with _ | p <;> simp at hp <;> (try subst hp) <;> first | (simp [Addr.add, go_sem]; done) | (simp [Addr.add]; done)) (by intro u hu; simp at hu; subst hu; rfl) (by decide) (by unfold maxLen; omega) (by omega) (by simp; omega) _ rfl ?_)
        intro ggj ppj vj hoj hrj htj hlj
        have hBj := own_below (aaj.out.row (by omega)) hrj (by simp; omega)
        have ooj := ((aaj.out.cel 1 (by omega))).below hBj (by omega)
        have oxj := ooj.1; have oyj := ooj.2
        obtain ⟨W6, hW6⟩ : ∃ W, vj.setCell ⟨FB, 1, none⟩ (.slice (some ⟨ggj, 0, none⟩) ((Ms.lst m i 0 1).length + 1) ppj) = W := ⟨_, rfl⟩
        have gxj : GrX FB vj W6 := hW6 ▸ GrX.setCell (GrX.refl FB _) rfl _
        have HF6 := Lib.hid (show Fnd W6 base FB 7 _ _ from hW6 ▸ aaj.out.push (by omega) (by omega) (by simp; omega) hoj hrj (by rcases htj with h | h; exact .inl h; exact .inr (by rw [h]; simp)) (fun q _ => HL.out q))
        have HW6 := Lib.hid (((HW4.out.gr (Gr.alloc (Gr.refl _) _)).below hBj (fun _ => by omega)).grx gxj (fun _ => by omega))
        have HM6 := Lib.hid (((HM4.out.gr (Gr.alloc (Gr.refl _) _)).below hBj (by omega)).grx gxj (by omega))
        have e6 := GrX.at gxj (by omega) ((Below.cell hBj (p := ⟨BX, 0, none⟩) (by show BX < base; omega)).trans (Gr.at (Gr.alloc (Gr.refl _) _) e4))
        have d60 := GrX.at gxj (by omega) ((Below.cell hBj (p := ⟨w.heap.size, 0, none⟩) (by show w.heap.size < base; omega)).trans (Gr.at (Gr.alloc (Gr.refl _) _) d40))
        have d61 := GrX.at gxj (by omega) ((Below.cell hBj (p := ⟨w.heap.size, 1, none⟩) (by show w.heap.size < base; omega)).trans (Gr.at (Gr.alloc (Gr.refl _) _) d41))
        have zBj := Below.size hBj; have zXj := gxj.size
        simp at zBj
        have hb6 : base ≤ W6.heap.size := by omega
        have G6 : Gr w W6 := GrX.gr (Gr.own (G4.trans (Gr.alloc (Gr.refl _) _)) (by omega) (aaj.out.row (by omega)) hrj) (by omega) gxj
        clear aaj ccj cbj llj hoj hrj htj hlj hBj ooj gxj zBj zXj HF4 HW4 HM4 e4 d40 d41 hb4 G4
        clear u4 HL
        go_wp2_with fail
        go_roundw
        case rel => exact ⟨i + 1, _, by omega, by go_num, HF6, HW6, (Lib.hid (HM6.out.mono (Nat.le_succ i))), e6, d60, d61, hb6, G6⟩
        case measure => simp [intOf]; omega
      · obtain ⟨W4, hW4⟩ : ∃ W, w3.setCell ⟨G, i, none⟩ (.bool false) = W := ⟨_, rfl⟩
        have gx4 : GrX G w3 W4 := hW4 ▸ GrX.setCell (GrX.refl G w3) rfl _
        have e4 : W4.cell? ⟨BX, 0, none⟩ = some (.slice (some ⟨G, 0, none⟩) sn sn) := GrX.at gx4 (by omega) k1_0
        have d40 : W4.cell? ⟨w.heap.size, 0, none⟩ = some (.slice (some ⟨m.S.b, m.S.o, none⟩) sn sc) := GrX.at gx4 (by omega) k1_4; have d41 : W4.cell? ⟨w.heap.size, 1, none⟩ = some (.slice fA fn fc) := GrX.at gx4 (by omega) k1_5
        have u4 : W4.cell? ⟨G, i, none⟩ = some (.bool false) := by rw [← hW4]; exact (Own.set og3).1
        have HF4 := Lib.hid ((HF.out.gr gw3).grx gx4 (by omega) (by omega))
        have HW4 := Lib.hid (show Row W4 G sn (fun j => .bool (if j < i + 1 then !Ms.spB (m.S.D j) else false)) from hW4 ▸ Row.set (k := i) (u := .bool false) (HW.out.gr gw3) (by show Value.bool (if i < i + 1 then _ else false) = _; rw [if_pos (by omega), hq1]; rfl) (fun j hj hne => by show Value.bool (if j < i + 1 then _ else false) = .bool (if j < i then _ else false); by_cases c : j < i; rw [if_pos c, if_pos (by omega)]; rw [if_neg c, if_neg (by omega)]))
        have HM4 := Lib.hid ((HM.out.gr gw3).grx gx4 (by omega))
        have hb4 : base ≤ W4.heap.size := by have := gx4.size; omega
        have G4 : Gr w W4 := GrX.gr (gr.trans gw3) (by omega) gx4
        have g34 : Gr wr W4 ∨ True := Or.inr trivial
        clear g34
        obtain ⟨dup, hdup⟩ : ∃ q, Ba.any (fun j => Ms.spB (m.S.D j) && ((m.S.D j).x == s.x && (m.S.D j).y == s.y)) i = q := ⟨_, rfl⟩
        have HAT := Lib.hid (Ms.setF_of (P := Ms.atP m i) (key := Ms.k2 s.x s.y) (b := dup) (by rw [← hdup]; exact Ms.atP_iff m i s.x s.y))
        have hk1 : Ms.kd m 1 i = false := by show (!Ms.spB (m.S.D i)) = false; rw [hq1]; rfl
        have hk2 : Ms.kd m 2 i = dup := by show (Ms.spB (m.S.D i) && Ba.any (fun j => Ms.spB (m.S.D j) && ((m.S.D j).x == (m.S.D i).x && (m.S.D j).y == (m.S.D i).y)) i) = dup; rw [hq1, hs_, hdup]; rfl
        have HNR := Lib.hid (Ms.atP_near (i := i) hq1)
        rw [hs_] at HNR
        obtain ⟨kl, hkl⟩ := key_point so.1 so.2.1
        have HKL := Lib.hid hkl
        clear hkl hdup
        have pf := HPi.out W4 G4
        replace pf := Lib.hid pf
        go_upto_region 12 with fail
        clear HF HW HM e0 d0 d1 hb gr x3 y3 og1 og3 k1_0 k1_1 k1_2 k1_3 k1_4 k1_5 gx4 gw3 hb3 g3 gb1_wr g1 b1_0 b1_1 b1_4 s0 s1 s2 hz3 hq1 u4 hs_ HPi
        go_wp2_with fail
        refine pf.out.mono ?_
        rintro e w5 ⟨rfl, hb5⟩
        clear pf
        obtain ⟨W5, hW5⟩ : ∃ W, w5.alloc (Obj.cells #[.int .i64 s.x, .int .i64 s.y] 61) = W := ⟨_, rfl⟩
        have gb5 : Gr W4 W5 := hW5 ▸ hb5.trans (Gr.alloc (Gr.refl _) _)
        have HF5 := Lib.hid (HF4.out.gr gb5); have HW5 := Lib.hid (HW4.out.gr gb5); have HM5 := Lib.hid (HM4.out.gr gb5); have e5 := Gr.at gb5 e4; have d50 := Gr.at gb5 d40; have d51 := Gr.at gb5 d41; have G5 := G4.trans gb5
        have z45 := Gr.size hb5
        have z5 : W5.heap.size = w5.heap.size + 1 := by rw [← hW5]; simp
        have hb5_ : base ≤ W5.heap.size := by omega
        have zbw : base ≤ w5.heap.size := by omega
        have c05 : W5.cell? ⟨w5.heap.size, 0, none⟩ = some (.int .i64 s.x) := by rw [← hW5]; simp [go_sem]
        have c15 : W5.cell? ⟨w5.heap.size, 1, none⟩ = some (.int .i64 s.y) := by rw [← hW5]; simp [go_sem]
        have HFR := Lib.hid (fun q (hq : q < 7) => own_fresh (HF4.out.row hq) z45)
        clear HF4 HW4 HM4 e4 d40 d41 G4 gb5 hb4 hb5
        have hb5 := hb5_; clear hb5_ z5
        have hlk : (Instr.lookup 165 (.map (some MB)) (.agg #[.int .i64 s.x, .int .i64 s.y]) false).run Tryz.prog W5 = .ok (.bool dup) W5 := by
          have z := HM5.out.look false keyed_point Tryz.underlying165 (zero_bool W5) HKL.out
          rw [if_neg (by decide), HAT.out] at z
          exact z
        clear HAT
        cases dup
        · have HL := Lib.hid (Ms.lst_stay (j := 0) (fun q hq => by rw [Ms.kd12 hk1 hk2 q hq]; split <;> (try rfl); split <;> rfl))
          clear hk1 hk2 HFR
          obtain ⟨w8, hrun, hst, hgb, hgx⟩ := HM5.out.store (val := .bool true) keyed_point Tryz.underlying165 HKL.out
          have HM8 := Lib.hid (hst (Ms.setF (Ms.atP m (i + 1))) (by rw [HNR.out]; exact (Ms.setF_add _).1) (fun x hx => by rw [HNR.out]; exact (Ms.setF_add _).2 x hx))
          have HF8 := Lib.hid ((HF5.out.grx hgx (by omega) (by omega)).as (fun q _ => HL.out q))
          have HW8 := Lib.hid (HW5.out.grx hgx (fun _ => by omega))
          have e8 := GrX.at hgx (by omega) e5; have d80 := GrX.at hgx (by omega) d50; have d81 := GrX.at hgx (by omega) d51
          have hb8 : base ≤ w8.heap.size := by have := hgx.size; omega
          have G8 : Gr w w8 := GrX.gr G5 (by omega) hgx
          clear hst hgb hgx HF5 HW5 HM5 e5 d50 d51 hb5 G5
          unfold Ms.k2 at hrun
          go_wp2_with fail
          go_roundw
          case rel => exact ⟨i + 1, _, by omega, by go_num, HF8, HW8, HM8, e8, d80, d81, hb8, G8⟩
          case measure => simp [intOf]; omega
        · have HL := Lib.hid (Ms.lst_push (j := 0) (by omega) hk2 (fun q h1 h2 => by rw [Ms.kd12 hk1 hk2 q h1, if_neg h2]; split <;> rfl))
          clear hk1 hk2
          go_upto_region 14 with fail
          have aak := Lib.hid (HF5.out.gr (Gr.alloc (Gr.refl W5) (Obj.cells #[.int .i64 (i : Int)] 3)))
          have cck := (HF5.out.cel 2 (by omega)).1
          have cbk := World.block_lt_of_cell? _ _ cck
          have llk : (Ms.lst m i 0 2).length ≤ 61 := by unfold Ms.lst; refine Nat.le_trans (Ms.idx_le _ _) ?_; split <;> omega
          go_wp2_with (at_builtin; refine wpList_append_lies _ rfl _ _ 26 rfl base 3 ii (.int .i64 0) 1 8 Tryz.underlying26 KI.out KI0.out KI1.out KI2.out rfl (by decide) (V 2) (Ms.lst m i 0 2).length (fi (Ms.lst m i 0 2)) rfl (aak.out.row (by omega)) ⟨W5.heap.size, 0, none⟩ 1 1 [.int .i64 (i : Int)] rfl rfl (by intro p u hp; rcases p with _ | p <;> simp at hp <;> (try subst hp) <;> first | (simp [Addr.add, go_sem]; done) | (simp [Addr.add]; done)) (by intro u hu; simp at hu; subst hu; rfl) (by decide) (by unfold maxLen; omega) (by omega) (by simp; omega) _ rfl ?_)
          intro ggk ppk vk hok hrk htk hlk
          have hBk := own_below (aak.out.row (by omega)) hrk (by simp; omega)
          have ook := ((aak.out.cel 2 (by omega))).below hBk (by omega)
          have oxk := ook.1; have oyk := ook.2
          obtain ⟨W7, hW7⟩ : ∃ W, vk.setCell ⟨FB, 2, none⟩ (.slice (some ⟨ggk, 0, none⟩) ((Ms.lst m i 0 2).length + 1) ppk) = W := ⟨_, rfl⟩
          have gxk : GrX FB vk W7 := hW7 ▸ GrX.setCell (GrX.refl FB _) rfl _
          have HF7 := Lib.hid (show Fnd W7 base FB 7 _ _ from hW7 ▸ aak.out.push (by omega) (by omega) (by simp; omega) hok hrk (by rcases htk with h | h; exact .inl h; exact .inr (by rw [h]; simp)) (fun q _ => HL.out q))
          have HW7 := Lib.hid (((HW5.out.gr (Gr.alloc (Gr.refl _) _)).below hBk (fun _ => by omega)).grx gxk (fun _ => by omega))
          have HM7 := Lib.hid (((HM5.out.gr (Gr.alloc (Gr.refl _) _)).below hBk (by omega)).grx gxk (by omega))
          have e7 := GrX.at gxk (by omega) ((Below.cell hBk (p := ⟨BX, 0, none⟩) (by show BX < base; omega)).trans (Gr.at (Gr.alloc (Gr.refl _) _) e5))
          have d70 := GrX.at gxk (by omega) ((Below.cell hBk (p := ⟨w.heap.size, 0, none⟩) (by show w.heap.size < base; omega)).trans (Gr.at (Gr.alloc (Gr.refl _) _) d50))
          have d71 := GrX.at gxk (by omega) ((Below.cell hBk (p := ⟨w.heap.size, 1, none⟩) (by show w.heap.size < base; omega)).trans (Gr.at (Gr.alloc (Gr.refl _) _) d51))
          have c07 := GrX.at gxk (by omega) (World.grownBy.cell hrk (a := ⟨w5.heap.size, 0, none⟩) (Gr.at (Gr.alloc (Gr.refl _) _) c05) (HFR.out 2 (by omega)))
          have c17 := GrX.at gxk (by omega) (World.grownBy.cell hrk (a := ⟨w5.heap.size, 1, none⟩) (Gr.at (Gr.alloc (Gr.refl _) _) c15) (HFR.out 2 (by omega)))
          have zBk := Below.size hBk; have zXk := gxk.size
          simp at zBk
          have hb7 : base ≤ W7.heap.size := by omega
          have G7 : Gr w W7 := GrX.gr (Gr.own (G5.trans (Gr.alloc (Gr.refl _) _)) (by omega) (aak.out.row (by omega)) hrk) (by omega) gxk
          clear aak cck cbk llk hok hrk htk hlk hBk ook gxk zBk zXk HF5 HW5 HM5 e5 d50 d51 hb5 G5
          obtain ⟨w8, hrun, hst, hgb, hgx⟩ := HM7.out.store (val := .bool true) keyed_point Tryz.underlying165 HKL.out
          have HM8 := Lib.hid (hst (Ms.setF (Ms.atP m (i + 1))) (by rw [HNR.out]; exact (Ms.setF_add _).1) (fun x hx => by rw [HNR.out]; exact (Ms.setF_add _).2 x hx))
          have HF8 := Lib.hid (HF7.out.grx hgx (by omega) (by omega))
          have HW8 := Lib.hid (HW7.out.grx hgx (fun _ => by omega))
          have e8 := GrX.at hgx (by omega) e7; have d80 := GrX.at hgx (by omega) d70; have d81 := GrX.at hgx (by omega) d71
          have hb8 : base ≤ w8.heap.size := by have := hgx.size; omega
          have G8 : Gr w w8 := GrX.gr G7 (by omega) hgx
          clear hst hgb hgx HF7 HW7 HM7 e7 d70 d71 hb7 G7
          unfold Ms.k2 at hrun
          go_wp2_with fail
          go_roundw
          case rel => exact ⟨i + 1, _, by omega, by go_num, HF8, HW8, HM8, e8, d80, d81, hb8, G8⟩
          case measure => simp [intOf]; omega
    · obtain rfl : i = sn := by omega
      have HWf := Lib.hid (fun q (hq : q < i) => show wr.cell? ⟨G, q, none⟩ = some (.bool (!Ms.spB (m.S.D q))) from by have z := (HW.out q hq).1; simp only [if_pos hq] at z; exact z)
      clear HSP HR HPT HM HW hlt hi
      have y0 : w.heap.size < wr.heap.size := World.block_lt_of_cell? _ _ d1
      have y1 : w.heap.size ≠ wr.heap.size := by omega
      go_wp2_with fail
      clear y0 y1
      obtain ⟨W2, hW2⟩ : ∃ W, wr.alloc (Obj.map #[] 0) = W := ⟨_, rfl⟩
      obtain ⟨TB, hTB⟩ : ∃ b, wr.heap.size = b := ⟨_, rfl⟩
      have gb2 : Gr wr W2 := hW2 ▸ Gr.alloc (Gr.refl _) _
      have zW2 : W2.heap.size = TB + 1 := by rw [← hW2, ← hTB]; simp
      have hS2 := Lib.hid (show St w base FB (fun b => b = TB) W2 V (Ms.lst m i 0) (.slice none 0 0) (Ms.snl m 0) from ⟨HF.out.gr gb2, World.ownsRow_nil _ _ _ _, fun k hk => Apt.symm (.inl rfl), fun B hB => by rw [hB]; exact ⟨by omega, fun k hk e => own_fresh (HF.out.row hk) (by omega) e.symm, by simp [Value.ownBlock], by have := HZ.out; omega⟩, gr.trans gb2, by have := Gr.size gb2; omega, by have := HZ.out; omega⟩)
      have hM2 := Lib.hid (show MapIs Tryz.prog 174 W2 TB 0 (Ms.setF (Ms.tkP m 0 0)) from by rw [← Ms.tkP_nil, ← hW2]; exact map_made hTB.symm)
      have hFr2 := Lib.hid (fun q (hq : q < i) => Gr.at gb2 (HWf.out q hq))
      have e2 := Gr.at gb2 e0; have d20 := Gr.at gb2 d0; have d21 := Gr.at gb2 d1
      rw [hW2, hTB]
      have HTB := Lib.hid (show base ≤ TB from by omega)
      clear HF HWf e0 d0 d1 hb gr gb2 hmm hW2 hTB zW2
      go_loopw [11, 73] (fun sv x wr => ∃ (j : Nat) (V : Nat → Value), j ≤ fn ∧ x = .int .i64 (j : Int) ∧ Hid (St w base FB (fun b => b = TB) wr V (Ms.lst m i j) sv (Ms.snl m j)) ∧ Hid (MapIs Tryz.prog 174 wr TB (3 * j) (Ms.setF (Ms.tkP m j 0))) ∧ Hid (∀ q, q < i → wr.cell? ⟨G, q, none⟩ = some (.bool (!Ms.spB (m.S.D q)))) ∧ wr.cell? ⟨BX, 0, none⟩ = some (.slice (some ⟨G, 0, none⟩) i i) ∧ wr.cell? ⟨w.heap.size, 0, none⟩ = some (.slice sA i sc) ∧ wr.cell? ⟨w.heap.size, 1, none⟩ = some (.slice fA fn fc)) (fun _ x _ => fn - (intOf x).toNat)
      case atStart => exact ⟨0, _, Nat.zero_le _, rfl, hS2, hM2, hFr2, e2, d20, d21⟩
      case round =>
        clear hS2 hM2 hFr2 e2 d20 d21
        obtain ⟨j, V, hj, rfl, HS, HM, HFr, e0, d0, d1⟩ := hrel
        by_cases hlt : j < fn
        · obtain rfl := HFA.out (by omega)
          obtain ⟨⟨a0, a1, a2, a3⟩, fo⟩ := HFP.out j hlt
          have jb0 : (0 : Int) ≤ (j : Int) := by omega
          have jb1 : (j : Int) < (fn : Int) := by omega
          have gS := HS.out.g
          replace a0 := Gr.at gS a0; replace a1 := Gr.at gS a1; replace a2 := Gr.at gS a2; replace a3 := Gr.at gS a3
          obtain ⟨f, hfj⟩ : ∃ f, m.F.D j = f := ⟨_, rfl⟩
          simp only [hfj] at a0 a1 a2 a3 fo
          have HFJ := Lib.hid hfj
          have HCN := Lib.hid (fun W => ms_corners f W)
          unfold Ba.Face.val at HCN
          clear HFP hfj
          go_wp2_with fail
          refine (HCN.out _).mono ?_
          rintro e w3 ⟨rfl, hb3⟩
          clear HCN
          obtain ⟨W4, hW4⟩ : ∃ W, w3.alloc (Obj.cells #[.int .i64 f.a, .int .i64 f.b, .int .i64 f.c] 169) = W := ⟨_, rfl⟩
          have ga3 : Gr wr w3 := Gr.trans (Gr.alloc (Gr.refl wr) _) hb3
          have g34 : Gr w3 W4 := hW4 ▸ Gr.alloc (Gr.refl w3) _
          have g4 := ga3.trans g34
          have bf := fun (q : Nat) v (hc : (wr.alloc (Obj.cells #[.int .i64 f.a, .int .i64 f.b, .int .i64 f.c, .int .i64 f.k] 74)).cell? ⟨wr.heap.size, q, none⟩ = some v) => Gr.at (hb3.trans g34) hc
          have f40 := bf 0 (.int .i64 f.a) (by simp [go_sem]); have f41 := bf 1 (.int .i64 f.b) (by simp [go_sem]); have f42 := bf 2 (.int .i64 f.c) (by simp [go_sem]); have f43 := bf 3 (.int .i64 f.k) (by simp [go_sem])
          clear bf
          have t40 : W4.cell? ⟨w3.heap.size, 0, none⟩ = some (.int .i64 f.a) := by rw [← hW4]; simp [go_sem]
          have t41 : W4.cell? ⟨w3.heap.size, 1, none⟩ = some (.int .i64 f.b) := by rw [← hW4]; simp [go_sem]
          have t42 : W4.cell? ⟨w3.heap.size, 2, none⟩ = some (.int .i64 f.c) := by rw [← hW4]; simp [go_sem]
          have HS4 := Lib.hid (HS.out.more g4 (Nat.le_refl _) (World.block_lt_of_cell? _ _ f40))
          have HM4 := Lib.hid (HM.out.gr g4); have HFr4 := Lib.hid (fun q (hq : q < i) => Gr.at g4 (HFr.out q hq)); have e4 := Gr.at g4 e0; have d40 := Gr.at g4 d0; have d41 := Gr.at g4 d1
          have zB13 : TB < wr.heap.size := (HS.out.pr TB rfl).1
          clear HS HM HFr e0 d0 d1 a0 a1 a2 a3 gS g4 ga3 g34 hb3
          go_upto_region 23 with fail
          go_cut [113] (fun c wx => c = .bool (!Ms.fcB m f) ∧ Gr W4 wx)
          case first =>
            have HQ := Lib.hid (Ms.fcB_not m f)
            have HAS := Lib.hid (has_int 130 #[.pointer (some ⟨w.heap.size, 0, none⟩), .pointer (some ⟨BX, 0, none⟩)] ⟨some ⟨w3.heap.size, 0, none⟩, 3, 3, w3.heap.size, 0, fun q => Ms.cor f q⟩ (fun q => !Ms.inR m (Ms.cor f q)) W4 ⟨fun _ => rfl, Nat.le_refl _, by show 3 ≤ _; omega, fun q hq => by match q, hq with | 0, _ => exact ⟨t40, fo.1⟩ | 1, _ => exact ⟨t41, fo.2.1⟩ | 2, _ => exact ⟨t42, fo.2.2.1⟩⟩ (ms_enter Tryz.func130 (by kernel_rfl) (by kernel_rfl)) (fun q hq W hW => HCK.out (Ms.cor f q) BX G W (Gr.at hW d40) (Gr.at hW e4) (fun r hr => Gr.at hW (HFr4.out r hr))))
            simp only at HAS
            generalize Ba.any (fun q => !Ms.inR m (Ms.cor f q)) 3 = A at HAS HQ
            clear HS4 HM4 HFr4 HCK HTR
            cases A
            · cases e1 : (f.a == f.b)
              · cases e2 : (f.b == f.c)
                · cases e3 : (f.c == f.a)
                  · cases e4 : (decide (f.k < 0))
                    · cases e5 : (decide (16 ≤ f.k))
                      · go_wp2_with fail
                        refine HAS.out.mono ?_
                        rintro e w6 ⟨rfl, hb6⟩
                        clear HAS
                        replace f40 := Gr.at hb6 f40; replace f41 := Gr.at hb6 f41; replace f42 := Gr.at hb6 f42; replace f43 := Gr.at hb6 f43
                        go_wp2_with fail
                        go_meet
                        exact ⟨by rw [HQ.out, e1, e2, e3, e4, e5]; rfl, hb6⟩
                      · go_wp2_with fail
                        refine HAS.out.mono ?_
                        rintro e w6 ⟨rfl, hb6⟩
                        clear HAS
                        replace f40 := Gr.at hb6 f40; replace f41 := Gr.at hb6 f41; replace f42 := Gr.at hb6 f42; replace f43 := Gr.at hb6 f43
                        go_wp2_with fail
                        go_meet
                        exact ⟨by rw [HQ.out, e1, e2, e3, e4, e5]; rfl, hb6⟩
                    · go_wp2_with fail
                      refine HAS.out.mono ?_
                      rintro e w6 ⟨rfl, hb6⟩
                      clear HAS
                      replace f40 := Gr.at hb6 f40; replace f41 := Gr.at hb6 f41; replace f42 := Gr.at hb6 f42; replace f43 := Gr.at hb6 f43
                      go_wp2_with fail
                      go_meet
                      exact ⟨by rw [HQ.out, e1, e2, e3, e4]; rfl, hb6⟩
                  · go_wp2_with fail
                    refine HAS.out.mono ?_
                    rintro e w6 ⟨rfl, hb6⟩
                    clear HAS
                    replace f40 := Gr.at hb6 f40; replace f41 := Gr.at hb6 f41; replace f42 := Gr.at hb6 f42; replace f43 := Gr.at hb6 f43
                    go_wp2_with fail
                    go_meet
                    exact ⟨by rw [HQ.out, e1, e2, e3]; rfl, hb6⟩
                · go_wp2_with fail
                  refine HAS.out.mono ?_
                  rintro e w6 ⟨rfl, hb6⟩
                  clear HAS
                  replace f40 := Gr.at hb6 f40; replace f41 := Gr.at hb6 f41; replace f42 := Gr.at hb6 f42; replace f43 := Gr.at hb6 f43
                  go_wp2_with fail
                  go_meet
                  exact ⟨by rw [HQ.out, e1, e2]; rfl, hb6⟩
              · go_wp2_with fail
                refine HAS.out.mono ?_
                rintro e w6 ⟨rfl, hb6⟩
                clear HAS
                replace f40 := Gr.at hb6 f40; replace f41 := Gr.at hb6 f41; replace f42 := Gr.at hb6 f42; replace f43 := Gr.at hb6 f43
                go_wp2_with fail
                go_meet
                exact ⟨by rw [HQ.out, e1]; rfl, hb6⟩
            · go_wp2_with fail
              refine HAS.out.mono ?_
              rintro e w6 ⟨rfl, hb6⟩
              clear HAS
              replace f40 := Gr.at hb6 f40; replace f41 := Gr.at hb6 f41; replace f42 := Gr.at hb6 f42; replace f43 := Gr.at hb6 f43
              go_wp2_with fail
              go_meet
              exact ⟨by rw [HQ.out]; rfl, hb6⟩
          case rest =>
            obtain ⟨rfl, hg⟩ := hcut
            rename World => W5
            have HS5 := Lib.hid (HS4.out.gr hg); have HM5 := Lib.hid (HM4.out.gr hg); have HFr5 := Lib.hid (fun q (hq : q < i) => Gr.at hg (HFr4.out q hq))
            have ec5 := Gr.at hg e4; have dc50 := Gr.at hg d40; have dc51 := Gr.at hg d41; have fb50 := Gr.at hg f40; have fb51 := Gr.at hg f41; have fb52 := Gr.at hg f42; have fb53 := Gr.at hg f43
            clear HS4 HM4 HFr4 e4 d40 d41 f40 f41 f42 f43 t40 t41 t42 hg hW4 HCK
            generalize wr.heap.size = B13 at *
            generalize w3.heap.size = B14 at *
            obtain ⟨qf, hqf⟩ : ∃ q, Ms.fcB m f = q := ⟨_, rfl⟩
            rw [hqf]
            cases qf
            · have hsd : Ms.sndB m (m.F.D j) = false := by rw [HFJ.out]; unfold Ms.sndB; rw [hqf]; rfl
              have hk3 : Ms.kd m 3 j = true := by show (!Ms.fcB m (m.F.D j)) = true; rw [HFJ.out, hqf]; rfl
              have hk4 : Ms.kd m 4 j = false := by show (Ms.fcB m (m.F.D j) && _) = false; rw [HFJ.out, hqf]; rfl
              have hk5 : Ms.kd m 5 j = false := by show (Ms.sndB m (m.F.D j) && _) = false; rw [hsd]; rfl
              have hk6 : Ms.kd m 6 j = false := by show (Ms.sndB m (m.F.D j) && _) = false; rw [hsd]; rfl
              have HSN := Lib.hid (Ms.snl_no (m := m) (j := j) hsd); have HTK := Lib.hid (Ms.tkP_skip (m := m) (j := j) hsd)
              have HL := Lib.hid (Ms.lst_one (m := m) (i := i) (j := j) (k := 3) (by omega) hk3 (fun q h1 h2 h3 => by rcases (by omega : q = 3 ∨ q = 4 ∨ q = 5 ∨ q = 6) with rfl | rfl | rfl | rfl <;> first | assumption | (exact absurd rfl h3)))
              clear hk3 hk4 hk5 hk6 hsd hqf HTR
              go_upto_region 24 with fail
              have aaa := Lib.hid (HS5.out.gr (Gr.alloc (Gr.refl W5) (Obj.cells #[.int .i64 (j : Int)] 3)))
              have cca := (HS5.out.fnd.cel 3 (by omega)).1
              have cba := World.block_lt_of_cell? _ _ cca
              have zba := HS5.out.hb
              have lla : (Ms.lst m i j 3).length ≤ 61 := by first | (unfold Ms.lst; refine Nat.le_trans (Ms.idx_le _ _) ?_; split <;> omega) | (unfold Ms.l5 Ms.lst; split <;> (try rw [upd_ne _ _ (by omega)]) <;> (refine Nat.le_trans (Ms.idx_le _ _) ?_; split <;> omega))
              go_wp2_with (at_builtin; refine wpList_append_lies _ rfl _ _ 26 rfl base 3 ii (.int .i64 0) 1 8 Tryz.underlying26 KI.out KI0.out KI1.out KI2.out rfl (by decide) (V 3) (Ms.lst m i j 3).length (fi (Ms.lst m i j 3)) rfl (aaa.out.fnd.row (by omega)) ⟨W5.heap.size, 0, none⟩ 1 1 [.int .i64 (j : Int)] rfl rfl (by intro p u hp; rcases p with _ | p <;> simp at hp <;> (try subst hp) <;> first | (simp [Addr.add, go_sem]; done) | (simp [Addr.add]; done)) (by intro u hu; simp at hu; subst hu; rfl) (by decide) (by unfold maxLen; omega) (by omega) (by simp; omega) _ rfl ?_)
              intro gga ppa va hoa hra hta hla
              obtain ⟨ooa, ssa⟩ := aaa.out.push (by omega) hoa hra (by rcases hta with h | h; exact .inl h; exact .inr (by rw [h]; simp)) (HL.out)
              have oxa := ooa.1; have oya := ooa.2
              obtain ⟨W6, hW6⟩ : ∃ W, va.setCell ⟨FB, 3, none⟩ (.slice (some ⟨gga, 0, none⟩) ((Ms.lst m i j 3).length + 1) ppa) = W := ⟨_, rfl⟩
              rw [hW6] at ssa
              have HS6 := Lib.hid ssa
              have HM6 := Lib.hid (hW6 ▸ aaa.out.push_map (g := gga) (cap := ppa) (by omega) hra (by simp) (HM5.out.gr (Gr.alloc (Gr.refl _) _)))
              have HFr6 := Lib.hid (fun q (hq : q < i) => hW6 ▸ aaa.out.push_cell (g := gga) (cap := ppa) (by omega) hra (.inr ⟨by have := HZ.out; have := this.2.1 (by omega); omega, by have := HZ.out; have := this.2.1 (by omega); omega⟩) (Gr.at (Gr.alloc (Gr.refl _) _) (HFr5.out q hq)))
              have ec6 := hW6 ▸ aaa.out.push_cell (g := gga) (cap := ppa) (by omega) hra (.inr ⟨by have := HZ.out; omega, by have := HZ.out; omega⟩) (Gr.at (Gr.alloc (Gr.refl _) _) ec5)
              have dc60 := hW6 ▸ aaa.out.push_cell (g := gga) (cap := ppa) (by omega) hra (.inr ⟨by have := HZ.out; omega, by have := HZ.out; omega⟩) (Gr.at (Gr.alloc (Gr.refl _) _) dc50)
              have dc61 := hW6 ▸ aaa.out.push_cell (g := gga) (cap := ppa) (by omega) hra (.inr ⟨by have := HZ.out; omega, by have := HZ.out; omega⟩) (Gr.at (Gr.alloc (Gr.refl _) _) dc51)
              have fb60 := hW6 ▸ aaa.out.push_cell (g := gga) (cap := ppa) (by omega) hra (.inl (by simp)) (Gr.at (Gr.alloc (Gr.refl _) _) fb50)
              have fb61 := hW6 ▸ aaa.out.push_cell (g := gga) (cap := ppa) (by omega) hra (.inl (by simp)) (Gr.at (Gr.alloc (Gr.refl _) _) fb51)
              have fb62 := hW6 ▸ aaa.out.push_cell (g := gga) (cap := ppa) (by omega) hra (.inl (by simp)) (Gr.at (Gr.alloc (Gr.refl _) _) fb52)
              have fb63 := hW6 ▸ aaa.out.push_cell (g := gga) (cap := ppa) (by omega) hra (.inl (by simp)) (Gr.at (Gr.alloc (Gr.refl _) _) fb53)
              clear aaa cca cba lla hoa hra hta hla ooa ssa zba
              clear HS5 HM5 HFr5 ec5 dc50 dc51 fb50 fb51 fb52 fb53
              go_wp2_with fail
              go_roundw
              case rel => exact ⟨j + 1, _, by omega, by go_num, Lib.hid (by rw [HSN.out]; exact HS6.out.less (fun b hb => by simp [hb])), Lib.hid (by rw [HTK.out]; exact HM6.out.mono (by omega)), HFr6, ec6, dc60, dc61⟩
              case measure => simp [intOf]; omega
            · have HT := Lib.hid (HTR.out f W5 HS5.out.g hqf)
              have htk := Ms.tri_ok hqf
              obtain ⟨t, ht⟩ : ∃ t, Ms.tri m f = t := ⟨_, rfl⟩
              rw [ht] at HT htk
              unfold Ba.Tri.val Ba.Face.val at HT
              have HTT := Lib.hid ht
              replace htk := Lib.hid htk
              clear ht HTR
              go_wp2_with fail
              refine HT.out.mono ?_
              rintro e w7 ⟨rfl, hb7⟩
              clear HT
              have zB15 : TB < w7.heap.size := Nat.lt_of_lt_of_le (HS5.out.pr TB (.inl rfl)).1 (Gr.size hb7)
              obtain ⟨W8, hW8⟩ : ∃ W, w7.alloc (Obj.cells #[.int .i64 t.x0, .int .i64 t.y0, .int .i64 t.x1, .int .i64 t.y1, .int .i64 t.x2, .int .i64 t.y2] 171) = W := ⟨_, rfl⟩
              have g78 : Gr w7 W8 := hW8 ▸ Gr.alloc (Gr.refl w7) _
              have g58 : Gr W5 W8 := hb7.trans g78
              have tb80 : W8.cell? ⟨w7.heap.size, 0, none⟩ = some (.int .i64 t.x0) := by rw [← hW8]; simp [go_sem]
              have tb81 : W8.cell? ⟨w7.heap.size, 1, none⟩ = some (.int .i64 t.y0) := by rw [← hW8]; simp [go_sem]
              have tb82 : W8.cell? ⟨w7.heap.size, 2, none⟩ = some (.int .i64 t.x1) := by rw [← hW8]; simp [go_sem]
              have tb83 : W8.cell? ⟨w7.heap.size, 3, none⟩ = some (.int .i64 t.y1) := by rw [← hW8]; simp [go_sem]
              have tb84 : W8.cell? ⟨w7.heap.size, 4, none⟩ = some (.int .i64 t.x2) := by rw [← hW8]; simp [go_sem]
              have tb85 : W8.cell? ⟨w7.heap.size, 5, none⟩ = some (.int .i64 t.y2) := by rw [← hW8]; simp [go_sem]
              have HS8 := Lib.hid (HS5.out.more g58 (Gr.size hb7) (World.block_lt_of_cell? _ _ tb80)); have HM8 := Lib.hid (HM5.out.gr g58); have HFr8 := Lib.hid (fun q (hq : q < i) => Gr.at g58 (HFr5.out q hq))
              have ec8 := Gr.at g58 ec5; have dc80 := Gr.at g58 dc50; have dc81 := Gr.at g58 dc51; have fb80 := Gr.at g58 fb50; have fb81 := Gr.at g58 fb51; have fb82 := Gr.at g58 fb52; have fb83 := Gr.at g58 fb53
              clear HS5 HM5 HFr5 ec5 dc50 dc51 fb50 fb51 fb52 fb53
              have HTN := Lib.hid (fun W => ms_turn t.x0 t.y0 t.x1 t.y1 t.x2 t.y2 W htk.out.1 htk.out.2.1 htk.out.2.2.1 htk.out.2.2.2.1 htk.out.2.2.2.2.1 htk.out.2.2.2.2.2)
              clear hb7 g78 g58
              go_wp2_with fail
              refine (HTN.out _).mono ?_
              rintro e w9 ⟨rfl, hb9⟩
              clear HTN
              generalize w7.heap.size = B15 at *
              have HS9 := Lib.hid (HS8.out.gr hb9); have HM9 := Lib.hid (HM8.out.gr hb9); have HFr9 := Lib.hid (fun q (hq : q < i) => Gr.at hb9 (HFr8.out q hq))
              have ec9 := Gr.at hb9 ec8; have dc90 := Gr.at hb9 dc80; have dc91 := Gr.at hb9 dc81; have fb90 := Gr.at hb9 fb80; have fb91 := Gr.at hb9 fb81; have fb92 := Gr.at hb9 fb82; have fb93 := Gr.at hb9 fb83; have tb90 := Gr.at hb9 tb80; have tb91 := Gr.at hb9 tb81; have tb92 := Gr.at hb9 tb82; have tb93 := Gr.at hb9 tb83; have tb94 := Gr.at hb9 tb84; have tb95 := Gr.at hb9 tb85
              clear HS8 HM8 HFr8 ec8 dc80 dc81 fb80 fb81 fb82 fb83 tb80 tb81 tb82 tb83 tb84 tb85
              clear hb9 hW8
              obtain ⟨tn, htn⟩ : ∃ z, Ms.tr2 t.x0 t.y0 t.x1 t.y1 t.x2 t.y2 = z := ⟨_, rfl⟩
              rw [htn]
              have htn2 : Ms.tTn (Ms.tri m f) = tn := by rw [HTT.out]; exact htn
              clear htn
              cases ht0 : decide (tn ≤ 0)
              · have hsf : Ms.sndB m f = true := by unfold Ms.sndB; rw [hqf, htn2, decide_eq_true (by have := of_decide_eq_false ht0; omega)]; rfl
                have hsd : Ms.sndB m (m.F.D j) = true := by rw [HFJ.out]; exact hsf
                have hb := fun q => Ms.tk_iff m j q
                rw [HFJ.out] at hb
                obtain ⟨tk, htk5⟩ : ∃ b, Ba.any (fun i => Ms.sndB m (m.F.D i) && Ms.ssB (m.F.D j) (m.F.D i)) j = b := ⟨_, rfl⟩
                have hta := Ms.tk_all m j
                rw [htk5, Ms.any3, HFJ.out] at hta
                obtain ⟨b0, hb0⟩ : ∃ b, Ba.any (fun i => Ms.sndB m (m.F.D i) && Ba.any (fun k => Ms.sdB f (m.F.D i) 0 k) 3) j = b := ⟨_, rfl⟩
                obtain ⟨b1, hb1⟩ : ∃ b, Ba.any (fun i => Ms.sndB m (m.F.D i) && Ba.any (fun k => Ms.sdB f (m.F.D i) 1 k) 3) j = b := ⟨_, rfl⟩
                obtain ⟨b2, hb2⟩ : ∃ b, Ba.any (fun i => Ms.sndB m (m.F.D i) && Ba.any (fun k => Ms.sdB f (m.F.D i) 2 k) 3) j = b := ⟨_, rfl⟩
                have HB0 := Lib.hid (Ms.setF_of (b := b0) (by rw [← hb0]; exact hb 0))
                have HB1 := Lib.hid (Ms.setF_of (b := b1) (by rw [← hb1]; exact hb 1))
                have HB2 := Lib.hid (Ms.setF_of (b := b2) (by rw [← hb2]; exact hb 2))
                rw [hb0, hb1, hb2] at hta
                have HTA := Lib.hid hta.symm
                clear hb hb0 hb1 hb2 hta
                obtain ⟨k0, hk0⟩ := key_side fo.1 fo.2.1; obtain ⟨k1, hk1⟩ := key_side fo.2.1 fo.2.2.1; obtain ⟨k2, hk2⟩ := key_side fo.2.2.1 fo.1
                have HK0 := Lib.hid hk0; have HK1 := Lib.hid hk1; have HK2 := Lib.hid hk2
                clear hk0 hk1 hk2
                have HSD0 := Lib.hid (fun W => ms_side0 f W); have HSD1 := Lib.hid (fun W => ms_side1 f W); have HSD2 := Lib.hid (fun W => ms_side2 f W)
                unfold Ba.Face.val at HSD0 HSD1 HSD2
                have HT5 := Lib.hid htk5
                clear htk5
                go_upto_region 28 with fail
                go_cut [152] (fun c wx => c = .bool tk ∧ Gr w9 wx)
                case first =>
                  clear HS9 HFr9
                  go_wp2_with fail
                  refine (HSD0.out _).mono ?_
                  rintro e x0 ⟨rfl, hx0⟩
                  have gx0 : Gr w9 x0 := hx0
                  have hlk0 : (Instr.lookup 167 (.map (some TB)) (.agg #[.int .i64 f.a, .int .i64 f.b]) false).run Tryz.prog x0 = .ok (.bool b0) x0 := by
                    have z := (HM9.out.gr gx0).look false keyed_side Tryz.underlying167 (zero_bool x0) HK0.out
                    rw [if_neg (by decide)] at z
                    exact z.trans (congrArg (fun v => Result.ok v x0) HB0.out)
                  have fbx00 := Gr.at gx0 fb90; have fbx01 := Gr.at gx0 fb91; have fbx02 := Gr.at gx0 fb92; have fbx03 := Gr.at gx0 fb93
                  cases b0
                  · go_wp2_with fail
                    refine (HSD1.out _).mono ?_
                    rintro e x1 ⟨rfl, hx1⟩
                    have gx1 : Gr w9 x1 := gx0.trans hx1
                    have hlk1 : (Instr.lookup 167 (.map (some TB)) (.agg #[.int .i64 f.b, .int .i64 f.c]) false).run Tryz.prog x1 = .ok (.bool b1) x1 := by
                      have z := (HM9.out.gr gx1).look false keyed_side Tryz.underlying167 (zero_bool x1) HK1.out
                      rw [if_neg (by decide)] at z
                      exact z.trans (congrArg (fun v => Result.ok v x1) HB1.out)
                    have fbx10 := Gr.at gx1 fb90; have fbx11 := Gr.at gx1 fb91; have fbx12 := Gr.at gx1 fb92; have fbx13 := Gr.at gx1 fb93
                    cases b1
                    · go_wp2_with fail
                      refine (HSD2.out _).mono ?_
                      rintro e x2 ⟨rfl, hx2⟩
                      have gx2 : Gr w9 x2 := gx1.trans hx2
                      have hlk2 : (Instr.lookup 167 (.map (some TB)) (.agg #[.int .i64 f.c, .int .i64 f.a]) false).run Tryz.prog x2 = .ok (.bool b2) x2 := by
                        have z := (HM9.out.gr gx2).look false keyed_side Tryz.underlying167 (zero_bool x2) HK2.out
                        rw [if_neg (by decide)] at z
                        exact z.trans (congrArg (fun v => Result.ok v x2) HB2.out)
                      have fbx20 := Gr.at gx2 fb90; have fbx21 := Gr.at gx2 fb91; have fbx22 := Gr.at gx2 fb92; have fbx23 := Gr.at gx2 fb93
                      cases b2
                      · go_wp2_with fail
                        go_meet
                        exact ⟨by rw [HTA.out]; rfl, gx2⟩
                      · go_wp2_with fail
                        go_meet
                        exact ⟨by rw [HTA.out]; rfl, gx2⟩
                    · go_wp2_with fail
                      go_meet
                      exact ⟨by rw [HTA.out]; rfl, gx1⟩
                  · go_wp2_with fail
                    go_meet
                    exact ⟨by rw [HTA.out]; rfl, gx0⟩
                case rest =>
                  obtain ⟨rfl, hg⟩ := hcut
                  rename World => W10
                  have HS10 := Lib.hid (HS9.out.gr hg); have HM10 := Lib.hid (HM9.out.gr hg); have HFr10 := Lib.hid (fun q (hq : q < i) => Gr.at hg (HFr9.out q hq))
                  have ec10 := Gr.at hg ec9; have dc100 := Gr.at hg dc90; have dc101 := Gr.at hg dc91; have fb100 := Gr.at hg fb90; have fb101 := Gr.at hg fb91; have fb102 := Gr.at hg fb92; have fb103 := Gr.at hg fb93; have tb100 := Gr.at hg tb90; have tb101 := Gr.at hg tb91; have tb102 := Gr.at hg tb92; have tb103 := Gr.at hg tb93; have tb104 := Gr.at hg tb94; have tb105 := Gr.at hg tb95
                  clear HS9 HM9 HFr9 ec9 dc90 dc91 fb90 fb91 fb92 fb93 tb90 tb91 tb92 tb93 tb94 tb95
                  clear hg
                  go_upto_if 152 with fail
                  go_cut [] (fun wx => ∃ V' : Nat → Value, Hid (St w base FB (fun b => (b = TB ∨ b = B13) ∨ b = B15) wx V' (Ms.l5 (Ms.lst m i j) j tk) u11 (Ms.snl m j)) ∧ Hid (MapIs Tryz.prog 174 wx TB (3 * j) (Ms.setF (Ms.tkP m j 0))) ∧ Hid (∀ q, q < i → wx.cell? ⟨G, q, none⟩ = some (.bool (!Ms.spB (m.S.D q)))) ∧ wx.cell? ⟨BX, 0, none⟩ = some (.slice (some ⟨G, 0, none⟩) i i) ∧ wx.cell? ⟨w.heap.size, 0, none⟩ = some (.slice sA i sc) ∧ wx.cell? ⟨w.heap.size, 1, none⟩ = some (.slice (some ⟨m.F.b, m.F.o, none⟩) fn fc) ∧ wx.cell? ⟨B13, 0, none⟩ = some (.int .i64 f.a) ∧ wx.cell? ⟨B13, 1, none⟩ = some (.int .i64 f.b) ∧ wx.cell? ⟨B13, 2, none⟩ = some (.int .i64 f.c) ∧ wx.cell? ⟨B13, 3, none⟩ = some (.int .i64 f.k) ∧ wx.cell? ⟨B15, 0, none⟩ = some (.int .i64 t.x0) ∧ wx.cell? ⟨B15, 1, none⟩ = some (.int .i64 t.y0) ∧ wx.cell? ⟨B15, 2, none⟩ = some (.int .i64 t.x1) ∧ wx.cell? ⟨B15, 3, none⟩ = some (.int .i64 t.y1) ∧ wx.cell? ⟨B15, 4, none⟩ = some (.int .i64 t.x2) ∧ wx.cell? ⟨B15, 5, none⟩ = some (.int .i64 t.y2))
                  case first =>
                    cases tk
                    · go_wp2_with fail
                      go_meet
                      exact ⟨V, HS10, HM10, HFr10, ec10, dc100, dc101, fb100, fb101, fb102, fb103, tb100, tb101, tb102, tb103, tb104, tb105⟩
                    · go_upto_region 29 with fail
                      have aac := Lib.hid (HS10.out.gr (Gr.alloc (Gr.refl W10) (Obj.cells #[.int .i64 (j : Int)] 3)))
                      have ccc := (HS10.out.fnd.cel 5 (by omega)).1
                      have cbc := World.block_lt_of_cell? _ _ ccc
                      have zbc := HS10.out.hb
                      have llc : (Ms.lst m i j 5).length ≤ 61 := by first | (unfold Ms.lst; refine Nat.le_trans (Ms.idx_le _ _) ?_; split <;> omega) | (unfold Ms.l5 Ms.lst; split <;> (try rw [upd_ne _ _ (by omega)]) <;> (refine Nat.le_trans (Ms.idx_le _ _) ?_; split <;> omega))
                      go_wp2_with (at_builtin; refine wpList_append_lies _ rfl _ _ 26 rfl base 3 ii (.int .i64 0) 1 8 Tryz.underlying26 KI.out KI0.out KI1.out KI2.out rfl (by decide) (V 5) (Ms.lst m i j 5).length (fi (Ms.lst m i j 5)) rfl (aac.out.fnd.row (by omega)) ⟨W10.heap.size, 0, none⟩ 1 1 [.int .i64 (j : Int)] rfl rfl (by intro p u hp; rcases p with _ | p <;> simp at hp <;> (try subst hp) <;> first | (simp [Addr.add, go_sem]; done) | (simp [Addr.add]; done)) (by intro u hu; simp at hu; subst hu; rfl) (by decide) (by unfold maxLen; omega) (by omega) (by simp; omega) _ rfl ?_)
                      intro ggc ppc vc hoc hrc htc hlc
                      obtain ⟨ooc, ssc⟩ := aac.out.push (by omega) hoc hrc (by rcases htc with h | h; exact .inl h; exact .inr (by rw [h]; simp)) (fun _ _ => rfl)
                      have oxc := ooc.1; have oyc := ooc.2
                      obtain ⟨W11, hW11⟩ : ∃ W, vc.setCell ⟨FB, 5, none⟩ (.slice (some ⟨ggc, 0, none⟩) ((Ms.lst m i j 5).length + 1) ppc) = W := ⟨_, rfl⟩
                      rw [hW11] at ssc
                      have HS11 := Lib.hid ssc
                      have HM11 := Lib.hid (hW11 ▸ aac.out.push_map (g := ggc) (cap := ppc) (by omega) hrc (by simp) (HM10.out.gr (Gr.alloc (Gr.refl _) _)))
                      have HFr11 := Lib.hid (fun q (hq : q < i) => hW11 ▸ aac.out.push_cell (g := ggc) (cap := ppc) (by omega) hrc (.inr ⟨by have := HZ.out; have := this.2.1 (by omega); omega, by have := HZ.out; have := this.2.1 (by omega); omega⟩) (Gr.at (Gr.alloc (Gr.refl _) _) (HFr10.out q hq)))
                      have ec11 := hW11 ▸ aac.out.push_cell (g := ggc) (cap := ppc) (by omega) hrc (.inr ⟨by have := HZ.out; omega, by have := HZ.out; omega⟩) (Gr.at (Gr.alloc (Gr.refl _) _) ec10)
                      have dc110 := hW11 ▸ aac.out.push_cell (g := ggc) (cap := ppc) (by omega) hrc (.inr ⟨by have := HZ.out; omega, by have := HZ.out; omega⟩) (Gr.at (Gr.alloc (Gr.refl _) _) dc100)
                      have dc111 := hW11 ▸ aac.out.push_cell (g := ggc) (cap := ppc) (by omega) hrc (.inr ⟨by have := HZ.out; omega, by have := HZ.out; omega⟩) (Gr.at (Gr.alloc (Gr.refl _) _) dc101)
                      have fb110 := hW11 ▸ aac.out.push_cell (g := ggc) (cap := ppc) (by omega) hrc (.inl (by simp)) (Gr.at (Gr.alloc (Gr.refl _) _) fb100)
                      have fb111 := hW11 ▸ aac.out.push_cell (g := ggc) (cap := ppc) (by omega) hrc (.inl (by simp)) (Gr.at (Gr.alloc (Gr.refl _) _) fb101)
                      have fb112 := hW11 ▸ aac.out.push_cell (g := ggc) (cap := ppc) (by omega) hrc (.inl (by simp)) (Gr.at (Gr.alloc (Gr.refl _) _) fb102)
                      have fb113 := hW11 ▸ aac.out.push_cell (g := ggc) (cap := ppc) (by omega) hrc (.inl (by simp)) (Gr.at (Gr.alloc (Gr.refl _) _) fb103)
                      have tb110 := hW11 ▸ aac.out.push_cell (g := ggc) (cap := ppc) (by omega) hrc (.inl (by simp)) (Gr.at (Gr.alloc (Gr.refl _) _) tb100)
                      have tb111 := hW11 ▸ aac.out.push_cell (g := ggc) (cap := ppc) (by omega) hrc (.inl (by simp)) (Gr.at (Gr.alloc (Gr.refl _) _) tb101)
                      have tb112 := hW11 ▸ aac.out.push_cell (g := ggc) (cap := ppc) (by omega) hrc (.inl (by simp)) (Gr.at (Gr.alloc (Gr.refl _) _) tb102)
                      have tb113 := hW11 ▸ aac.out.push_cell (g := ggc) (cap := ppc) (by omega) hrc (.inl (by simp)) (Gr.at (Gr.alloc (Gr.refl _) _) tb103)
                      have tb114 := hW11 ▸ aac.out.push_cell (g := ggc) (cap := ppc) (by omega) hrc (.inl (by simp)) (Gr.at (Gr.alloc (Gr.refl _) _) tb104)
                      have tb115 := hW11 ▸ aac.out.push_cell (g := ggc) (cap := ppc) (by omega) hrc (.inl (by simp)) (Gr.at (Gr.alloc (Gr.refl _) _) tb105)
                      clear aac ccc cbc llc hoc hrc htc hlc ooc ssc zbc
                      clear HS10 HM10 HFr10 ec10 dc100 dc101 fb100 fb101 fb102 fb103 tb100 tb101 tb102 tb103 tb104 tb105
                      go_wp2_with fail
                      go_meet
                      exact ⟨_, HS11, HM11, HFr11, ec11, dc110, dc111, fb110, fb111, fb112, fb113, tb110, tb111, tb112, tb113, tb114, tb115⟩
                  case rest =>
                    obtain ⟨V, HS11, HM11, HFr11, ec11, dc110, dc111, fb110, fb111, fb112, fb113, tb110, tb111, tb112, tb113, tb114, tb115⟩ := hcut
                    clear HS10 HM10 HFr10 ec10 dc100 dc101 fb100 fb101 fb102 fb103 tb100 tb101 tb102 tb103 tb104 tb105
                    rename World => W11
                    clear HTA
                    go_wp2_with fail
                    go_loopw [159] (fun x wz => ∃ q : Nat, q ≤ 3 ∧ x = .int .i64 (q : Int) ∧ Hid (MapIs Tryz.prog 174 wz TB (3 * j + q) (Ms.setF (Ms.tkP m j q))) ∧ GrX TB W11 wz) (fun x _ => 3 - (intOf x).toNat)
                    case atStart => exact ⟨0, by omega, rfl, HM11, GrX.refl _ _⟩
                    case round =>
                      clear HM11
                      obtain ⟨q, hq, rfl, HMq, hgx⟩ := hrel
                      by_cases hlq : q < 3
                      · have HSq := Lib.hid (fun W => ms_side f q hlq W)
                        unfold Ba.Face.val at HSq
                        have fbq0 := GrX.at hgx (by omega) fb110; have fbq1 := GrX.at hgx (by omega) fb111; have fbq2 := GrX.at hgx (by omega) fb112; have fbq3 := GrX.at hgx (by omega) fb113
                        have HSTP := Lib.hid (Ms.tkP_step m j q)
                        rw [HFJ.out] at HSTP
                        have hci : ∀ r, Ba.i64 (Ms.cor f r) := fun r => by unfold Ms.cor; split; exact fo.1; exact fo.2.1; exact fo.2.2.1
                        obtain ⟨kq, hkq⟩ := key_side (hci q) (hci (q + 1))
                        replace hkq := Lib.hid hkq
                        clear hci ec11 dc110 dc111 fb110 fb111 fb112 fb113 tb110 tb111 tb112 tb113 tb114 tb115 HS11 HFr11
                        have qb0 : (0 : Int) ≤ (q : Int) := by omega
                        have qb1 : (q : Int) < 3 := by omega
                        go_wp2_with fail
                        refine (HSq.out _).mono ?_
                        rintro e y1 ⟨rfl, hy1⟩
                        obtain ⟨y2, hrun, hst, -, hgx2⟩ := (HMq.out.gr hy1).store (val := .bool true) keyed_side Tryz.underlying167 hkq.out
                        unfold Ms.k2 at hrun
                        have HMn := Lib.hid (hst (Ms.setF (Ms.tkP m j (q + 1))) (by rw [HSTP.out]; exact (Ms.setF_add _).1) (fun x hx => by rw [HSTP.out]; exact (Ms.setF_add _).2 x hx))
                        have gxn := (hgx.grown hy1).trans hgx2
                        clear hst hgx2 HMq hgx HSq hkq HSTP
                        go_wp2_with fail
                        go_roundw
                        case rel => exact ⟨q + 1, by omega, by go_num, HMn, gxn⟩
                        case measure => simp [intOf]; omega
                      · obtain rfl : q = 3 := by omega
                        rename World => W12
                        have HS12 := Lib.hid (HS11.out.turn (B := TB) (.inl (.inl rfl)) (by have := HZ.out; have := HTB.out; omega) hgx)
                        have HFr12 := Lib.hid (fun q (hq : q < i) => GrX.at hgx (by have := HZ.out; have := this.2.1 (by omega); have := HTB.out; omega) (HFr11.out q hq))
                        have HM12 := HMq
                        have ec12 := GrX.at hgx (by have := HZ.out; have := HTB.out; omega) ec11; have dc120 := GrX.at hgx (by have := HZ.out; have := HTB.out; omega) dc110; have dc121 := GrX.at hgx (by have := HZ.out; have := HTB.out; omega) dc111; have fb120 := GrX.at hgx (by have := HZ.out; have := HTB.out; omega) fb110; have fb121 := GrX.at hgx (by have := HZ.out; have := HTB.out; omega) fb111; have fb122 := GrX.at hgx (by have := HZ.out; have := HTB.out; omega) fb112; have fb123 := GrX.at hgx (by have := HZ.out; have := HTB.out; omega) fb113; have tb120 := GrX.at hgx (by have := HZ.out; have := HTB.out; omega) tb110; have tb121 := GrX.at hgx (by have := HZ.out; have := HTB.out; omega) tb111; have tb122 := GrX.at hgx (by have := HZ.out; have := HTB.out; omega) tb112; have tb123 := GrX.at hgx (by have := HZ.out; have := HTB.out; omega) tb113; have tb124 := GrX.at hgx (by have := HZ.out; have := HTB.out; omega) tb114; have tb125 := GrX.at hgx (by have := HZ.out; have := HTB.out; omega) tb115
                        clear HMq hgx HS11 HFr11 ec11 dc110 dc111 fb110 fb111 fb112 fb113 tb110 tb111 tb112 tb113 tb114 tb115
                        obtain ⟨s, hsv, hsn, hsA, hsD⟩ := own_tri HS12.out.snd rfl (Ms.snl_ok m j)
                        subst hsv
                        have HAS2 := Lib.hid (has_tri 135 #[.pointer (some ⟨B15, 0, none⟩)] s (fun q => Ms.ovB t (s.D q)) W12 hsA (ms_enter Tryz.func135 (by kernel_rfl) (by kernel_rfl)) (fun q hq W hW => ms_ck2 t (s.D q) B15 W htk.out (Ms.snl_ok m j _ (List.mem_of_getElem? (hsD q (by omega)))) ⟨Gr.at hW tb120, Gr.at hW tb121, Gr.at hW tb122, Gr.at hW tb123, Gr.at hW tb124, Gr.at hW tb125⟩))
                        have hov := Ms.snl_any (m := m) (j := j) (fun u => Ms.ovB t u) s.D hsD
                        rw [← hsn] at hov
                        rw [hov] at HAS2
                        obtain ⟨ov, hov2⟩ : ∃ b, Ba.any (fun i => Ms.sndB m (m.F.D i) && Ms.ovB t (Ms.tri m (m.F.D i))) j = b := ⟨_, rfl⟩
                        rw [hov2] at HAS2
                        have HOV := Lib.hid hov2
                        have HL6 := Lib.hid (fun q hq => Ms.lst_two (m := m) (i := i) (j := j) (b5 := tk) (b6 := ov) (by show (!Ms.fcB m (m.F.D j)) = false; rw [HFJ.out, hqf]; rfl) (by show (Ms.fcB m (m.F.D j) && !decide (0 < Ms.tTn (Ms.tri m (m.F.D j)))) = false; rw [HFJ.out, hqf, htn2, decide_eq_true (by have := of_decide_eq_false ht0; omega)]; rfl) (by show (Ms.sndB m (m.F.D j) && _) = tk; rw [hsd, HT5.out]; rfl) (by show (Ms.sndB m (m.F.D j) && Ba.any (fun r => Ms.sndB m (m.F.D r) && Ms.ovB (Ms.tri m (m.F.D j)) (Ms.tri m (m.F.D r))) j) = ov; rw [hsd, HFJ.out, HTT.out, hov2]; rfl) q hq)
                        clear hov hov2 hsD hsA
                        replace hsn := Lib.hid hsn
                        go_wp2_with fail
                        refine HAS2.out.mono ?_
                        rintro e w13 ⟨rfl, hb13⟩
                        clear HAS2
                        obtain ⟨W13, hW13⟩ : ∃ W, W = w13 := ⟨_, rfl⟩
                        subst hW13
                        have HS13 := Lib.hid (HS12.out.gr hb13); have HM13 := Lib.hid (HM12.out.gr hb13); have HFr13 := Lib.hid (fun q (hq : q < i) => Gr.at hb13 (HFr12.out q hq))
                        have ec13 := Gr.at hb13 ec12; have dc130 := Gr.at hb13 dc120; have dc131 := Gr.at hb13 dc121; have fb130 := Gr.at hb13 fb120; have fb131 := Gr.at hb13 fb121; have fb132 := Gr.at hb13 fb122; have fb133 := Gr.at hb13 fb123; have tb130 := Gr.at hb13 tb120; have tb131 := Gr.at hb13 tb121; have tb132 := Gr.at hb13 tb122; have tb133 := Gr.at hb13 tb123; have tb134 := Gr.at hb13 tb124; have tb135 := Gr.at hb13 tb125
                        clear HS12 HM12 HFr12 ec12 dc120 dc121 fb120 fb121 fb122 fb123 tb120 tb121 tb122 tb123 tb124 tb125
                        clear hb13
                        go_upto_if 169 with fail
                        go_cut [] (fun wx => ∃ V' : Nat → Value, Hid (St w base FB (fun b => (b = TB ∨ b = B13) ∨ b = B15) wx V' (Ms.l6 (Ms.l5 (Ms.lst m i j) j tk) j ov) (.slice s.A s.n s.c) (Ms.snl m j)) ∧ Hid (MapIs Tryz.prog 174 wx TB (3 * j + 3) (Ms.setF (Ms.tkP m j 3))) ∧ Hid (∀ q, q < i → wx.cell? ⟨G, q, none⟩ = some (.bool (!Ms.spB (m.S.D q)))) ∧ wx.cell? ⟨BX, 0, none⟩ = some (.slice (some ⟨G, 0, none⟩) i i) ∧ wx.cell? ⟨w.heap.size, 0, none⟩ = some (.slice sA i sc) ∧ wx.cell? ⟨w.heap.size, 1, none⟩ = some (.slice (some ⟨m.F.b, m.F.o, none⟩) fn fc) ∧ wx.cell? ⟨B13, 0, none⟩ = some (.int .i64 f.a) ∧ wx.cell? ⟨B13, 1, none⟩ = some (.int .i64 f.b) ∧ wx.cell? ⟨B13, 2, none⟩ = some (.int .i64 f.c) ∧ wx.cell? ⟨B13, 3, none⟩ = some (.int .i64 f.k) ∧ wx.cell? ⟨B15, 0, none⟩ = some (.int .i64 t.x0) ∧ wx.cell? ⟨B15, 1, none⟩ = some (.int .i64 t.y0) ∧ wx.cell? ⟨B15, 2, none⟩ = some (.int .i64 t.x1) ∧ wx.cell? ⟨B15, 3, none⟩ = some (.int .i64 t.y1) ∧ wx.cell? ⟨B15, 4, none⟩ = some (.int .i64 t.x2) ∧ wx.cell? ⟨B15, 5, none⟩ = some (.int .i64 t.y2))
                        case first =>
                          cases ov
                          · go_wp2_with fail
                            go_meet
                            exact ⟨V, HS13, HM13, HFr13, ec13, dc130, dc131, fb130, fb131, fb132, fb133, tb130, tb131, tb132, tb133, tb134, tb135⟩
                          · go_upto_region 36 with fail
                            have aae := Lib.hid (HS13.out.gr (Gr.alloc (Gr.refl W13) (Obj.cells #[.int .i64 (j : Int)] 3)))
                            have cce := (HS13.out.fnd.cel 6 (by omega)).1
                            have cbe := World.block_lt_of_cell? _ _ cce
                            have zbe := HS13.out.hb
                            have lle : (Ms.l5 (Ms.lst m i j) j tk 6).length ≤ 61 := by first | (unfold Ms.lst; refine Nat.le_trans (Ms.idx_le _ _) ?_; split <;> omega) | (unfold Ms.l5 Ms.lst; split <;> (try rw [upd_ne _ _ (by omega)]) <;> (refine Nat.le_trans (Ms.idx_le _ _) ?_; split <;> omega))
                            go_wp2_with (at_builtin; refine wpList_append_lies _ rfl _ _ 26 rfl base 3 ii (.int .i64 0) 1 8 Tryz.underlying26 KI.out KI0.out KI1.out KI2.out rfl (by decide) (V 6) (Ms.l5 (Ms.lst m i j) j tk 6).length (fi (Ms.l5 (Ms.lst m i j) j tk 6)) rfl (aae.out.fnd.row (by omega)) ⟨W13.heap.size, 0, none⟩ 1 1 [.int .i64 (j : Int)] rfl rfl (by intro p u hp; rcases p with _ | p <;> simp at hp <;> (try subst hp) <;> first | (simp [Addr.add, go_sem]; done) | (simp [Addr.add]; done)) (by intro u hu; simp at hu; subst hu; rfl) (by decide) (by unfold maxLen; omega) (by omega) (by simp; omega) _ rfl ?_)
                            intro gge ppe ve hoe hre hte hle
                            obtain ⟨ooe, sse⟩ := aae.out.push (by omega) hoe hre (by rcases hte with h | h; exact .inl h; exact .inr (by rw [h]; simp)) (fun _ _ => rfl)
                            have oxe := ooe.1; have oye := ooe.2
                            obtain ⟨W14, hW14⟩ : ∃ W, ve.setCell ⟨FB, 6, none⟩ (.slice (some ⟨gge, 0, none⟩) ((Ms.l5 (Ms.lst m i j) j tk 6).length + 1) ppe) = W := ⟨_, rfl⟩
                            rw [hW14] at sse
                            have HS14 := Lib.hid sse
                            have HM14 := Lib.hid (hW14 ▸ aae.out.push_map (g := gge) (cap := ppe) (by omega) hre (by simp) (HM13.out.gr (Gr.alloc (Gr.refl _) _)))
                            have HFr14 := Lib.hid (fun q (hq : q < i) => hW14 ▸ aae.out.push_cell (g := gge) (cap := ppe) (by omega) hre (.inr ⟨by have := HZ.out; have := this.2.1 (by omega); omega, by have := HZ.out; have := this.2.1 (by omega); omega⟩) (Gr.at (Gr.alloc (Gr.refl _) _) (HFr13.out q hq)))
                            have ec14 := hW14 ▸ aae.out.push_cell (g := gge) (cap := ppe) (by omega) hre (.inr ⟨by have := HZ.out; omega, by have := HZ.out; omega⟩) (Gr.at (Gr.alloc (Gr.refl _) _) ec13)
                            have dc140 := hW14 ▸ aae.out.push_cell (g := gge) (cap := ppe) (by omega) hre (.inr ⟨by have := HZ.out; omega, by have := HZ.out; omega⟩) (Gr.at (Gr.alloc (Gr.refl _) _) dc130)
                            have dc141 := hW14 ▸ aae.out.push_cell (g := gge) (cap := ppe) (by omega) hre (.inr ⟨by have := HZ.out; omega, by have := HZ.out; omega⟩) (Gr.at (Gr.alloc (Gr.refl _) _) dc131)
                            have fb140 := hW14 ▸ aae.out.push_cell (g := gge) (cap := ppe) (by omega) hre (.inl (by simp)) (Gr.at (Gr.alloc (Gr.refl _) _) fb130)
                            have fb141 := hW14 ▸ aae.out.push_cell (g := gge) (cap := ppe) (by omega) hre (.inl (by simp)) (Gr.at (Gr.alloc (Gr.refl _) _) fb131)
                            have fb142 := hW14 ▸ aae.out.push_cell (g := gge) (cap := ppe) (by omega) hre (.inl (by simp)) (Gr.at (Gr.alloc (Gr.refl _) _) fb132)
                            have fb143 := hW14 ▸ aae.out.push_cell (g := gge) (cap := ppe) (by omega) hre (.inl (by simp)) (Gr.at (Gr.alloc (Gr.refl _) _) fb133)
                            have tb140 := hW14 ▸ aae.out.push_cell (g := gge) (cap := ppe) (by omega) hre (.inl (by simp)) (Gr.at (Gr.alloc (Gr.refl _) _) tb130)
                            have tb141 := hW14 ▸ aae.out.push_cell (g := gge) (cap := ppe) (by omega) hre (.inl (by simp)) (Gr.at (Gr.alloc (Gr.refl _) _) tb131)
                            have tb142 := hW14 ▸ aae.out.push_cell (g := gge) (cap := ppe) (by omega) hre (.inl (by simp)) (Gr.at (Gr.alloc (Gr.refl _) _) tb132)
                            have tb143 := hW14 ▸ aae.out.push_cell (g := gge) (cap := ppe) (by omega) hre (.inl (by simp)) (Gr.at (Gr.alloc (Gr.refl _) _) tb133)
                            have tb144 := hW14 ▸ aae.out.push_cell (g := gge) (cap := ppe) (by omega) hre (.inl (by simp)) (Gr.at (Gr.alloc (Gr.refl _) _) tb134)
                            have tb145 := hW14 ▸ aae.out.push_cell (g := gge) (cap := ppe) (by omega) hre (.inl (by simp)) (Gr.at (Gr.alloc (Gr.refl _) _) tb135)
                            clear aae cce cbe lle hoe hre hte hle ooe sse zbe
                            clear HS13 HM13 HFr13 ec13 dc130 dc131 fb130 fb131 fb132 fb133 tb130 tb131 tb132 tb133 tb134 tb135
                            go_wp2_with fail
                            go_meet
                            exact ⟨_, HS14, HM14, HFr14, ec14, dc140, dc141, fb140, fb141, fb142, fb143, tb140, tb141, tb142, tb143, tb144, tb145⟩
                        case rest =>
                          obtain ⟨V, HS14, HM14, HFr14, ec14, dc140, dc141, fb140, fb141, fb142, fb143, tb140, tb141, tb142, tb143, tb144, tb145⟩ := hcut
                          clear HS13 HM13 HFr13 ec13 dc130 dc131 fb130 fb131 fb132 fb133 tb130 tb131 tb132 tb133 tb134 tb135
                          rename World => W14
                          clear HOV
                          have aaz := Lib.hid (HS14.out.gr (Gr.alloc (Gr.refl W14) (Obj.cells #[.int .i64 t.x0, .int .i64 t.y0, .int .i64 t.x1, .int .i64 t.y1, .int .i64 t.x2, .int .i64 t.y2] 171)))
                          have zbz := HS14.out.hb
                          have llz := Ms.snl_len m j
                          go_wp2_with (at_builtin; refine wpList_append_lies _ rfl _ _ 168 rfl base 171 it (.agg #[.int .i64 0, .int .i64 0, .int .i64 0, .int .i64 0, .int .i64 0, .int .i64 0]) 6 48 Tryz.underlying168 TI.out TI0.out TI1.out TI2.out rfl (by decide) (.slice s.A s.n s.c) (Ms.snl m j).length (ft (Ms.snl m j)) rfl aaz.out.snd ⟨W14.heap.size, 0, none⟩ 1 1 [.int .i64 t.x0, .int .i64 t.y0, .int .i64 t.x1, .int .i64 t.y1, .int .i64 t.x2, .int .i64 t.y2] rfl rfl (by intro p u hp; rcases p with _ | _ | _ | _ | _ | _ | p <;> simp at hp <;> (try subst hp) <;> first | (simp [Addr.add, go_sem]; done) | (simp [Addr.add]; done)) (by intro u hu; simp at hu; rcases hu with rfl | rfl | rfl | rfl | rfl | rfl <;> rfl) (by decide) (by unfold maxLen; omega) (by omega) (by simp; omega) _ rfl ?_)
                          intro ggz ppz vz hoz hrz htz hlz
                          have ssz := aaz.out.tri hoz hrz (by rcases htz with h | h; exact .inl h; exact .inr (by rw [h]; simp))
                          have HM15 := Lib.hid (aaz.out.tri_map hrz (.inl (.inl rfl)) (HM14.out.gr (Gr.alloc (Gr.refl _) _)))
                          have HFr15 := Lib.hid (fun q (hq : q < i) => aaz.out.tri_cell hrz (.inr (by have := HZ.out; have := this.2.1 (by omega); omega)) (Gr.at (Gr.alloc (Gr.refl _) _) (HFr14.out q hq)))
                          have ec15 := aaz.out.tri_cell hrz (.inr (by have := HZ.out; omega)) (Gr.at (Gr.alloc (Gr.refl _) _) ec14)
                          have dc150 := aaz.out.tri_cell hrz (.inr (by have := HZ.out; omega)) (Gr.at (Gr.alloc (Gr.refl _) _) dc140)
                          have dc151 := aaz.out.tri_cell hrz (.inr (by have := HZ.out; omega)) (Gr.at (Gr.alloc (Gr.refl _) _) dc141)
                          have HS15 := Lib.hid (show St w base FB (fun b => b = TB) vz V (Ms.lst m i (j + 1)) _ (Ms.snl m (j + 1)) from by rw [Ms.snl_yes hsd, HFJ.out, HTT.out]; exact (ssz.as (fun q hq => HL6.out q hq)).less (fun b hb => .inl (.inl hb)))
                          have HMz := Lib.hid (show MapIs Tryz.prog 174 vz TB (3 * (j + 1)) (Ms.setF (Ms.tkP m (j + 1) 0)) from by rw [Ms.tkP_next hsd]; exact HM15.out.mono (by omega))
                          clear aaz zbz llz hoz hrz htz hlz ssz HM15
                          clear HS14 HM14 HFr14 ec14 dc140 dc141 fb140 fb141 fb142 fb143 tb140 tb141 tb142 tb143 tb144 tb145
                          go_wp2_with fail
                          go_roundw
                          case rel => exact ⟨j + 1, V, by omega, by go_num, HS15, HMz, HFr15, ec15, dc150, dc151⟩
                          case measure => simp [intOf]; omega
              · have hsd : Ms.sndB m (m.F.D j) = false := by rw [HFJ.out]; unfold Ms.sndB; rw [hqf, htn2, decide_eq_false (by have := of_decide_eq_true ht0; omega)]; rfl
                have hk3 : Ms.kd m 3 j = false := by show (!Ms.fcB m (m.F.D j)) = false; rw [HFJ.out, hqf]; rfl
                have hk4 : Ms.kd m 4 j = true := by show (Ms.fcB m (m.F.D j) && !decide (0 < Ms.tTn (Ms.tri m (m.F.D j)))) = true; rw [HFJ.out, hqf, htn2, decide_eq_false (by have := of_decide_eq_true ht0; omega)]; rfl
                have hk5 : Ms.kd m 5 j = false := by show (Ms.sndB m (m.F.D j) && _) = false; rw [hsd]; rfl
                have hk6 : Ms.kd m 6 j = false := by show (Ms.sndB m (m.F.D j) && _) = false; rw [hsd]; rfl
                have HSN := Lib.hid (Ms.snl_no (m := m) (j := j) hsd); have HTK := Lib.hid (Ms.tkP_skip (m := m) (j := j) hsd)
                have HL := Lib.hid (Ms.lst_one (m := m) (i := i) (j := j) (k := 4) (by omega) hk4 (fun q h1 h2 h3 => by rcases (by omega : q = 3 ∨ q = 4 ∨ q = 5 ∨ q = 6) with rfl | rfl | rfl | rfl <;> first | assumption | (exact absurd rfl h3)))
                clear hk3 hk4 hk5 hk6 hsd hqf htn2
                go_upto_region 27 with fail
                have aab := Lib.hid (HS9.out.gr (Gr.alloc (Gr.refl w9) (Obj.cells #[.int .i64 (j : Int)] 3)))
                have ccb := (HS9.out.fnd.cel 4 (by omega)).1
                have cbb := World.block_lt_of_cell? _ _ ccb
                have zbb := HS9.out.hb
                have llb : (Ms.lst m i j 4).length ≤ 61 := by first | (unfold Ms.lst; refine Nat.le_trans (Ms.idx_le _ _) ?_; split <;> omega) | (unfold Ms.l5 Ms.lst; split <;> (try rw [upd_ne _ _ (by omega)]) <;> (refine Nat.le_trans (Ms.idx_le _ _) ?_; split <;> omega))
                go_wp2_with (at_builtin; refine wpList_append_lies _ rfl _ _ 26 rfl base 3 ii (.int .i64 0) 1 8 Tryz.underlying26 KI.out KI0.out KI1.out KI2.out rfl (by decide) (V 4) (Ms.lst m i j 4).length (fi (Ms.lst m i j 4)) rfl (aab.out.fnd.row (by omega)) ⟨w9.heap.size, 0, none⟩ 1 1 [.int .i64 (j : Int)] rfl rfl (by intro p u hp; rcases p with _ | p <;> simp at hp <;> (try subst hp) <;> first | (simp [Addr.add, go_sem]; done) | (simp [Addr.add]; done)) (by intro u hu; simp at hu; subst hu; rfl) (by decide) (by unfold maxLen; omega) (by omega) (by simp; omega) _ rfl ?_)
                intro ggb ppb vb hob hrb htb hlb
                obtain ⟨oob, ssb⟩ := aab.out.push (by omega) hob hrb (by rcases htb with h | h; exact .inl h; exact .inr (by rw [h]; simp)) (HL.out)
                have oxb := oob.1; have oyb := oob.2
                obtain ⟨W6, hW6⟩ : ∃ W, vb.setCell ⟨FB, 4, none⟩ (.slice (some ⟨ggb, 0, none⟩) ((Ms.lst m i j 4).length + 1) ppb) = W := ⟨_, rfl⟩
                rw [hW6] at ssb
                have HS6 := Lib.hid ssb
                have HM6 := Lib.hid (hW6 ▸ aab.out.push_map (g := ggb) (cap := ppb) (by omega) hrb (by simp) (HM9.out.gr (Gr.alloc (Gr.refl _) _)))
                have HFr6 := Lib.hid (fun q (hq : q < i) => hW6 ▸ aab.out.push_cell (g := ggb) (cap := ppb) (by omega) hrb (.inr ⟨by have := HZ.out; have := this.2.1 (by omega); omega, by have := HZ.out; have := this.2.1 (by omega); omega⟩) (Gr.at (Gr.alloc (Gr.refl _) _) (HFr9.out q hq)))
                have ec6 := hW6 ▸ aab.out.push_cell (g := ggb) (cap := ppb) (by omega) hrb (.inr ⟨by have := HZ.out; omega, by have := HZ.out; omega⟩) (Gr.at (Gr.alloc (Gr.refl _) _) ec9)
                have dc60 := hW6 ▸ aab.out.push_cell (g := ggb) (cap := ppb) (by omega) hrb (.inr ⟨by have := HZ.out; omega, by have := HZ.out; omega⟩) (Gr.at (Gr.alloc (Gr.refl _) _) dc90)
                have dc61 := hW6 ▸ aab.out.push_cell (g := ggb) (cap := ppb) (by omega) hrb (.inr ⟨by have := HZ.out; omega, by have := HZ.out; omega⟩) (Gr.at (Gr.alloc (Gr.refl _) _) dc91)
                have fb60 := hW6 ▸ aab.out.push_cell (g := ggb) (cap := ppb) (by omega) hrb (.inl (by simp)) (Gr.at (Gr.alloc (Gr.refl _) _) fb90)
                have fb61 := hW6 ▸ aab.out.push_cell (g := ggb) (cap := ppb) (by omega) hrb (.inl (by simp)) (Gr.at (Gr.alloc (Gr.refl _) _) fb91)
                have fb62 := hW6 ▸ aab.out.push_cell (g := ggb) (cap := ppb) (by omega) hrb (.inl (by simp)) (Gr.at (Gr.alloc (Gr.refl _) _) fb92)
                have fb63 := hW6 ▸ aab.out.push_cell (g := ggb) (cap := ppb) (by omega) hrb (.inl (by simp)) (Gr.at (Gr.alloc (Gr.refl _) _) fb93)
                have tb60 := hW6 ▸ aab.out.push_cell (g := ggb) (cap := ppb) (by omega) hrb (.inl (by simp)) (Gr.at (Gr.alloc (Gr.refl _) _) tb90)
                have tb61 := hW6 ▸ aab.out.push_cell (g := ggb) (cap := ppb) (by omega) hrb (.inl (by simp)) (Gr.at (Gr.alloc (Gr.refl _) _) tb91)
                have tb62 := hW6 ▸ aab.out.push_cell (g := ggb) (cap := ppb) (by omega) hrb (.inl (by simp)) (Gr.at (Gr.alloc (Gr.refl _) _) tb92)
                have tb63 := hW6 ▸ aab.out.push_cell (g := ggb) (cap := ppb) (by omega) hrb (.inl (by simp)) (Gr.at (Gr.alloc (Gr.refl _) _) tb93)
                have tb64 := hW6 ▸ aab.out.push_cell (g := ggb) (cap := ppb) (by omega) hrb (.inl (by simp)) (Gr.at (Gr.alloc (Gr.refl _) _) tb94)
                have tb65 := hW6 ▸ aab.out.push_cell (g := ggb) (cap := ppb) (by omega) hrb (.inl (by simp)) (Gr.at (Gr.alloc (Gr.refl _) _) tb95)
                clear aab ccb cbb llb hob hrb htb hlb oob ssb zbb
                clear HS9 HM9 HFr9 ec9 dc90 dc91 fb90 fb91 fb92 fb93 tb90 tb91 tb92 tb93 tb94 tb95
                go_wp2_with fail
                go_roundw
                case rel => exact ⟨j + 1, _, by omega, by go_num, Lib.hid (by rw [HSN.out]; exact HS6.out.less (fun b hb => by simp [hb])), Lib.hid (by rw [HTK.out]; exact HM6.out.mono (by omega)), HFr6, ec6, dc60, dc61⟩
                case measure => simp [intOf]; omega
        · obtain rfl : fn = j := by omega
          rename World => W0
          have HV := Lib.hid (fun k (hk : k < 7) => ownsRow_at (HS.out.fnd.row hk))
          have G0 := HS.out.g
          have HLS := Lib.hid (fun k => show Ms.lst m i fn k = Ms.idx (Ms.kd m k) (Ms.num m k) from by unfold Ms.lst Ms.num; rw [HN.out.1, HN.out.2.1])
          have v0 := (HS.out.fnd.cel 0 (by omega)).1
          have v1 := (HS.out.fnd.cel 1 (by omega)).1
          have v2 := (HS.out.fnd.cel 2 (by omega)).1
          have v3 := (HS.out.fnd.cel 3 (by omega)).1
          have v4 := (HS.out.fnd.cel 4 (by omega)).1
          have v5 := (HS.out.fnd.cel 5 (by omega)).1
          have v6 := (HS.out.fnd.cel 6 (by omega)).1
          have HNN := Lib.hid (show m.S.n ≤ 61 ∧ m.F.n ≤ 61 from ⟨by rw [HN.out.1]; exact hs, by rw [HN.out.2.1]; exact hf⟩)
          clear HS HM HFr e0 d0 d1 hlt hj HFP HTR HCK HFA
          go_wp2_with fail
          clear v0 v1 v2 v3 v4 v5 v6
          go_loopw [17, 182] (fun v x wr => ∃ k : Nat, k ≤ 7 ∧ x = .int .i64 (k : Int) ∧ Hid (wr.ownsRow W0.heap.size 128 2 v (Ms.fnd m k).length (Ms.ff (Ms.fnd m k))) ∧ Gr W0 wr) (fun _ x _ => 7 - (intOf x).toNat)
          case atStart => exact ⟨0, by omega, rfl, Lib.hid (World.ownsRow_nil _ _ _ _), Gr.refl _⟩
          case round =>
            obtain ⟨k, hk, rfl, HO, hg⟩ := hrel
            rename World => W1
            by_cases hlk : k < 7
            · obtain ⟨A, c, b, hVk, hA, hnc, hcb, hcel⟩ := HV.out k hlk
              rw [HLS.out] at hVk hA hnc hcel
              have hmn := Ms.idx_le (Ms.kd m k) (Ms.num m k)
              have hnm : Ms.num m k ≤ 61 := by have := HNN.out; unfold Ms.num; split <;> omega
              have HMEM := Lib.hid (fun q x (hq : (Ms.idx (Ms.kd m k) (Ms.num m k))[q]? = some x) => show x < 100 from by have := (Ms.idx_mem.1 (List.mem_of_getElem? hq)).1; omega)
              have hix : ∀ w, (Instr.index 163 (.agg #[V 0, V 1, V 2, V 3, V 4, V 5, V 6]) (.int .i64 (k : Int))).run Tryz.prog w = .ok (.slice A (Ms.idx (Ms.kd m k) (Ms.num m k)).length c) w := by
                intro w
                rw [← hVk]
                exact ix7 V k hlk w
              have kb0 : (0 : Int) ≤ (k : Int) := by omega
              have kb1 : (k : Int) < 7 := by omega
              have HA := Lib.hid hA; have HC := Lib.hid hcel
              have HQ0 := Lib.hid (Ms.fnq_zero m k); have HQS := Lib.hid (fun q i (h : (Ms.idx (Ms.kd m k) (Ms.num m k))[q]? = some i) => Ms.fnq_succ h); have HQA := Lib.hid (Ms.fnq_all m k)
              have HQL := Lib.hid (fun q => Ms.fnq_le m HNN.out.1 HNN.out.2 k q)
              have hL60 : (Ms.idx (Ms.kd m k) (Ms.num m k)).length ≤ 61 := by omega
              clear hVk hA hcel hnm hmn
              obtain ⟨L, hL⟩ : ∃ L, Ms.idx (Ms.kd m k) (Ms.num m k) = L := ⟨_, rfl⟩
              simp only [hL] at hix HA HC HQS HQA HMEM hnc hL60
              clear hL
              go_wp2_with fail
              go_loopw [17, 188] (fun v x wr => ∃ q : Nat, q ≤ L.length ∧ x = .int .i64 (q : Int) ∧ Hid (wr.ownsRow W0.heap.size 128 2 v (Ms.fnq m k q).length (Ms.ff (Ms.fnq m k q))) ∧ Gr W0 wr) (fun _ x _ => L.length - (intOf x).toNat)
              case atStart => exact ⟨0, by omega, rfl, Lib.hid (by rw [HQ0.out]; exact HO.out), hg⟩
              case round =>
                clear HO hg hix
                obtain ⟨q, hq, rfl, HO, hg⟩ := hrel
                rename World => W2
                by_cases hlq : q < L.length
                · obtain rfl := HA.out (by omega)
                  obtain ⟨x, hx⟩ : ∃ x, L[q]? = some x := ⟨_, List.getElem?_eq_getElem hlq⟩
                  have hx100 := HMEM.out q x hx
                  have cx := Gr.at hg ((HC.out q hlq).trans (fi_get hx))
                  have HI := Lib.hid (fun W => itoa_small x hx100 W)
                  have HS1 := Lib.hid (HQS.out q x hx)
                  have hql := HQL.out q
                  have hk6 : k ≤ 6 := by omega
                  have qb0 : (0 : Int) ≤ (q : Int) := by omega
                  have qb1 : (q : Int) < (L.length : Int) := by omega
                  have zW := Gr.size hg
                  clear HMEM HQS HQA HQ0 HQL HC hx
                  have HO1 := Lib.hid (ownsRow_gr HO.out (Gr.alloc (Gr.refl W2) (Obj.cells #[.int .i64 (k : Int), .string ⟨(Lib.decDigits x).toArray⟩] 128)))
                  go_wp2_with fail
                  refine (HI.out _).mono ?_
                  rintro e w3 ⟨rfl, hw3⟩
                  subst hw3
                  clear HI
                  go_wp2_with (at_builtin; refine wpList_append_lies _ rfl _ _ 82 rfl W0.heap.size 128 ig (.agg #[.int .i64 0, .string ⟨#[]⟩]) 2 24 Tryz.underlying82 GI.out GI0.out GI1.out GI2.out rfl (by decide) _ (Ms.fnq m k q).length (Ms.ff (Ms.fnq m k q)) rfl HO1.out ⟨W2.heap.size, 0, none⟩ 1 1 [.int .i64 (k : Int), .string ⟨(Lib.decDigits x).toArray⟩] rfl rfl (by intro p u hp; rcases p with _ | _ | p <;> simp at hp <;> (try subst hp) <;> first | (simp [Addr.add, go_sem]; done) | (simp [Addr.add]; done)) (by intro u hu; simp at hu; rcases hu with rfl | rfl <;> rfl) (by decide) (by unfold maxLen; omega) (by omega) (by simp; omega) _ rfl ?_)
                  intro gg pp vv ho hr ht hl
                  have HO2 := Lib.hid (show vv.ownsRow W0.heap.size 128 2 _ (Ms.fnq m k (q + 1)).length (Ms.ff (Ms.fnq m k (q + 1))) from by rw [HS1.out, Ms.ff_app, List.length_append]; exact ho)
                  have hgv : Gr W0 vv := Gr.own (Gr.trans hg (Gr.alloc (Gr.refl _) _)) (Nat.le_refl _) HO1.out hr
                  clear ho hr ht hl HO HO1 hg
                  go_wp2_with fail
                  go_roundw
                  case rel => exact ⟨q + 1, by omega, by go_num, HO2, hgv⟩
                  case measure => simp [intOf]; omega
                · obtain rfl : q = L.length := by omega
                  have HO3 := Lib.hid (show W2.ownsRow W0.heap.size 128 2 _ (Ms.fnd m (k + 1)).length (Ms.ff (Ms.fnd m (k + 1))) from by rw [← HQA.out]; exact HO.out)
                  clear HO HMEM HQS HQA HQ0 HQL HC HA
                  go_wp2_with fail
                  go_roundw
                  case rel => exact ⟨k + 1, by omega, by go_num, HO3, hg⟩
                  case measure => simp [intOf]; omega
            · obtain rfl : k = 7 := by omega
              clear HV HLS
              go_wp2_with fail
              go_ret2
              exact ⟨_, rfl, ownsRow_base HO.out (Gr.size G0), G0.trans hg⟩
end Go.Proofs.YtajhhplgcegodaaGreatDoor
