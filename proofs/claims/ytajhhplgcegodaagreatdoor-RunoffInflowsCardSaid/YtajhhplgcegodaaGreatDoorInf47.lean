/-
  Surfaces: the reference's test of a face's corners. (Printed by mkl.py.)
-/
import Derived.Test.YtajhhplgcegodaaGreatDoorInf28

set_option linter.unusedVariables false
set_option linter.unusedSimpArgs false
namespace Go.Proofs.YtajhhplgcegodaaGreatDoor
open Go.RowKit
attribute [local go_sem ↓] Go.wp_at_zero Go.wp_at_succ
namespace Ms
/-- A corner is wrong. -/
def bad (m : Mesh) (f : Ba.Face) (i : Nat) : Bool := decide (cor f i < 0) || (decide ((m.S.n : Int) ≤ cor f i) || ((cor f i == cor f (i + 1)) || !spB (m.S.D (cor f i).toNat)))
theorem bad_inR {m : Mesh} {x : Int} : inR m x = (!decide (x < 0) && (!decide ((m.S.n : Int) ≤ x) && spB (m.S.D x.toNat))) := by
  unfold inR
  rw [show decide (0 ≤ x) = !decide (x < 0) by rw [Bool.eq_iff_iff]; simp, show decide (x < (m.S.n : Int)) = !decide ((m.S.n : Int) ≤ x) by rw [Bool.eq_iff_iff]; simp]
theorem fcB_bad (m : Mesh) (f : Ba.Face) : fcB m f = (!Ba.any (bad m f) 3 && bt f.k 0 15) := by
  rw [any_succ, any_succ, any_succ]
  show fcB m f = (!(((false || bad m f 0) || bad m f 1) || bad m f 2) && _)
  unfold fcB bad
  rw [bad_inR, bad_inR, bad_inR]
  show _ = (!(((false || (decide (f.a < 0) || (decide ((m.S.n : Int) ≤ f.a) || ((f.a == f.b) || !spB (m.S.D f.a.toNat))))) || (decide (f.b < 0) || (decide ((m.S.n : Int) ≤ f.b) || ((f.b == f.c) || !spB (m.S.D f.b.toNat))))) || (decide (f.c < 0) || (decide ((m.S.n : Int) ≤ f.c) || ((f.c == f.a) || !spB (m.S.D f.c.toNat))))) && _)
  cases decide (f.a < 0) <;> cases decide ((m.S.n : Int) ≤ f.a) <;> cases (f.a == f.b) <;> cases spB (m.S.D f.a.toNat) <;> simp only [Bool.not_false, Bool.not_true, Bool.true_and, Bool.false_and, Bool.and_false, Bool.false_or, Bool.true_or, Bool.or_true, Bool.or_false, Bool.and_true] <;>
  cases decide (f.b < 0) <;> cases decide ((m.S.n : Int) ≤ f.b) <;> cases (f.b == f.c) <;> cases spB (m.S.D f.b.toNat) <;> simp only [Bool.not_false, Bool.not_true, Bool.true_and, Bool.false_and, Bool.and_false, Bool.false_or, Bool.true_or, Bool.or_true, Bool.or_false, Bool.and_true] <;>
  cases decide (f.c < 0) <;> cases decide ((m.S.n : Int) ≤ f.c) <;> cases (f.c == f.a) <;> cases spB (m.S.D f.c.toNat) <;> rfl
end Ms
set_option maxRecDepth 100000 in
set_option maxHeartbeats 4000000 in
theorem rs_corners (m : Ms.Mesh) (f : Ba.Face) (w : World) (h : m.S.At w) : Calls Tryz.prog 88 #[m.val, f.val] w fun e w' => e = .returned (.bool (Ms.fcB m f)) ∧ Gr w w' := by
  have HFC := Lib.hid (Ms.fcB_bad m f)
  have HBAD := Lib.hid (fun i => show Ms.bad m f i = (decide (Ms.cor f i < 0) || (decide ((m.S.n : Int) ≤ Ms.cor f i) || ((Ms.cor f i == Ms.cor f (i + 1)) || !Ms.spB (m.S.D (Ms.cor f i).toNat)))) from rfl)
  have HSP := Lib.hid (fun i (hi : i < m.S.n) => h.hD i hi)
  have HSA := Lib.hid h.hA
  have hsc := h.hc; have hsb := h.hb
  clear h
  obtain ⟨fa, fb, fc, fk⟩ := f
  have CF0 := Lib.hid (show Ms.cor ⟨fa, fb, fc, fk⟩ 0 = fa from rfl); have CF1 := Lib.hid (show Ms.cor ⟨fa, fb, fc, fk⟩ 1 = fb from rfl); have CF2 := Lib.hid (show Ms.cor ⟨fa, fb, fc, fk⟩ 2 = fc from rfl); have CF3 := Lib.hid (show Ms.cor ⟨fa, fb, fc, fk⟩ 3 = fa from rfl)
  unfold Ms.Mesh.val Ba.Face.val
  simp only at *
  generalize Ms.bad m ⟨fa, fb, fc, fk⟩ = P at *
  generalize Ms.fcB m ⟨fa, fb, fc, fk⟩ = FC at *
  generalize Ms.cor ⟨fa, fb, fc, fk⟩ = CF at *
  obtain ⟨sA, hsA⟩ : ∃ A, m.S.A = A := ⟨_, rfl⟩; obtain ⟨sn, hsn⟩ : ∃ n, m.S.n = n := ⟨_, rfl⟩; obtain ⟨sc, hsc'⟩ : ∃ c, m.S.c = c := ⟨_, rfl⟩
  rw [hsA, hsn, hsc']
  rw [hsA, hsn] at HSA
  simp only [hsn] at HBAD HSP
  rw [hsn, hsc'] at hsc
  rw [hsc'] at hsb
  clear hsA hsn hsc'
  generalize m.F.A = fA at *; generalize m.F.n = fn at *; generalize m.F.c = fcc at *
  go_enter Tryz.func88, Tryz.ntmps88
  go_wp2_with fail
  (first | refine name_world ?_ | refine (show (∀ W, W = _ → Calls _ _ _ W _) → Calls _ _ _ _ _ from fun h => h _ rfl) ?_); intro W0 hW0
  have g0 : Gr w W0 := by rw [hW0]; exact gr_auto
  have k0_0 : W0.cell? ⟨w.heap.size, 0, none⟩ = some (.slice sA sn sc) := by rw [hW0]; first | (simp [go_sem, *]; done) | (refine Gr.at ?_ (by assumption); exact gr_auto)
  have b0_0 : w.heap.size < W0.heap.size := World.block_lt_of_cell? _ _ k0_0
  have k0_1 : W0.cell? ⟨w.heap.size + 1, 0, none⟩ = some (.int .i64 fa) := by rw [hW0]; first | (simp [go_sem, *]; done) | (refine Gr.at ?_ (by assumption); exact gr_auto)
  have b0_1 : w.heap.size + 1 < W0.heap.size := World.block_lt_of_cell? _ _ k0_1
  have k0_2 : W0.cell? ⟨w.heap.size + 1, 1, none⟩ = some (.int .i64 fb) := by rw [hW0]; first | (simp [go_sem, *]; done) | (refine Gr.at ?_ (by assumption); exact gr_auto)
  have k0_3 : W0.cell? ⟨w.heap.size + 1, 2, none⟩ = some (.int .i64 fc) := by rw [hW0]; first | (simp [go_sem, *]; done) | (refine Gr.at ?_ (by assumption); exact gr_auto)
  have k0_4 : W0.cell? ⟨w.heap.size + 1, 3, none⟩ = some (.int .i64 fk) := by rw [hW0]; first | (simp [go_sem, *]; done) | (refine Gr.at ?_ (by assumption); exact gr_auto)
  have k0_5 : W0.cell? ⟨w.heap.size + 1 + 1, 0, none⟩ = some (.int .i64 fa) := by rw [hW0]; first | (simp [go_sem, *]; done) | (refine Gr.at ?_ (by assumption); exact gr_auto)
  have b0_5 : w.heap.size + 1 + 1 < W0.heap.size := World.block_lt_of_cell? _ _ k0_5
  have k0_6 : W0.cell? ⟨w.heap.size + 1 + 1, 1, none⟩ = some (.int .i64 fb) := by rw [hW0]; first | (simp [go_sem, *]; done) | (refine Gr.at ?_ (by assumption); exact gr_auto)
  have k0_7 : W0.cell? ⟨w.heap.size + 1 + 1, 2, none⟩ = some (.int .i64 fc) := by rw [hW0]; first | (simp [go_sem, *]; done) | (refine Gr.at ?_ (by assumption); exact gr_auto)
  clear hW0
  obtain ⟨B, hB⟩ : ∃ B, w.heap.size + 1 + 1 = B := ⟨_, rfl⟩
  rw [hB] at k0_5 k0_6 k0_7 ⊢
  clear hB
  go_loopw [6] (fun x wr => ∃ i : Nat, i ≤ 3 ∧ x = .int .i64 (i : Int) ∧ Hid (Ba.any P i = false) ∧ Gr W0 wr) (fun x _ => 3 - (intOf x).toNat)
  case atStart => exact ⟨0, by omega, rfl, Lib.hid rfl, Gr.refl _⟩
  case round =>
    obtain ⟨i, hi, rfl, HQ, hg⟩ := hrel
    have gr : Gr w wr := g0.trans hg
    replace k0_0 := Gr.at hg k0_0
    replace k0_1 := Gr.at hg k0_1
    replace k0_2 := Gr.at hg k0_2
    replace k0_3 := Gr.at hg k0_3
    replace k0_4 := Gr.at hg k0_4
    replace k0_5 := Gr.at hg k0_5
    replace k0_6 := Gr.at hg k0_6
    replace k0_7 := Gr.at hg k0_7
    by_cases hlt : i < 3
    · rcases (by omega : i = 0 ∨ i = 1 ∨ i = 2) with rfl | rfl | rfl
      · have HB := HBAD.out 0
        simp only [CF0.out, CF1.out] at HB
        cases c1 : decide (fa < 0)
        · rw [c1] at HB
          cases c2 : decide ((sn : Int) ≤ fa)
          · rw [c2] at HB
            cases c3 : (fa == fb)
            · rw [c3] at HB
              obtain ⟨ix, rfl⟩ : ∃ ix : Nat, fa = (ix : Int) := ⟨fa.toNat, by have := of_decide_eq_false c1; omega⟩
              rw [Int.toNat_natCast] at HB
              have hix : ix < sn := by have := of_decide_eq_false c2; omega
              have i0 : (0 : Int) ≤ (ix : Int) := by omega
              have i1 : (ix : Int) < (sn : Int) := by omega
              have i2 : decide (sn ≤ ix) = false := decide_eq_false (by omega)
              obtain rfl := HSA.out (by omega)
              obtain ⟨⟨s0, s1, s2⟩, so_⟩ := HSP.out ix hix
              replace s0 := Gr.at gr s0; replace s1 := Gr.at gr s1; replace s2 := Gr.at gr s2
              have HSPq := Lib.hid (fun W => rs_spot (m.S.D ix) W)
              unfold Ba.Spot.val at HSPq
              clear HSP HSA
              obtain ⟨q, hq⟩ : ∃ q, Ms.spB (m.S.D ix) = q := ⟨_, rfl⟩
              rw [hq] at HB HSPq
              clear hq
              generalize m.S.D ix = s at *
              generalize m.S.b = sb at *; generalize m.S.o = so at *
              cases q
              · have HR := Lib.hid (Ms.any_hit (p := P) (n := 3) (i := 0) (by rw [HB]; rfl) (by omega))
                clear HB HBAD
                go_wp2_with fail
                (first | refine name_world ?_ | refine (show (∀ W, W = _ → Calls _ _ _ W _) → Calls _ _ _ _ _ from fun h => h _ rfl) ?_); intro W1 hW1
                have g1 : Gr w W1 := by rw [hW1]; exact gr_auto
                have gb1_wr : Gr wr W1 := by (try clear g1); rw [hW1]; exact gr_auto
                have k1_0 : W1.cell? ⟨w.heap.size, 0, none⟩ = some (.slice (some ⟨sb, so, none⟩) sn sc) := by rw [hW1]; first | (simp [go_sem, *]; done) | (refine Gr.at ?_ (by assumption); exact gr_auto)
                have b1_0 : w.heap.size < W1.heap.size := World.block_lt_of_cell? _ _ k1_0
                have k1_1 : W1.cell? ⟨B, 0, none⟩ = some (.int .i64 (ix : Int)) := by rw [hW1]; first | (simp [go_sem, *]; done) | (refine Gr.at ?_ (by assumption); exact gr_auto)
                have b1_1 : B < W1.heap.size := World.block_lt_of_cell? _ _ k1_1
                have k1_2 : W1.cell? ⟨B, 1, none⟩ = some (.int .i64 fb) := by rw [hW1]; first | (simp [go_sem, *]; done) | (refine Gr.at ?_ (by assumption); exact gr_auto)
                have k1_3 : W1.cell? ⟨B, 2, none⟩ = some (.int .i64 fc) := by rw [hW1]; first | (simp [go_sem, *]; done) | (refine Gr.at ?_ (by assumption); exact gr_auto)
                have k1_4 : W1.cell? ⟨sb, so + ix * 3, none⟩ = some (.int .i64 s.x) := by rw [hW1]; first | (simp [go_sem, *]; done) | (refine Gr.at ?_ (by assumption); exact gr_auto)
                have b1_4 : sb < W1.heap.size := World.block_lt_of_cell? _ _ k1_4
                have k1_5 : W1.cell? ⟨sb, so + ix * 3 + 1, none⟩ = some (.int .i64 s.y) := by rw [hW1]; first | (simp [go_sem, *]; done) | (refine Gr.at ?_ (by assumption); exact gr_auto)
                have k1_6 : W1.cell? ⟨sb, so + ix * 3 + 2, none⟩ = some (.int .i64 s.z) := by rw [hW1]; first | (simp [go_sem, *]; done) | (refine Gr.at ?_ (by assumption); exact gr_auto)
                clear hW1
                have s1_0 : ∀ gw : GW W1, gw.1.cell? ⟨w.heap.size, 0, none⟩ = some (.slice (some ⟨sb, so, none⟩) sn sc) := fun gw => Gr.at gw.2 k1_0
                have s1_1 : ∀ gw : GW W1, gw.1.cell? ⟨B, 0, none⟩ = some (.int .i64 (ix : Int)) := fun gw => Gr.at gw.2 k1_1
                have s1_2 : ∀ gw : GW W1, gw.1.cell? ⟨B, 1, none⟩ = some (.int .i64 fb) := fun gw => Gr.at gw.2 k1_2
                have s1_3 : ∀ gw : GW W1, gw.1.cell? ⟨B, 2, none⟩ = some (.int .i64 fc) := fun gw => Gr.at gw.2 k1_3
                have s1_4 : ∀ gw : GW W1, gw.1.cell? ⟨sb, so + ix * 3, none⟩ = some (.int .i64 s.x) := fun gw => Gr.at gw.2 k1_4
                have s1_5 : ∀ gw : GW W1, gw.1.cell? ⟨sb, so + ix * 3 + 1, none⟩ = some (.int .i64 s.y) := fun gw => Gr.at gw.2 k1_5
                have s1_6 : ∀ gw : GW W1, gw.1.cell? ⟨sb, so + ix * 3 + 2, none⟩ = some (.int .i64 s.z) := fun gw => Gr.at gw.2 k1_6
                have Q1 := Lib.hid (fun gw : GW W1 => gw_call (HSPq.out gw.1))
                refine wp_region_gr (by kernel_rfl) (by kernel_rfl) ?_
                repeat (go_big_quiet_step ((go_at_call 85; with_reducible exact Q1.out _)))
                refine wpQuiet_nil ?_
                intro w2 hb2
                clear s1_0 s1_1 s1_2 s1_3 s1_4 s1_5 s1_6
                have g2 : Gr w w2 := g1.trans hb2
                have k1_0 := Gr.at hb2 k1_0
                have k1_1 := Gr.at hb2 k1_1
                have k1_2 := Gr.at hb2 k1_2
                have k1_3 := Gr.at hb2 k1_3
                have k1_4 := Gr.at hb2 k1_4
                have k1_5 := Gr.at hb2 k1_5
                have k1_6 := Gr.at hb2 k1_6
                go_wp2_with fail
                go_ret
                exact ⟨by rw [HFC.out, HR.out]; rfl, gr.trans (gb1_wr.trans hb2)⟩
              · have HR := Lib.hid (Ms.any_go HQ.out (by rw [HB]; rfl))
                clear HB HBAD HQ
                go_wp2_with fail
                (first | refine name_world ?_ | refine (show (∀ W, W = _ → Calls _ _ _ W _) → Calls _ _ _ _ _ from fun h => h _ rfl) ?_); intro W1 hW1
                have g1 : Gr w W1 := by rw [hW1]; exact gr_auto
                have gb1_wr : Gr wr W1 := by (try clear g1); rw [hW1]; exact gr_auto
                have k1_0 : W1.cell? ⟨w.heap.size, 0, none⟩ = some (.slice (some ⟨sb, so, none⟩) sn sc) := by rw [hW1]; first | (simp [go_sem, *]; done) | (refine Gr.at ?_ (by assumption); exact gr_auto)
                have b1_0 : w.heap.size < W1.heap.size := World.block_lt_of_cell? _ _ k1_0
                have k1_1 : W1.cell? ⟨B, 0, none⟩ = some (.int .i64 (ix : Int)) := by rw [hW1]; first | (simp [go_sem, *]; done) | (refine Gr.at ?_ (by assumption); exact gr_auto)
                have b1_1 : B < W1.heap.size := World.block_lt_of_cell? _ _ k1_1
                have k1_2 : W1.cell? ⟨B, 1, none⟩ = some (.int .i64 fb) := by rw [hW1]; first | (simp [go_sem, *]; done) | (refine Gr.at ?_ (by assumption); exact gr_auto)
                have k1_3 : W1.cell? ⟨B, 2, none⟩ = some (.int .i64 fc) := by rw [hW1]; first | (simp [go_sem, *]; done) | (refine Gr.at ?_ (by assumption); exact gr_auto)
                have k1_4 : W1.cell? ⟨sb, so + ix * 3, none⟩ = some (.int .i64 s.x) := by rw [hW1]; first | (simp [go_sem, *]; done) | (refine Gr.at ?_ (by assumption); exact gr_auto)
                have b1_4 : sb < W1.heap.size := World.block_lt_of_cell? _ _ k1_4
                have k1_5 : W1.cell? ⟨sb, so + ix * 3 + 1, none⟩ = some (.int .i64 s.y) := by rw [hW1]; first | (simp [go_sem, *]; done) | (refine Gr.at ?_ (by assumption); exact gr_auto)
                have k1_6 : W1.cell? ⟨sb, so + ix * 3 + 2, none⟩ = some (.int .i64 s.z) := by rw [hW1]; first | (simp [go_sem, *]; done) | (refine Gr.at ?_ (by assumption); exact gr_auto)
                clear hW1
                have s1_0 : ∀ gw : GW W1, gw.1.cell? ⟨w.heap.size, 0, none⟩ = some (.slice (some ⟨sb, so, none⟩) sn sc) := fun gw => Gr.at gw.2 k1_0
                have s1_1 : ∀ gw : GW W1, gw.1.cell? ⟨B, 0, none⟩ = some (.int .i64 (ix : Int)) := fun gw => Gr.at gw.2 k1_1
                have s1_2 : ∀ gw : GW W1, gw.1.cell? ⟨B, 1, none⟩ = some (.int .i64 fb) := fun gw => Gr.at gw.2 k1_2
                have s1_3 : ∀ gw : GW W1, gw.1.cell? ⟨B, 2, none⟩ = some (.int .i64 fc) := fun gw => Gr.at gw.2 k1_3
                have s1_4 : ∀ gw : GW W1, gw.1.cell? ⟨sb, so + ix * 3, none⟩ = some (.int .i64 s.x) := fun gw => Gr.at gw.2 k1_4
                have s1_5 : ∀ gw : GW W1, gw.1.cell? ⟨sb, so + ix * 3 + 1, none⟩ = some (.int .i64 s.y) := fun gw => Gr.at gw.2 k1_5
                have s1_6 : ∀ gw : GW W1, gw.1.cell? ⟨sb, so + ix * 3 + 2, none⟩ = some (.int .i64 s.z) := fun gw => Gr.at gw.2 k1_6
                have Q1 := Lib.hid (fun gw : GW W1 => gw_call (HSPq.out gw.1))
                refine wp_region_gr (by kernel_rfl) (by kernel_rfl) ?_
                repeat (go_big_quiet_step ((go_at_call 85; with_reducible exact Q1.out _)))
                refine wpQuiet_nil ?_
                intro w2 hb2
                clear s1_0 s1_1 s1_2 s1_3 s1_4 s1_5 s1_6
                have g2 : Gr w w2 := g1.trans hb2
                have k1_0 := Gr.at hb2 k1_0
                have k1_1 := Gr.at hb2 k1_1
                have k1_2 := Gr.at hb2 k1_2
                have k1_3 := Gr.at hb2 k1_3
                have k1_4 := Gr.at hb2 k1_4
                have k1_5 := Gr.at hb2 k1_5
                have k1_6 := Gr.at hb2 k1_6
                go_wp2_with fail
                go_roundw
                case rel => exact ⟨1, by omega, by go_num, HR, hg.trans (gb1_wr.trans hb2)⟩
                case measure => simp [intOf]
            · rw [c3] at HB
              have HR := Lib.hid (Ms.any_hit (p := P) (n := 3) (i := 0) (by rw [HB]; rfl) (by omega))
              clear HB HBAD
              go_wp2_with fail
              (first | refine name_world ?_ | refine (show (∀ W, W = _ → Calls _ _ _ W _) → Calls _ _ _ _ _ from fun h => h _ rfl) ?_); intro W1 hW1
              have g1 : Gr w W1 := by rw [hW1]; exact gr_auto
              have gb1_wr : Gr wr W1 := by (try clear g1); rw [hW1]; exact gr_auto
              have k1_0 : W1.cell? ⟨w.heap.size, 0, none⟩ = some (.slice sA sn sc) := by rw [hW1]; first | (simp [go_sem, *]; done) | (refine Gr.at ?_ (by assumption); exact gr_auto)
              have b1_0 : w.heap.size < W1.heap.size := World.block_lt_of_cell? _ _ k1_0
              have k1_1 : W1.cell? ⟨B, 0, none⟩ = some (.int .i64 fa) := by rw [hW1]; first | (simp [go_sem, *]; done) | (refine Gr.at ?_ (by assumption); exact gr_auto)
              have b1_1 : B < W1.heap.size := World.block_lt_of_cell? _ _ k1_1
              have k1_2 : W1.cell? ⟨B, 1, none⟩ = some (.int .i64 fb) := by rw [hW1]; first | (simp [go_sem, *]; done) | (refine Gr.at ?_ (by assumption); exact gr_auto)
              have k1_3 : W1.cell? ⟨B, 2, none⟩ = some (.int .i64 fc) := by rw [hW1]; first | (simp [go_sem, *]; done) | (refine Gr.at ?_ (by assumption); exact gr_auto)
              clear hW1
              have s1_0 : ∀ gw : GW W1, gw.1.cell? ⟨w.heap.size, 0, none⟩ = some (.slice sA sn sc) := fun gw => Gr.at gw.2 k1_0
              have s1_1 : ∀ gw : GW W1, gw.1.cell? ⟨B, 0, none⟩ = some (.int .i64 fa) := fun gw => Gr.at gw.2 k1_1
              have s1_2 : ∀ gw : GW W1, gw.1.cell? ⟨B, 1, none⟩ = some (.int .i64 fb) := fun gw => Gr.at gw.2 k1_2
              have s1_3 : ∀ gw : GW W1, gw.1.cell? ⟨B, 2, none⟩ = some (.int .i64 fc) := fun gw => Gr.at gw.2 k1_3
              have hnn := Nat.le_refl 0
              refine wp_region_gr (by kernel_rfl) (by kernel_rfl) ?_
              repeat (go_big_quiet_step (skip))
              refine wpQuiet_nil ?_
              intro w2 hb2
              clear s1_0 s1_1 s1_2 s1_3
              have g2 : Gr w w2 := g1.trans hb2
              have k1_0 := Gr.at hb2 k1_0
              have k1_1 := Gr.at hb2 k1_1
              have k1_2 := Gr.at hb2 k1_2
              have k1_3 := Gr.at hb2 k1_3
              go_wp2_with fail
              go_ret
              exact ⟨by rw [HFC.out, HR.out]; rfl, gr.trans (gb1_wr.trans hb2)⟩
          · rw [c2] at HB
            have HR := Lib.hid (Ms.any_hit (p := P) (n := 3) (i := 0) (by rw [HB]; rfl) (by omega))
            clear HB HBAD
            go_wp2_with fail
            (first | refine name_world ?_ | refine (show (∀ W, W = _ → Calls _ _ _ W _) → Calls _ _ _ _ _ from fun h => h _ rfl) ?_); intro W1 hW1
            have g1 : Gr w W1 := by rw [hW1]; exact gr_auto
            have gb1_wr : Gr wr W1 := by (try clear g1); rw [hW1]; exact gr_auto
            have k1_0 : W1.cell? ⟨w.heap.size, 0, none⟩ = some (.slice sA sn sc) := by rw [hW1]; first | (simp [go_sem, *]; done) | (refine Gr.at ?_ (by assumption); exact gr_auto)
            have b1_0 : w.heap.size < W1.heap.size := World.block_lt_of_cell? _ _ k1_0
            have k1_1 : W1.cell? ⟨B, 0, none⟩ = some (.int .i64 fa) := by rw [hW1]; first | (simp [go_sem, *]; done) | (refine Gr.at ?_ (by assumption); exact gr_auto)
            have b1_1 : B < W1.heap.size := World.block_lt_of_cell? _ _ k1_1
            have k1_2 : W1.cell? ⟨B, 1, none⟩ = some (.int .i64 fb) := by rw [hW1]; first | (simp [go_sem, *]; done) | (refine Gr.at ?_ (by assumption); exact gr_auto)
            have k1_3 : W1.cell? ⟨B, 2, none⟩ = some (.int .i64 fc) := by rw [hW1]; first | (simp [go_sem, *]; done) | (refine Gr.at ?_ (by assumption); exact gr_auto)
            clear hW1
            have s1_0 : ∀ gw : GW W1, gw.1.cell? ⟨w.heap.size, 0, none⟩ = some (.slice sA sn sc) := fun gw => Gr.at gw.2 k1_0
            have s1_1 : ∀ gw : GW W1, gw.1.cell? ⟨B, 0, none⟩ = some (.int .i64 fa) := fun gw => Gr.at gw.2 k1_1
            have s1_2 : ∀ gw : GW W1, gw.1.cell? ⟨B, 1, none⟩ = some (.int .i64 fb) := fun gw => Gr.at gw.2 k1_2
            have s1_3 : ∀ gw : GW W1, gw.1.cell? ⟨B, 2, none⟩ = some (.int .i64 fc) := fun gw => Gr.at gw.2 k1_3
            have hnn := Nat.le_refl 0
            refine wp_region_gr (by kernel_rfl) (by kernel_rfl) ?_
            repeat (go_big_quiet_step (skip))
            refine wpQuiet_nil ?_
            intro w2 hb2
            clear s1_0 s1_1 s1_2 s1_3
            have g2 : Gr w w2 := g1.trans hb2
            have k1_0 := Gr.at hb2 k1_0
            have k1_1 := Gr.at hb2 k1_1
            have k1_2 := Gr.at hb2 k1_2
            have k1_3 := Gr.at hb2 k1_3
            go_wp2_with fail
            go_ret
            exact ⟨by rw [HFC.out, HR.out]; rfl, gr.trans (gb1_wr.trans hb2)⟩
        · rw [c1] at HB
          have HR := Lib.hid (Ms.any_hit (p := P) (n := 3) (i := 0) (by rw [HB]; rfl) (by omega))
          clear HB HBAD
          go_wp2_with fail
          (first | refine name_world ?_ | refine (show (∀ W, W = _ → Calls _ _ _ W _) → Calls _ _ _ _ _ from fun h => h _ rfl) ?_); intro W1 hW1
          have g1 : Gr w W1 := by rw [hW1]; exact gr_auto
          have gb1_wr : Gr wr W1 := by (try clear g1); rw [hW1]; exact gr_auto
          have k1_0 : W1.cell? ⟨w.heap.size, 0, none⟩ = some (.slice sA sn sc) := by rw [hW1]; first | (simp [go_sem, *]; done) | (refine Gr.at ?_ (by assumption); exact gr_auto)
          have b1_0 : w.heap.size < W1.heap.size := World.block_lt_of_cell? _ _ k1_0
          have k1_1 : W1.cell? ⟨B, 0, none⟩ = some (.int .i64 fa) := by rw [hW1]; first | (simp [go_sem, *]; done) | (refine Gr.at ?_ (by assumption); exact gr_auto)
          have b1_1 : B < W1.heap.size := World.block_lt_of_cell? _ _ k1_1
          have k1_2 : W1.cell? ⟨B, 1, none⟩ = some (.int .i64 fb) := by rw [hW1]; first | (simp [go_sem, *]; done) | (refine Gr.at ?_ (by assumption); exact gr_auto)
          have k1_3 : W1.cell? ⟨B, 2, none⟩ = some (.int .i64 fc) := by rw [hW1]; first | (simp [go_sem, *]; done) | (refine Gr.at ?_ (by assumption); exact gr_auto)
          clear hW1
          have s1_0 : ∀ gw : GW W1, gw.1.cell? ⟨w.heap.size, 0, none⟩ = some (.slice sA sn sc) := fun gw => Gr.at gw.2 k1_0
          have s1_1 : ∀ gw : GW W1, gw.1.cell? ⟨B, 0, none⟩ = some (.int .i64 fa) := fun gw => Gr.at gw.2 k1_1
          have s1_2 : ∀ gw : GW W1, gw.1.cell? ⟨B, 1, none⟩ = some (.int .i64 fb) := fun gw => Gr.at gw.2 k1_2
          have s1_3 : ∀ gw : GW W1, gw.1.cell? ⟨B, 2, none⟩ = some (.int .i64 fc) := fun gw => Gr.at gw.2 k1_3
          have hnn := Nat.le_refl 0
          refine wp_region_gr (by kernel_rfl) (by kernel_rfl) ?_
          repeat (go_big_quiet_step (skip))
          refine wpQuiet_nil ?_
          intro w2 hb2
          clear s1_0 s1_1 s1_2 s1_3
          have g2 : Gr w w2 := g1.trans hb2
          have k1_0 := Gr.at hb2 k1_0
          have k1_1 := Gr.at hb2 k1_1
          have k1_2 := Gr.at hb2 k1_2
          have k1_3 := Gr.at hb2 k1_3
          go_wp2_with fail
          go_ret
          exact ⟨by rw [HFC.out, HR.out]; rfl, gr.trans (gb1_wr.trans hb2)⟩
      · have HB := HBAD.out 1
        simp only [CF1.out, CF2.out] at HB
        cases c1 : decide (fb < 0)
        · rw [c1] at HB
          cases c2 : decide ((sn : Int) ≤ fb)
          · rw [c2] at HB
            cases c3 : (fb == fc)
            · rw [c3] at HB
              obtain ⟨ix, rfl⟩ : ∃ ix : Nat, fb = (ix : Int) := ⟨fb.toNat, by have := of_decide_eq_false c1; omega⟩
              rw [Int.toNat_natCast] at HB
              have hix : ix < sn := by have := of_decide_eq_false c2; omega
              have i0 : (0 : Int) ≤ (ix : Int) := by omega
              have i1 : (ix : Int) < (sn : Int) := by omega
              have i2 : decide (sn ≤ ix) = false := decide_eq_false (by omega)
              obtain rfl := HSA.out (by omega)
              obtain ⟨⟨s0, s1, s2⟩, so_⟩ := HSP.out ix hix
              replace s0 := Gr.at gr s0; replace s1 := Gr.at gr s1; replace s2 := Gr.at gr s2
              have HSPq := Lib.hid (fun W => rs_spot (m.S.D ix) W)
              unfold Ba.Spot.val at HSPq
              clear HSP HSA
              obtain ⟨q, hq⟩ : ∃ q, Ms.spB (m.S.D ix) = q := ⟨_, rfl⟩
              rw [hq] at HB HSPq
              clear hq
              generalize m.S.D ix = s at *
              generalize m.S.b = sb at *; generalize m.S.o = so at *
              cases q
              · have HR := Lib.hid (Ms.any_hit (p := P) (n := 3) (i := 1) (by rw [HB]; rfl) (by omega))
                clear HB HBAD
                go_wp2_with fail
                (first | refine name_world ?_ | refine (show (∀ W, W = _ → Calls _ _ _ W _) → Calls _ _ _ _ _ from fun h => h _ rfl) ?_); intro W1 hW1
                have g1 : Gr w W1 := by rw [hW1]; exact gr_auto
                have gb1_wr : Gr wr W1 := by (try clear g1); rw [hW1]; exact gr_auto
                have k1_0 : W1.cell? ⟨w.heap.size, 0, none⟩ = some (.slice (some ⟨sb, so, none⟩) sn sc) := by rw [hW1]; first | (simp [go_sem, *]; done) | (refine Gr.at ?_ (by assumption); exact gr_auto)
                have b1_0 : w.heap.size < W1.heap.size := World.block_lt_of_cell? _ _ k1_0
                have k1_1 : W1.cell? ⟨B, 0, none⟩ = some (.int .i64 fa) := by rw [hW1]; first | (simp [go_sem, *]; done) | (refine Gr.at ?_ (by assumption); exact gr_auto)
                have b1_1 : B < W1.heap.size := World.block_lt_of_cell? _ _ k1_1
                have k1_2 : W1.cell? ⟨B, 1, none⟩ = some (.int .i64 (ix : Int)) := by rw [hW1]; first | (simp [go_sem, *]; done) | (refine Gr.at ?_ (by assumption); exact gr_auto)
                have k1_3 : W1.cell? ⟨B, 2, none⟩ = some (.int .i64 fc) := by rw [hW1]; first | (simp [go_sem, *]; done) | (refine Gr.at ?_ (by assumption); exact gr_auto)
                have k1_4 : W1.cell? ⟨sb, so + ix * 3, none⟩ = some (.int .i64 s.x) := by rw [hW1]; first | (simp [go_sem, *]; done) | (refine Gr.at ?_ (by assumption); exact gr_auto)
                have b1_4 : sb < W1.heap.size := World.block_lt_of_cell? _ _ k1_4
                have k1_5 : W1.cell? ⟨sb, so + ix * 3 + 1, none⟩ = some (.int .i64 s.y) := by rw [hW1]; first | (simp [go_sem, *]; done) | (refine Gr.at ?_ (by assumption); exact gr_auto)
                have k1_6 : W1.cell? ⟨sb, so + ix * 3 + 2, none⟩ = some (.int .i64 s.z) := by rw [hW1]; first | (simp [go_sem, *]; done) | (refine Gr.at ?_ (by assumption); exact gr_auto)
                clear hW1
                have s1_0 : ∀ gw : GW W1, gw.1.cell? ⟨w.heap.size, 0, none⟩ = some (.slice (some ⟨sb, so, none⟩) sn sc) := fun gw => Gr.at gw.2 k1_0
                have s1_1 : ∀ gw : GW W1, gw.1.cell? ⟨B, 0, none⟩ = some (.int .i64 fa) := fun gw => Gr.at gw.2 k1_1
                have s1_2 : ∀ gw : GW W1, gw.1.cell? ⟨B, 1, none⟩ = some (.int .i64 (ix : Int)) := fun gw => Gr.at gw.2 k1_2
                have s1_3 : ∀ gw : GW W1, gw.1.cell? ⟨B, 2, none⟩ = some (.int .i64 fc) := fun gw => Gr.at gw.2 k1_3
                have s1_4 : ∀ gw : GW W1, gw.1.cell? ⟨sb, so + ix * 3, none⟩ = some (.int .i64 s.x) := fun gw => Gr.at gw.2 k1_4
                have s1_5 : ∀ gw : GW W1, gw.1.cell? ⟨sb, so + ix * 3 + 1, none⟩ = some (.int .i64 s.y) := fun gw => Gr.at gw.2 k1_5
                have s1_6 : ∀ gw : GW W1, gw.1.cell? ⟨sb, so + ix * 3 + 2, none⟩ = some (.int .i64 s.z) := fun gw => Gr.at gw.2 k1_6
                have Q1 := Lib.hid (fun gw : GW W1 => gw_call (HSPq.out gw.1))
                refine wp_region_gr (by kernel_rfl) (by kernel_rfl) ?_
                repeat (go_big_quiet_step ((go_at_call 85; with_reducible exact Q1.out _)))
                refine wpQuiet_nil ?_
                intro w2 hb2
                clear s1_0 s1_1 s1_2 s1_3 s1_4 s1_5 s1_6
                have g2 : Gr w w2 := g1.trans hb2
                have k1_0 := Gr.at hb2 k1_0
                have k1_1 := Gr.at hb2 k1_1
                have k1_2 := Gr.at hb2 k1_2
                have k1_3 := Gr.at hb2 k1_3
                have k1_4 := Gr.at hb2 k1_4
                have k1_5 := Gr.at hb2 k1_5
                have k1_6 := Gr.at hb2 k1_6
                go_wp2_with fail
                go_ret
                exact ⟨by rw [HFC.out, HR.out]; rfl, gr.trans (gb1_wr.trans hb2)⟩
              · have HR := Lib.hid (Ms.any_go HQ.out (by rw [HB]; rfl))
                clear HB HBAD HQ
                go_wp2_with fail
                (first | refine name_world ?_ | refine (show (∀ W, W = _ → Calls _ _ _ W _) → Calls _ _ _ _ _ from fun h => h _ rfl) ?_); intro W1 hW1
                have g1 : Gr w W1 := by rw [hW1]; exact gr_auto
                have gb1_wr : Gr wr W1 := by (try clear g1); rw [hW1]; exact gr_auto
                have k1_0 : W1.cell? ⟨w.heap.size, 0, none⟩ = some (.slice (some ⟨sb, so, none⟩) sn sc) := by rw [hW1]; first | (simp [go_sem, *]; done) | (refine Gr.at ?_ (by assumption); exact gr_auto)
                have b1_0 : w.heap.size < W1.heap.size := World.block_lt_of_cell? _ _ k1_0
                have k1_1 : W1.cell? ⟨B, 0, none⟩ = some (.int .i64 fa) := by rw [hW1]; first | (simp [go_sem, *]; done) | (refine Gr.at ?_ (by assumption); exact gr_auto)
                have b1_1 : B < W1.heap.size := World.block_lt_of_cell? _ _ k1_1
                have k1_2 : W1.cell? ⟨B, 1, none⟩ = some (.int .i64 (ix : Int)) := by rw [hW1]; first | (simp [go_sem, *]; done) | (refine Gr.at ?_ (by assumption); exact gr_auto)
                have k1_3 : W1.cell? ⟨B, 2, none⟩ = some (.int .i64 fc) := by rw [hW1]; first | (simp [go_sem, *]; done) | (refine Gr.at ?_ (by assumption); exact gr_auto)
                have k1_4 : W1.cell? ⟨sb, so + ix * 3, none⟩ = some (.int .i64 s.x) := by rw [hW1]; first | (simp [go_sem, *]; done) | (refine Gr.at ?_ (by assumption); exact gr_auto)
                have b1_4 : sb < W1.heap.size := World.block_lt_of_cell? _ _ k1_4
                have k1_5 : W1.cell? ⟨sb, so + ix * 3 + 1, none⟩ = some (.int .i64 s.y) := by rw [hW1]; first | (simp [go_sem, *]; done) | (refine Gr.at ?_ (by assumption); exact gr_auto)
                have k1_6 : W1.cell? ⟨sb, so + ix * 3 + 2, none⟩ = some (.int .i64 s.z) := by rw [hW1]; first | (simp [go_sem, *]; done) | (refine Gr.at ?_ (by assumption); exact gr_auto)
                clear hW1
                have s1_0 : ∀ gw : GW W1, gw.1.cell? ⟨w.heap.size, 0, none⟩ = some (.slice (some ⟨sb, so, none⟩) sn sc) := fun gw => Gr.at gw.2 k1_0
                have s1_1 : ∀ gw : GW W1, gw.1.cell? ⟨B, 0, none⟩ = some (.int .i64 fa) := fun gw => Gr.at gw.2 k1_1
                have s1_2 : ∀ gw : GW W1, gw.1.cell? ⟨B, 1, none⟩ = some (.int .i64 (ix : Int)) := fun gw => Gr.at gw.2 k1_2
                have s1_3 : ∀ gw : GW W1, gw.1.cell? ⟨B, 2, none⟩ = some (.int .i64 fc) := fun gw => Gr.at gw.2 k1_3
                have s1_4 : ∀ gw : GW W1, gw.1.cell? ⟨sb, so + ix * 3, none⟩ = some (.int .i64 s.x) := fun gw => Gr.at gw.2 k1_4
                have s1_5 : ∀ gw : GW W1, gw.1.cell? ⟨sb, so + ix * 3 + 1, none⟩ = some (.int .i64 s.y) := fun gw => Gr.at gw.2 k1_5
                have s1_6 : ∀ gw : GW W1, gw.1.cell? ⟨sb, so + ix * 3 + 2, none⟩ = some (.int .i64 s.z) := fun gw => Gr.at gw.2 k1_6
                have Q1 := Lib.hid (fun gw : GW W1 => gw_call (HSPq.out gw.1))
                refine wp_region_gr (by kernel_rfl) (by kernel_rfl) ?_
                repeat (go_big_quiet_step ((go_at_call 85; with_reducible exact Q1.out _)))
                refine wpQuiet_nil ?_
                intro w2 hb2
                clear s1_0 s1_1 s1_2 s1_3 s1_4 s1_5 s1_6
                have g2 : Gr w w2 := g1.trans hb2
                have k1_0 := Gr.at hb2 k1_0
                have k1_1 := Gr.at hb2 k1_1
                have k1_2 := Gr.at hb2 k1_2
                have k1_3 := Gr.at hb2 k1_3
                have k1_4 := Gr.at hb2 k1_4
                have k1_5 := Gr.at hb2 k1_5
                have k1_6 := Gr.at hb2 k1_6
                go_wp2_with fail
                go_roundw
                case rel => exact ⟨2, by omega, by go_num, HR, hg.trans (gb1_wr.trans hb2)⟩
                case measure => simp [intOf]
            · rw [c3] at HB
              have HR := Lib.hid (Ms.any_hit (p := P) (n := 3) (i := 1) (by rw [HB]; rfl) (by omega))
              clear HB HBAD
              go_wp2_with fail
              (first | refine name_world ?_ | refine (show (∀ W, W = _ → Calls _ _ _ W _) → Calls _ _ _ _ _ from fun h => h _ rfl) ?_); intro W1 hW1
              have g1 : Gr w W1 := by rw [hW1]; exact gr_auto
              have gb1_wr : Gr wr W1 := by (try clear g1); rw [hW1]; exact gr_auto
              have k1_0 : W1.cell? ⟨w.heap.size, 0, none⟩ = some (.slice sA sn sc) := by rw [hW1]; first | (simp [go_sem, *]; done) | (refine Gr.at ?_ (by assumption); exact gr_auto)
              have b1_0 : w.heap.size < W1.heap.size := World.block_lt_of_cell? _ _ k1_0
              have k1_1 : W1.cell? ⟨B, 0, none⟩ = some (.int .i64 fa) := by rw [hW1]; first | (simp [go_sem, *]; done) | (refine Gr.at ?_ (by assumption); exact gr_auto)
              have b1_1 : B < W1.heap.size := World.block_lt_of_cell? _ _ k1_1
              have k1_2 : W1.cell? ⟨B, 1, none⟩ = some (.int .i64 fb) := by rw [hW1]; first | (simp [go_sem, *]; done) | (refine Gr.at ?_ (by assumption); exact gr_auto)
              have k1_3 : W1.cell? ⟨B, 2, none⟩ = some (.int .i64 fc) := by rw [hW1]; first | (simp [go_sem, *]; done) | (refine Gr.at ?_ (by assumption); exact gr_auto)
              clear hW1
              have s1_0 : ∀ gw : GW W1, gw.1.cell? ⟨w.heap.size, 0, none⟩ = some (.slice sA sn sc) := fun gw => Gr.at gw.2 k1_0
              have s1_1 : ∀ gw : GW W1, gw.1.cell? ⟨B, 0, none⟩ = some (.int .i64 fa) := fun gw => Gr.at gw.2 k1_1
              have s1_2 : ∀ gw : GW W1, gw.1.cell? ⟨B, 1, none⟩ = some (.int .i64 fb) := fun gw => Gr.at gw.2 k1_2
              have s1_3 : ∀ gw : GW W1, gw.1.cell? ⟨B, 2, none⟩ = some (.int .i64 fc) := fun gw => Gr.at gw.2 k1_3
              have hnn := Nat.le_refl 0
              refine wp_region_gr (by kernel_rfl) (by kernel_rfl) ?_
              repeat (go_big_quiet_step (skip))
              refine wpQuiet_nil ?_
              intro w2 hb2
              clear s1_0 s1_1 s1_2 s1_3
              have g2 : Gr w w2 := g1.trans hb2
              have k1_0 := Gr.at hb2 k1_0
              have k1_1 := Gr.at hb2 k1_1
              have k1_2 := Gr.at hb2 k1_2
              have k1_3 := Gr.at hb2 k1_3
              go_wp2_with fail
              go_ret
              exact ⟨by rw [HFC.out, HR.out]; rfl, gr.trans (gb1_wr.trans hb2)⟩
          · rw [c2] at HB
            have HR := Lib.hid (Ms.any_hit (p := P) (n := 3) (i := 1) (by rw [HB]; rfl) (by omega))
            clear HB HBAD
            go_wp2_with fail
            (first | refine name_world ?_ | refine (show (∀ W, W = _ → Calls _ _ _ W _) → Calls _ _ _ _ _ from fun h => h _ rfl) ?_); intro W1 hW1
            have g1 : Gr w W1 := by rw [hW1]; exact gr_auto
            have gb1_wr : Gr wr W1 := by (try clear g1); rw [hW1]; exact gr_auto
            have k1_0 : W1.cell? ⟨w.heap.size, 0, none⟩ = some (.slice sA sn sc) := by rw [hW1]; first | (simp [go_sem, *]; done) | (refine Gr.at ?_ (by assumption); exact gr_auto)
            have b1_0 : w.heap.size < W1.heap.size := World.block_lt_of_cell? _ _ k1_0
            have k1_1 : W1.cell? ⟨B, 0, none⟩ = some (.int .i64 fa) := by rw [hW1]; first | (simp [go_sem, *]; done) | (refine Gr.at ?_ (by assumption); exact gr_auto)
            have b1_1 : B < W1.heap.size := World.block_lt_of_cell? _ _ k1_1
            have k1_2 : W1.cell? ⟨B, 1, none⟩ = some (.int .i64 fb) := by rw [hW1]; first | (simp [go_sem, *]; done) | (refine Gr.at ?_ (by assumption); exact gr_auto)
            have k1_3 : W1.cell? ⟨B, 2, none⟩ = some (.int .i64 fc) := by rw [hW1]; first | (simp [go_sem, *]; done) | (refine Gr.at ?_ (by assumption); exact gr_auto)
            clear hW1
            have s1_0 : ∀ gw : GW W1, gw.1.cell? ⟨w.heap.size, 0, none⟩ = some (.slice sA sn sc) := fun gw => Gr.at gw.2 k1_0
            have s1_1 : ∀ gw : GW W1, gw.1.cell? ⟨B, 0, none⟩ = some (.int .i64 fa) := fun gw => Gr.at gw.2 k1_1
            have s1_2 : ∀ gw : GW W1, gw.1.cell? ⟨B, 1, none⟩ = some (.int .i64 fb) := fun gw => Gr.at gw.2 k1_2
            have s1_3 : ∀ gw : GW W1, gw.1.cell? ⟨B, 2, none⟩ = some (.int .i64 fc) := fun gw => Gr.at gw.2 k1_3
            have hnn := Nat.le_refl 0
            refine wp_region_gr (by kernel_rfl) (by kernel_rfl) ?_
            repeat (go_big_quiet_step (skip))
            refine wpQuiet_nil ?_
            intro w2 hb2
            clear s1_0 s1_1 s1_2 s1_3
            have g2 : Gr w w2 := g1.trans hb2
            have k1_0 := Gr.at hb2 k1_0
            have k1_1 := Gr.at hb2 k1_1
            have k1_2 := Gr.at hb2 k1_2
            have k1_3 := Gr.at hb2 k1_3
            go_wp2_with fail
            go_ret
            exact ⟨by rw [HFC.out, HR.out]; rfl, gr.trans (gb1_wr.trans hb2)⟩
        · rw [c1] at HB
          have HR := Lib.hid (Ms.any_hit (p := P) (n := 3) (i := 1) (by rw [HB]; rfl) (by omega))
          clear HB HBAD
          go_wp2_with fail
          (first | refine name_world ?_ | refine (show (∀ W, W = _ → Calls _ _ _ W _) → Calls _ _ _ _ _ from fun h => h _ rfl) ?_); intro W1 hW1
          have g1 : Gr w W1 := by rw [hW1]; exact gr_auto
          have gb1_wr : Gr wr W1 := by (try clear g1); rw [hW1]; exact gr_auto
          have k1_0 : W1.cell? ⟨w.heap.size, 0, none⟩ = some (.slice sA sn sc) := by rw [hW1]; first | (simp [go_sem, *]; done) | (refine Gr.at ?_ (by assumption); exact gr_auto)
          have b1_0 : w.heap.size < W1.heap.size := World.block_lt_of_cell? _ _ k1_0
          have k1_1 : W1.cell? ⟨B, 0, none⟩ = some (.int .i64 fa) := by rw [hW1]; first | (simp [go_sem, *]; done) | (refine Gr.at ?_ (by assumption); exact gr_auto)
          have b1_1 : B < W1.heap.size := World.block_lt_of_cell? _ _ k1_1
          have k1_2 : W1.cell? ⟨B, 1, none⟩ = some (.int .i64 fb) := by rw [hW1]; first | (simp [go_sem, *]; done) | (refine Gr.at ?_ (by assumption); exact gr_auto)
          have k1_3 : W1.cell? ⟨B, 2, none⟩ = some (.int .i64 fc) := by rw [hW1]; first | (simp [go_sem, *]; done) | (refine Gr.at ?_ (by assumption); exact gr_auto)
          clear hW1
          have s1_0 : ∀ gw : GW W1, gw.1.cell? ⟨w.heap.size, 0, none⟩ = some (.slice sA sn sc) := fun gw => Gr.at gw.2 k1_0
          have s1_1 : ∀ gw : GW W1, gw.1.cell? ⟨B, 0, none⟩ = some (.int .i64 fa) := fun gw => Gr.at gw.2 k1_1
          have s1_2 : ∀ gw : GW W1, gw.1.cell? ⟨B, 1, none⟩ = some (.int .i64 fb) := fun gw => Gr.at gw.2 k1_2
          have s1_3 : ∀ gw : GW W1, gw.1.cell? ⟨B, 2, none⟩ = some (.int .i64 fc) := fun gw => Gr.at gw.2 k1_3
          have hnn := Nat.le_refl 0
          refine wp_region_gr (by kernel_rfl) (by kernel_rfl) ?_
          repeat (go_big_quiet_step (skip))
          refine wpQuiet_nil ?_
          intro w2 hb2
          clear s1_0 s1_1 s1_2 s1_3
          have g2 : Gr w w2 := g1.trans hb2
          have k1_0 := Gr.at hb2 k1_0
          have k1_1 := Gr.at hb2 k1_1
          have k1_2 := Gr.at hb2 k1_2
          have k1_3 := Gr.at hb2 k1_3
          go_wp2_with fail
          go_ret
          exact ⟨by rw [HFC.out, HR.out]; rfl, gr.trans (gb1_wr.trans hb2)⟩
      · have HB := HBAD.out 2
        simp only [CF2.out, CF3.out] at HB
        cases c1 : decide (fc < 0)
        · rw [c1] at HB
          cases c2 : decide ((sn : Int) ≤ fc)
          · rw [c2] at HB
            cases c3 : (fc == fa)
            · rw [c3] at HB
              obtain ⟨ix, rfl⟩ : ∃ ix : Nat, fc = (ix : Int) := ⟨fc.toNat, by have := of_decide_eq_false c1; omega⟩
              rw [Int.toNat_natCast] at HB
              have hix : ix < sn := by have := of_decide_eq_false c2; omega
              have i0 : (0 : Int) ≤ (ix : Int) := by omega
              have i1 : (ix : Int) < (sn : Int) := by omega
              have i2 : decide (sn ≤ ix) = false := decide_eq_false (by omega)
              obtain rfl := HSA.out (by omega)
              obtain ⟨⟨s0, s1, s2⟩, so_⟩ := HSP.out ix hix
              replace s0 := Gr.at gr s0; replace s1 := Gr.at gr s1; replace s2 := Gr.at gr s2
              have HSPq := Lib.hid (fun W => rs_spot (m.S.D ix) W)
              unfold Ba.Spot.val at HSPq
              clear HSP HSA
              obtain ⟨q, hq⟩ : ∃ q, Ms.spB (m.S.D ix) = q := ⟨_, rfl⟩
              rw [hq] at HB HSPq
              clear hq
              generalize m.S.D ix = s at *
              generalize m.S.b = sb at *; generalize m.S.o = so at *
              cases q
              · have HR := Lib.hid (Ms.any_hit (p := P) (n := 3) (i := 2) (by rw [HB]; rfl) (by omega))
                clear HB HBAD
                go_wp2_with fail
                (first | refine name_world ?_ | refine (show (∀ W, W = _ → Calls _ _ _ W _) → Calls _ _ _ _ _ from fun h => h _ rfl) ?_); intro W1 hW1
                have g1 : Gr w W1 := by rw [hW1]; exact gr_auto
                have gb1_wr : Gr wr W1 := by (try clear g1); rw [hW1]; exact gr_auto
                have k1_0 : W1.cell? ⟨w.heap.size, 0, none⟩ = some (.slice (some ⟨sb, so, none⟩) sn sc) := by rw [hW1]; first | (simp [go_sem, *]; done) | (refine Gr.at ?_ (by assumption); exact gr_auto)
                have b1_0 : w.heap.size < W1.heap.size := World.block_lt_of_cell? _ _ k1_0
                have k1_1 : W1.cell? ⟨B, 0, none⟩ = some (.int .i64 fa) := by rw [hW1]; first | (simp [go_sem, *]; done) | (refine Gr.at ?_ (by assumption); exact gr_auto)
                have b1_1 : B < W1.heap.size := World.block_lt_of_cell? _ _ k1_1
                have k1_2 : W1.cell? ⟨B, 1, none⟩ = some (.int .i64 fb) := by rw [hW1]; first | (simp [go_sem, *]; done) | (refine Gr.at ?_ (by assumption); exact gr_auto)
                have k1_3 : W1.cell? ⟨B, 2, none⟩ = some (.int .i64 (ix : Int)) := by rw [hW1]; first | (simp [go_sem, *]; done) | (refine Gr.at ?_ (by assumption); exact gr_auto)
                have k1_4 : W1.cell? ⟨sb, so + ix * 3, none⟩ = some (.int .i64 s.x) := by rw [hW1]; first | (simp [go_sem, *]; done) | (refine Gr.at ?_ (by assumption); exact gr_auto)
                have b1_4 : sb < W1.heap.size := World.block_lt_of_cell? _ _ k1_4
                have k1_5 : W1.cell? ⟨sb, so + ix * 3 + 1, none⟩ = some (.int .i64 s.y) := by rw [hW1]; first | (simp [go_sem, *]; done) | (refine Gr.at ?_ (by assumption); exact gr_auto)
                have k1_6 : W1.cell? ⟨sb, so + ix * 3 + 2, none⟩ = some (.int .i64 s.z) := by rw [hW1]; first | (simp [go_sem, *]; done) | (refine Gr.at ?_ (by assumption); exact gr_auto)
                clear hW1
                have s1_0 : ∀ gw : GW W1, gw.1.cell? ⟨w.heap.size, 0, none⟩ = some (.slice (some ⟨sb, so, none⟩) sn sc) := fun gw => Gr.at gw.2 k1_0
                have s1_1 : ∀ gw : GW W1, gw.1.cell? ⟨B, 0, none⟩ = some (.int .i64 fa) := fun gw => Gr.at gw.2 k1_1
                have s1_2 : ∀ gw : GW W1, gw.1.cell? ⟨B, 1, none⟩ = some (.int .i64 fb) := fun gw => Gr.at gw.2 k1_2
                have s1_3 : ∀ gw : GW W1, gw.1.cell? ⟨B, 2, none⟩ = some (.int .i64 (ix : Int)) := fun gw => Gr.at gw.2 k1_3
                have s1_4 : ∀ gw : GW W1, gw.1.cell? ⟨sb, so + ix * 3, none⟩ = some (.int .i64 s.x) := fun gw => Gr.at gw.2 k1_4
                have s1_5 : ∀ gw : GW W1, gw.1.cell? ⟨sb, so + ix * 3 + 1, none⟩ = some (.int .i64 s.y) := fun gw => Gr.at gw.2 k1_5
                have s1_6 : ∀ gw : GW W1, gw.1.cell? ⟨sb, so + ix * 3 + 2, none⟩ = some (.int .i64 s.z) := fun gw => Gr.at gw.2 k1_6
                have Q1 := Lib.hid (fun gw : GW W1 => gw_call (HSPq.out gw.1))
                refine wp_region_gr (by kernel_rfl) (by kernel_rfl) ?_
                repeat (go_big_quiet_step ((go_at_call 85; with_reducible exact Q1.out _)))
                refine wpQuiet_nil ?_
                intro w2 hb2
                clear s1_0 s1_1 s1_2 s1_3 s1_4 s1_5 s1_6
                have g2 : Gr w w2 := g1.trans hb2
                have k1_0 := Gr.at hb2 k1_0
                have k1_1 := Gr.at hb2 k1_1
                have k1_2 := Gr.at hb2 k1_2
                have k1_3 := Gr.at hb2 k1_3
                have k1_4 := Gr.at hb2 k1_4
                have k1_5 := Gr.at hb2 k1_5
                have k1_6 := Gr.at hb2 k1_6
                go_wp2_with fail
                go_ret
                exact ⟨by rw [HFC.out, HR.out]; rfl, gr.trans (gb1_wr.trans hb2)⟩
              · have HR := Lib.hid (Ms.any_go HQ.out (by rw [HB]; rfl))
                clear HB HBAD HQ
                go_wp2_with fail
                (first | refine name_world ?_ | refine (show (∀ W, W = _ → Calls _ _ _ W _) → Calls _ _ _ _ _ from fun h => h _ rfl) ?_); intro W1 hW1
                have g1 : Gr w W1 := by rw [hW1]; exact gr_auto
                have gb1_wr : Gr wr W1 := by (try clear g1); rw [hW1]; exact gr_auto
                have k1_0 : W1.cell? ⟨w.heap.size, 0, none⟩ = some (.slice (some ⟨sb, so, none⟩) sn sc) := by rw [hW1]; first | (simp [go_sem, *]; done) | (refine Gr.at ?_ (by assumption); exact gr_auto)
                have b1_0 : w.heap.size < W1.heap.size := World.block_lt_of_cell? _ _ k1_0
                have k1_1 : W1.cell? ⟨B, 0, none⟩ = some (.int .i64 fa) := by rw [hW1]; first | (simp [go_sem, *]; done) | (refine Gr.at ?_ (by assumption); exact gr_auto)
                have b1_1 : B < W1.heap.size := World.block_lt_of_cell? _ _ k1_1
                have k1_2 : W1.cell? ⟨B, 1, none⟩ = some (.int .i64 fb) := by rw [hW1]; first | (simp [go_sem, *]; done) | (refine Gr.at ?_ (by assumption); exact gr_auto)
                have k1_3 : W1.cell? ⟨B, 2, none⟩ = some (.int .i64 (ix : Int)) := by rw [hW1]; first | (simp [go_sem, *]; done) | (refine Gr.at ?_ (by assumption); exact gr_auto)
                have k1_4 : W1.cell? ⟨sb, so + ix * 3, none⟩ = some (.int .i64 s.x) := by rw [hW1]; first | (simp [go_sem, *]; done) | (refine Gr.at ?_ (by assumption); exact gr_auto)
                have b1_4 : sb < W1.heap.size := World.block_lt_of_cell? _ _ k1_4
                have k1_5 : W1.cell? ⟨sb, so + ix * 3 + 1, none⟩ = some (.int .i64 s.y) := by rw [hW1]; first | (simp [go_sem, *]; done) | (refine Gr.at ?_ (by assumption); exact gr_auto)
                have k1_6 : W1.cell? ⟨sb, so + ix * 3 + 2, none⟩ = some (.int .i64 s.z) := by rw [hW1]; first | (simp [go_sem, *]; done) | (refine Gr.at ?_ (by assumption); exact gr_auto)
                clear hW1
                have s1_0 : ∀ gw : GW W1, gw.1.cell? ⟨w.heap.size, 0, none⟩ = some (.slice (some ⟨sb, so, none⟩) sn sc) := fun gw => Gr.at gw.2 k1_0
                have s1_1 : ∀ gw : GW W1, gw.1.cell? ⟨B, 0, none⟩ = some (.int .i64 fa) := fun gw => Gr.at gw.2 k1_1
                have s1_2 : ∀ gw : GW W1, gw.1.cell? ⟨B, 1, none⟩ = some (.int .i64 fb) := fun gw => Gr.at gw.2 k1_2
                have s1_3 : ∀ gw : GW W1, gw.1.cell? ⟨B, 2, none⟩ = some (.int .i64 (ix : Int)) := fun gw => Gr.at gw.2 k1_3
                have s1_4 : ∀ gw : GW W1, gw.1.cell? ⟨sb, so + ix * 3, none⟩ = some (.int .i64 s.x) := fun gw => Gr.at gw.2 k1_4
                have s1_5 : ∀ gw : GW W1, gw.1.cell? ⟨sb, so + ix * 3 + 1, none⟩ = some (.int .i64 s.y) := fun gw => Gr.at gw.2 k1_5
                have s1_6 : ∀ gw : GW W1, gw.1.cell? ⟨sb, so + ix * 3 + 2, none⟩ = some (.int .i64 s.z) := fun gw => Gr.at gw.2 k1_6
                have Q1 := Lib.hid (fun gw : GW W1 => gw_call (HSPq.out gw.1))
                refine wp_region_gr (by kernel_rfl) (by kernel_rfl) ?_
                repeat (go_big_quiet_step ((go_at_call 85; with_reducible exact Q1.out _)))
                refine wpQuiet_nil ?_
                intro w2 hb2
                clear s1_0 s1_1 s1_2 s1_3 s1_4 s1_5 s1_6
                have g2 : Gr w w2 := g1.trans hb2
                have k1_0 := Gr.at hb2 k1_0
                have k1_1 := Gr.at hb2 k1_1
                have k1_2 := Gr.at hb2 k1_2
                have k1_3 := Gr.at hb2 k1_3
                have k1_4 := Gr.at hb2 k1_4
                have k1_5 := Gr.at hb2 k1_5
                have k1_6 := Gr.at hb2 k1_6
                go_wp2_with fail
                go_roundw
                case rel => exact ⟨3, by omega, by go_num, HR, hg.trans (gb1_wr.trans hb2)⟩
                case measure => simp [intOf]
            · rw [c3] at HB
              have HR := Lib.hid (Ms.any_hit (p := P) (n := 3) (i := 2) (by rw [HB]; rfl) (by omega))
              clear HB HBAD
              go_wp2_with fail
              (first | refine name_world ?_ | refine (show (∀ W, W = _ → Calls _ _ _ W _) → Calls _ _ _ _ _ from fun h => h _ rfl) ?_); intro W1 hW1
              have g1 : Gr w W1 := by rw [hW1]; exact gr_auto
              have gb1_wr : Gr wr W1 := by (try clear g1); rw [hW1]; exact gr_auto
              have k1_0 : W1.cell? ⟨w.heap.size, 0, none⟩ = some (.slice sA sn sc) := by rw [hW1]; first | (simp [go_sem, *]; done) | (refine Gr.at ?_ (by assumption); exact gr_auto)
              have b1_0 : w.heap.size < W1.heap.size := World.block_lt_of_cell? _ _ k1_0
              have k1_1 : W1.cell? ⟨B, 0, none⟩ = some (.int .i64 fa) := by rw [hW1]; first | (simp [go_sem, *]; done) | (refine Gr.at ?_ (by assumption); exact gr_auto)
              have b1_1 : B < W1.heap.size := World.block_lt_of_cell? _ _ k1_1
              have k1_2 : W1.cell? ⟨B, 1, none⟩ = some (.int .i64 fb) := by rw [hW1]; first | (simp [go_sem, *]; done) | (refine Gr.at ?_ (by assumption); exact gr_auto)
              have k1_3 : W1.cell? ⟨B, 2, none⟩ = some (.int .i64 fc) := by rw [hW1]; first | (simp [go_sem, *]; done) | (refine Gr.at ?_ (by assumption); exact gr_auto)
              clear hW1
              have s1_0 : ∀ gw : GW W1, gw.1.cell? ⟨w.heap.size, 0, none⟩ = some (.slice sA sn sc) := fun gw => Gr.at gw.2 k1_0
              have s1_1 : ∀ gw : GW W1, gw.1.cell? ⟨B, 0, none⟩ = some (.int .i64 fa) := fun gw => Gr.at gw.2 k1_1
              have s1_2 : ∀ gw : GW W1, gw.1.cell? ⟨B, 1, none⟩ = some (.int .i64 fb) := fun gw => Gr.at gw.2 k1_2
              have s1_3 : ∀ gw : GW W1, gw.1.cell? ⟨B, 2, none⟩ = some (.int .i64 fc) := fun gw => Gr.at gw.2 k1_3
              have hnn := Nat.le_refl 0
              refine wp_region_gr (by kernel_rfl) (by kernel_rfl) ?_
              repeat (go_big_quiet_step (skip))
              refine wpQuiet_nil ?_
              intro w2 hb2
              clear s1_0 s1_1 s1_2 s1_3
              have g2 : Gr w w2 := g1.trans hb2
              have k1_0 := Gr.at hb2 k1_0
              have k1_1 := Gr.at hb2 k1_1
              have k1_2 := Gr.at hb2 k1_2
              have k1_3 := Gr.at hb2 k1_3
              go_wp2_with fail
              go_ret
              exact ⟨by rw [HFC.out, HR.out]; rfl, gr.trans (gb1_wr.trans hb2)⟩
          · rw [c2] at HB
            have HR := Lib.hid (Ms.any_hit (p := P) (n := 3) (i := 2) (by rw [HB]; rfl) (by omega))
            clear HB HBAD
            go_wp2_with fail
            (first | refine name_world ?_ | refine (show (∀ W, W = _ → Calls _ _ _ W _) → Calls _ _ _ _ _ from fun h => h _ rfl) ?_); intro W1 hW1
            have g1 : Gr w W1 := by rw [hW1]; exact gr_auto
            have gb1_wr : Gr wr W1 := by (try clear g1); rw [hW1]; exact gr_auto
            have k1_0 : W1.cell? ⟨w.heap.size, 0, none⟩ = some (.slice sA sn sc) := by rw [hW1]; first | (simp [go_sem, *]; done) | (refine Gr.at ?_ (by assumption); exact gr_auto)
            have b1_0 : w.heap.size < W1.heap.size := World.block_lt_of_cell? _ _ k1_0
            have k1_1 : W1.cell? ⟨B, 0, none⟩ = some (.int .i64 fa) := by rw [hW1]; first | (simp [go_sem, *]; done) | (refine Gr.at ?_ (by assumption); exact gr_auto)
            have b1_1 : B < W1.heap.size := World.block_lt_of_cell? _ _ k1_1
            have k1_2 : W1.cell? ⟨B, 1, none⟩ = some (.int .i64 fb) := by rw [hW1]; first | (simp [go_sem, *]; done) | (refine Gr.at ?_ (by assumption); exact gr_auto)
            have k1_3 : W1.cell? ⟨B, 2, none⟩ = some (.int .i64 fc) := by rw [hW1]; first | (simp [go_sem, *]; done) | (refine Gr.at ?_ (by assumption); exact gr_auto)
            clear hW1
            have s1_0 : ∀ gw : GW W1, gw.1.cell? ⟨w.heap.size, 0, none⟩ = some (.slice sA sn sc) := fun gw => Gr.at gw.2 k1_0
            have s1_1 : ∀ gw : GW W1, gw.1.cell? ⟨B, 0, none⟩ = some (.int .i64 fa) := fun gw => Gr.at gw.2 k1_1
            have s1_2 : ∀ gw : GW W1, gw.1.cell? ⟨B, 1, none⟩ = some (.int .i64 fb) := fun gw => Gr.at gw.2 k1_2
            have s1_3 : ∀ gw : GW W1, gw.1.cell? ⟨B, 2, none⟩ = some (.int .i64 fc) := fun gw => Gr.at gw.2 k1_3
            have hnn := Nat.le_refl 0
            refine wp_region_gr (by kernel_rfl) (by kernel_rfl) ?_
            repeat (go_big_quiet_step (skip))
            refine wpQuiet_nil ?_
            intro w2 hb2
            clear s1_0 s1_1 s1_2 s1_3
            have g2 : Gr w w2 := g1.trans hb2
            have k1_0 := Gr.at hb2 k1_0
            have k1_1 := Gr.at hb2 k1_1
            have k1_2 := Gr.at hb2 k1_2
            have k1_3 := Gr.at hb2 k1_3
            go_wp2_with fail
            go_ret
            exact ⟨by rw [HFC.out, HR.out]; rfl, gr.trans (gb1_wr.trans hb2)⟩
        · rw [c1] at HB
          have HR := Lib.hid (Ms.any_hit (p := P) (n := 3) (i := 2) (by rw [HB]; rfl) (by omega))
          clear HB HBAD
          go_wp2_with fail
          (first | refine name_world ?_ | refine (show (∀ W, W = _ → Calls _ _ _ W _) → Calls _ _ _ _ _ from fun h => h _ rfl) ?_); intro W1 hW1
          have g1 : Gr w W1 := by rw [hW1]; exact gr_auto
          have gb1_wr : Gr wr W1 := by (try clear g1); rw [hW1]; exact gr_auto
          have k1_0 : W1.cell? ⟨w.heap.size, 0, none⟩ = some (.slice sA sn sc) := by rw [hW1]; first | (simp [go_sem, *]; done) | (refine Gr.at ?_ (by assumption); exact gr_auto)
          have b1_0 : w.heap.size < W1.heap.size := World.block_lt_of_cell? _ _ k1_0
          have k1_1 : W1.cell? ⟨B, 0, none⟩ = some (.int .i64 fa) := by rw [hW1]; first | (simp [go_sem, *]; done) | (refine Gr.at ?_ (by assumption); exact gr_auto)
          have b1_1 : B < W1.heap.size := World.block_lt_of_cell? _ _ k1_1
          have k1_2 : W1.cell? ⟨B, 1, none⟩ = some (.int .i64 fb) := by rw [hW1]; first | (simp [go_sem, *]; done) | (refine Gr.at ?_ (by assumption); exact gr_auto)
          have k1_3 : W1.cell? ⟨B, 2, none⟩ = some (.int .i64 fc) := by rw [hW1]; first | (simp [go_sem, *]; done) | (refine Gr.at ?_ (by assumption); exact gr_auto)
          clear hW1
          have s1_0 : ∀ gw : GW W1, gw.1.cell? ⟨w.heap.size, 0, none⟩ = some (.slice sA sn sc) := fun gw => Gr.at gw.2 k1_0
          have s1_1 : ∀ gw : GW W1, gw.1.cell? ⟨B, 0, none⟩ = some (.int .i64 fa) := fun gw => Gr.at gw.2 k1_1
          have s1_2 : ∀ gw : GW W1, gw.1.cell? ⟨B, 1, none⟩ = some (.int .i64 fb) := fun gw => Gr.at gw.2 k1_2
          have s1_3 : ∀ gw : GW W1, gw.1.cell? ⟨B, 2, none⟩ = some (.int .i64 fc) := fun gw => Gr.at gw.2 k1_3
          have hnn := Nat.le_refl 0
          refine wp_region_gr (by kernel_rfl) (by kernel_rfl) ?_
          repeat (go_big_quiet_step (skip))
          refine wpQuiet_nil ?_
          intro w2 hb2
          clear s1_0 s1_1 s1_2 s1_3
          have g2 : Gr w w2 := g1.trans hb2
          have k1_0 := Gr.at hb2 k1_0
          have k1_1 := Gr.at hb2 k1_1
          have k1_2 := Gr.at hb2 k1_2
          have k1_3 := Gr.at hb2 k1_3
          go_wp2_with fail
          go_ret
          exact ⟨by rw [HFC.out, HR.out]; rfl, gr.trans (gb1_wr.trans hb2)⟩
    · obtain rfl : i = 3 := by omega
      clear HBAD HSP HSA
      unfold Ms.bt at HFC
      cases t1 : decide (0 ≤ fk)
      · rw [t1] at HFC
        go_wp2_with fail
        go_ret
        exact ⟨by rw [HFC.out, HQ.out]; rfl, gr⟩
      · rw [t1] at HFC
        have t3 : decide (fk ≤ 15) = decide (fk < 16) := decide_eq_decide.2 (by omega)
        rw [t3] at HFC
        cases t2 : decide (fk < 16)
        · rw [t2] at HFC
          go_wp2_with fail
          go_ret
          exact ⟨by rw [HFC.out, HQ.out]; rfl, gr⟩
        · rw [t2] at HFC
          go_wp2_with fail
          go_ret
          exact ⟨by rw [HFC.out, HQ.out]; rfl, gr⟩
end Go.Proofs.YtajhhplgcegodaaGreatDoor
