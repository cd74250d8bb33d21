/-
  Areal: the reference's mean. (Printed by mkp.py.)
-/
import Derived.Test.YtnfjebfmfjpepaaArF
import Derived.Test.YtnfjebfmfjpepaaArWf
set_option linter.unusedVariables false
set_option linter.unusedSimpArgs false
namespace Go.Proofs.Ytnfjebfmfjpepaa
open Go.RowKit
attribute [local go_sem ↓] Go.wp_at_zero Go.wp_at_succ
theorem hi_lt {v : Int} (h : 0 ≤ v ∧ v ≤ 7555786372591432341913600) : Wd.hi v ≤ 1000000 := by
  have m := Wd.mag_of_nonneg h.1
  unfold Wd.hi; rw [m]; omega
theorem hi_in {v : Int} (h : 0 ≤ v ∧ v ≤ 7555786372591432341913600) : Wd.hi v ≤ 18446744073709551615 := by
  have := hi_lt h; omega
theorem mag_in {a b : Int} (h : 0 ≤ a ∧ a ≤ 7555786372591432341913600) (k : 0 ≤ b ∧ b ≤ 7555786372591432341913600) : Wd.mag a + Wd.mag b ≤ 340282366920938463463374607431768211455 := by
  rw [Wd.mag_of_nonneg h.1, Wd.mag_of_nonneg k.1]; omega

set_option maxRecDepth 100000 in
set_option maxHeartbeats 4000000 in
theorem rmean_any (S : Ba.SlSer) (u : Ba.SlI) (t : Int) (w : World) (hS : S.At w) (hu : u.At w) (hg0 : Ba.giE S = 0) (hun : u.n = S.n) (hw : Ba.WtB u) (ht : Ba.InT S t) : Calls Try.prog 56 #[.slice S.A S.n S.c, .slice u.A u.n u.c, .int .i64 t] w fun e w' => e = .returned (.int .i64 (Ba.mnV S u t)) ∧ Gr w w' := by
  obtain ⟨n1, n2, hv⟩ := Ba.gi_parts hg0
  have hA := hS.hA (by omega)
  have huA := hu.hA (by omega)
  have HD := Lib.hid hS.hD; have hnc := hS.hc; have hcb := hS.hb
  have HU := Lib.hid (fun i (hi : i < S.n) => (hu.hX i (by omega)).1)
  have huc := hu.hc; have hucb := hu.hb
  have HX := Lib.hid (fun i hi => Ba.in_x hv ht (i := i) hi); have HVB := Lib.hid (fun i hi => Ba.dV_bd hv ht (i := i) hi)
  have HW := Lib.hid (fun i (hi : i < S.n) => hw i (by omega))
  have HB := Lib.hid (Ba.sn_bd hv ht hw hun)
  have HT := Lib.hid ht
  have HN := Lib.hid (fun i hi => Ba.ser_nums (hv i hi))
  have HS := Lib.hid (fun i => show Ba.snI S u t (i + 1) = if Ba.dV S t i < 0 then Ba.snI S u t i else Ba.snI S u t i + u.X i * Ba.dV S t i from rfl)
  have HH := Lib.hid (fun i => show Ba.whI S u t (i + 1) = if Ba.dV S t i < 0 then Ba.whI S u t i else Ba.whI S u t i + u.X i from rfl)
  have HV := Lib.hid (fun i => show Ba.dV S t i = (S.D i).ds.X (Ba.xN S t i) from rfl)
  have HS0 := Lib.hid (show Ba.snI S u t 0 = 0 from rfl); have HH0 := Lib.hid (show Ba.whI S u t 0 = 0 from rfl)
  obtain ⟨mv, hmv⟩ : ∃ z, Ba.mnV S u t = z := ⟨_, rfl⟩
  have HM := Lib.hid (show mv = if Ba.whI S u t S.n = 0 then -1 else Ba.snI S u t S.n / Ba.whI S u t S.n from hmv.symm)
  rw [hmv]
  unfold Ba.InT at HT
  clear hg0 hv hS hu hw ht hmv
  rw [hA, huA, hun]
  rw [hun] at huc
  generalize Ba.snI S u t = sn at *
  generalize Ba.whI S u t = wh at *
  generalize Ba.dV S t = dv at *
  generalize Ba.xN S t = xn at *
  clear hA huA hun
  obtain ⟨A, n, c, b, o, D⟩ := S
  obtain ⟨uA, un, uc, ub, uo, U⟩ := u
  simp only at *
  clear A uA un
  have HOf := Lib.hid (fun W => rofint_any 0 W (by omega) (by omega))
  go_enter Try.func56, Try.ntmps56
  go_wp2_with fail
  refine (HOf.out _).mono ?_
  rintro e w1 ⟨rfl, hb1⟩
  clear HOf
  go_wp2_with fail
  -- @a
  refine name_world ?_
  intro W0 hW0
  have g0 : Gr w W0 := by rw [hW0]; exact gr_auto
  obtain ⟨B, hB⟩ : ∃ z, w1.heap.size = z := ⟨_, rfl⟩
  have o0 : Own W0 B 0 (.int .u64 (Wd.hi (sn 0))) := by rw [HS0.out, hW0, ← hB]; exact ⟨by simp [go_sem]; first | done | decide | rfl, by simp [go_sem]⟩
  have o1 : Own W0 B 1 (.int .u64 (Wd.lo (sn 0))) := by rw [HS0.out, hW0, ← hB]; exact ⟨by simp [go_sem]; first | done | decide | rfl, by simp [go_sem]⟩
  have o2 : Own W0 B 2 (.bool (Wd.neg (sn 0))) := by rw [HS0.out, hW0, ← hB]; exact ⟨by simp [go_sem]; first | done | decide | rfl, by simp [go_sem]⟩
  have hwB : w.heap.size ≤ B := by rw [← hB]; exact Gr.size hb1
  rw [hB]
  clear hW0 hB
  replace o0 := Lib.hid o0; replace o1 := Lib.hid o1; replace o2 := Lib.hid o2
  go_loopw [7, 9] (fun q x wr => ∃ i : Nat, i ≤ n ∧ x = .int .i64 (i : Int) ∧ q = .int .i64 (wh i) ∧ Hid (Own wr B 0 (.int .u64 (Wd.hi (sn i)))) ∧ Hid (Own wr B 1 (.int .u64 (Wd.lo (sn i)))) ∧ Hid (Own wr B 2 (.bool (Wd.neg (sn i)))) ∧ GrX B W0 wr) (fun _ x _ => n - (intOf x).toNat)
  case atStart => exact ⟨0, Nat.zero_le _, rfl, by rw [HH0.out], o0, o1, o2, GrX.refl _ _⟩
  case round =>
    clear o0 o1 o2
    obtain ⟨i, hi, rfl, rfl, O0, O1, O2, hg⟩ := hrel
    have gr : Gr w wr := GrX.gr g0 hwB hg
    have sb := HB.out i hi
    by_cases hlt : i < n
    · obtain ⟨a0, a1, a2⟩ := (HD.out i hlt).1.gr gr
      have hsA := (HD.out i hlt).2.2.2
      obtain ⟨x1, x2⟩ := HX.out i hlt
      have hdA := hsA.hA (by omega)
      have e0 := Gr.at gr (hsA.hX _ x1).1
      rw [← HV.out i] at e0
      have u0 := Gr.at gr (HU.out i hlt)
      have hubB : ub < B := Nat.lt_of_lt_of_le (World.block_lt_of_cell? _ _ (HU.out i hlt)) hwB
      have vb := HVB.out i hlt; have wb := HW.out i hlt; have tb := HT.out i hlt; have nb := (HN.out i hlt).2
      have hdc := hsA.hc; have hdcb := hsA.hb
      have sb2 := HB.out (i + 1) hlt
      have Sn := Lib.hid (HS.out i); have Hn := Lib.hid (HH.out i)
      have ib0 : (0 : Int) ≤ (i : Int) := by omega
      have ib1 : (i : Int) < (n : Int) := by omega
      have sb3 := Lib.hid sb2
      clear HD HX HU HVB HW HT HN HS HH HV HB HS0 HH0 HM hsA sb2
      obtain ⟨s1, hs1⟩ : ∃ z, sn (i + 1) = z := ⟨_, rfl⟩; obtain ⟨h1, hh1⟩ : ∃ z, wh (i + 1) = z := ⟨_, rfl⟩
      rw [hs1, hh1] at sb3
      rw [hs1] at Sn
      rw [hh1] at Hn
      replace hs1 := Lib.hid hs1; replace hh1 := Lib.hid hh1
      generalize sn i = s0 at *
      generalize wh i = h0 at *
      generalize dv i = dv at *
      generalize xn i = x at *
      generalize U i = ui at *
      generalize D i = di at *
      have hdn : (x : Int) < (di.ds.n : Int) := by omega
      have x0 : (0 : Int) ≤ (x : Int) := by omega
      have stz : (di.st == 0) = false := beq_eq_false_iff_ne.2 (by omega)
      have stz2 : di.st ≠ 0 := by omega
      obtain ⟨tf, htf⟩ : ∃ z, t - di.fr = z := ⟨_, rfl⟩
      have tfb : -9223372036854775808 ≤ t - di.fr ∧ t - di.fr ≤ 9223372036854775807 := by omega
      clear htf
      by_cases hneg : dv < 0
      · rw [if_pos hneg] at Sn Hn
        go_wp2_with fail
        (first | refine name_world ?_ | refine (show (∀ W, W = _ → Calls _ _ _ W _) → Calls _ _ _ _ _ from fun h => h _ rfl) ?_); intro W3 hW3
        have g3 : Gr w W3 := by rw [hW3]; exact gr_auto
        have gb3_wr : Gr wr W3 := by (try clear g3); rw [hW3]; exact gr_auto
        have k3_0 : W3.cell? ⟨b, o + i * 3, none⟩ = some (.int .i64 di.fr) := by rw [hW3]; first | (simp [go_sem, *]; done) | (refine Gr.at ?_ (by assumption); exact gr_auto)
        have b3_0 : b < W3.heap.size := World.block_lt_of_cell? _ _ k3_0
        have k3_1 : W3.cell? ⟨b, o + i * 3 + 1, none⟩ = some (.int .i64 di.st) := by rw [hW3]; first | (simp [go_sem, *]; done) | (refine Gr.at ?_ (by assumption); exact gr_auto)
        have k3_2 : W3.cell? ⟨b, o + i * 3 + 2, none⟩ = some (.slice di.ds.A di.ds.n di.ds.c) := by rw [hW3]; first | (simp [go_sem, *]; done) | (refine Gr.at ?_ (by assumption); exact gr_auto)
        have k3_3 : W3.cell? ⟨di.ds.b, di.ds.o + x, none⟩ = some (.int .i64 dv) := by rw [hW3]; first | (simp [go_sem, *]; done) | (refine Gr.at ?_ (by assumption); exact gr_auto)
        have b3_3 : di.ds.b < W3.heap.size := World.block_lt_of_cell? _ _ k3_3
        clear hW3
        have s3_0 : ∀ gw : GW W3, gw.1.cell? ⟨b, o + i * 3, none⟩ = some (.int .i64 di.fr) := fun gw => Gr.at gw.2 k3_0
        have s3_1 : ∀ gw : GW W3, gw.1.cell? ⟨b, o + i * 3 + 1, none⟩ = some (.int .i64 di.st) := fun gw => Gr.at gw.2 k3_1
        have s3_2 : ∀ gw : GW W3, gw.1.cell? ⟨b, o + i * 3 + 2, none⟩ = some (.slice di.ds.A di.ds.n di.ds.c) := fun gw => Gr.at gw.2 k3_2
        have s3_3 : ∀ gw : GW W3, gw.1.cell? ⟨di.ds.b, di.ds.o + x, none⟩ = some (.int .i64 dv) := fun gw => Gr.at gw.2 k3_3
        have hnn := Nat.le_refl 0
        refine wp_region_gr (by kernel_rfl) (by kernel_rfl) ?_
        repeat (go_big_quiet_step (skip))
        refine wpQuiet_nil ?_
        intro w4 hb4
        clear s3_0 s3_1 s3_2 s3_3
        have g4 : Gr w w4 := g3.trans hb4
        have k3_0 := Gr.at hb4 k3_0
        have k3_1 := Gr.at hb4 k3_1
        have k3_2 := Gr.at hb4 k3_2
        have k3_3 := Gr.at hb4 k3_3
        have gz4 : Gr wr w4 := gb3_wr.trans hb4
        go_wp2_with fail
        go_roundw
        case rel => exact ⟨i + 1, by omega, by go_num, by rw [hh1.out, Hn.out], by rw [hs1.out, Sn.out]; exact Lib.hid (O0.out.gr gz4), by rw [hs1.out, Sn.out]; exact Lib.hid (O1.out.gr gz4), by rw [hs1.out, Sn.out]; exact Lib.hid (O2.out.gr gz4), hg.grown gz4⟩
        case measure => simp [intOf]; omega
      · rw [if_neg hneg] at Sn Hn
        have pb := Ba.pr_bd wb ⟨by omega, vb.2⟩
        have nb100 : (37778931862957161709568 : Int) * (i : Int) ≤ 37778931862957161709568 * 100 := Int.mul_le_mul_of_nonneg_left (by omega) (by decide)
        have nb101 : (9007199254740992 : Int) * (i : Int) ≤ 9007199254740992 * 100 := Int.mul_le_mul_of_nonneg_left (by omega) (by decide)
        have hbw : -9223372036854775808 ≤ h0 + ui ∧ h0 + ui ≤ 9223372036854775807 := by omega
        have HTm := Lib.hid (fun W => rtimes_any ui dv W (by omega) (by omega) (by omega) (by omega))
        have HSm := Lib.hid (fun W => rsum_any s0 (ui * dv) W (hi_in (by omega)) (hi_in (by omega)) (mag_in (by omega) (by omega)))
        clear pb nb100 nb101
        rw [← Sn.out] at HSm
        generalize ui * dv = p at *
        go_wp2_with fail
        (first | refine name_world ?_ | refine (show (∀ W, W = _ → Calls _ _ _ W _) → Calls _ _ _ _ _ from fun h => h _ rfl) ?_); intro W3 hW3
        have g3 : Gr w W3 := by rw [hW3]; exact gr_auto
        have gb3_wr : Gr wr W3 := by (try clear g3); rw [hW3]; exact gr_auto
        have k3_0 : W3.cell? ⟨b, o + i * 3, none⟩ = some (.int .i64 di.fr) := by rw [hW3]; first | (simp [go_sem, *]; done) | (refine Gr.at ?_ (by assumption); exact gr_auto)
        have b3_0 : b < W3.heap.size := World.block_lt_of_cell? _ _ k3_0
        have k3_1 : W3.cell? ⟨b, o + i * 3 + 1, none⟩ = some (.int .i64 di.st) := by rw [hW3]; first | (simp [go_sem, *]; done) | (refine Gr.at ?_ (by assumption); exact gr_auto)
        have k3_2 : W3.cell? ⟨b, o + i * 3 + 2, none⟩ = some (.slice di.ds.A di.ds.n di.ds.c) := by rw [hW3]; first | (simp [go_sem, *]; done) | (refine Gr.at ?_ (by assumption); exact gr_auto)
        have k3_3 : W3.cell? ⟨di.ds.b, di.ds.o + x, none⟩ = some (.int .i64 dv) := by rw [hW3]; first | (simp [go_sem, *]; done) | (refine Gr.at ?_ (by assumption); exact gr_auto)
        have b3_3 : di.ds.b < W3.heap.size := World.block_lt_of_cell? _ _ k3_3
        clear hW3
        have s3_0 : ∀ gw : GW W3, gw.1.cell? ⟨b, o + i * 3, none⟩ = some (.int .i64 di.fr) := fun gw => Gr.at gw.2 k3_0
        have s3_1 : ∀ gw : GW W3, gw.1.cell? ⟨b, o + i * 3 + 1, none⟩ = some (.int .i64 di.st) := fun gw => Gr.at gw.2 k3_1
        have s3_2 : ∀ gw : GW W3, gw.1.cell? ⟨b, o + i * 3 + 2, none⟩ = some (.slice di.ds.A di.ds.n di.ds.c) := fun gw => Gr.at gw.2 k3_2
        have s3_3 : ∀ gw : GW W3, gw.1.cell? ⟨di.ds.b, di.ds.o + x, none⟩ = some (.int .i64 dv) := fun gw => Gr.at gw.2 k3_3
        have hnn := Nat.le_refl 0
        refine wp_region_gr (by kernel_rfl) (by kernel_rfl) ?_
        repeat (go_big_quiet_step (skip))
        refine wpQuiet_nil ?_
        intro w4 hb4
        clear s3_0 s3_1 s3_2 s3_3
        have g4 : Gr w w4 := g3.trans hb4
        have k3_0 := Gr.at hb4 k3_0
        have k3_1 := Gr.at hb4 k3_1
        have k3_2 := Gr.at hb4 k3_2
        have k3_3 := Gr.at hb4 k3_3
        have gz4 : Gr wr w4 := gb3_wr.trans hb4
        have u4 := Gr.at gz4 u0
        go_wp2_with fail
        -- @b
        have P0 := O0.out.gr gz4; have P1 := O1.out.gr gz4; have P2 := O2.out.gr gz4
        have s0_ : ∀ gw : GW w4, gw.1.cell? ⟨B, 0, none⟩ = some (.int .u64 (Wd.hi s0)) := fun gw => Gr.at gw.2 P0.1
        have s1_ : ∀ gw : GW w4, gw.1.cell? ⟨B, 1, none⟩ = some (.int .u64 (Wd.lo s0)) := fun gw => Gr.at gw.2 P1.1
        have s2_ : ∀ gw : GW w4, gw.1.cell? ⟨B, 2, none⟩ = some (.bool (Wd.neg s0)) := fun gw => Gr.at gw.2 P2.1
        have s3_ : ∀ gw : GW w4, gw.1.cell? ⟨ub, uo + i, none⟩ = some (.int .i64 ui) := fun gw => Gr.at gw.2 u4
        have HA1 := Lib.hid (fun gw : GW w4 => gw_call (HTm.out gw.1)); have HA2 := Lib.hid (fun gw : GW w4 => gw_call (HSm.out gw.1))
        refine wp_region_gr_tail 8 (by kernel_rfl) (by kernel_rfl) ?_
        simp only [List.take_succ_cons, List.take_zero, List.drop_succ_cons, List.drop_zero]
        repeat (go_big_quiet_step (first | (go_at_call 67; exact HA1.out _) | (go_at_call 82; exact HA2.out _)))
        refine wpQuiet_nil ?_
        intro w5 hb5
        clear s0_ s1_ s2_ s3_ HA1 HA2 HTm HSm
        -- @c
        have gz5 := gz4.trans hb5
        replace P0 := P0.gr hb5; replace P1 := P1.gr hb5; replace P2 := P2.gr hb5
        have HO := Lib.hid (fun (a c e : Value) => show Own (((w5.setCell ⟨B, 0, none⟩ a).setCell ⟨B, 1, none⟩ c).setCell ⟨B, 2, none⟩ e) B 0 a ∧ Own (((w5.setCell ⟨B, 0, none⟩ a).setCell ⟨B, 1, none⟩ c).setCell ⟨B, 2, none⟩ e) B 1 c ∧ Own (((w5.setCell ⟨B, 0, none⟩ a).setCell ⟨B, 1, none⟩ c).setCell ⟨B, 2, none⟩ e) B 2 e from ⟨((P0.set).other (Or.inr (by decide))).other (Or.inr (by decide)), ((P1.other (Or.inr (by decide))).set).other (Or.inr (by decide)), ((P2.other (Or.inr (by decide))).other (Or.inr (by decide))).set⟩)
        have HGx := Lib.hid (fun (a c e : Value) => GrX.setCell (p := ⟨B, 2, none⟩) (GrX.setCell (p := ⟨B, 1, none⟩) (GrX.setCell (p := ⟨B, 0, none⟩) (hg.grown gz5) rfl a) rfl c) rfl e)
        obtain ⟨p0, f0⟩ := P0; obtain ⟨p1, f1⟩ := P1; obtain ⟨p2, f2⟩ := P2
        go_wp2_with fail
        -- @d
        go_roundw
        case rel => exact ⟨i + 1, by omega, by go_num, by rw [hh1.out, Hn.out], by rw [hs1.out]; exact Lib.hid (HO.out _ _ _).1, by rw [hs1.out]; exact Lib.hid (HO.out _ _ _).2.1, by rw [hs1.out]; exact Lib.hid (HO.out _ _ _).2.2, HGx.out _ _ _⟩
        case measure => simp [intOf]; omega
    · obtain rfl : n = i := by omega
      have nb100 : (37778931862957161709568 : Int) * (n : Int) ≤ 37778931862957161709568 * 100 := Int.mul_le_mul_of_nonneg_left (by omega) (by decide)
      have nb101 : (9007199254740992 : Int) * (n : Int) ≤ 9007199254740992 * 100 := Int.mul_le_mul_of_nonneg_left (by omega) (by decide)
      have HMn := Lib.hid HM.out
      clear HD HX HU HVB HW HT HN HS HH HV HB HS0 HH0 HM
      have p0 := O0.out.1; have p1 := O1.out.1; have p2 := O2.out.1
      generalize sn n = s0 at *
      generalize wh n = h0 at *
      by_cases hz : h0 = 0
      · have hz1 : (h0 == 0) = true := by rw [hz]; rfl
        have m := HMn.out
        rw [if_pos hz] at m
        replace m := Lib.hid m
        clear HMn hz
        go_wp2_with fail
        go_ret
        exact ⟨by rw [m.out]; rfl, gr⟩
      · have hz1 : (h0 == 0) = false := beq_eq_false_iff_ne.2 hz
        have m := HMn.out
        rw [if_neg hz] at m
        replace m := Lib.hid m
        have q0 : 0 ≤ s0 / h0 ∧ s0 / h0 ≤ 4194304 := ⟨Int.ediv_nonneg (by omega) (by omega), Int.ediv_le_of_le_mul (by omega) (by omega)⟩
        have HOi := Lib.hid (fun W => rofint_any h0 W (by omega) (by omega))
        have HDn := Lib.hid (fun W => by have z := rdown_any s0 h0 W (by have := hi_in (v := s0) (by omega); have := hi_lt (v := s0) (by omega); omega) (hi_in (by omega)) hz; rw [show Wd.flr s0 h0 = s0 / h0 by unfold Wd.flr; rw [if_pos (by omega)]] at z; exact z)
        have HIs := Lib.hid (fun W => by have z := risint_any (s0 / h0) W; have fq : Wd.fits (s0 / h0) = true := (by unfold Wd.fits; simp; omega); rw [Wd.low_fits fq, fq] at z; exact z)
        rw [← m.out] at HDn HIs
        clear HMn hz q0 nb100 nb101
        go_wp2_with fail
        -- @e
        (first | refine name_world ?_ | refine (show (∀ W, W = _ → Calls _ _ _ W _) → Calls _ _ _ _ _ from fun h => h _ rfl) ?_); intro W7 hW7
        have g7 : Gr w W7 := by rw [hW7]; exact gr_auto
        have gb7_wr : Gr wr W7 := by (try clear g7); rw [hW7]; exact gr_auto
        have k7_0 : W7.cell? ⟨B, 0, none⟩ = some (.int .u64 (Wd.hi s0)) := by rw [hW7]; first | (simp [go_sem, *]; done) | (refine Gr.at ?_ (by assumption); exact gr_auto)
        have b7_0 : B < W7.heap.size := World.block_lt_of_cell? _ _ k7_0
        have k7_1 : W7.cell? ⟨B, 1, none⟩ = some (.int .u64 (Wd.lo s0)) := by rw [hW7]; first | (simp [go_sem, *]; done) | (refine Gr.at ?_ (by assumption); exact gr_auto)
        have k7_2 : W7.cell? ⟨B, 2, none⟩ = some (.bool (Wd.neg s0)) := by rw [hW7]; first | (simp [go_sem, *]; done) | (refine Gr.at ?_ (by assumption); exact gr_auto)
        clear hW7
        have s7_0 : ∀ gw : GW W7, gw.1.cell? ⟨B, 0, none⟩ = some (.int .u64 (Wd.hi s0)) := fun gw => Gr.at gw.2 k7_0
        have s7_1 : ∀ gw : GW W7, gw.1.cell? ⟨B, 1, none⟩ = some (.int .u64 (Wd.lo s0)) := fun gw => Gr.at gw.2 k7_1
        have s7_2 : ∀ gw : GW W7, gw.1.cell? ⟨B, 2, none⟩ = some (.bool (Wd.neg s0)) := fun gw => Gr.at gw.2 k7_2
        have HA1 := Lib.hid (fun gw : GW W7 => gw_call (HOi.out gw.1))
        have HA2 := Lib.hid (fun gw : GW W7 => gw_call (HDn.out gw.1))
        have HA3 := Lib.hid (fun gw : GW W7 => gw_call (HIs.out gw.1))
        refine wp_region_gr (by kernel_rfl) (by kernel_rfl) ?_
        repeat (go_big_quiet_step (first | (go_at_call 68; exact HA1.out _) | (go_at_call 66; exact HA2.out _) | (go_at_call 65; exact HA3.out _)))
        refine wpQuiet_nil ?_
        intro w8 hb8
        clear s7_0 s7_1 s7_2
        have g8 : Gr w w8 := g7.trans hb8
        have k7_0 := Gr.at hb8 k7_0
        have k7_1 := Gr.at hb8 k7_1
        have k7_2 := Gr.at hb8 k7_2
        go_wp2_with fail
        go_ret
        exact ⟨rfl, gr.trans (gb7_wr.trans hb8)⟩
end Go.Proofs.Ytnfjebfmfjpepaa
