/-
  Areal: areal.mean. (Printed by mkf.py.)
-/
import Derived.Test.YtajhhplgcegodaaGreatDoorArE
import Derived.Test.YtajhhplgcegodaaGreatDoorArWe
set_option linter.unusedVariables false
set_option linter.unusedSimpArgs false
namespace Go.Proofs.YtajhhplgcegodaaGreatDoor
open Go.RowKit
attribute [local go_sem ↓] Go.wp_at_zero Go.wp_at_succ
namespace Ba
/-- Which depth of a record, at an instant; the sum and the weights of the depths that are not missing; their mean. -/
def xN (S : SlSer) (t : Int) (i : Nat) : Nat := ((t - (S.D i).fr) / (S.D i).st).toNat
def dV (S : SlSer) (t : Int) (i : Nat) : Int := (S.D i).ds.X (xN S t i)
def snI (S : SlSer) (u : SlI) (t : Int) : Nat → Int
  | 0 => 0
  | i + 1 => if dV S t i < 0 then snI S u t i else snI S u t i + u.X i * dV S t i
def whI (S : SlSer) (u : SlI) (t : Int) : Nat → Int
  | 0 => 0
  | i + 1 => if dV S t i < 0 then whI S u t i else whI S u t i + u.X i
def mnV (S : SlSer) (u : SlI) (t : Int) : Int := if whI S u t S.n = 0 then -1 else snI S u t S.n / whI S u t S.n
/-- An instant lies in all records. -/
def InT (S : SlSer) (t : Int) : Prop := ∀ i, i < S.n → 0 ≤ t - (S.D i).fr ∧ t - (S.D i).fr ≤ 137438953472 ∧ (t - (S.D i).fr) / (S.D i).st < ((S.D i).ds.n : Int)
def WtB (u : SlI) : Prop := ∀ i, i < u.n → 0 ≤ u.X i ∧ u.X i ≤ 9007199254740992
theorem in_x {S : SlSer} {t : Int} (hv : ∀ i, i < S.n → serB (S.D i) = true) (h : InT S t) {i : Nat} (hi : i < S.n) : xN S t i < (S.D i).ds.n ∧ (t - (S.D i).fr) / (S.D i).st = (xN S t i : Int) := by
  have a := h i hi
  have b := (ser_nums (hv i hi)).2.1
  have c : 0 ≤ (t - (S.D i).fr) / (S.D i).st := Int.ediv_nonneg a.1 (by omega)
  unfold xN; omega
theorem dV_bd {S : SlSer} {t : Int} (hv : ∀ i, i < S.n → serB (S.D i) = true) (h : InT S t) {i : Nat} (hi : i < S.n) : -1 ≤ dV S t i ∧ dV S t i ≤ 4194304 := (ser_nums (hv i hi)).2.2.2.2 _ (in_x hv h hi).1
theorem pr_bd {a b : Int} (h : 0 ≤ a ∧ a ≤ 9007199254740992) (k : 0 ≤ b ∧ b ≤ 4194304) : 0 ≤ a * b ∧ a * b ≤ 37778931862957161709568 ∧ a * b ≤ a * 4194304 := ⟨Int.mul_nonneg h.1 k.1, Int.mul_le_mul h.2 k.2 k.1 (by decide), Int.mul_le_mul_of_nonneg_left k.2 h.1⟩
theorem sn_bd {S : SlSer} {u : SlI} {t : Int} (hv : ∀ i, i < S.n → serB (S.D i) = true) (h : InT S t) (hw : WtB u) (hn : u.n = S.n) : ∀ i, i ≤ S.n → (0 ≤ snI S u t i ∧ snI S u t i ≤ 37778931862957161709568 * i) ∧ (0 ≤ whI S u t i ∧ whI S u t i ≤ 9007199254740992 * i) ∧ snI S u t i ≤ whI S u t i * 4194304
  | 0, _ => by rw [snI, whI]; simp
  | i + 1, hi => by
    have ih := sn_bd hv h hw hn i (by omega)
    have e1 : (37778931862957161709568 : Int) * ((i + 1 : Nat) : Int) = 37778931862957161709568 * i + 37778931862957161709568 := by push_cast; rw [Int.mul_add, Int.mul_one]
    have e2 : (9007199254740992 : Int) * ((i + 1 : Nat) : Int) = 9007199254740992 * i + 9007199254740992 := by push_cast; rw [Int.mul_add, Int.mul_one]
    rw [snI, whI, e1, e2]
    by_cases c : dV S t i < 0
    · rw [if_pos c, if_pos c]; omega
    · rw [if_neg c, if_neg c]
      have p := pr_bd (hw i (by omega)) ⟨by omega, (dV_bd hv h (i := i) (by omega)).2⟩
      have w := hw i (by omega)
      rw [Int.add_mul]
      omega
theorem has_in {v : Int} (h : 0 ≤ v ∧ v ≤ 7555786372591432341913600) : Wd.has v = true := by unfold Wd.has; simp; omega
end Ba

set_option maxRecDepth 100000 in
set_option maxHeartbeats 4000000 in
theorem mean_any (S : Ba.SlSer) (u : Ba.SlI) (t : Int) (w : World) (hS : S.At w) (hu : u.At w) (hg0 : Ba.giE S = 0) (hun : u.n = S.n) (hw : Ba.WtB u) (ht : Ba.InT S t) : Calls Tryz.prog 71 #[.slice S.A S.n S.c, .slice u.A u.n u.c, .int .i64 t] w fun e w' => e = .returned (.tuple #[.int .i64 (Ba.mnV S u t), .int .i64 0]) ∧ Gr w w' := by
  obtain ⟨n1, n2, hv⟩ := Ba.gi_parts hg0
  have hA := hS.hA (by omega)
  have huA := hu.hA (by omega)
  have HD := Lib.hid hS.hD; have hnc := hS.hc; have hcb := hS.hb
  have HU := Lib.hid (fun i (hi : i < S.n) => (hu.hX i (by omega)).1)
  have huc := hu.hc; have hucb := hu.hb
  have HX := Lib.hid (fun i hi => Ba.in_x hv ht (i := i) hi); have HVB := Lib.hid (fun i hi => Ba.dV_bd hv ht (i := i) hi)
  have HW := Lib.hid (fun i (hi : i < S.n) => hw i (by omega))
  have HB := Lib.hid (Ba.sn_bd hv ht hw hun)
  have HT := Lib.hid ht
  have HN := Lib.hid (fun i hi => Ba.ser_nums (hv i hi))
  have HS := Lib.hid (fun i => show Ba.snI S u t (i + 1) = if Ba.dV S t i < 0 then Ba.snI S u t i else Ba.snI S u t i + u.X i * Ba.dV S t i from rfl)
  have HH := Lib.hid (fun i => show Ba.whI S u t (i + 1) = if Ba.dV S t i < 0 then Ba.whI S u t i else Ba.whI S u t i + u.X i from rfl)
  have HV := Lib.hid (fun i => show Ba.dV S t i = (S.D i).ds.X (Ba.xN S t i) from rfl)
  have HS0 := Lib.hid (show Ba.snI S u t 0 = 0 from rfl); have HH0 := Lib.hid (show Ba.whI S u t 0 = 0 from rfl)
  obtain ⟨mv, hmv⟩ : ∃ z, Ba.mnV S u t = z := ⟨_, rfl⟩
  have HM := Lib.hid (show mv = if Ba.whI S u t S.n = 0 then -1 else Ba.snI S u t S.n / Ba.whI S u t S.n from hmv.symm)
  rw [hmv]
  unfold Ba.InT at HT
  clear hg0 hv hS hu hw ht hmv
  rw [hA, huA, hun]
  rw [hun] at huc
  generalize Ba.snI S u t = sn at *
  generalize Ba.whI S u t = wh at *
  generalize Ba.dV S t = dv at *
  generalize Ba.xN S t = xn at *
  clear hA huA hun
  obtain ⟨A, n, c, b, o, D⟩ := S
  obtain ⟨uA, un, uc, ub, uo, U⟩ := u
  simp only at *
  clear A uA un
  have HOf := Lib.hid (fun W => of_any 0 W (by omega) (by omega))
  go_enter Tryz.func71, Tryz.ntmps71
  go_wp2_with fail
  refine (HOf.out _).mono ?_
  rintro e w1 ⟨rfl, hb1⟩
  clear HOf
  go_wp2_with fail
  -- @a
  refine name_world ?_
  intro W0 hW0
  have g0 : Gr w W0 := by rw [hW0]; exact gr_auto
  obtain ⟨B, hB⟩ : ∃ z, w1.heap.size = z := ⟨_, rfl⟩
  have o0 : Own W0 B 0 (.int .i64 (Wd.wH (sn 0))) := by rw [HS0.out, hW0, ← hB]; exact ⟨by simp [go_sem]; decide, by simp [go_sem]⟩
  have o1 : Own W0 B 1 (.int .i64 (Wd.wL (sn 0))) := by rw [HS0.out, hW0, ← hB]; exact ⟨by simp [go_sem]; decide, by simp [go_sem]⟩
  have hwB : w.heap.size ≤ B := by rw [← hB]; exact Gr.size hb1
  rw [hB]
  clear hW0 hB
  replace o0 := Lib.hid o0; replace o1 := Lib.hid o1
  go_loopw [9, 18] (fun q x wr => ∃ i : Nat, i ≤ n ∧ x = .int .i64 (i : Int) ∧ q = .int .i64 (wh i) ∧ Hid (Own wr B 0 (.int .i64 (Wd.wH (sn i)))) ∧ Hid (Own wr B 1 (.int .i64 (Wd.wL (sn i)))) ∧ GrX B W0 wr) (fun _ x _ => n - (intOf x).toNat)
  case atStart => exact ⟨0, Nat.zero_le _, rfl, by rw [HH0.out], o0, o1, GrX.refl _ _⟩
  case round =>
    clear o0 o1
    obtain ⟨i, hi, rfl, rfl, O0, O1, hg⟩ := hrel
    have gr : Gr w wr := GrX.gr g0 hwB hg
    have sb := HB.out i hi
    by_cases hlt : i < n
    · obtain ⟨a0, a1, a2⟩ := (HD.out i hlt).1.gr gr
      have hsA := (HD.out i hlt).2.2.2
      obtain ⟨x1, x2⟩ := HX.out i hlt
      have hdA := hsA.hA (by omega)
      have e0 := Gr.at gr (hsA.hX _ x1).1
      rw [← HV.out i] at e0
      have u0 := Gr.at gr (HU.out i hlt)
      have hubB : ub < B := Nat.lt_of_lt_of_le (World.block_lt_of_cell? _ _ (HU.out i hlt)) hwB
      have vb := HVB.out i hlt; have wb := HW.out i hlt; have tb := HT.out i hlt; have nb := (HN.out i hlt).2
      have hdc := hsA.hc; have hdcb := hsA.hb
      have sb2 := HB.out (i + 1) hlt
      have Sn := Lib.hid (HS.out i); have Hn := Lib.hid (HH.out i)
      have ib0 : (0 : Int) ≤ (i : Int) := by omega
      have ib1 : (i : Int) < (n : Int) := by omega
      have sb3 := Lib.hid sb2
      clear HD HX HU HVB HW HT HN HS HH HV HB HS0 HH0 HM hsA sb2
      obtain ⟨s1, hs1⟩ : ∃ z, sn (i + 1) = z := ⟨_, rfl⟩; obtain ⟨h1, hh1⟩ : ∃ z, wh (i + 1) = z := ⟨_, rfl⟩
      rw [hs1, hh1] at sb3
      rw [hs1] at Sn
      rw [hh1] at Hn
      replace hs1 := Lib.hid hs1; replace hh1 := Lib.hid hh1
      generalize sn i = s0 at *
      generalize wh i = h0 at *
      generalize dv i = dv at *
      generalize xn i = x at *
      generalize U i = ui at *
      generalize D i = di at *
      have hdn : (x : Int) < (di.ds.n : Int) := by omega
      have x0 : (0 : Int) ≤ (x : Int) := by omega
      have stz : (di.st == 0) = false := beq_eq_false_iff_ne.2 (by omega)
      have stz2 : di.st ≠ 0 := by omega
      obtain ⟨tf, htf⟩ : ∃ z, t - di.fr = z := ⟨_, rfl⟩
      have tfb : -9223372036854775808 ≤ t - di.fr ∧ t - di.fr ≤ 9223372036854775807 := by omega
      clear htf
      by_cases hneg : dv < 0
      · rw [if_pos hneg] at Sn Hn
        go_wp2_with fail
        -- @b1
        (first | refine name_world ?_ | refine (show (∀ W, W = _ → Calls _ _ _ W _) → Calls _ _ _ _ _ from fun h => h _ rfl) ?_); intro W3 hW3
        have g3 : Gr w W3 := by rw [hW3]; exact gr_auto
        have gb3_wr : Gr wr W3 := by (try clear g3); rw [hW3]; exact gr_auto
        have k3_0 : W3.cell? ⟨wr.heap.size, 0, none⟩ = some (.int .i64 di.fr) := by rw [hW3]; first | (simp [go_sem, *]; done) | (refine Gr.at ?_ (by assumption); exact gr_auto)
        have b3_0 : wr.heap.size < W3.heap.size := World.block_lt_of_cell? _ _ k3_0
        have k3_1 : W3.cell? ⟨wr.heap.size, 1, none⟩ = some (.int .i64 di.st) := by rw [hW3]; first | (simp [go_sem, *]; done) | (refine Gr.at ?_ (by assumption); exact gr_auto)
        have k3_2 : W3.cell? ⟨wr.heap.size, 2, none⟩ = some (.slice di.ds.A di.ds.n di.ds.c) := by rw [hW3]; first | (simp [go_sem, *]; done) | (refine Gr.at ?_ (by assumption); exact gr_auto)
        have k3_3 : W3.cell? ⟨di.ds.b, di.ds.o + x, none⟩ = some (.int .i64 dv) := by rw [hW3]; first | (simp [go_sem, *]; done) | (refine Gr.at ?_ (by assumption); exact gr_auto)
        have b3_3 : di.ds.b < W3.heap.size := World.block_lt_of_cell? _ _ k3_3
        clear hW3
        have s3_0 : ∀ gw : GW W3, gw.1.cell? ⟨wr.heap.size, 0, none⟩ = some (.int .i64 di.fr) := fun gw => Gr.at gw.2 k3_0
        have s3_1 : ∀ gw : GW W3, gw.1.cell? ⟨wr.heap.size, 1, none⟩ = some (.int .i64 di.st) := fun gw => Gr.at gw.2 k3_1
        have s3_2 : ∀ gw : GW W3, gw.1.cell? ⟨wr.heap.size, 2, none⟩ = some (.slice di.ds.A di.ds.n di.ds.c) := fun gw => Gr.at gw.2 k3_2
        have s3_3 : ∀ gw : GW W3, gw.1.cell? ⟨di.ds.b, di.ds.o + x, none⟩ = some (.int .i64 dv) := fun gw => Gr.at gw.2 k3_3
        have hnn := Nat.le_refl 0
        refine wp_region_gr (by kernel_rfl) (by kernel_rfl) ?_
        repeat (go_big_quiet_step (skip))
        refine wpQuiet_nil ?_
        intro w4 hb4
        clear s3_0 s3_1 s3_2 s3_3
        have g4 : Gr w w4 := g3.trans hb4
        have k3_0 := Gr.at hb4 k3_0
        have k3_1 := Gr.at hb4 k3_1
        have k3_2 := Gr.at hb4 k3_2
        have k3_3 := Gr.at hb4 k3_3
        have gz4 : Gr wr w4 := gb3_wr.trans hb4
        go_wp2_with fail
        -- @c1
        go_roundw
        case rel => exact ⟨i + 1, by omega, by go_num, by rw [hh1.out, Hn.out], by rw [hs1.out, Sn.out]; exact Lib.hid (O0.out.gr gz4), by rw [hs1.out, Sn.out]; exact Lib.hid (O1.out.gr gz4), hg.grown gz4⟩
        case measure => simp [intOf]; omega
      · rw [if_neg hneg] at Sn Hn
        have pb := Ba.pr_bd wb ⟨by omega, vb.2⟩
        have nb100 : (37778931862957161709568 : Int) * (i : Int) ≤ 37778931862957161709568 * 100 := Int.mul_le_mul_of_nonneg_left (by omega) (by decide)
        have nb101 : (9007199254740992 : Int) * (i : Int) ≤ 9007199254740992 * 100 := Int.mul_le_mul_of_nonneg_left (by omega) (by decide)
        have hbw : -9223372036854775808 ≤ h0 + ui ∧ h0 + ui ≤ 9223372036854775807 := by omega
        have hp1 := Ba.has_in (v := ui * dv) (by omega); have hp2 := Ba.has_in (v := s0) (by omega); have hp3 := Ba.has_in (v := s0 + ui * dv) (by omega)
        have HPr := Lib.hid (fun W => by have z := product_any ui dv W (by omega) (by omega) (by omega) (by omega); rw [Wd.wE_has hp1] at z; exact z)
        have HAd := Lib.hid (fun W => by have z := add_any (Wd.wH s0) (Wd.wL s0) (Wd.wH (ui * dv)) (Wd.wL (ui * dv)) W (Wd.val_w hp2).1 (Wd.val_w hp1).1; rw [(Wd.val_w hp2).2, (Wd.val_w hp1).2, Wd.wE_has hp3] at z; exact z)
        clear hp1 hp2 hp3 pb nb100 nb101
        rw [← Sn.out] at HAd
        generalize ui * dv = p at *
        go_wp2_with fail
        -- @b2
        (first | refine name_world ?_ | refine (show (∀ W, W = _ → Calls _ _ _ W _) → Calls _ _ _ _ _ from fun h => h _ rfl) ?_); intro W3 hW3
        have g3 : Gr w W3 := by rw [hW3]; exact gr_auto
        have gb3_wr : Gr wr W3 := by (try clear g3); rw [hW3]; exact gr_auto
        have k3_0 : W3.cell? ⟨wr.heap.size, 0, none⟩ = some (.int .i64 di.fr) := by rw [hW3]; first | (simp [go_sem, *]; done) | (refine Gr.at ?_ (by assumption); exact gr_auto)
        have b3_0 : wr.heap.size < W3.heap.size := World.block_lt_of_cell? _ _ k3_0
        have k3_1 : W3.cell? ⟨wr.heap.size, 1, none⟩ = some (.int .i64 di.st) := by rw [hW3]; first | (simp [go_sem, *]; done) | (refine Gr.at ?_ (by assumption); exact gr_auto)
        have k3_2 : W3.cell? ⟨wr.heap.size, 2, none⟩ = some (.slice di.ds.A di.ds.n di.ds.c) := by rw [hW3]; first | (simp [go_sem, *]; done) | (refine Gr.at ?_ (by assumption); exact gr_auto)
        have k3_3 : W3.cell? ⟨di.ds.b, di.ds.o + x, none⟩ = some (.int .i64 dv) := by rw [hW3]; first | (simp [go_sem, *]; done) | (refine Gr.at ?_ (by assumption); exact gr_auto)
        have b3_3 : di.ds.b < W3.heap.size := World.block_lt_of_cell? _ _ k3_3
        clear hW3
        have s3_0 : ∀ gw : GW W3, gw.1.cell? ⟨wr.heap.size, 0, none⟩ = some (.int .i64 di.fr) := fun gw => Gr.at gw.2 k3_0
        have s3_1 : ∀ gw : GW W3, gw.1.cell? ⟨wr.heap.size, 1, none⟩ = some (.int .i64 di.st) := fun gw => Gr.at gw.2 k3_1
        have s3_2 : ∀ gw : GW W3, gw.1.cell? ⟨wr.heap.size, 2, none⟩ = some (.slice di.ds.A di.ds.n di.ds.c) := fun gw => Gr.at gw.2 k3_2
        have s3_3 : ∀ gw : GW W3, gw.1.cell? ⟨di.ds.b, di.ds.o + x, none⟩ = some (.int .i64 dv) := fun gw => Gr.at gw.2 k3_3
        have hnn := Nat.le_refl 0
        refine wp_region_gr (by kernel_rfl) (by kernel_rfl) ?_
        repeat (go_big_quiet_step (skip))
        refine wpQuiet_nil ?_
        intro w4 hb4
        clear s3_0 s3_1 s3_2 s3_3
        have g4 : Gr w w4 := g3.trans hb4
        have k3_0 := Gr.at hb4 k3_0
        have k3_1 := Gr.at hb4 k3_1
        have k3_2 := Gr.at hb4 k3_2
        have k3_3 := Gr.at hb4 k3_3
        have gz4 : Gr wr w4 := gb3_wr.trans hb4
        have u4 := Gr.at gz4 u0
        go_wp2_with fail
        -- @c2
        -- @d
        refine (HPr.out _).mono ?_
        rintro e w5 ⟨rfl, hb5⟩
        have gz5 := gz4.trans hb5
        have P0 := O0.out.gr gz5; have P1 := O1.out.gr gz5
        obtain ⟨p0, f0⟩ := P0; obtain ⟨p1, f1⟩ := P1
        have bB := World.block_lt_of_cell? _ _ p0
        simp only at bB
        have u5 := Gr.at hb5 u4
        clear HPr u4
        go_wp2_with fail
        -- @e
        refine (show (∀ W, W = _ → Calls _ _ _ W _) → Calls _ _ _ _ _ from fun h => h _ rfl) ?_
        intro W6 hW6
        have gb6 : Gr w5 W6 := by rw [hW6]; exact gr_auto
        clear hW6
        refine (HAd.out _).mono ?_
        rintro e w7 ⟨rfl, hb7⟩
        have gz7 := gz5.trans (gb6.trans hb7)
        have P0 := O0.out.gr gz7; have P1 := O1.out.gr gz7
        have HO := Lib.hid (fun (a c : Value) => show Own ((w7.setCell ⟨B, 0, none⟩ a).setCell ⟨B, 1, none⟩ c) B 0 a ∧ Own ((w7.setCell ⟨B, 0, none⟩ a).setCell ⟨B, 1, none⟩ c) B 1 c from ⟨(P0.set).other (Or.inr (by decide)), (P1.other (Or.inr (by decide))).set⟩)
        have HGx := Lib.hid (fun (a c : Value) => GrX.setCell (p := ⟨B, 1, none⟩) (GrX.setCell (p := ⟨B, 0, none⟩) (hg.grown gz7) rfl a) rfl c)
        obtain ⟨p0, f0⟩ := P0; obtain ⟨p1, f1⟩ := P1
        have u7 := Gr.at (gb6.trans hb7) u5
        have u8 := fun (a c : Value) => GrX.at (GrX.setCell (R := B) (p := ⟨B, 1, none⟩) (GrX.setCell (p := ⟨B, 0, none⟩) (GrX.refl B w7) rfl a) rfl c) (by omega) u7
        clear HAd u5
        go_wp2_with fail
        -- @f
        go_roundw
        case rel => exact ⟨i + 1, by omega, by go_num, by rw [hh1.out, Hn.out], by rw [hs1.out]; exact Lib.hid (HO.out _ _).1, by rw [hs1.out]; exact Lib.hid (HO.out _ _).2, HGx.out _ _⟩
        case measure => simp [intOf]; omega
    · obtain rfl : n = i := by omega
      have nb100 : (37778931862957161709568 : Int) * (n : Int) ≤ 37778931862957161709568 * 100 := Int.mul_le_mul_of_nonneg_left (by omega) (by decide)
      have nb101 : (9007199254740992 : Int) * (n : Int) ≤ 9007199254740992 * 100 := Int.mul_le_mul_of_nonneg_left (by omega) (by decide)
      have HMn := Lib.hid HM.out
      clear HD HX HU HVB HW HT HN HS HH HV HB HS0 HH0 HM
      obtain ⟨p0, f0⟩ := O0.out; obtain ⟨p1, f1⟩ := O1.out
      generalize sn n = s0 at *
      generalize wh n = h0 at *
      by_cases hz : h0 = 0
      · have hz1 : (h0 == 0) = true := by rw [hz]; rfl
        have m := HMn.out
        rw [if_pos hz] at m
        replace m := Lib.hid m
        clear HMn hz
        go_wp2_with fail
        refine bodyPost_ret (by simp [results, Tryz.results71, go_sem]; try rfl) rfl ?_
        exact ⟨by rw [m.out], gr⟩
      · have hz1 : (h0 == 0) = false := beq_eq_false_iff_ne.2 hz
        have m := HMn.out
        rw [if_neg hz] at m
        replace m := Lib.hid m
        have hp2 := Ba.has_in (v := s0) (by omega)
        have q0 : 0 ≤ s0 / h0 ∧ s0 / h0 ≤ 4194304 := ⟨Int.ediv_nonneg (by omega) (by omega), Int.ediv_le_of_le_mul (by omega) (by omega)⟩
        have HF := Lib.hid (fun W => show Calls Tryz.prog 123 #[.agg #[.int .i64 (Wd.wH s0), .int .i64 (Wd.wL s0)], .int .i64 h0] W fun e w' => e = .returned (.tuple #[.int .i64 (s0 / h0), .int .i64 0]) ∧ Gr W w' from by
          have z := floor_any (Wd.wH s0) (Wd.wL s0) h0 W (by omega) (by omega)
          unfold Wd.dvQ Wd.dvE at z
          rw [if_pos (Wd.val_w hp2).1, if_pos (Wd.val_w hp2).1, if_neg hz, if_neg hz, (Wd.val_w hp2).2] at z
          have e : Wd.rnd s0 h0 false = s0 / h0 := by unfold Wd.rnd Wd.flr; rw [if_neg (by decide), if_pos (by omega)]
          obtain ⟨f1, f2⟩ := Wd.fits_true (q := s0 / h0) (by omega) (by omega)
          rw [e, f1, f2] at z
          exact z)
        rw [← m.out] at HF
        clear HMn hz hp2 q0 nb100 nb101
        go_wp2_with fail
        refine (HF.out _).mono ?_
        rintro e w8 ⟨rfl, hb8⟩
        clear HF
        go_wp2_with fail
        refine bodyPost_ret (by simp [results, Tryz.results71, go_sem]; try rfl) rfl ?_
        exact ⟨rfl, gr.trans hb8⟩
end Go.Proofs.YtajhhplgcegodaaGreatDoor
