/-
  Areal: the reference's Given, Fit, Span, Common; areal.Common; long. (Printed by mko.py.)
-/
import Derived.Test.YtnfjebfmfjpepaaArJ
set_option linter.unusedVariables false
set_option linter.unusedSimpArgs false
namespace Go.Proofs.Ytnfjebfmfjpepaa
open Go.RowKit
attribute [local go_sem ↓] Go.wp_at_zero Go.wp_at_succ

set_option maxRecDepth 100000 in
set_option maxHeartbeats 4000000 in
theorem rgiv_any (S : Ba.SlSer) (w : World) (h : S.At w) : Calls Try.prog 26 #[.slice S.A S.n S.c] w fun e w' => e = .returned (.int .i64 (Ba.giE S)) ∧ Gr w w' := by
  have HA := Lib.hid h.hA; have HD := Lib.hid h.hD; have hm := Nat.le_trans h.hc h.hb
  have HE := Lib.hid (show Ba.giE S = if Ba.allB (fun i => Ba.serB (S.D i)) S.n = true then if 100 < S.n then 4 else if S.n = 0 then 14 else 0 else 1 from rfl)
  clear h
  obtain ⟨E, hE⟩ : ∃ z, Ba.giE S = z := ⟨_, rfl⟩
  rw [hE] at HE ⊢
  clear hE
  obtain ⟨A, n, c, b, o, D⟩ := S
  simp only at *
  have HN := Lib.hid (fun (h : Ba.allB (fun i => Ba.serB (D i)) n = false) => show E = 1 from by rw [HE.out, h]; rfl)
  have HP := Lib.hid (fun (h : Ba.allB (fun i => Ba.serB (D i)) n = true) => show E = if 100 < n then 4 else if n = 0 then 14 else 0 from by rw [HE.out, if_pos h])
  go_enter Try.func26, Try.ntmps26
  go_wp2_with fail
  go_loopw [3] (fun x wr => ∃ i : Nat, i ≤ n ∧ x = .int .i64 (i : Int) ∧ Hid (Ba.allB (fun i => Ba.serB (D i)) i = true) ∧ Gr w wr) (fun x _ => n - (intOf x).toNat)
  case atStart => exact ⟨0, Nat.zero_le _, rfl, Lib.hid rfl, Gr.refl _⟩
  case round =>
    obtain ⟨i, hi, rfl, HQ, hg⟩ := hrel
    by_cases hlt : i < n
    · obtain rfl := HA.out (by omega)
      obtain ⟨a0, a1, a2⟩ := (HD.out i hlt).1.gr hg
      have HV := Lib.hid (fun W (hW : Gr wr W) => rser_any (D i) W ((HD.out i hlt).2.gr (hg.trans hW)))
      have ib0 : (0 : Int) ≤ (i : Int) := by omega
      have ib1 : (i : Int) < (n : Int) := by omega
      clear HD HE
      cases q : Ba.serB (D i)
      · rw [q] at HV
        have HR := Lib.hid (HN.out (Ba.allB_stop (p := fun i => Ba.serB (D i)) hlt q))
        clear HN HP HQ q
        unfold Ba.Ser.val at HV
        generalize D i = d at *
        go_wp2_with fail
        refine (HV.out _ (Gr.refl _)).mono ?_
        rintro e w2 ⟨rfl, hb2⟩
        clear HV
        go_wp2_with fail
        go_ret
        exact ⟨by rw [HR.out]; rfl, hg.trans hb2⟩
      · rw [q] at HV
        have HR := Lib.hid (Ba.allB_go (p := fun i => Ba.serB (D i)) HQ.out q)
        clear HN HP HQ q
        unfold Ba.Ser.val at HV
        obtain ⟨d, hd⟩ : ∃ z, D i = z := ⟨_, rfl⟩
        rw [hd] at a0 a1 a2 HV
        clear hd
        go_wp2_with fail
        refine (HV.out _ (Gr.refl _)).mono ?_
        rintro e w2 ⟨rfl, hb2⟩
        clear HV
        go_wp2_with fail
        go_roundw
        case rel => exact ⟨i + 1, by omega, by go_num, HR, hg.trans hb2⟩
        case measure => simp [intOf]; omega
    · obtain rfl : n = i := by omega
      have HP1 := Lib.hid (HP.out HQ.out)
      clear HD HE HN HP HQ
      by_cases h1 : 100 < n
      · have HR := Lib.hid (show E = 4 from by rw [HP1.out, if_pos h1])
        have t1 : decide ((100 : Int) < (n : Int)) = true := decide_eq_true (by omega)
        clear HP1 h1
        go_wp2_with fail
        go_ret
        exact ⟨by rw [HR.out]; rfl, hg⟩
      have t1 : decide ((100 : Int) < (n : Int)) = false := decide_eq_false (by omega)
      by_cases h2 : n = 0
      · have HR := Lib.hid (show E = 14 from by rw [HP1.out, if_neg h1, if_pos h2])
        have t2 : ((n : Int) == 0) = true := by rw [h2]; rfl
        clear HP1 h1 h2
        go_wp2_with fail
        go_ret
        exact ⟨by rw [HR.out]; rfl, hg⟩
      have HR := Lib.hid (show E = 0 from by rw [HP1.out, if_neg h1, if_neg h2])
      have t2 : ((n : Int) == 0) = false := beq_eq_false_iff_ne.2 (by omega)
      clear HP1 h1 h2
      go_wp2_with fail
      go_ret
      exact ⟨by rw [HR.out]; rfl, hg⟩

set_option maxRecDepth 100000 in
set_option maxHeartbeats 4000000 in
theorem rfit_any (S : Ba.SlSer) (w : World) (h : S.At w) (hg0 : Ba.giE S = 0) : Calls Try.prog 27 #[.slice S.A S.n S.c] w fun e w' => e = .returned (.bool (Ba.fitB S)) ∧ Gr w w' := by
  obtain ⟨n1, n2, hv⟩ := Ba.gi_parts hg0
  have hA := h.hA (by omega)
  have HD := Lib.hid h.hD; have hnc := h.hc; have hcb := h.hb
  have HV := Lib.hid (fun i hi => Ba.ser_nums (hv i hi))
  have HT := Lib.hid (fun i => show Ba.ftB S i = (((S.D i).st == (S.D 0).st) && (((S.D i).fr - (S.D 0).fr).tmod (S.D 0).st == 0)) from rfl)
  unfold Ba.fitB
  clear hg0 hv h
  rw [hA]
  generalize Ba.ftB S = ft at *
  clear hA
  obtain ⟨A, n, c, b, o, D⟩ := S
  simp only at *
  clear A
  obtain ⟨z0, z1, z2⟩ := (HD.out 0 (by omega)).1
  rw [Nat.zero_mul, Nat.add_zero] at z0 z1 z2
  have v0 := HV.out 0 (by omega)
  have ez1 : ((D 0).st == 0) = false := beq_eq_false_iff_ne.2 (by omega)
  have ez2 : (D 0).st ≠ 0 := by omega
  obtain ⟨vf, vs, vn, ve, -⟩ := v0
  obtain ⟨d0, hd0⟩ : ∃ z, D 0 = z := ⟨_, rfl⟩
  rw [hd0] at z0 z1 z2 vf vs vn ve ez1 ez2 HT
  clear hd0
  have nb0 : (0 : Int) < (n : Int) := by omega
  go_enter Try.func27, Try.ntmps27
  go_wp2_with fail
  go_loopw [3] (fun x wr => ∃ i : Nat, i ≤ n ∧ x = .int .i64 (i : Int) ∧ Hid (Ba.allB ft i = true) ∧ Gr w wr) (fun x _ => n - (intOf x).toNat)
  case atStart => exact ⟨0, Nat.zero_le _, rfl, Lib.hid rfl, Gr.refl _⟩
  case round =>
    obtain ⟨i, hi, rfl, HQ, hg⟩ := hrel
    replace z0 := Gr.at hg z0; replace z1 := Gr.at hg z1
    by_cases hlt : i < n
    · obtain ⟨a0, a1, a2⟩ := (HD.out i hlt).1.gr hg
      obtain ⟨wf, ws, wn, we, -⟩ := HV.out i hlt
      have Tn := Lib.hid (HT.out i)
      have HQs := Lib.hid (fun (h : ft i = true) => Ba.allB_go HQ.out h); have HQn := Lib.hid (fun (h : ft i = false) => Ba.allB_stop (n := n) hlt h)
      have ib0 : (0 : Int) ≤ (i : Int) := by omega
      have ib1 : (i : Int) < (n : Int) := by omega
      clear HT HV HD HQ
      generalize D i = d at *
      have sb : -137438953472 ≤ d.fr - d0.fr ∧ d.fr - d0.fr ≤ 137438953472 := by omega
      cases t0 : (d.st == d0.st)
      · have HQm := Lib.hid (HQn.out (by rw [Tn.out, t0]; rfl))
        have t0b : (d.st != d0.st) = true := by simp only [bne, t0, Bool.not_false]
        clear HQn HQs Tn t0
        go_wp2_with fail
        (first | refine name_world ?_ | refine (show (∀ W, W = _ → Calls _ _ _ W _) → Calls _ _ _ _ _ from fun h => h _ rfl) ?_); intro W3 hW3
        have g3 : Gr w W3 := by rw [hW3]; exact gr_auto
        have gb3_wr : Gr wr W3 := by (try clear g3); rw [hW3]; exact gr_auto
        have k3_0 : W3.cell? ⟨b, o + i * 3, none⟩ = some (.int .i64 d.fr) := by rw [hW3]; first | (simp [go_sem, *]; done) | (refine Gr.at ?_ (by assumption); exact gr_auto)
        have b3_0 : b < W3.heap.size := World.block_lt_of_cell? _ _ k3_0
        have k3_1 : W3.cell? ⟨b, o + i * 3 + 1, none⟩ = some (.int .i64 d.st) := by rw [hW3]; first | (simp [go_sem, *]; done) | (refine Gr.at ?_ (by assumption); exact gr_auto)
        have k3_2 : W3.cell? ⟨b, o, none⟩ = some (.int .i64 d0.fr) := by rw [hW3]; first | (simp [go_sem, *]; done) | (refine Gr.at ?_ (by assumption); exact gr_auto)
        have k3_3 : W3.cell? ⟨b, o + 1, none⟩ = some (.int .i64 d0.st) := by rw [hW3]; first | (simp [go_sem, *]; done) | (refine Gr.at ?_ (by assumption); exact gr_auto)
        clear hW3
        have s3_0 : ∀ gw : GW W3, gw.1.cell? ⟨b, o + i * 3, none⟩ = some (.int .i64 d.fr) := fun gw => Gr.at gw.2 k3_0
        have s3_1 : ∀ gw : GW W3, gw.1.cell? ⟨b, o + i * 3 + 1, none⟩ = some (.int .i64 d.st) := fun gw => Gr.at gw.2 k3_1
        have s3_2 : ∀ gw : GW W3, gw.1.cell? ⟨b, o, none⟩ = some (.int .i64 d0.fr) := fun gw => Gr.at gw.2 k3_2
        have s3_3 : ∀ gw : GW W3, gw.1.cell? ⟨b, o + 1, none⟩ = some (.int .i64 d0.st) := fun gw => Gr.at gw.2 k3_3
        have hnn := Nat.le_refl 0
        refine wp_region_gr (by kernel_rfl) (by kernel_rfl) ?_
        repeat (go_big_quiet_step (skip))
        refine wpQuiet_nil ?_
        intro w4 hb4
        clear s3_0 s3_1 s3_2 s3_3
        have g4 : Gr w w4 := g3.trans hb4
        have k3_0 := Gr.at hb4 k3_0
        have k3_1 := Gr.at hb4 k3_1
        have k3_2 := Gr.at hb4 k3_2
        have k3_3 := Gr.at hb4 k3_3
        go_wp2_with fail
        go_ret
        exact ⟨by rw [HQm.out]; rfl, hg.trans (gb3_wr.trans hb4)⟩
      · have t0b : (d.st != d0.st) = false := by simp only [bne, t0, Bool.not_true]
        cases t1 : ((d.fr - d0.fr).tmod d0.st == 0)
        · have HQm := Lib.hid (HQn.out (by rw [Tn.out, t0, t1]; rfl))
          have t1b : ((d.fr - d0.fr).tmod d0.st != 0) = true := by simp only [bne, t1, Bool.not_false]
          clear HQn HQs Tn t0 t1
          go_wp2_with fail
          (first | refine name_world ?_ | refine (show (∀ W, W = _ → Calls _ _ _ W _) → Calls _ _ _ _ _ from fun h => h _ rfl) ?_); intro W3 hW3
          have g3 : Gr w W3 := by rw [hW3]; exact gr_auto
          have gb3_wr : Gr wr W3 := by (try clear g3); rw [hW3]; exact gr_auto
          have k3_0 : W3.cell? ⟨b, o + i * 3, none⟩ = some (.int .i64 d.fr) := by rw [hW3]; first | (simp [go_sem, *]; done) | (refine Gr.at ?_ (by assumption); exact gr_auto)
          have b3_0 : b < W3.heap.size := World.block_lt_of_cell? _ _ k3_0
          have k3_1 : W3.cell? ⟨b, o + i * 3 + 1, none⟩ = some (.int .i64 d.st) := by rw [hW3]; first | (simp [go_sem, *]; done) | (refine Gr.at ?_ (by assumption); exact gr_auto)
          have k3_2 : W3.cell? ⟨b, o, none⟩ = some (.int .i64 d0.fr) := by rw [hW3]; first | (simp [go_sem, *]; done) | (refine Gr.at ?_ (by assumption); exact gr_auto)
          have k3_3 : W3.cell? ⟨b, o + 1, none⟩ = some (.int .i64 d0.st) := by rw [hW3]; first | (simp [go_sem, *]; done) | (refine Gr.at ?_ (by assumption); exact gr_auto)
          clear hW3
          have s3_0 : ∀ gw : GW W3, gw.1.cell? ⟨b, o + i * 3, none⟩ = some (.int .i64 d.fr) := fun gw => Gr.at gw.2 k3_0
          have s3_1 : ∀ gw : GW W3, gw.1.cell? ⟨b, o + i * 3 + 1, none⟩ = some (.int .i64 d.st) := fun gw => Gr.at gw.2 k3_1
          have s3_2 : ∀ gw : GW W3, gw.1.cell? ⟨b, o, none⟩ = some (.int .i64 d0.fr) := fun gw => Gr.at gw.2 k3_2
          have s3_3 : ∀ gw : GW W3, gw.1.cell? ⟨b, o + 1, none⟩ = some (.int .i64 d0.st) := fun gw => Gr.at gw.2 k3_3
          have hnn := Nat.le_refl 0
          refine wp_region_gr (by kernel_rfl) (by kernel_rfl) ?_
          repeat (go_big_quiet_step (skip))
          refine wpQuiet_nil ?_
          intro w4 hb4
          clear s3_0 s3_1 s3_2 s3_3
          have g4 : Gr w w4 := g3.trans hb4
          have k3_0 := Gr.at hb4 k3_0
          have k3_1 := Gr.at hb4 k3_1
          have k3_2 := Gr.at hb4 k3_2
          have k3_3 := Gr.at hb4 k3_3
          go_wp2_with fail
          go_ret
          exact ⟨by rw [HQm.out]; rfl, hg.trans (gb3_wr.trans hb4)⟩
        · have HQm := Lib.hid (HQs.out (by rw [Tn.out, t0, t1]; rfl))
          have t1b : ((d.fr - d0.fr).tmod d0.st != 0) = false := by simp only [bne, t1, Bool.not_true]
          clear HQn HQs Tn t0 t1
          go_wp2_with fail
          (first | refine name_world ?_ | refine (show (∀ W, W = _ → Calls _ _ _ W _) → Calls _ _ _ _ _ from fun h => h _ rfl) ?_); intro W3 hW3
          have g3 : Gr w W3 := by rw [hW3]; exact gr_auto
          have gb3_wr : Gr wr W3 := by (try clear g3); rw [hW3]; exact gr_auto
          have k3_0 : W3.cell? ⟨b, o + i * 3, none⟩ = some (.int .i64 d.fr) := by rw [hW3]; first | (simp [go_sem, *]; done) | (refine Gr.at ?_ (by assumption); exact gr_auto)
          have b3_0 : b < W3.heap.size := World.block_lt_of_cell? _ _ k3_0
          have k3_1 : W3.cell? ⟨b, o + i * 3 + 1, none⟩ = some (.int .i64 d.st) := by rw [hW3]; first | (simp [go_sem, *]; done) | (refine Gr.at ?_ (by assumption); exact gr_auto)
          have k3_2 : W3.cell? ⟨b, o, none⟩ = some (.int .i64 d0.fr) := by rw [hW3]; first | (simp [go_sem, *]; done) | (refine Gr.at ?_ (by assumption); exact gr_auto)
          have k3_3 : W3.cell? ⟨b, o + 1, none⟩ = some (.int .i64 d0.st) := by rw [hW3]; first | (simp [go_sem, *]; done) | (refine Gr.at ?_ (by assumption); exact gr_auto)
          clear hW3
          have s3_0 : ∀ gw : GW W3, gw.1.cell? ⟨b, o + i * 3, none⟩ = some (.int .i64 d.fr) := fun gw => Gr.at gw.2 k3_0
          have s3_1 : ∀ gw : GW W3, gw.1.cell? ⟨b, o + i * 3 + 1, none⟩ = some (.int .i64 d.st) := fun gw => Gr.at gw.2 k3_1
          have s3_2 : ∀ gw : GW W3, gw.1.cell? ⟨b, o, none⟩ = some (.int .i64 d0.fr) := fun gw => Gr.at gw.2 k3_2
          have s3_3 : ∀ gw : GW W3, gw.1.cell? ⟨b, o + 1, none⟩ = some (.int .i64 d0.st) := fun gw => Gr.at gw.2 k3_3
          have hnn := Nat.le_refl 0
          refine wp_region_gr (by kernel_rfl) (by kernel_rfl) ?_
          repeat (go_big_quiet_step (skip))
          refine wpQuiet_nil ?_
          intro w4 hb4
          clear s3_0 s3_1 s3_2 s3_3
          have g4 : Gr w w4 := g3.trans hb4
          have k3_0 := Gr.at hb4 k3_0
          have k3_1 := Gr.at hb4 k3_1
          have k3_2 := Gr.at hb4 k3_2
          have k3_3 := Gr.at hb4 k3_3
          go_wp2_with fail
          go_roundw
          case rel => exact ⟨i + 1, by omega, by go_num, HQm, hg.trans (gb3_wr.trans hb4)⟩
          case measure => simp [intOf]; omega
    · obtain rfl : n = i := by omega
      have HQm := Lib.hid HQ.out
      clear HT HV HD HQ
      go_wp2_with fail
      go_ret
      exact ⟨by rw [HQm.out]; rfl, hg⟩

set_option maxRecDepth 100000 in
set_option maxHeartbeats 4000000 in
theorem rspan_any (S : Ba.SlSer) (w : World) (h : S.At w) (hg0 : Ba.giE S = 0) (hf : Ba.fitB S = true) : Calls Try.prog 55 #[.slice S.A S.n S.c] w fun e w' => e = .returned (.tuple #[.int .i64 (Ba.frI S S.n), .int .i64 (Ba.cmN S)]) ∧ Gr w w' := by
  obtain ⟨n1, n2, hv⟩ := Ba.gi_parts hg0
  have hA := h.hA (by omega)
  have HD := Lib.hid h.hD; have hnc := h.hc; have hcb := h.hb
  have HFB := Lib.hid (Ba.fr_bd hv n1)
  have hst : ∀ i, i < S.n → (S.D i).st = (S.D 0).st := fun i hi => by
    have := Ba.allB_at hf hi
    unfold Ba.ftB at this
    rw [Bool.and_eq_true, beq_iff_eq] at this
    exact this.1
  have HEB := Lib.hid (fun i (hi : i ≤ S.n) => Ba.en_bd hv n1 i hi fun k hk => hst k (by omega))
  have HST := Lib.hid hst
  have HV := Lib.hid (fun i hi => Ba.ser_nums (hv i hi))
  have HF := Lib.hid (fun i => show Ba.frI S (i + 1) = max (Ba.frI S i) (S.D i).fr from rfl)
  have HE := Lib.hid (fun i => show Ba.enI S (i + 1) = min (Ba.enI S i) ((S.D i).fr + (S.D 0).st * (S.D i).ds.n) from rfl)
  have HF0 := Lib.hid (show Ba.frI S 0 = (S.D 0).fr from rfl); have HE0 := Lib.hid (show Ba.enI S 0 = (S.D 0).fr + (S.D 0).st * (S.D 0).ds.n from rfl)
  obtain ⟨vN, hvN⟩ : ∃ z, Ba.cmN S = z := ⟨_, rfl⟩
  have HNN := Lib.hid (show vN = (max 0 (Ba.enI S S.n - Ba.frI S S.n)) / (S.D 0).st from hvN.symm)
  rw [hvN]
  clear hg0 hv h hf hst hvN
  rw [hA]
  generalize Ba.frI S = fr at *
  generalize Ba.enI S = en at *
  clear hA
  obtain ⟨A, n, c, b, o, D⟩ := S
  simp only at *
  clear A
  obtain ⟨z0, z1, z2⟩ := (HD.out 0 (by omega)).1
  rw [Nat.zero_mul, Nat.add_zero] at z0 z1 z2
  have v0 := HV.out 0 (by omega)
  have ez1 : ((D 0).st == 0) = false := beq_eq_false_iff_ne.2 (by omega)
  have ez2 : (D 0).st ≠ 0 := by omega
  obtain ⟨vf, vs, vn, ve, -⟩ := v0
  obtain ⟨d0, hd0⟩ : ∃ z, D 0 = z := ⟨_, rfl⟩
  rw [hd0] at z0 z1 z2 vf vs vn ve ez1 ez2 HE HF0 HE0 HST HNN
  clear hd0
  have nb0 : (0 : Int) < (n : Int) := by omega
  have pb : -9223372036854775808 ≤ d0.st * (d0.ds.n : Int) ∧ d0.st * (d0.ds.n : Int) ≤ 9223372036854775807 := by omega
  go_enter Try.func55, Try.ntmps55
  go_wp2_with fail
  (first | refine name_world ?_ | refine (show (∀ W, W = _ → Calls _ _ _ W _) → Calls _ _ _ _ _ from fun h => h _ rfl) ?_); intro W1 hW1
  have g1 : Gr w W1 := by rw [hW1]; exact gr_auto
  have k1_0 : W1.cell? ⟨b, o, none⟩ = some (.int .i64 d0.fr) := by rw [hW1]; first | (simp [go_sem, *]; done) | (refine Gr.at ?_ (by assumption); exact gr_auto)
  have b1_0 : b < W1.heap.size := World.block_lt_of_cell? _ _ k1_0
  have k1_1 : W1.cell? ⟨b, o + 1, none⟩ = some (.int .i64 d0.st) := by rw [hW1]; first | (simp [go_sem, *]; done) | (refine Gr.at ?_ (by assumption); exact gr_auto)
  have k1_2 : W1.cell? ⟨b, o + 2, none⟩ = some (.slice d0.ds.A d0.ds.n d0.ds.c) := by rw [hW1]; first | (simp [go_sem, *]; done) | (refine Gr.at ?_ (by assumption); exact gr_auto)
  clear hW1
  have s1_0 : ∀ gw : GW W1, gw.1.cell? ⟨b, o, none⟩ = some (.int .i64 d0.fr) := fun gw => Gr.at gw.2 k1_0
  have s1_1 : ∀ gw : GW W1, gw.1.cell? ⟨b, o + 1, none⟩ = some (.int .i64 d0.st) := fun gw => Gr.at gw.2 k1_1
  have s1_2 : ∀ gw : GW W1, gw.1.cell? ⟨b, o + 2, none⟩ = some (.slice d0.ds.A d0.ds.n d0.ds.c) := fun gw => Gr.at gw.2 k1_2
  have hnn := Nat.le_refl 0
  refine wp_region_gr (by kernel_rfl) (by kernel_rfl) ?_
  repeat (go_big_quiet_step (skip))
  refine wpQuiet_nil ?_
  intro w2 hb2
  clear s1_0 s1_1 s1_2
  have g2 : Gr w w2 := g1.trans hb2
  have k1_0 := Gr.at hb2 k1_0
  have k1_1 := Gr.at hb2 k1_1
  have k1_2 := Gr.at hb2 k1_2
  clear z0 z1 z2
  have z0 := k1_0; have z1 := k1_1
  clear k1_0 k1_1 k1_2
  go_wp2_with fail
  go_loopw [4, 5, 6] (fun f e x wr => ∃ i : Nat, i ≤ n ∧ x = .int .i64 (i : Int) ∧ f = .int .i64 (fr i) ∧ e = .int .i64 (en i) ∧ Gr w2 wr) (fun _ _ x _ => n - (intOf x).toNat)
  case atStart => exact ⟨0, Nat.zero_le _, rfl, by rw [HF0.out], by rw [HE0.out], Gr.refl _⟩
  case round =>
    obtain ⟨i, hi, rfl, rfl, rfl, hg⟩ := hrel
    have gw : Gr w wr := g2.trans hg
    replace z0 := Gr.at hg z0; replace z1 := Gr.at hg z1
    have fb := HFB.out i hi; have eb := HEB.out i hi
    by_cases hlt : i < n
    · obtain ⟨a0, a1, a2⟩ := (HD.out i hlt).1.gr gw
      obtain ⟨wf, ws, wn, we, -⟩ := HV.out i hlt
      have hs := HST.out i hlt
      have Fn := Lib.hid (HF.out i); have En := Lib.hid (HE.out i)
      have ib0 : (0 : Int) ≤ (i : Int) := by omega
      have ib1 : (i : Int) < (n : Int) := by omega
      clear HF HE HF0 HE0 HFB HEB HST HV HD HNN z0 z1
      generalize D i = d at *
      rw [← hs] at En
      clear hs
      have wp : -9223372036854775808 ≤ d.st * (d.ds.n : Int) ∧ d.st * (d.ds.n : Int) ≤ 9223372036854775807 := by omega
      generalize fr i = f0 at *
      generalize en i = e0 at *
      have c1 : f0 < d.fr ∨ d.fr ≤ f0 := by omega
      have c2 : d.fr + d.st * (d.ds.n : Int) < e0 ∨ e0 ≤ d.fr + d.st * (d.ds.n : Int) := by omega
      rcases c1 with c1 | c1
      all_goals
        rcases c2 with c2 | c2
        all_goals
          go_wp2_with fail
          (first | refine name_world ?_ | refine (show (∀ W, W = _ → Calls _ _ _ W _) → Calls _ _ _ _ _ from fun h => h _ rfl) ?_); intro W3 hW3
          have g3 : Gr w W3 := by rw [hW3]; exact gr_auto
          have gb3_wr : Gr wr W3 := by (try clear g3); rw [hW3]; exact gr_auto
          have k3_0 : W3.cell? ⟨b, o + i * 3, none⟩ = some (.int .i64 d.fr) := by rw [hW3]; first | (simp [go_sem, *]; done) | (refine Gr.at ?_ (by assumption); exact gr_auto)
          have b3_0 : b < W3.heap.size := World.block_lt_of_cell? _ _ k3_0
          have k3_1 : W3.cell? ⟨b, o + i * 3 + 1, none⟩ = some (.int .i64 d.st) := by rw [hW3]; first | (simp [go_sem, *]; done) | (refine Gr.at ?_ (by assumption); exact gr_auto)
          have k3_2 : W3.cell? ⟨b, o + i * 3 + 2, none⟩ = some (.slice d.ds.A d.ds.n d.ds.c) := by rw [hW3]; first | (simp [go_sem, *]; done) | (refine Gr.at ?_ (by assumption); exact gr_auto)
          clear hW3
          have s3_0 : ∀ gw : GW W3, gw.1.cell? ⟨b, o + i * 3, none⟩ = some (.int .i64 d.fr) := fun gw => Gr.at gw.2 k3_0
          have s3_1 : ∀ gw : GW W3, gw.1.cell? ⟨b, o + i * 3 + 1, none⟩ = some (.int .i64 d.st) := fun gw => Gr.at gw.2 k3_1
          have s3_2 : ∀ gw : GW W3, gw.1.cell? ⟨b, o + i * 3 + 2, none⟩ = some (.slice d.ds.A d.ds.n d.ds.c) := fun gw => Gr.at gw.2 k3_2
          have hnn := Nat.le_refl 0
          refine wp_region_gr (by kernel_rfl) (by kernel_rfl) ?_
          repeat (go_big_quiet_step (skip))
          refine wpQuiet_nil ?_
          intro w4 hb4
          clear s3_0 s3_1 s3_2
          have g4 : Gr w w4 := g3.trans hb4
          have k3_0 := Gr.at hb4 k3_0
          have k3_1 := Gr.at hb4 k3_1
          have k3_2 := Gr.at hb4 k3_2
          go_wp2_with fail
          go_roundw
          case rel => exact ⟨i + 1, by omega, by go_num, by rw [Fn.out]; congr 1; omega, by rw [En.out]; congr 1; omega, hg.trans (gb3_wr.trans hb4)⟩
          case measure => simp [intOf]; omega
    · obtain rfl : n = i := by omega
      have sb : -137438953472 ≤ en n - fr n ∧ en n - fr n ≤ 137438953472 := by omega
      clear HF HE HF0 HE0 HFB HEB HST HV HD
      by_cases hs : en n ≤ fr n
      · have m : vN = 0 := by rw [HNN.out, show max 0 (en n - fr n) = 0 by omega, Int.zero_ediv]
        subst m
        clear HNN
        go_wp2_with fail
        refine bodyPost_ret (by simp [results, Try.results55, go_sem]; try rfl) rfl ?_
        exact ⟨rfl, gw⟩
      · have m : vN = (en n - fr n) / d0.st := by rw [HNN.out, show max 0 (en n - fr n) = en n - fr n by omega]
        subst m
        clear HNN
        go_wp2_with fail
        (first | refine name_world ?_ | refine (show (∀ W, W = _ → Calls _ _ _ W _) → Calls _ _ _ _ _ from fun h => h _ rfl) ?_); intro W5 hW5
        have g5 : Gr w W5 := by rw [hW5]; exact gr_auto
        have gb5_wr : Gr wr W5 := by (try clear g5); rw [hW5]; exact gr_auto
        have k5_0 : W5.cell? ⟨b, o + 1, none⟩ = some (.int .i64 d0.st) := by rw [hW5]; first | (simp [go_sem, *]; done) | (refine Gr.at ?_ (by assumption); exact gr_auto)
        have b5_0 : b < W5.heap.size := World.block_lt_of_cell? _ _ k5_0
        clear hW5
        have s5_0 : ∀ gw : GW W5, gw.1.cell? ⟨b, o + 1, none⟩ = some (.int .i64 d0.st) := fun gw => Gr.at gw.2 k5_0
        have hnn := Nat.le_refl 0
        refine wp_region_gr (by kernel_rfl) (by kernel_rfl) ?_
        repeat (go_big_quiet_step (skip))
        refine wpQuiet_nil ?_
        intro w6 hb6
        clear s5_0
        have g6 : Gr w w6 := g5.trans hb6
        have k5_0 := Gr.at hb6 k5_0
        go_wp2_with fail
        refine bodyPost_ret (by simp [results, Try.results55, go_sem]; try rfl) rfl ?_
        exact ⟨rfl, gw.trans (gb5_wr.trans hb6)⟩
namespace Ba
/-- What Common answers. -/
def coE (S : SlSer) : Int := if giE S = 0 then if fitB S = true then 0 else 25 else giE S
def coF (S : SlSer) : Int := if coE S = 0 then frI S S.n else 0
def coN (S : SlSer) : Int := if coE S = 0 then cmN S else 0
end Ba

set_option maxRecDepth 100000 in
set_option maxHeartbeats 4000000 in
theorem common_any (S : Ba.SlSer) (w : World) (h : S.At w) : Calls Try.prog 22 #[.slice S.A S.n S.c] w fun e w' => e = .returned (.tuple #[.int .i64 (Ba.coF S), .int .i64 (Ba.coN S), .int .i64 (Ba.coE S)]) ∧ Gr w w' := by
  have HG := Lib.hid (fun W (hh : Gr w W) => giv_any S W (h.gr hh)); have hm := Nat.le_trans h.hc h.hb
  by_cases he : Ba.giE S = 0
  rotate_left
  · have e1 : Ba.coE S = Ba.giE S := by unfold Ba.coE; rw [if_neg he]
    have e2 : Ba.coF S = 0 := by unfold Ba.coF; rw [e1, if_neg he]
    have e3 : Ba.coN S = 0 := by unfold Ba.coN; rw [e1, if_neg he]
    rw [e1, e2, e3]
    clear e1 e2 e3 h
    generalize Ba.giE S = E at *
    have t0 : (E != 0) = true := bne_iff_ne.2 he
    clear he
    generalize S.A = A at *; generalize S.n = n at *; generalize S.c = c at *
    go_enter Try.func22, Try.ntmps22
    go_wp2_with fail
    refine (HG.out _ (Gr.refl _)).mono ?_
    rintro e w1 ⟨rfl, hb1⟩
    clear HG
    go_wp2_with fail
    refine bodyPost_ret (by simp [results, Try.results22, go_sem]; try rfl) rfl ?_
    exact ⟨rfl, hb1⟩
  have HC := Lib.hid (fun W (hh : Gr w W) => com_any S W (h.gr hh) he)
  rw [he] at HG
  cases hf : Ba.fitB S
  · have e1 : Ba.coE S = 25 := by unfold Ba.coE; rw [if_pos he, hf]; rfl
    have e2 : Ba.coF S = 0 := by unfold Ba.coF; rw [e1]; rfl
    have e3 : Ba.coN S = 0 := by unfold Ba.coN; rw [e1]; rfl
    rw [e1, e2, e3]
    rw [hf] at HC
    clear e1 e2 e3 he hf h
    generalize S.A = A at *; generalize S.n = n at *; generalize S.c = c at *
    go_enter Try.func22, Try.ntmps22
    go_wp2_with fail
    refine (HG.out _ (Gr.refl _)).mono ?_
    rintro e w1 ⟨rfl, hb1⟩
    clear HG
    go_wp2_with fail
    refine (HC.out _ hb1).mono ?_
    rintro e w2 ⟨rfl, hb2⟩
    have g2 := Gr.trans hb1 hb2
    clear HC
    go_wp2_with fail
    refine bodyPost_ret (by simp [results, Try.results22, go_sem]; try rfl) rfl ?_
    exact ⟨rfl, g2⟩
  · have e1 : Ba.coE S = 0 := by unfold Ba.coE; rw [if_pos he, if_pos hf]
    have e2 : Ba.coF S = Ba.frI S S.n := by unfold Ba.coF; rw [e1]; rfl
    have e3 : Ba.coN S = Ba.cmN S := by unfold Ba.coN; rw [e1]; rfl
    rw [e1, e2, e3]
    rw [if_pos hf, if_pos hf, hf] at HC
    skip
    clear e1 e2 e3 he hf h
    generalize Ba.frI S S.n = fr at *
    generalize Ba.cmN S = cn at *
    generalize S.A = A at *; generalize S.n = n at *; generalize S.c = c at *
    go_enter Try.func22, Try.ntmps22
    go_wp2_with fail
    refine (HG.out _ (Gr.refl _)).mono ?_
    rintro e w1 ⟨rfl, hb1⟩
    clear HG
    go_wp2_with fail
    refine (HC.out _ hb1).mono ?_
    rintro e w2 ⟨rfl, hb2⟩
    have g2 := Gr.trans hb1 hb2
    clear HC
    go_wp2_with fail
    refine bodyPost_ret (by simp [results, Try.results22, go_sem]; try rfl) rfl ?_
    exact ⟨rfl, g2⟩

set_option maxRecDepth 100000 in
set_option maxHeartbeats 4000000 in
theorem rcommon_any (S : Ba.SlSer) (w : World) (h : S.At w) : Calls Try.prog 24 #[.slice S.A S.n S.c] w fun e w' => e = .returned (.tuple #[.int .i64 (Ba.coF S), .int .i64 (Ba.coN S), .int .i64 (Ba.coE S)]) ∧ Gr w w' := by
  have HG := Lib.hid (fun W (hh : Gr w W) => rgiv_any S W (h.gr hh)); have hm := Nat.le_trans h.hc h.hb
  by_cases he : Ba.giE S = 0
  rotate_left
  · have e1 : Ba.coE S = Ba.giE S := by unfold Ba.coE; rw [if_neg he]
    have e2 : Ba.coF S = 0 := by unfold Ba.coF; rw [e1, if_neg he]
    have e3 : Ba.coN S = 0 := by unfold Ba.coN; rw [e1, if_neg he]
    rw [e1, e2, e3]
    clear e1 e2 e3 h
    generalize Ba.giE S = E at *
    have t0 : (E != 0) = true := bne_iff_ne.2 he
    clear he
    generalize S.A = A at *; generalize S.n = n at *; generalize S.c = c at *
    go_enter Try.func24, Try.ntmps24
    go_wp2_with fail
    refine (HG.out _ (Gr.refl _)).mono ?_
    rintro e w1 ⟨rfl, hb1⟩
    clear HG
    go_wp2_with fail
    refine bodyPost_ret (by simp [results, Try.results24, go_sem]; try rfl) rfl ?_
    exact ⟨rfl, hb1⟩
  have HC := Lib.hid (fun W (hh : Gr w W) => rfit_any S W (h.gr hh) he)
  rw [he] at HG
  cases hf : Ba.fitB S
  · have e1 : Ba.coE S = 25 := by unfold Ba.coE; rw [if_pos he, hf]; rfl
    have e2 : Ba.coF S = 0 := by unfold Ba.coF; rw [e1]; rfl
    have e3 : Ba.coN S = 0 := by unfold Ba.coN; rw [e1]; rfl
    rw [e1, e2, e3]
    rw [hf] at HC
    clear e1 e2 e3 he hf h
    generalize S.A = A at *; generalize S.n = n at *; generalize S.c = c at *
    go_enter Try.func24, Try.ntmps24
    go_wp2_with fail
    refine (HG.out _ (Gr.refl _)).mono ?_
    rintro e w1 ⟨rfl, hb1⟩
    clear HG
    go_wp2_with fail
    refine (HC.out _ hb1).mono ?_
    rintro e w2 ⟨rfl, hb2⟩
    have g2 := Gr.trans hb1 hb2
    clear HC
    go_wp2_with fail
    refine bodyPost_ret (by simp [results, Try.results24, go_sem]; try rfl) rfl ?_
    exact ⟨rfl, g2⟩
  · have e1 : Ba.coE S = 0 := by unfold Ba.coE; rw [if_pos he, if_pos hf]
    have e2 : Ba.coF S = Ba.frI S S.n := by unfold Ba.coF; rw [e1]; rfl
    have e3 : Ba.coN S = Ba.cmN S := by unfold Ba.coN; rw [e1]; rfl
    rw [e1, e2, e3]
    rw [hf] at HC
    have HS := Lib.hid (fun W (hh : Gr w W) => rspan_any S W (h.gr hh) he hf)
    clear e1 e2 e3 he hf h
    generalize Ba.frI S S.n = fr at *
    generalize Ba.cmN S = cn at *
    generalize S.A = A at *; generalize S.n = n at *; generalize S.c = c at *
    go_enter Try.func24, Try.ntmps24
    go_wp2_with fail
    refine (HG.out _ (Gr.refl _)).mono ?_
    rintro e w1 ⟨rfl, hb1⟩
    clear HG
    go_wp2_with fail
    refine (HC.out _ hb1).mono ?_
    rintro e w2 ⟨rfl, hb2⟩
    have g2 := Gr.trans hb1 hb2
    clear HC
    go_wp2_with fail
    refine (HS.out _ g2).mono ?_
    rintro e w3 ⟨rfl, hb3⟩
    have g3 := Gr.trans g2 hb3
    clear HS
    go_wp2_with fail
    refine bodyPost_ret (by simp [results, Try.results24, go_sem]; try rfl) rfl ?_
    exact ⟨rfl, g3⟩

namespace Ba
def lonB (S : SlSer) : Bool := (decide ((8 : Int) < (S.n : Int)) && decide ((S.n : Int) ≤ 100) || decide ((110 : Int) < (S.n : Int))) || any (fun i => loB (S.D i)) S.n
end Ba

set_option maxRecDepth 100000 in
set_option maxHeartbeats 4000000 in
theorem long_any (S : Ba.SlSer) (w : World) (h : S.At w) : Calls Try.prog 18 #[.slice S.A S.n S.c] w fun e w' => e = .returned (.bool (Ba.lonB S)) ∧ Gr w w' := by
  have HC := Lib.hid (has_ser 47 #[] S (fun i => Ba.loB (S.D i)) w h (enter_of Try.func47 (by kernel_rfl) (by kernel_rfl)) fun i hi W' hW => lof_any (S.D i) W' ((h.hD i hi).2.gr hW))
  have hm := Nat.le_trans h.hc h.hb
  clear h
  unfold Ba.lonB
  generalize Ba.any (fun i => Ba.loB (S.D i)) S.n = q at *
  generalize S.A = A at *; generalize S.n = n at *; generalize S.c = c at *
  have short : ∀ b : Bool, (decide ((8 : Int) < (n : Int)) && decide ((n : Int) ≤ 100) || decide ((110 : Int) < (n : Int))) = b → Calls Try.prog 18 #[.slice A n c] w fun e w' => e = .returned (.bool (b || q)) ∧ Gr w w' := fun b hb => by
    by_cases h1 : (8 : Int) < (n : Int)
    · have t1 : decide ((8 : Int) < (n : Int)) = true := decide_eq_true h1
      by_cases h2 : (n : Int) ≤ 100
      · have t2 : decide ((n : Int) ≤ 100) = true := decide_eq_true h2
        rw [t1, t2] at hb
        subst hb
        clear HC
        go_enter Try.func18, Try.ntmps18
        go_wp2_with fail
        go_ret
        exact ⟨rfl, gr_auto⟩
      · have t2 : decide ((n : Int) ≤ 100) = false := decide_eq_false h2
        by_cases h3 : (110 : Int) < (n : Int)
        · have t3 : decide ((110 : Int) < (n : Int)) = true := decide_eq_true h3
          rw [t1, t2, t3] at hb
          subst hb
          clear HC
          go_enter Try.func18, Try.ntmps18
          go_wp2_with fail
          go_ret
          exact ⟨rfl, gr_auto⟩
        · have t3 : decide ((110 : Int) < (n : Int)) = false := decide_eq_false h3
          rw [t1, t2, t3] at hb
          subst hb
          go_enter Try.func18, Try.ntmps18
          go_wp2_with fail
          refine HC.out.mono ?_
          rintro e w1 ⟨rfl, hb1⟩
          clear HC
          go_wp2_with fail
          go_ret
          exact ⟨rfl, hb1⟩
    · have t1 : decide ((8 : Int) < (n : Int)) = false := decide_eq_false h1
      have t3 : decide ((110 : Int) < (n : Int)) = false := decide_eq_false (by omega)
      rw [t1, t3] at hb
      subst hb
      go_enter Try.func18, Try.ntmps18
      go_wp2_with fail
      refine HC.out.mono ?_
      rintro e w1 ⟨rfl, hb1⟩
      clear HC
      go_wp2_with fail
      go_ret
      exact ⟨rfl, hb1⟩
  exact short _ rfl
end Go.Proofs.Ytnfjebfmfjpepaa
