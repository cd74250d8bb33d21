/-
  Runoff, the reference: names and fits. Typed.
-/
import Derived.Test.YtajhhplgcegodaaGreatDoorInf22

set_option linter.unusedVariables false
set_option linter.unusedSimpArgs false
namespace Go.Proofs.YtajhhplgcegodaaGreatDoor
open Go.RowKit
attribute [local go_sem ↓] Go.wp_at_zero Go.wp_at_succ
namespace Ba
def nmsE (N : SlS) : Int := if any (badN N) N.n = true then 1 else if 300 < N.n then 4 else 0
def fitE (m : Ms.Mesh) (c : Int) (P : SlI) (N : SlS) (U : SlU) : Int := if P.n ≠ m.F.n then 3 else if U.n ≠ N.n then 3 else if twB N.X N.n = true then 10 else if any (badI P N.n) P.n = true then 2 else if any (fun i => decide (c ≤ (m.F.D i).k)) m.F.n = true then 11 else 0
theorem any_all {p : Nat → Bool} {n : Nat} (h : ∀ j, j < n → p j = false) : any p n = false := by
  cases q : any p n
  · rfl
  · obtain ⟨i, hi, e⟩ := (any_iff _ _).1 q
    rw [h i hi] at e; cases e
theorem any_one' {p : Nat → Bool} {n i : Nat} (hi : i < n) (h : p i = true) : any p n = true := (any_iff _ _).2 ⟨i, hi, h⟩
end Ba
theorem tl_inj {a b : ByteArray} (h : a.toList = b.toList) : a = b := by
  rw [Lib.toList_data, Lib.toList_data] at h
  exact ByteArray.ext (Array.toList_inj.1 h)
set_option maxRecDepth 100000 in
set_option maxHeartbeats 4000000 in
theorem rnames_any (s : Ba.SlS) (w : World) (h : s.At w) : Calls Tryz.prog 61 #[.slice s.A s.n s.c] w fun e w' => e = .returned (.int .i64 (Ba.nmsE s)) ∧ Gr w w' := by
  have HA := Lib.hid h.hA; have HX := Lib.hid h.hX
  have hm := Nat.le_trans h.hc h.hb
  have HB := Lib.hid (fun i => show Ba.badN s i = !Dc.isName (s.X i).data.toList from rfl)
  have HR := Lib.hid (fun W i (hi : i < s.n) => risname_all (s.X i) W (h.hX i hi).2)
  have HE := Lib.hid (show Ba.nmsE s = if Ba.any (Ba.badN s) s.n = true then 1 else if 300 < s.n then 4 else 0 from rfl)
  obtain ⟨A, n, c, b, o, X⟩ := s
  simp only at *
  clear h
  generalize Ba.nmsE _ = er at *
  generalize Ba.badN _ = bd at *
  go_enter Tryz.func61, Tryz.ntmps61
  go_wp2_with fail
  go_loopw [3] (fun x wr => ∃ i : Nat, i ≤ n ∧ x = .int .i64 (i : Int) ∧ Hid (∀ j, j < i → bd j = false) ∧ Gr w wr) (fun x _ => n - (intOf x).toNat)
  case atStart => exact ⟨0, Nat.zero_le _, rfl, Lib.hid (fun j hj => absurd hj (Nat.not_lt_zero j)), Gr.refl _⟩
  case round =>
    obtain ⟨i, hi, rfl, HQ, hg⟩ := hrel
    by_cases hlt : i < n
    · obtain rfl := HA.out (by omega)
      have ib0 : (0 : Int) ≤ (i : Int) := by omega
      have ib1 : (i : Int) < (n : Int) := by omega
      have c0 := Gr.at hg (HX.out i hlt).1
      have HRi := Lib.hid (fun W => HR.out W i hlt)
      have hb := HB.out i
      cases q : bd i
      · rw [q] at hb
        have hn : Dc.isName (X i).data.toList = true := by cases e : Dc.isName (X i).data.toList; rw [e] at hb; cases hb; rfl
        rw [hn] at HRi
        have HQ2 := Lib.hid (fun j (hj : j < i + 1) => show bd j = false from by
          by_cases e : j = i
          · rw [e]; exact q
          · exact HQ.out j (by omega))
        clear HX HA HB HR HE HQ hb hn q
        generalize X i = x at *
        go_wp2_with fail
        refine (HRi.out _).mono ?_
        rintro e w1 ⟨rfl, rfl⟩
        go_wp2_with fail
        go_roundw
        case rel => exact ⟨i + 1, by omega, by go_num, HQ2, hg⟩
        case measure => simp [intOf]; omega
      · rw [q] at hb
        have hn : Dc.isName (X i).data.toList = false := by cases e : Dc.isName (X i).data.toList; rfl; rw [e] at hb; cases hb
        rw [hn] at HRi
        have hE := HE.out
        rw [if_pos (Ba.any_one' hlt q)] at hE
        clear HX HA HB HR HE HQ hb hn q
        generalize X i = x at *
        go_wp2_with fail
        refine (HRi.out _).mono ?_
        rintro e w1 ⟨rfl, rfl⟩
        go_wp2_with fail
        go_ret
        first | exact ⟨ret_int hE.symm, hg⟩ | exact ⟨rfl, hg⟩
    · obtain rfl : n = i := by omega
      have hE := HE.out
      rw [if_neg (by rw [Ba.any_all HQ.out]; decide)] at hE
      clear HX HA HB HR HE HQ
      by_cases h3 : 300 < n
      · have t3 : (300 : Int) < (n : Int) := by omega
        rw [if_pos h3] at hE
        go_wp2_with fail
        go_ret
        first | exact ⟨ret_int hE.symm, hg⟩ | exact ⟨rfl, hg⟩
      · have t3 : (n : Int) ≤ 300 := by omega
        rw [if_neg h3] at hE
        go_wp2_with fail
        go_ret
        first | exact ⟨ret_int hE.symm, hg⟩ | exact ⟨rfl, hg⟩
set_option maxRecDepth 100000 in
set_option maxHeartbeats 8000000 in
theorem rfits_any (m : Ms.Mesh) (cl : Int) (P : Ba.SlI) (N : Ba.SlS) (U : Ba.SlU) (w : World) (hm : m.At w) (hP : P.At w) (hN : N.At w) (hU : U.At w) : Calls Tryz.prog 62 #[m.val, .int .i64 cl, .slice P.A P.n P.c, .slice N.A N.n N.c, .slice U.A U.n U.c] w fun e w' => e = .returned (.int .i64 (Ba.fitE m cl P N U)) ∧ Gr w w' := by
  have l1 := Nat.le_trans hm.f.hc hm.f.hb; have l3 := Nat.le_trans hP.hc hP.hb; have l4 := Nat.le_trans hN.hc hN.hb; have l5 := Nat.le_trans hU.hc hU.hb
  have HNA := Lib.hid hN.hA; have HNX := Lib.hid hN.hX
  have HPA := Lib.hid hP.hA; have HPX := Lib.hid hP.hX
  have HFA := Lib.hid hm.f.hA; have HFD := Lib.hid (fun i (hi : i < m.F.n) => (hm.f.hD i hi).1)
  have HE := Lib.hid (show Ba.fitE m cl P N U = if P.n ≠ m.F.n then 3 else if U.n ≠ N.n then 3 else if Ba.twB N.X N.n = true then 10 else if Ba.any (Ba.badI P N.n) P.n = true then 2 else if Ba.any (fun i => decide (cl ≤ (m.F.D i).k)) m.F.n = true then 11 else 0 from rfl)
  have HT0 := Lib.hid (show Ba.twB N.X 0 = false from rfl)
  have HTS := Lib.hid (fun i => show Ba.twB N.X (i + 1) = (Ba.twB N.X i || Ba.seenB N.X i (N.X i)) from rfl)
  have HTM := Lib.hid (fun i (hi : i ≤ N.n) (q : Ba.twB N.X i = true) => Ba.twB_mono q hi)
  have HS0 := Lib.hid (fun s => show Ba.seenB N.X 0 s = false from rfl)
  have HSS := Lib.hid (fun i s => show Ba.seenB N.X (i + 1) s = (Ba.seenB N.X i s || decide (N.X i = s)) from rfl)
  have HSM := Lib.hid (fun k s i (hk : k ≤ i) (h : Ba.seenB N.X k s = true) => show Ba.seenB N.X i s = true from by
    induction i with
    | zero => obtain rfl : k = 0 := by omega
              exact h
    | succ i ih =>
      by_cases e : k = i + 1
      · rw [← e]; exact h
      · unfold Ba.seenB; rw [ih (by omega)]; rfl)
  have HBI := Lib.hid (fun i => show Ba.badI P N.n i = (decide (P.X i < -1) || decide ((N.n : Int) ≤ P.X i)) from rfl)
  clear hm hP hN hU
  generalize Ba.fitE m cl P N U = er at *
  generalize Ba.badI P N.n = bi at *
  generalize Ba.twB N.X = tw at *
  generalize Ba.seenB N.X = sb at *
  unfold Ms.Mesh.val at *
  generalize m.S.A = sA at *; generalize m.S.n = sn at *; generalize m.S.c = sc at *; generalize m.F.A = fA at *; generalize m.F.n = fn at *; generalize m.F.c = fc at *; generalize m.F.D = FD at *; generalize m.F.b = fb at *; generalize m.F.o = fo at *
  generalize P.A = pA at *; generalize P.n = pn at *; generalize P.c = pc at *; generalize P.X = PX at *; generalize P.b = pb at *; generalize P.o = po at *
  generalize N.A = nA at *; generalize N.n = nn at *; generalize N.c = nc at *; generalize N.X = NX at *; generalize N.b = nb at *; generalize N.o = no at *
  generalize U.A = uA at *; generalize U.n = un at *; generalize U.c = uc at *
  by_cases c1 : pn = fn
  case neg =>
    have hE := HE.out
    rw [if_pos c1] at hE
    have t1 : ((pn : Int) != (fn : Int)) = true := bne_iff_ne.2 (by omega)
    clear HNA HNX HPA HPX HFA HFD HE HT0 HTS HTM HS0 HSS HSM HBI
    go_enter Tryz.func62, Tryz.ntmps62
    go_wp2_with fail
    go_ret
    first | exact ⟨ret_int hE.symm, gr_auto⟩ | exact ⟨rfl, gr_auto⟩
  have t1 : ((pn : Int) != (fn : Int)) = false := by simp only [bne_eq_false_iff_eq]; omega
  by_cases c2 : un = nn
  case neg =>
    have hE := HE.out
    rw [if_neg (by omega), if_pos c2] at hE
    have t2 : ((un : Int) != (nn : Int)) = true := bne_iff_ne.2 (by omega)
    clear HNA HNX HPA HPX HFA HFD HE HT0 HTS HTM HS0 HSS HSM HBI
    go_enter Tryz.func62, Tryz.ntmps62
    go_wp2_with fail
    go_ret
    first | exact ⟨ret_int hE.symm, gr_auto⟩ | exact ⟨rfl, gr_auto⟩
  have t2 : ((un : Int) != (nn : Int)) = false := by simp only [bne_eq_false_iff_eq]; omega
  have hE := HE.out
  rw [if_neg (by omega), if_neg (by omega)] at hE
  replace hE := Lib.hid hE
  clear HE
  replace c1 := Lib.hid c1; replace c2 := Lib.hid c2
  go_enter Tryz.func62, Tryz.ntmps62
  go_wp2_with fail
  (first | refine name_world ?_ | refine (show (∀ W, W = _ → Calls _ _ _ W _) → Calls _ _ _ _ _ from fun h => h _ rfl) ?_); intro W1 hW1
  have g1 : Gr w W1 := by rw [hW1]; exact gr_auto
  have k1_0 : W1.cell? ⟨w.heap.size, 0, none⟩ = some (.slice sA sn sc) := by rw [hW1]; first | (simp [go_sem, *]; done) | (refine Gr.at ?_ (by assumption); exact gr_auto)
  have b1_0 : w.heap.size < W1.heap.size := World.block_lt_of_cell? _ _ k1_0
  have k1_1 : W1.cell? ⟨w.heap.size, 1, none⟩ = some (.slice fA fn fc) := by rw [hW1]; first | (simp [go_sem, *]; done) | (refine Gr.at ?_ (by assumption); exact gr_auto)
  clear hW1
  go_loopw [11] (fun x wr => ∃ i : Nat, i ≤ nn ∧ x = .int .i64 (i : Int) ∧ Hid (tw i = false) ∧ Gr W1 wr) (fun x _ => nn - (intOf x).toNat)
  case atStart => exact ⟨0, Nat.zero_le _, rfl, HT0, Gr.refl _⟩
  case round =>
    obtain ⟨i, hi, rfl, HQ, hg⟩ := hrel
    rename World => W2
    by_cases hlt : i < nn
    · obtain rfl := HNA.out (by omega)
      have ib0 : (0 : Int) ≤ (i : Int) := by omega
      have ib1 : (i : Int) < (nn : Int) := by omega
      have gw := g1.trans hg
      have n1 := Gr.at gw (HNX.out i hlt).1
      go_wp2_with fail
      go_loopw [12] (fun x wr => ∃ k : Nat, k ≤ i ∧ x = .int .i64 (k : Int) ∧ Hid (sb k (NX i) = false) ∧ Gr W2 wr) (fun x _ => i - (intOf x).toNat)
      case atStart => exact ⟨0, Nat.zero_le _, rfl, Lib.hid (HS0.out _), Gr.refl _⟩
      case round =>
        obtain ⟨k, hk, rfl, HK, hgk⟩ := hrel
        rename World => W3
        by_cases hlk : k < i
        · have kb0 : (0 : Int) ≤ (k : Int) := by omega
          have kb1 : (k : Int) < (i : Int) := by omega
          have kb2 : (k : Int) < (nn : Int) := by omega
          have n2 := Gr.at (gw.trans hgk) (HNX.out k (by omega)).1
          have n3 := Gr.at hgk n1
          by_cases q : NX k = NX i
          · have hs := HSS.out k (NX i)
            rw [decide_eq_true q, Bool.or_true] at hs
            have h2 := HTS.out i
            rw [HSM.out (k + 1) (NX i) i hlk hs, Bool.or_true] at h2
            have h3 := HTM.out (i + 1) hlt h2
            have hE1 := hE.out
            rw [if_pos h3] at hE1
            rw [q] at n2
            clear HNX HPA HPX HFA HFD HT0 HTS HTM HS0 HSS HSM HBI HQ HK hE h2 h3 hs q
            generalize NX i = x at *
            go_wp2_with fail
            (first | refine name_world ?_ | refine (show (∀ W, W = _ → Calls _ _ _ W _) → Calls _ _ _ _ _ from fun h => h _ rfl) ?_); intro W8 hW8
            have g8 : Gr w W8 := by rw [hW8]; exact gr_auto
            have gb8_W3 : Gr W3 W8 := by (try clear g8); rw [hW8]; exact gr_auto
            have k8_0 : W8.cell? ⟨nb, no + k, none⟩ = some (.string x) := by rw [hW8]; first | (simp [go_sem, *]; done) | (refine Gr.at ?_ (by assumption); exact gr_auto)
            have b8_0 : nb < W8.heap.size := World.block_lt_of_cell? _ _ k8_0
            have k8_1 : W8.cell? ⟨nb, no + i, none⟩ = some (.string x) := by rw [hW8]; first | (simp [go_sem, *]; done) | (refine Gr.at ?_ (by assumption); exact gr_auto)
            clear hW8
            have s8_0 : ∀ gw : GW W8, gw.1.cell? ⟨nb, no + k, none⟩ = some (.string x) := fun gw => Gr.at gw.2 k8_0
            have s8_1 : ∀ gw : GW W8, gw.1.cell? ⟨nb, no + i, none⟩ = some (.string x) := fun gw => Gr.at gw.2 k8_1
            skip
            refine wp_region_gr (by kernel_rfl) (by kernel_rfl) ?_
            repeat (go_big_quiet_step (fail))
            refine wpQuiet_nil ?_
            intro w9 hb9
            clear s8_0 s8_1
            have g9 : Gr w w9 := g8.trans hb9
            have k8_0 := Gr.at hb9 k8_0
            have k8_1 := Gr.at hb9 k8_1
            go_wp2_with fail
            go_ret
            first | exact ⟨ret_int hE1.symm, gw.trans (hgk.trans (gb8_W3.trans hb9))⟩ | exact ⟨rfl, gw.trans (hgk.trans (gb8_W3.trans hb9))⟩
          · have hs := HSS.out k (NX i)
            rw [decide_eq_false q, Bool.or_false, HK.out] at hs
            have hs' := Lib.hid hs
            have bq : ((NX k).toList == (NX i).toList) = false := by rw [beq_eq_false_iff_ne]; exact fun e => q (tl_inj e)
            clear HNX HPA HPX HFA HFD HT0 HTS HTM HS0 HSS HSM HBI HQ HK hE hs q
            generalize NX i = x at *
            generalize NX k = y at *
            go_wp2_with fail
            (first | refine name_world ?_ | refine (show (∀ W, W = _ → Calls _ _ _ W _) → Calls _ _ _ _ _ from fun h => h _ rfl) ?_); intro W8 hW8
            have g8 : Gr w W8 := by rw [hW8]; exact gr_auto
            have gb8_W3 : Gr W3 W8 := by (try clear g8); rw [hW8]; exact gr_auto
            have k8_0 : W8.cell? ⟨nb, no + k, none⟩ = some (.string y) := by rw [hW8]; first | (simp [go_sem, *]; done) | (refine Gr.at ?_ (by assumption); exact gr_auto)
            have b8_0 : nb < W8.heap.size := World.block_lt_of_cell? _ _ k8_0
            have k8_1 : W8.cell? ⟨nb, no + i, none⟩ = some (.string x) := by rw [hW8]; first | (simp [go_sem, *]; done) | (refine Gr.at ?_ (by assumption); exact gr_auto)
            clear hW8
            have s8_0 : ∀ gw : GW W8, gw.1.cell? ⟨nb, no + k, none⟩ = some (.string y) := fun gw => Gr.at gw.2 k8_0
            have s8_1 : ∀ gw : GW W8, gw.1.cell? ⟨nb, no + i, none⟩ = some (.string x) := fun gw => Gr.at gw.2 k8_1
            skip
            refine wp_region_gr (by kernel_rfl) (by kernel_rfl) ?_
            repeat (go_big_quiet_step (fail))
            refine wpQuiet_nil ?_
            intro w9 hb9
            clear s8_0 s8_1
            have g9 : Gr w w9 := g8.trans hb9
            have k8_0 := Gr.at hb9 k8_0
            have k8_1 := Gr.at hb9 k8_1
            go_wp2_with fail
            go_roundw
            case rel => exact ⟨k + 1, by omega, by go_num, hs', hgk.trans (gb8_W3.trans hb9)⟩
            case measure => simp [intOf]; omega
        · obtain rfl : i = k := by omega
          have h2 := HTS.out i
          rw [HQ.out, HK.out, Bool.or_false] at h2
          have h2' := Lib.hid h2
          clear HNX HPA HPX HFA HFD HT0 HTS HTM HS0 HSS HSM HBI HQ HK hE h2 n1
          go_wp2_with fail
          go_roundw
          case rel => exact ⟨i + 1, by omega, by go_num, h2', hg.trans hgk⟩
          case measure => simp [intOf]; omega
    · obtain rfl : nn = i := by omega
      have hE1 := hE.out
      rw [if_neg (by rw [HQ.out]; decide)] at hE1
      replace hE1 := Lib.hid hE1
      have e0 := Gr.at hg k1_0; have e1 := Gr.at hg k1_1
      have gw := g1.trans hg
      have bw : w.heap.size < W2.heap.size := World.block_lt_of_cell? _ _ e0
      clear HNA HNX HT0 HTS HTM HS0 HSS HSM HQ hE k1_0 k1_1
      go_wp2_with fail
      go_loopw [13] (fun x wr => ∃ i : Nat, i ≤ pn ∧ x = .int .i64 (i : Int) ∧ Hid (∀ j, j < i → bi j = false) ∧ Gr W2 wr) (fun x _ => pn - (intOf x).toNat)
      case atStart => exact ⟨0, Nat.zero_le _, rfl, Lib.hid (fun j hj => absurd hj (Nat.not_lt_zero j)), Gr.refl _⟩
      case round =>
        obtain ⟨i, hi2, rfl, HQ, hg2⟩ := hrel
        rename World => W3
        by_cases hlt2 : i < pn
        · obtain rfl := HPA.out (by omega)
          have ib0 : (0 : Int) ≤ (i : Int) := by omega
          have ib1 : (i : Int) < (pn : Int) := by omega
          have p0 := Gr.at (gw.trans hg2) (HPX.out i hlt2).1
          have hb := HBI.out i
          cases q : bi i
          · rw [q] at hb
            have hb' := hb.symm
            simp only [Bool.or_eq_false_iff, decide_eq_false_iff_not] at hb'
            obtain ⟨b1, b2⟩ := hb'
            have HQ2 := Lib.hid (fun j (hj : j < i + 1) => show bi j = false from by
              by_cases e : j = i
              · rw [e]; exact q
              · exact HQ.out j (by omega))
            clear HPX HPA HFA HFD HBI HQ hb q hE1
            generalize PX i = x at *
            go_wp2_with fail
            go_roundw
            case rel => exact ⟨i + 1, by omega, by go_num, HQ2, hg2⟩
            case measure => simp [intOf]; omega
          · rw [q] at hb
            have hb' := hb.symm
            simp only [Bool.or_eq_true, decide_eq_true_eq] at hb'
            have hE2 := hE1.out
            rw [if_pos (Ba.any_one' hlt2 q)] at hE2
            clear HPX HPA HFA HFD HBI HQ hb q hE1
            generalize PX i = x at *
            by_cases b1 : x < -1
            · clear hb'
              go_wp2_with fail
              go_ret
              first | exact ⟨ret_int hE2.symm, gw.trans hg2⟩ | exact ⟨rfl, gw.trans hg2⟩
            · have b2 : (nn : Int) ≤ x := by omega
              clear hb'
              go_wp2_with fail
              go_ret
              first | exact ⟨ret_int hE2.symm, gw.trans hg2⟩ | exact ⟨rfl, gw.trans hg2⟩
        · obtain rfl : pn = i := by omega
          have hE2 := hE1.out
          rw [if_neg (by rw [Ba.any_all HQ.out]; decide)] at hE2
          replace hE2 := Lib.hid hE2
          replace e0 := Gr.at hg2 e0; replace e1 := Gr.at hg2 e1
          have gw2 := gw.trans hg2
          have bw2 : w.heap.size < W3.heap.size := World.block_lt_of_cell? _ _ e0
          clear HPX HPA HBI HQ hE1
          go_wp2_with fail
          go_loopw [14] (fun x wr => ∃ i : Nat, i ≤ fn ∧ x = .int .i64 (i : Int) ∧ Hid (∀ j, j < i → (fun i => decide (cl ≤ (FD i).k)) j = false) ∧ Gr W3 wr) (fun x _ => fn - (intOf x).toNat)
          case atStart => exact ⟨0, Nat.zero_le _, rfl, Lib.hid (fun j hj => absurd hj (Nat.not_lt_zero j)), Gr.refl _⟩
          case round =>
            obtain ⟨i, hi3, rfl, HQ, hg3⟩ := hrel
            rename World => W4
            have f0 := Gr.at hg3 e0; have f1 := Gr.at hg3 e1
            by_cases hlt3 : i < fn
            · obtain rfl := HFA.out (by omega)
              have ib0 : (0 : Int) ≤ (i : Int) := by omega
              have ib1 : (i : Int) < (fn : Int) := by omega
              obtain ⟨a0, a1, a2, a3⟩ := HFD.out i hlt3
              replace a3 := Gr.at (gw2.trans hg3) a3
              have bl := World.block_lt_of_cell? _ _ a3
              simp only at bl
              clear a0 a1 a2
              by_cases q : cl ≤ (FD i).k
              · have hE3 := hE2.out
                rw [if_pos (Ba.any_one' hlt3 (decide_eq_true q))] at hE3
                clear HFD HFA HQ hE2 e0 e1
                generalize (FD i).k = x at *
                go_wp2_with fail
                go_ret
                first | exact ⟨ret_int hE3.symm, gw2.trans hg3⟩ | exact ⟨rfl, gw2.trans hg3⟩
              · have HQ2 := Lib.hid (fun j (hj : j < i + 1) => show (fun i => decide (cl ≤ (FD i).k)) j = false from by
                  by_cases e : j = i
                  · rw [e]; exact decide_eq_false q
                  · exact HQ.out j (by omega))
                clear HFD HFA HQ hE2 e0 e1
                generalize (FD i).k = x at *
                go_wp2_with fail
                go_roundw
                case rel => exact ⟨i + 1, by omega, by go_num, HQ2, hg3⟩
                case measure => simp [intOf]; omega
            · obtain rfl : fn = i := by omega
              have hE3 := hE2.out
              rw [if_neg (by rw [Ba.any_all HQ.out]; decide)] at hE3
              clear HFD HFA HQ hE2 e0 e1
              go_wp2_with fail
              go_ret
              first | exact ⟨ret_int hE3.symm, gw2.trans hg3⟩ | exact ⟨rfl, gw2.trans hg3⟩
end Go.Proofs.YtajhhplgcegodaaGreatDoor
