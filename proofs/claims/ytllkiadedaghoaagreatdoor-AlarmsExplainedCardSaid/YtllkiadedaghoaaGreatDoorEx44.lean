/-
  Alarms: the reference's Has and Valid. Typed.
-/
import Derived.Test.YtllkiadedaghoaaGreatDoorEx19
import Derived.Test.YtllkiadedaghoaaGreatDoorEx07

set_option linter.unusedVariables false
set_option linter.unusedSimpArgs false
namespace Go.Proofs.YtllkiadedaghoaaGreatDoor
open Go.RowKit
attribute [local go_sem ↓] Go.wp_at_zero Go.wp_at_succ
theorem hasK_stop {D : Nat → Al.M} {a : ByteArray} {b : Int} {k n : Nat} (h : Al.hasK D a b (k + 1) = true) (hk : k < n) : Al.hasK D a b n = true := by
  rw [Al.hasK_iff] at h ⊢
  obtain ⟨j, hj, q⟩ := h
  exact ⟨j, by omega, q⟩
set_option maxRecDepth 100000 in
set_option maxHeartbeats 4000000 in
theorem rhas_any (A : Option Addr) (n c b o : Nat) (D : Nat → Al.M) (nd : ByteArray) (nu : Int) (w : World) (hA : 0 < n → A = some ⟨b, o, none⟩) (hn : n ≤ 9223372036854775807) (hD : ∀ i, i < n → (D i).Cells w b (o + i * 5)) : Calls Tryz.prog 38 #[.slice A n c, .string nd, .int .i64 nu] w fun e w' => e = .returned (.bool (Al.hasK D nd nu n)) ∧ w = w' := by
  have HA := Lib.hid hA; have HX := Lib.hid hD
  have HS := Lib.hid (fun k (hk : k < n) (h : Al.hasK D nd nu (k + 1) = true) => hasK_stop h hk)
  clear hA hD
  obtain ⟨r, hr⟩ : ∃ r, Al.hasK D nd nu n = r := ⟨_, rfl⟩
  rw [hr] at HS ⊢
  have HR := Lib.hid hr
  clear hr
  go_enter Tryz.func38, Tryz.ntmps38
  go_wp2_with fail
  go_loopw [7] (fun x wr => ∃ i : Nat, i ≤ n ∧ x = .int .i64 (i : Int) ∧ Hid (Al.hasK D nd nu i = false) ∧ wr = w) (fun x _ => n - (intOf x).toNat)
  case atStart => exact ⟨0, Nat.zero_le _, rfl, Lib.hid rfl, rfl⟩
  case round =>
    obtain ⟨i, hi, rfl, HQ, rfl⟩ := hrel
    by_cases hlt : i < n
    · obtain rfl := HA.out (by omega)
      obtain ⟨a0, a1, a2, a3, a4⟩ := HX.out i hlt
      have ib0 : (0 : Int) ≤ (i : Int) := by omega
      have ib1 : (i : Int) < (n : Int) := by omega
      have HN := Lib.hid (show Al.hasK D nd nu (i + 1) = (Ba.eqS (D i).nd nd && decide ((D i).nu = nu)) from by rw [Al.hasK, HQ.out, Bool.false_or])
      have HSi := Lib.hid (HS.out i hlt)
      clear HX HS HA
      generalize D i = d at *
      cases t0 : Ba.eqS d.nd nd
      · rw [t0, Bool.false_and] at HN
        unfold Ba.eqS at t0
        clear HSi
        go_wp2_with fail
        go_roundw
        case rel => exact ⟨i + 1, by omega, by go_num, HN, by first | rfl | trivial⟩
        case measure => simp [intOf]; omega
      · rw [t0, Bool.true_and] at HN
        unfold Ba.eqS at t0
        by_cases t1 : d.nu = nu
        · rw [decide_eq_true t1] at HN
          have HE := Lib.hid (HSi.out HN.out)
          have t2 : (d.nu == nu) = true := beq_iff_eq.2 t1
          clear HSi HN HQ t1
          go_wp2_with fail
          go_ret
          exact ⟨ret_bool HE.out.symm, rfl⟩
        · rw [decide_eq_false t1] at HN
          have t2 : (d.nu == nu) = false := beq_eq_false_iff_ne.2 t1
          clear HSi t1
          go_wp2_with fail
          go_roundw
          case rel => exact ⟨i + 1, by omega, by go_num, HN, by first | rfl | trivial⟩
          case measure => simp [intOf]; omega
    · obtain rfl : n = i := by omega
      have HE := Lib.hid (show false = r from by rw [← HR.out, HQ.out])
      clear HX HS HA HQ HR
      go_wp2_with fail
      go_ret
      exact ⟨ret_bool HE.out, rfl⟩
set_option maxRecDepth 100000 in
set_option maxHeartbeats 4000000 in
theorem rvalid52_any (s : Al.SlM) (w : World) (h : s.At w) : Calls Tryz.prog 9 #[.slice s.A s.n s.c] w fun e w' => e = .returned (.bool s.vB) ∧ Gr w w' := by
  unfold Al.SlM.vB
  have hn9 : s.n ≤ 9223372036854775807 := Nat.le_trans h.hc h.hb
  have hnc := h.hc; have hcb := h.hb
  have HA := Lib.hid h.hA; have HX := Lib.hid h.hD
  have HR := Lib.hid (fun m W (hm : Al.M.Ok m) => rright_any m W hm)
  have HH := Lib.hid (fun i (hi : i < s.n) W (hW : Gr w W) nd nu => rhas_any s.A i s.c s.b s.o s.D nd nu W (fun h0 => h.hA (by omega)) (by omega) (fun j hj => ((h.hD j (by omega)).1).gr hW))
  clear h
  cases s with | mk A n c b o D =>
  simp only [] at *
  by_cases hb : 10000 < n
  · have e : decide (n ≤ 10000) = false := decide_eq_false (by omega)
    have hb' : (10000 : Int) < (n : Int) := by omega
    rw [e, Bool.false_and]
    clear HA HX HR HH e
    go_enter Tryz.func9, Tryz.ntmps9
    go_wp2_with fail
    go_ret
    exact ⟨rfl, gr_auto⟩
  · have e : decide (n ≤ 10000) = true := decide_eq_true (by omega)
    have hb' : (n : Int) ≤ 10000 := by omega
    rw [e, Bool.true_and]
    have HE := Lib.hid (fun i (hi : i < n) (h : Al.msB D (i + 1) = false) => Al.msB_no h hi)
    obtain ⟨r, hr⟩ : ∃ r, r = Al.msB D n := ⟨_, rfl⟩
    rw [← hr] at HE ⊢
    have HRr := Lib.hid hr
    clear e hr
    go_enter Tryz.func9, Tryz.ntmps9
    go_wp2_with fail
    go_loopw [3] (fun x wr => ∃ i : Nat, i ≤ n ∧ x = .int .i64 (i : Int) ∧ Hid (Al.msB D i = true) ∧ Gr w wr) (fun x _ => n - (intOf x).toNat)
    case atStart => exact ⟨0, Nat.zero_le _, rfl, Lib.hid rfl, gr_auto⟩
    case round =>
      obtain ⟨i, hi, rfl, HQ, hg⟩ := hrel
      by_cases hlt : i < n
      · obtain rfl := HA.out (by omega)
        obtain ⟨hc, hok⟩ := HX.out i hlt
        obtain ⟨a0, a1, a2, a3, a4⟩ := hc.gr hg
        have ib0 : (0 : Int) ≤ (i : Int) := by omega
        have ib1 : (i : Int) < (n : Int) := by omega
        have ib2 : i ≤ c := by omega
        have ib3 : (i : Int) ≤ (c : Int) := by omega
        have HRi := Lib.hid (fun W => HR.out (D i) W hok)
        have HHi := Lib.hid (fun W hW => HH.out i hlt W hW (D i).nd (D i).nu)
        have HF := Lib.hid (fun (hx : (Al.mOk (D i) && !Al.hasK D (D i).nd (D i).nu i) = false) => HE.out i hlt (by rw [Al.msB, HQ.out, hx]; rfl))
        have HT := Lib.hid (fun (hx : (Al.mOk (D i) && !Al.hasK D (D i).nd (D i).nu i) = true) => show Al.msB D (i + 1) = true from by rw [Al.msB, HQ.out, hx]; rfl)
        clear hc hok HX HR HH HE HA
        unfold Al.M.enc at HRi
        generalize Al.hasK D (D i).nd (D i).nu i = dup at *
        generalize Al.mOk (D i) = ok at *
        generalize D i = d at *
        go_wp2_with fail
        cases ok
        · have HR2 := Lib.hid (HF.out (by simp))
          clear HF HT HHi
          (first | refine name_world ?_ | refine (show (∀ W, W = _ → Calls _ _ _ W _) → Calls _ _ _ _ _ from fun h => h _ rfl) ?_); intro W3 hW3
          have g3 : Gr w W3 := by rw [hW3]; exact gr_auto
          have k3_0 : W3.cell? ⟨b, o + i * 5, none⟩ = some (.string d.nd) := by rw [hW3]; first | (simp [go_sem, *]; done) | (refine Gr.at ?_ (by assumption); exact gr_auto)
          have b3_0 : b < W3.heap.size := World.block_lt_of_cell? _ _ k3_0
          have k3_1 : W3.cell? ⟨b, o + i * 5 + 1, none⟩ = some (.int .i64 d.nu) := by rw [hW3]; first | (simp [go_sem, *]; done) | (refine Gr.at ?_ (by assumption); exact gr_auto)
          have k3_2 : W3.cell? ⟨b, o + i * 5 + 2, none⟩ = some (.int .i64 d.tm) := by rw [hW3]; first | (simp [go_sem, *]; done) | (refine Gr.at ?_ (by assumption); exact gr_auto)
          have k3_3 : W3.cell? ⟨b, o + i * 5 + 3, none⟩ = some (.int .i64 d.ar) := by rw [hW3]; first | (simp [go_sem, *]; done) | (refine Gr.at ?_ (by assumption); exact gr_auto)
          have k3_4 : W3.cell? ⟨b, o + i * 5 + 4, none⟩ = some (.int .i64 d.lv) := by rw [hW3]; first | (simp [go_sem, *]; done) | (refine Gr.at ?_ (by assumption); exact gr_auto)
          clear hW3
          have s3_0 : ∀ gw : GW W3, gw.1.cell? ⟨b, o + i * 5, none⟩ = some (.string d.nd) := fun gw => Gr.at gw.2 k3_0
          have s3_1 : ∀ gw : GW W3, gw.1.cell? ⟨b, o + i * 5 + 1, none⟩ = some (.int .i64 d.nu) := fun gw => Gr.at gw.2 k3_1
          have s3_2 : ∀ gw : GW W3, gw.1.cell? ⟨b, o + i * 5 + 2, none⟩ = some (.int .i64 d.tm) := fun gw => Gr.at gw.2 k3_2
          have s3_3 : ∀ gw : GW W3, gw.1.cell? ⟨b, o + i * 5 + 3, none⟩ = some (.int .i64 d.ar) := fun gw => Gr.at gw.2 k3_3
          have s3_4 : ∀ gw : GW W3, gw.1.cell? ⟨b, o + i * 5 + 4, none⟩ = some (.int .i64 d.lv) := fun gw => Gr.at gw.2 k3_4
          have HC1 := Lib.hid (fun gw : GW W3 => gw_call (HRi.out gw.1))
          refine wp_region_gr (by kernel_rfl) (by kernel_rfl) ?_
          repeat (go_big_quiet_step ((go_at_call 37; exact HC1.out _)))
          refine wpQuiet_nil ?_
          intro w4 hb4
          clear s3_0 s3_1 s3_2 s3_3 s3_4
          have g4 : Gr w w4 := g3.trans hb4
          have k3_0 := Gr.at hb4 k3_0
          have k3_1 := Gr.at hb4 k3_1
          have k3_2 := Gr.at hb4 k3_2
          have k3_3 := Gr.at hb4 k3_3
          have k3_4 := Gr.at hb4 k3_4
          clear HC1 HRi
          go_wp2_with fail
          go_ret
          exact ⟨ret_bool HR2.out.symm, g4⟩
        · cases dup
          · have HQ2 := Lib.hid (HT.out (by simp))
            clear HF HT
            (first | refine name_world ?_ | refine (show (∀ W, W = _ → Calls _ _ _ W _) → Calls _ _ _ _ _ from fun h => h _ rfl) ?_); intro W3 hW3
            have g3 : Gr w W3 := by rw [hW3]; exact gr_auto
            have k3_0 : W3.cell? ⟨b, o + i * 5, none⟩ = some (.string d.nd) := by rw [hW3]; first | (simp [go_sem, *]; done) | (refine Gr.at ?_ (by assumption); exact gr_auto)
            have b3_0 : b < W3.heap.size := World.block_lt_of_cell? _ _ k3_0
            have k3_1 : W3.cell? ⟨b, o + i * 5 + 1, none⟩ = some (.int .i64 d.nu) := by rw [hW3]; first | (simp [go_sem, *]; done) | (refine Gr.at ?_ (by assumption); exact gr_auto)
            have k3_2 : W3.cell? ⟨b, o + i * 5 + 2, none⟩ = some (.int .i64 d.tm) := by rw [hW3]; first | (simp [go_sem, *]; done) | (refine Gr.at ?_ (by assumption); exact gr_auto)
            have k3_3 : W3.cell? ⟨b, o + i * 5 + 3, none⟩ = some (.int .i64 d.ar) := by rw [hW3]; first | (simp [go_sem, *]; done) | (refine Gr.at ?_ (by assumption); exact gr_auto)
            have k3_4 : W3.cell? ⟨b, o + i * 5 + 4, none⟩ = some (.int .i64 d.lv) := by rw [hW3]; first | (simp [go_sem, *]; done) | (refine Gr.at ?_ (by assumption); exact gr_auto)
            clear hW3
            have s3_0 : ∀ gw : GW W3, gw.1.cell? ⟨b, o + i * 5, none⟩ = some (.string d.nd) := fun gw => Gr.at gw.2 k3_0
            have s3_1 : ∀ gw : GW W3, gw.1.cell? ⟨b, o + i * 5 + 1, none⟩ = some (.int .i64 d.nu) := fun gw => Gr.at gw.2 k3_1
            have s3_2 : ∀ gw : GW W3, gw.1.cell? ⟨b, o + i * 5 + 2, none⟩ = some (.int .i64 d.tm) := fun gw => Gr.at gw.2 k3_2
            have s3_3 : ∀ gw : GW W3, gw.1.cell? ⟨b, o + i * 5 + 3, none⟩ = some (.int .i64 d.ar) := fun gw => Gr.at gw.2 k3_3
            have s3_4 : ∀ gw : GW W3, gw.1.cell? ⟨b, o + i * 5 + 4, none⟩ = some (.int .i64 d.lv) := fun gw => Gr.at gw.2 k3_4
            have HC1 := Lib.hid (fun gw : GW W3 => gw_call (HRi.out gw.1))
            have HC2 := Lib.hid (fun gw : GW W3 => gw_same (HHi.out gw.1 (g3.trans gw.2)))
            refine wp_region_gr (by kernel_rfl) (by kernel_rfl) ?_
            repeat (go_big_quiet_step (first | (go_at_call 37; exact HC1.out _) | (go_at_call 38; exact HC2.out _)))
            refine wpQuiet_nil ?_
            intro w4 hb4
            clear s3_0 s3_1 s3_2 s3_3 s3_4
            have g4 : Gr w w4 := g3.trans hb4
            have k3_0 := Gr.at hb4 k3_0
            have k3_1 := Gr.at hb4 k3_1
            have k3_2 := Gr.at hb4 k3_2
            have k3_3 := Gr.at hb4 k3_3
            have k3_4 := Gr.at hb4 k3_4
            clear HC1 HRi HC2 HHi HQ
            go_wp2_with fail
            go_roundw
            case rel => exact ⟨i + 1, by omega, by go_num, HQ2, g4⟩
            case measure => simp [intOf]; omega
          · have HR2 := Lib.hid (HF.out (by simp))
            clear HF HT
            (first | refine name_world ?_ | refine (show (∀ W, W = _ → Calls _ _ _ W _) → Calls _ _ _ _ _ from fun h => h _ rfl) ?_); intro W3 hW3
            have g3 : Gr w W3 := by rw [hW3]; exact gr_auto
            have k3_0 : W3.cell? ⟨b, o + i * 5, none⟩ = some (.string d.nd) := by rw [hW3]; first | (simp [go_sem, *]; done) | (refine Gr.at ?_ (by assumption); exact gr_auto)
            have b3_0 : b < W3.heap.size := World.block_lt_of_cell? _ _ k3_0
            have k3_1 : W3.cell? ⟨b, o + i * 5 + 1, none⟩ = some (.int .i64 d.nu) := by rw [hW3]; first | (simp [go_sem, *]; done) | (refine Gr.at ?_ (by assumption); exact gr_auto)
            have k3_2 : W3.cell? ⟨b, o + i * 5 + 2, none⟩ = some (.int .i64 d.tm) := by rw [hW3]; first | (simp [go_sem, *]; done) | (refine Gr.at ?_ (by assumption); exact gr_auto)
            have k3_3 : W3.cell? ⟨b, o + i * 5 + 3, none⟩ = some (.int .i64 d.ar) := by rw [hW3]; first | (simp [go_sem, *]; done) | (refine Gr.at ?_ (by assumption); exact gr_auto)
            have k3_4 : W3.cell? ⟨b, o + i * 5 + 4, none⟩ = some (.int .i64 d.lv) := by rw [hW3]; first | (simp [go_sem, *]; done) | (refine Gr.at ?_ (by assumption); exact gr_auto)
            clear hW3
            have s3_0 : ∀ gw : GW W3, gw.1.cell? ⟨b, o + i * 5, none⟩ = some (.string d.nd) := fun gw => Gr.at gw.2 k3_0
            have s3_1 : ∀ gw : GW W3, gw.1.cell? ⟨b, o + i * 5 + 1, none⟩ = some (.int .i64 d.nu) := fun gw => Gr.at gw.2 k3_1
            have s3_2 : ∀ gw : GW W3, gw.1.cell? ⟨b, o + i * 5 + 2, none⟩ = some (.int .i64 d.tm) := fun gw => Gr.at gw.2 k3_2
            have s3_3 : ∀ gw : GW W3, gw.1.cell? ⟨b, o + i * 5 + 3, none⟩ = some (.int .i64 d.ar) := fun gw => Gr.at gw.2 k3_3
            have s3_4 : ∀ gw : GW W3, gw.1.cell? ⟨b, o + i * 5 + 4, none⟩ = some (.int .i64 d.lv) := fun gw => Gr.at gw.2 k3_4
            have HC1 := Lib.hid (fun gw : GW W3 => gw_call (HRi.out gw.1))
            have HC2 := Lib.hid (fun gw : GW W3 => gw_same (HHi.out gw.1 (g3.trans gw.2)))
            refine wp_region_gr (by kernel_rfl) (by kernel_rfl) ?_
            repeat (go_big_quiet_step (first | (go_at_call 37; exact HC1.out _) | (go_at_call 38; exact HC2.out _)))
            refine wpQuiet_nil ?_
            intro w4 hb4
            clear s3_0 s3_1 s3_2 s3_3 s3_4
            have g4 : Gr w w4 := g3.trans hb4
            have k3_0 := Gr.at hb4 k3_0
            have k3_1 := Gr.at hb4 k3_1
            have k3_2 := Gr.at hb4 k3_2
            have k3_3 := Gr.at hb4 k3_3
            have k3_4 := Gr.at hb4 k3_4
            clear HC1 HRi HC2 HHi
            go_wp2_with fail
            go_ret
            exact ⟨ret_bool HR2.out.symm, g4⟩
      · obtain rfl : n = i := by omega
        have HR2 := Lib.hid (show true = r from by rw [HRr.out, HQ.out])
        clear HX HR HE HQ HA HRr HH
        go_wp2_with fail
        go_ret
        exact ⟨ret_bool HR2.out, hg⟩
end Go.Proofs.YtllkiadedaghoaaGreatDoor
