/-
  Runoff: runoff.series, inflows, Total. (Printed by mkya.py.)
  Runoff: the reference's Right and Total. (Printed by mkyb.py.)
  Runoff: runoff.Sum. (Printed by mkyc.py.)
  Runoff: runoff.Sum, joined. (Printed by mkyd.py.)
  Runoff: the reference's Sum. (Printed by mkye.py.)
  Runoff: the reference's Sum, joined.
-/
import Derived.Test.YtjighhphadfoiaaRoV
import Derived.Test.YtjighhphadfoiaaRoRef
import Derived.Test.YtjighhphadfoiaaRoQ
import Derived.Deep.AppendLies
import Derived.Test.YtjighhphadfoiaaTail
set_option linter.unusedVariables false
set_option linter.unusedSimpArgs false
namespace Go.Proofs.Ytjighhphadfoiaa
open Go.RowKit
attribute [local go_sem ↓] Go.wp_at_zero Go.wp_at_succ
namespace Ba
/-- Is an inflow right; the error of some inflows; their total. -/
def infB (d : Inflow) : Bool := Dc.isName d.nm.data.toList && volB d.vs
def infE (G : SlInflow) : Int := if (1000 : Int) < (G.n : Int) then 4 else if any (fun i => !infB (G.D i)) G.n = true then 1 else 0
def totI (G : SlInflow) : Nat → Int
  | 0 => 0
  | i + 1 => totI G i + sumI (G.D i).vs.X (G.D i).vs.n
def totE (G : SlInflow) : Int := if infE G = 0 then if totI G G.n ≤ 1152921504606846976 then 0 else 5 else infE G
def totV (G : SlInflow) : Int := if totE G = 0 then totI G G.n else 0
theorem inf_right {G : SlInflow} (h : infE G = 0) : G.n ≤ 1000 ∧ ∀ i, i < G.n → infB (G.D i) = true := by
  unfold infE at h
  split at h
  · omega
  rename_i h1
  split at h
  · omega
  rename_i h2
  refine ⟨by omega, fun i hi => ?_⟩
  cases hb : infB (G.D i)
  · exact absurd ((any_iff (fun i => !infB (G.D i)) G.n).2 ⟨i, hi, by rw [hb]; rfl⟩) h2
  · rfl
theorem inf_vol {d : Inflow} (h : infB d = true) : d.vs.n ≤ 10000 ∧ ∀ k, k < d.vs.n → 0 ≤ d.vs.X k ∧ d.vs.X k ≤ 1125899906842624 := by
  unfold infB volB wiB at h
  simp only [Bool.and_eq_true, decide_eq_true_eq] at h
  exact ⟨by omega, fun k hk => (bet_iff _ _ _).1 (allB_at h.2.2 hk)⟩
theorem vol_up {d : Inflow} (h : infB d = true) : ∀ j, ∀ k, k + j ≤ d.vs.n → sumI d.vs.X k ≤ sumI d.vs.X (k + j)
  | 0, _, _ => Int.le_refl _
  | j + 1, k, hk => by
    have a := vol_up h j k (by omega)
    have b := ((inf_vol h).2 (k + j) (by omega)).1
    rw [← Nat.add_assoc, sumI]; omega
theorem vol_nn {d : Inflow} (h : infB d = true) {k : Nat} (hk : k ≤ d.vs.n) : 0 ≤ sumI d.vs.X k := by
  have a := vol_up h k 0 (by omega)
  rw [show sumI d.vs.X 0 = 0 from rfl, Nat.zero_add] at a
  exact a
theorem tot_up {G : SlInflow} (h : infE G = 0) : ∀ j, ∀ i, i + j ≤ G.n → totI G i ≤ totI G (i + j)
  | 0, _, _ => Int.le_refl _
  | j + 1, i, hi => by
    have a := tot_up h j i (by omega)
    have b := vol_nn ((inf_right h).2 (i + j) (by omega)) (k := (G.D (i + j)).vs.n) (Nat.le_refl _)
    rw [← Nat.add_assoc, totI]; omega
theorem tot_nn {G : SlInflow} (h : infE G = 0) {i : Nat} (hi : i ≤ G.n) : 0 ≤ totI G i := by
  have a := tot_up h i 0 (by omega)
  rw [show totI G 0 = 0 from rfl, Nat.zero_add] at a
  exact a
end Ba

set_option maxRecDepth 100000 in
set_option maxHeartbeats 4000000 in
theorem serf_any (x : Int) (w : World) : Calls Try.prog 81 #[.int .i64 x] w fun e w' => e = .returned (.bool (!Ba.bet x 0 1125899906842624)) ∧ w = w' := by
  have HI := Lib.hid (fun W => rwithin_any_ x 1125899906842624 W)
  generalize Ba.bet x 0 1125899906842624 = q at *
  go_enter Try.func81, Try.ntmps81
  go_wp2_with fail
  refine (HI.out _).mono ?_
  rintro e w1 ⟨rfl, rfl⟩
  go_wp2_with fail
  go_ret
  exact ⟨rfl, rfl⟩

set_option maxRecDepth 100000 in
set_option maxHeartbeats 4000000 in
theorem pseries_any (s : Ba.SlI) (w : World) (h : s.At w) : Calls Try.prog 49 #[.slice s.A s.n s.c] w fun e w' => e = .returned (.bool (Ba.volB s)) ∧ Gr w w' := by
  have HC := Lib.hid (fun W (hh : Gr w W) => has_int 81 #[] s (fun i => !Ba.bet (s.X i) 0 1125899906842624) W (h.gr hh) (enter_of Try.func81 (by kernel_rfl) (by kernel_rfl)) fun i _ W' _ => gr_of (serf_any (s.X i) W'))
  have e : Ba.any (fun i => !Ba.bet (s.X i) 0 1125899906842624) s.n = !Ba.wiB s 1125899906842624 := by unfold Ba.wiB; rw [← Ba.any_not, Bool.not_not]
  rw [e] at HC
  have hm := Nat.le_trans h.hc h.hb
  clear h e
  unfold Ba.volB
  generalize Ba.wiB s 1125899906842624 = q at *
  obtain ⟨A, n, c, b, o, X⟩ := s
  simp only at *
  cases t0 : decide ((n : Int) ≤ 10000)
  · clear HC
    go_enter Try.func49, Try.ntmps49
    go_wp2_with fail
    go_ret
    exact ⟨rfl, gr_auto⟩
  · go_enter Try.func49, Try.ntmps49
    go_wp2_with fail
    refine (HC.out _ gr_auto).mono ?_
    rintro e w1 ⟨rfl, hb1⟩
    go_wp2_with fail
    go_ret
    exact ⟨by simp, gr_auto⟩

set_option maxRecDepth 100000 in
set_option maxHeartbeats 4000000 in
theorem inff_any (d : Ba.Inflow) (w : World) (h : d.Ok w) : Calls Try.prog 80 #[d.val] w fun e w' => e = .returned (.bool (!Ba.infB d)) ∧ Gr w w' := by
  have HN := Lib.hid (fun W => isname_all d.nm W h.1)
  have HS := Lib.hid (fun W (hh : Gr w W) => pseries_any d.vs W (h.2.gr hh))
  clear h
  unfold Ba.infB Ba.Inflow.val
  obtain ⟨nm, vs⟩ := d
  simp only at *
  cases hn : Dc.isName nm.data.toList
  · rw [hn] at HN
    go_enter Try.func80, Try.ntmps80
    go_wp2_with fail
    refine (HN.out _).mono ?_
    rintro e w1 ⟨rfl, rfl⟩
    go_wp2_with fail
    go_ret
    exact ⟨rfl, gr_auto⟩
  · rw [hn] at HN
    rw [Bool.true_and]
    generalize Ba.volB vs = q at *
    go_enter Try.func80, Try.ntmps80
    go_wp2_with fail
    refine (HN.out _).mono ?_
    rintro e w1 ⟨rfl, rfl⟩
    go_wp2_with fail
    refine (HS.out _ (by exact gr_auto)).mono ?_
    rintro e w2 ⟨rfl, hb2⟩
    go_wp2_with fail
    go_ret
    exact ⟨rfl, gr_auto⟩

set_option maxRecDepth 100000 in
set_option maxHeartbeats 4000000 in
theorem inf_any (G : Ba.SlInflow) (w : World) (h : G.At w) : Calls Try.prog 48 #[.slice G.A G.n G.c] w fun e w' => e = .returned (.int .i64 (Ba.infE G)) ∧ Gr w w' := by
  have HC := Lib.hid (fun W (hh : Gr w W) => has_inflow 80 #[] G (fun i => !Ba.infB (G.D i)) W (h.gr hh) (enter_of Try.func80 (by kernel_rfl) (by kernel_rfl)) fun i hi W' hW => inff_any (G.D i) W' (((h.gr hh).hD i hi).2.gr hW))
  have hm := Nat.le_trans h.hc h.hb
  clear h
  unfold Ba.infE
  generalize Ba.any (fun i => !Ba.infB (G.D i)) G.n = q at *
  obtain ⟨A, n, c, b, o, D⟩ := G
  simp only at *
  by_cases h0 : (1000 : Int) < (n : Int)
  · rw [if_pos h0]
    clear HC
    go_enter Try.func48, Try.ntmps48
    go_wp2_with fail
    go_ret
    exact ⟨rfl, gr_auto⟩
  rw [if_neg h0]
  have h1 : (n : Int) ≤ 1000 := by omega
  clear h0
  cases q
  · go_enter Try.func48, Try.ntmps48
    go_wp2_with fail
    refine (HC.out _ gr_auto).mono ?_
    rintro e w1 ⟨rfl, hb1⟩
    go_wp2_with fail
    go_ret
    exact ⟨rfl, gr_auto⟩
  · go_enter Try.func48, Try.ntmps48
    go_wp2_with fail
    refine (HC.out _ gr_auto).mono ?_
    rintro e w1 ⟨rfl, hb1⟩
    go_wp2_with fail
    go_ret
    exact ⟨rfl, gr_auto⟩

set_option maxRecDepth 100000 in
set_option maxHeartbeats 4000000 in
theorem ptot_e (A : Option Addr) (n c : Nat) (ec : Int) (w : World) (hec : ec ≠ 0) (HG : Hid (∀ W, Gr w W → Calls Try.prog 48 #[.slice A n c] W fun e w' => e = .returned (.int .i64 ec) ∧ Gr W w')) : Calls Try.prog 22 #[.slice A n c] w fun e w' => e = .returned (.tuple #[.int .i64 0, .int .i64 ec]) ∧ Gr w w' := by
  have t0 : (ec != 0) = true := bne_iff_ne.2 hec
  clear hec
  go_enter Try.func22, Try.ntmps22
  go_wp2_with fail
  refine (HG.out _ gr_auto).mono ?_
  rintro e w1 ⟨rfl, hb1⟩
  go_wp2_with fail
  refine bodyPost_ret (by simp [results, Try.results22, go_sem]; try rfl) rfl ?_
  exact ⟨rfl, gr_auto⟩

set_option maxRecDepth 100000 in
set_option maxHeartbeats 4000000 in
theorem ptot_ok (A : Option Addr) (n c b o : Nat) (D : Nat → Ba.Inflow) (T : Nat → Int) (V E : Int) (w : World) (hm : n ≤ 1000) (HA : Hid (0 < n → A = some ⟨b, o, none⟩)) (HD : Hid (∀ i, i < n → (D i).Cells w b (o + i * 2) ∧ (D i).Ok w)) (HG : Hid (∀ W, Gr w W → Calls Try.prog 48 #[.slice A n c] W fun e w' => e = .returned (.int .i64 0) ∧ Gr W w'))
    (HT0 : Hid (T 0 = 0)) (HTS : Hid (∀ i, T (i + 1) = T i + Ba.sumI (D i).vs.X (D i).vs.n)) (HR : Hid (∀ i, i < n → Ba.infB (D i) = true)) (HU : Hid (∀ i, i ≤ n → T i ≤ T n)) (HZ : Hid (∀ i, i ≤ n → 0 ≤ T i)) (HE : Hid (T n ≤ 1152921504606846976 → V = T n ∧ E = 0)) (HN : Hid (1152921504606846976 < T n → V = 0 ∧ E = 5)) : Calls Try.prog 22 #[.slice A n c] w fun e w' => e = .returned (.tuple #[.int .i64 V, .int .i64 E]) ∧ Gr w w' := by
  go_enter Try.func22, Try.ntmps22
  go_wp2_with fail
  refine (HG.out _ gr_auto).mono ?_
  rintro e w1 ⟨rfl, hb1⟩
  clear HG
  go_wp2_with fail
  go_loopw [5, 17] (fun v x wr => ∃ i : Nat, i ≤ n ∧ x = .int .i64 (i : Int) ∧ v = .int .i64 (T i) ∧ Hid (T i ≤ 1152921504606846976) ∧ Gr w wr) (fun _ x _ => n - (intOf x).toNat)
  case atStart => exact ⟨0, Nat.zero_le _, rfl, by rw [HT0.out], Lib.hid (by rw [HT0.out]; omega), hb1⟩
  case round =>
    clear hb1
    obtain ⟨i, hi, rfl, rfl, HQ, hg⟩ := hrel
    by_cases hlt : i < n
    · obtain rfl := HA.out (by omega)
      obtain ⟨c0, c1⟩ := (HD.out i hlt).1.gr hg
      have hvs := (HD.out i hlt).2.2
      have hR := HR.out i hlt
      have HT := Lib.hid (HTS.out i)
      have HUi := Lib.hid (HU.out (i + 1) hlt)
      have HV := Lib.hid (Ba.inf_vol hR).2
      have HVU := Lib.hid (fun k (hk : k ≤ (D i).vs.n) => by have z := Ba.vol_up hR ((D i).vs.n - k) k (by omega); rw [show k + ((D i).vs.n - k) = (D i).vs.n by omega] at z; exact z)
      have HVN := Lib.hid (fun k (hk : k ≤ (D i).vs.n) => Ba.vol_nn hR hk)
      have hvm := (Ba.inf_vol hR).1
      have z0 := HZ.out i hi
      have hq := HQ.out
      have ib0 : (0 : Int) ≤ (i : Int) := by omega
      have ib1 : (i : Int) < (n : Int) := by omega
      have SA := Lib.hid hvs.hA; have SX := Lib.hid (fun k (hk : k < (D i).vs.n) => (hvs.hX k hk).1)
      have sc1 := hvs.hc; have sc2 := hvs.hb
      clear hvs hR HD HR HU HZ HQ HTS HT0
      generalize D i = dd at *
      obtain ⟨nm, ⟨sA, sn, sc, sb, so, sX⟩⟩ := dd
      simp only at *
      obtain ⟨t0, ht0⟩ : ∃ z, T i = z := ⟨_, rfl⟩
      rw [ht0] at HT z0 hq
      simp only [ht0]
      have HTE := Lib.hid ht0
      clear ht0
      have g0 := hg
      go_wp2_with fail
      go_loopw [5, 24] (fun v x wz => ∃ k : Nat, k ≤ sn ∧ x = .int .i64 (k : Int) ∧ v = .int .i64 (t0 + Ba.sumI sX k) ∧ Hid (t0 + Ba.sumI sX k ≤ 1152921504606846976) ∧ Gr w wz) (fun _ x _ => sn - (intOf x).toNat)
      case atStart => exact ⟨0, Nat.zero_le _, rfl, by rw [show Ba.sumI sX 0 = 0 from rfl, Int.add_zero], Lib.hid (by rw [show Ba.sumI sX 0 = 0 from rfl]; omega), by exact gr_auto⟩
      case round =>
        rename_i wq _ _
        obtain ⟨k, hk, rfl, rfl, HQk, hgk⟩ := hrel
        have vk := HVN.out k hk
        have hqk := HQk.out
        by_cases hkn : k < sn
        · obtain rfl := SA.out (by omega)
          have b0 := Gr.at hgk (SX.out k hkn)
          have vb := HV.out k hkn
          have kb0 : (0 : Int) ≤ (k : Int) := by omega
          have kb1 : (k : Int) < (sn : Int) := by omega
          have TK := Lib.hid (show Ba.sumI sX (k + 1) = Ba.sumI sX k + sX k from rfl)
          have HBIG := Lib.hid (fun (hb : 1152921504606846976 < t0 + (Ba.sumI sX k + sX k)) => HN.out (by
            have a1 := HVU.out (k + 1) hkn
            have a2 := HUi.out
            rw [TK.out] at a1
            rw [HT.out] at a2
            omega))
          clear HV SX HVN HVU HUi HT HE HN HQk c0 c1
          generalize Ba.sumI sX k = sk at *
          generalize sX k = xk at *
          by_cases hb : 1152921504606846976 < t0 + (sk + xk)
          · obtain ⟨h1, h2⟩ := HBIG.out hb
            have hb2 : 1152921504606846976 < t0 + sk + xk := by omega
            clear HBIG hb
            subst h1 h2
            go_wp2_with fail
            refine bodyPost_ret (by simp [results, Try.results22, go_sem]; try rfl) rfl ?_
            exact ⟨rfl, hgk⟩
          · have HQ2 := Lib.hid (show t0 + (sk + xk) ≤ 1152921504606846976 by omega)
            have hb2 : t0 + sk + xk ≤ 1152921504606846976 := by omega
            have HSM := Lib.hid (show t0 + sk + xk = t0 + (sk + xk) by omega)
            clear HBIG hb
            go_wp2_with fail
            go_roundw
            case rel => exact ⟨k + 1, by omega, by go_num, by rw [TK.out, HSM.out], Lib.hid (by rw [TK.out]; exact HQ2.out), hgk⟩
            case measure => simp [intOf]; omega
        · obtain rfl : sn = k := by omega
          have HTn := Lib.hid (show T (i + 1) = t0 + Ba.sumI sX sn from HT.out)
          clear HV SX HVN HVU HUi HT HE HN
          generalize Ba.sumI sX sn = sk at *
          go_wp2_with fail
          go_roundw
          case rel => exact ⟨i + 1, by omega, by go_num, by rw [HTn.out], Lib.hid (by rw [HTn.out]; exact HQk.out), hgk⟩
          case measure => simp [intOf]; omega
    · obtain rfl : n = i := by omega
      obtain ⟨h1, h2⟩ := HE.out HQ.out
      have HF := Lib.hid (And.intro h1 h2)
      clear HE HN HR HU HZ HA HD h1 h2 HTS HT0
      go_wp2_with fail
      refine bodyPost_ret (by simp [results, Try.results22, go_sem]; try rfl) rfl ?_
      exact ⟨by rw [HF.out.1, HF.out.2], hg⟩

theorem ptot_any (G : Ba.SlInflow) (w : World) (h : G.At w) : Calls Try.prog 22 #[.slice G.A G.n G.c] w fun e w' => e = .returned (.tuple #[.int .i64 (Ba.totV G), .int .i64 (Ba.totE G)]) ∧ Gr w w' := by
  have HG := Lib.hid (fun W (hh : Gr w W) => inf_any G W (h.gr hh))
  by_cases he : Ba.infE G = 0
  rotate_left
  · have e : Ba.totE G = Ba.infE G := by unfold Ba.totE; rw [if_neg he]
    have e2 : Ba.totV G = 0 := by unfold Ba.totV; rw [if_neg (by rw [e]; exact he)]
    rw [e, e2]
    exact ptot_e G.A G.n G.c _ w he HG
  rw [he] at HG
  exact ptot_ok G.A G.n G.c G.b G.o G.D (Ba.totI G) _ _ w (Ba.inf_right he).1 (Lib.hid h.hA) (Lib.hid h.hD) HG (Lib.hid rfl) (Lib.hid fun _ => rfl) (Lib.hid (Ba.inf_right he).2) (Lib.hid fun i hi => by have z := Ba.tot_up he (G.n - i) i (by omega); rw [show i + (G.n - i) = G.n by omega] at z; exact z) (Lib.hid fun i hi => Ba.tot_nn he hi)
    (Lib.hid fun q => by
      have e : Ba.totE G = 0 := by unfold Ba.totE; rw [if_pos he, if_pos q]
      exact ⟨by unfold Ba.totV; rw [if_pos e], e⟩)
    (Lib.hid fun q => by
      have e : Ba.totE G = 5 := by unfold Ba.totE; rw [if_pos he, if_neg (by omega)]
      exact ⟨by unfold Ba.totV; rw [e]; rfl, e⟩)

end Go.Proofs.Ytjighhphadfoiaa
namespace Go.Proofs.Ytjighhphadfoiaa
open Go.RowKit
attribute [local go_sem ↓] Go.wp_at_zero Go.wp_at_succ

set_option maxRecDepth 100000 in
set_option maxHeartbeats 4000000 in
theorem rinf_ok (A : Option Addr) (n c b o : Nat) (D : Nat → Ba.Inflow) (w : World) (hm : n ≤ 1000) (HA : Hid (0 < n → A = some ⟨b, o, none⟩)) (HD : Hid (∀ i, i < n → (D i).Cells w b (o + i * 2) ∧ (D i).Ok w)) (E : Int) (HE : Hid (Ba.allB (fun i => Ba.infB (D i)) n = true → E = 0)) (HN : Hid (Ba.allB (fun i => Ba.infB (D i)) n = false → E = 1)) : Calls Try.prog 55 #[.slice A n c] w fun e w' => e = .returned (.int .i64 E) ∧ Gr w w' := by
  have t0 : (n : Int) ≤ 1000 := by omega
  go_enter Try.func55, Try.ntmps55
  go_wp2_with fail
  go_loopw [3] (fun x wr => ∃ i : Nat, i ≤ n ∧ x = .int .i64 (i : Int) ∧ Hid (Ba.allB (fun i => Ba.infB (D i)) i = true) ∧ Gr w wr) (fun x _ => n - (intOf x).toNat)
  case atStart => exact ⟨0, Nat.zero_le _, rfl, Lib.hid rfl, Gr.refl _⟩
  case round =>
    obtain ⟨i, hi, rfl, HQ, hg⟩ := hrel
    by_cases hlt : i < n
    · obtain rfl := HA.out (by omega)
      obtain ⟨c0, c1⟩ := (HD.out i hlt).1.gr hg
      have hok := (HD.out i hlt).2.gr hg
      have ib0 : (0 : Int) ≤ (i : Int) := by omega
      have ib1 : (i : Int) < (n : Int) := by omega
      have HI := Lib.hid (fun W => risname_all (D i).nm W hok.1)
      have HS := Lib.hid (fun W (hh : Gr wr W) => rseries_any (D i).vs W (hok.2.gr hh))
      have HB := Lib.hid (show Ba.infB (D i) = (Dc.isName (D i).nm.data.toList && Ba.volB (D i).vs) from rfl)
      have HGO := Lib.hid (fun (h : Ba.infB (D i) = true) => Ba.allB_go HQ.out h)
      have HNO := Lib.hid (fun (h : Ba.infB (D i) = false) => HN.out (Ba.allB_stop (p := fun i => Ba.infB (D i)) hlt h))
      clear hok HD HQ HE HN
      obtain ⟨dd, hdd⟩ : ∃ z, D i = z := ⟨_, rfl⟩
      rw [hdd] at c0 c1 HI HS HB HGO HNO
      clear hdd
      obtain ⟨nm, vs⟩ := dd
      simp only at *
      cases hn : Dc.isName nm.data.toList
      · rw [hn] at HI
        have hE := Lib.hid (HNO.out (by rw [HB.out, hn]; rfl))
        clear HB HGO HNO HS hn
        go_wp2_with fail
        refine (HI.out _).mono ?_
        rintro e w1 ⟨rfl, rfl⟩
        go_wp2_with fail
        go_ret
        exact ⟨ret_int hE.out.symm, hg⟩
      · rw [hn] at HI
        cases hv : Ba.volB vs
        · rw [hv] at HS
          have hE := Lib.hid (HNO.out (by rw [HB.out, hv, Bool.and_false]))
          clear HB HGO HNO hn hv
          go_wp2_with fail
          refine (HI.out _).mono ?_
          rintro e w1 ⟨rfl, rfl⟩
          go_wp2_with fail
          refine (HS.out _ (by exact Gr.refl _)).mono ?_
          rintro e w2 ⟨rfl, hb2⟩
          go_wp2_with fail
          go_ret
          exact ⟨ret_int hE.out.symm, hg.trans hb2⟩
        · rw [hv] at HS
          have hQ := Lib.hid (HGO.out (by rw [HB.out, hn, hv]; rfl))
          clear HB HGO HNO hn hv
          go_wp2_with fail
          refine (HI.out _).mono ?_
          rintro e w1 ⟨rfl, rfl⟩
          go_wp2_with fail
          refine (HS.out _ (by exact Gr.refl _)).mono ?_
          rintro e w2 ⟨rfl, hb2⟩
          go_wp2_with fail
          go_roundw
          case rel => exact ⟨i + 1, by omega, by go_num, hQ, hg.trans hb2⟩
          case measure => simp [intOf]; omega
    · obtain rfl : n = i := by omega
      have hE := Lib.hid (HE.out HQ.out)
      clear HD HQ HE HN HA
      go_wp2_with fail
      go_ret
      exact ⟨ret_int hE.out.symm, hg⟩

set_option maxRecDepth 100000 in
set_option maxHeartbeats 4000000 in
theorem rinf_far (A : Option Addr) (n c : Nat) (w : World) (hm : n ≤ 9223372036854775807) (h : (1000 : Int) < (n : Int)) : Calls Try.prog 55 #[.slice A n c] w fun e w' => e = .returned (.int .i64 4) ∧ Gr w w' := by
  go_enter Try.func55, Try.ntmps55
  go_wp2_with fail
  go_ret
  exact ⟨rfl, gr_auto⟩
theorem rinf_any (G : Ba.SlInflow) (w : World) (h : G.At w) : Calls Try.prog 55 #[.slice G.A G.n G.c] w fun e w' => e = .returned (.int .i64 (Ba.infE G)) ∧ Gr w w' := by
  by_cases h0 : (1000 : Int) < (G.n : Int)
  · have e : Ba.infE G = 4 := by unfold Ba.infE; rw [if_pos h0]
    rw [e]
    exact rinf_far G.A G.n G.c w (Nat.le_trans h.hc h.hb) h0
  have e : Ba.infE G = if Ba.any (fun i => !Ba.infB (G.D i)) G.n = true then 1 else 0 := by unfold Ba.infE; rw [if_neg h0]
  have q : (!Ba.any (fun i => !Ba.infB (G.D i)) G.n) = Ba.allB (fun i => Ba.infB (G.D i)) G.n := Ba.any_not
  refine rinf_ok G.A G.n G.c G.b G.o G.D w (by omega) (Lib.hid h.hA) (Lib.hid h.hD) (Ba.infE G) (Lib.hid fun hq => ?_) (Lib.hid fun hq => ?_)
  · rw [hq] at q
    rw [e, if_neg (by intro z; rw [z] at q; cases q)]
  · rw [hq] at q
    rw [e, if_pos (by cases z : Ba.any (fun i => !Ba.infB (G.D i)) G.n <;> rw [z] at q <;> simp_all)]

set_option maxRecDepth 100000 in
set_option maxHeartbeats 4000000 in
theorem rtot_e (A : Option Addr) (n c : Nat) (ec : Int) (w : World) (hec : ec ≠ 0) (HG : Hid (∀ W, Gr w W → Calls Try.prog 55 #[.slice A n c] W fun e w' => e = .returned (.int .i64 ec) ∧ Gr W w')) : Calls Try.prog 25 #[.slice A n c] w fun e w' => e = .returned (.tuple #[.int .i64 0, .int .i64 ec]) ∧ Gr w w' := by
  have t0 : (ec != 0) = true := bne_iff_ne.2 hec
  clear hec
  go_enter Try.func25, Try.ntmps25
  go_wp2_with fail
  refine (HG.out _ gr_auto).mono ?_
  rintro e w1 ⟨rfl, hb1⟩
  go_wp2_with fail
  refine bodyPost_ret (by simp [results, Try.results25, go_sem]; try rfl) rfl ?_
  exact ⟨rfl, gr_auto⟩

set_option maxRecDepth 100000 in
set_option maxHeartbeats 4000000 in
theorem rtot_ok (A : Option Addr) (n c b o : Nat) (D : Nat → Ba.Inflow) (T : Nat → Int) (V E : Int) (w : World) (hm : n ≤ 1000) (HA : Hid (0 < n → A = some ⟨b, o, none⟩)) (HD : Hid (∀ i, i < n → (D i).Cells w b (o + i * 2) ∧ (D i).Ok w)) (HG : Hid (∀ W, Gr w W → Calls Try.prog 55 #[.slice A n c] W fun e w' => e = .returned (.int .i64 0) ∧ Gr W w'))
    (HT0 : Hid (T 0 = 0)) (HTS : Hid (∀ i, T (i + 1) = T i + Ba.sumI (D i).vs.X (D i).vs.n)) (HR : Hid (∀ i, i < n → Ba.infB (D i) = true)) (HU : Hid (∀ i, i ≤ n → T i ≤ T n)) (HZ : Hid (∀ i, i ≤ n → 0 ≤ T i)) (HE : Hid (T n ≤ 1152921504606846976 → V = T n ∧ E = 0)) (HN : Hid (1152921504606846976 < T n → V = 0 ∧ E = 5)) : Calls Try.prog 25 #[.slice A n c] w fun e w' => e = .returned (.tuple #[.int .i64 V, .int .i64 E]) ∧ Gr w w' := by
  go_enter Try.func25, Try.ntmps25
  go_wp2_with fail
  refine (HG.out _ gr_auto).mono ?_
  rintro e w1 ⟨rfl, hb1⟩
  clear HG
  go_wp2_with fail
  go_loopw [5, 6] (fun v x wr => ∃ i : Nat, i ≤ n ∧ x = .int .i64 (i : Int) ∧ v = .int .i64 (T i) ∧ Hid (T i ≤ 1152921504606846976) ∧ Gr w wr) (fun _ x _ => n - (intOf x).toNat)
  case atStart => exact ⟨0, Nat.zero_le _, rfl, by rw [HT0.out], Lib.hid (by rw [HT0.out]; omega), hb1⟩
  case round =>
    clear hb1
    obtain ⟨i, hi, rfl, rfl, HQ, hg⟩ := hrel
    by_cases hlt : i < n
    · obtain rfl := HA.out (by omega)
      obtain ⟨c0, c1⟩ := (HD.out i hlt).1.gr hg
      have c1w := (HD.out i hlt).1.2
      have hvs := (HD.out i hlt).2.2
      have hR := HR.out i hlt
      have HT := Lib.hid (HTS.out i)
      have HUi := Lib.hid (HU.out (i + 1) hlt)
      have HV := Lib.hid (Ba.inf_vol hR).2
      have HVU := Lib.hid (fun k (hk : k ≤ (D i).vs.n) => by have z := Ba.vol_up hR ((D i).vs.n - k) k (by omega); rw [show k + ((D i).vs.n - k) = (D i).vs.n by omega] at z; exact z)
      have HVN := Lib.hid (fun k (hk : k ≤ (D i).vs.n) => Ba.vol_nn hR hk)
      have hvm := (Ba.inf_vol hR).1
      have z0 := HZ.out i hi
      have hq := HQ.out
      have ib0 : (0 : Int) ≤ (i : Int) := by omega
      have ib1 : (i : Int) < (n : Int) := by omega
      have SA := Lib.hid hvs.hA; have SX := Lib.hid (fun k (hk : k < (D i).vs.n) => (hvs.hX k hk).1)
      have sc1 := hvs.hc; have sc2 := hvs.hb
      clear hvs hR HD HR HU HZ HQ HTS HT0
      generalize D i = dd at *
      obtain ⟨nm, ⟨sA, sn, sc, sb, so, sX⟩⟩ := dd
      simp only at *
      obtain ⟨t0, ht0⟩ : ∃ z, T i = z := ⟨_, rfl⟩
      rw [ht0] at HT z0 hq
      simp only [ht0]
      have HTE := Lib.hid ht0
      clear ht0
      have g0 := hg
      go_wp2_with fail
      go_loopw [5, 7] (fun v x wz => ∃ k : Nat, k ≤ sn ∧ x = .int .i64 (k : Int) ∧ v = .int .i64 (t0 + Ba.sumI sX k) ∧ Hid (t0 + Ba.sumI sX k ≤ 1152921504606846976) ∧ Gr w wz) (fun _ x _ => sn - (intOf x).toNat)
      case atStart => exact ⟨0, Nat.zero_le _, rfl, by rw [show Ba.sumI sX 0 = 0 from rfl, Int.add_zero], Lib.hid (by rw [show Ba.sumI sX 0 = 0 from rfl]; omega), by exact gr_auto⟩
      case round =>
        rename_i wq _ _
        obtain ⟨k, hk, rfl, rfl, HQk, hgk⟩ := hrel
        have vk := HVN.out k hk
        have c1k := Gr.at hgk c1w
        have hqk := HQk.out
        by_cases hkn : k < sn
        · obtain rfl := SA.out (by omega)
          have b0 := Gr.at hgk (SX.out k hkn)
          have vb := HV.out k hkn
          have kb0 : (0 : Int) ≤ (k : Int) := by omega
          have kb1 : (k : Int) < (sn : Int) := by omega
          have TK := Lib.hid (show Ba.sumI sX (k + 1) = Ba.sumI sX k + sX k from rfl)
          have HBIG := Lib.hid (fun (hb : 1152921504606846976 < t0 + (Ba.sumI sX k + sX k)) => HN.out (by
            have a1 := HVU.out (k + 1) hkn
            have a2 := HUi.out
            rw [TK.out] at a1
            rw [HT.out] at a2
            omega))
          clear HV SX HVN HVU HUi HT HE HN HQk c0 c1
          generalize Ba.sumI sX k = sk at *
          generalize sX k = xk at *
          by_cases hb : 1152921504606846976 < t0 + (sk + xk)
          · obtain ⟨h1, h2⟩ := HBIG.out hb
            have hb2 : 1152921504606846976 < t0 + sk + xk := by omega
            clear HBIG hb
            subst h1 h2
            go_wp2_with fail
            refine bodyPost_ret (by simp [results, Try.results25, go_sem]; try rfl) rfl ?_
            exact ⟨rfl, hgk⟩
          · have HQ2 := Lib.hid (show t0 + (sk + xk) ≤ 1152921504606846976 by omega)
            have hb2 : t0 + sk + xk ≤ 1152921504606846976 := by omega
            have HSM := Lib.hid (show t0 + sk + xk = t0 + (sk + xk) by omega)
            clear HBIG hb
            go_wp2_with fail
            go_roundw
            case rel => exact ⟨k + 1, by omega, by go_num, by rw [TK.out, HSM.out], Lib.hid (by rw [TK.out]; exact HQ2.out), hgk⟩
            case measure => simp [intOf]; omega
        · obtain rfl : sn = k := by omega
          have HTn := Lib.hid (show T (i + 1) = t0 + Ba.sumI sX sn from HT.out)
          clear HV SX HVN HVU HUi HT HE HN
          generalize Ba.sumI sX sn = sk at *
          go_wp2_with fail
          go_roundw
          case rel => exact ⟨i + 1, by omega, by go_num, by rw [HTn.out], Lib.hid (by rw [HTn.out]; exact HQk.out), hgk⟩
          case measure => simp [intOf]; omega
    · obtain rfl : n = i := by omega
      obtain ⟨h1, h2⟩ := HE.out HQ.out
      have HF := Lib.hid (And.intro h1 h2)
      clear HE HN HR HU HZ HA HD h1 h2 HTS HT0
      go_wp2_with fail
      refine bodyPost_ret (by simp [results, Try.results25, go_sem]; try rfl) rfl ?_
      exact ⟨by rw [HF.out.1, HF.out.2], hg⟩

theorem rtot_any (G : Ba.SlInflow) (w : World) (h : G.At w) : Calls Try.prog 25 #[.slice G.A G.n G.c] w fun e w' => e = .returned (.tuple #[.int .i64 (Ba.totV G), .int .i64 (Ba.totE G)]) ∧ Gr w w' := by
  have HG := Lib.hid (fun W (hh : Gr w W) => rinf_any G W (h.gr hh))
  by_cases he : Ba.infE G = 0
  rotate_left
  · have e : Ba.totE G = Ba.infE G := by unfold Ba.totE; rw [if_neg he]
    have e2 : Ba.totV G = 0 := by unfold Ba.totV; rw [if_neg (by rw [e]; exact he)]
    rw [e, e2]
    exact rtot_e G.A G.n G.c _ w he HG
  rw [he] at HG
  exact rtot_ok G.A G.n G.c G.b G.o G.D (Ba.totI G) _ _ w (Ba.inf_right he).1 (Lib.hid h.hA) (Lib.hid h.hD) HG (Lib.hid rfl) (Lib.hid fun _ => rfl) (Lib.hid (Ba.inf_right he).2) (Lib.hid fun i hi => by have z := Ba.tot_up he (G.n - i) i (by omega); rw [show i + (G.n - i) = G.n by omega] at z; exact z) (Lib.hid fun i hi => Ba.tot_nn he hi)
    (Lib.hid fun q => by
      have e : Ba.totE G = 0 := by unfold Ba.totE; rw [if_pos he, if_pos q]
      exact ⟨by unfold Ba.totV; rw [if_pos e], e⟩)
    (Lib.hid fun q => by
      have e : Ba.totE G = 5 := by unfold Ba.totE; rw [if_pos he, if_neg (by omega)]
      exact ⟨by unfold Ba.totV; rw [e]; rfl, e⟩)


end Go.Proofs.Ytjighhphadfoiaa
namespace Go.Proofs.Ytjighhphadfoiaa
open Go.RowKit
attribute [local go_sem ↓] Go.wp_at_zero Go.wp_at_succ
theorem flatN_set (X Y : Nat → Int) (k : Nat) (u : Int) (hk : Y k = u) (ho : ∀ j, j ≠ k → Y j = X j) : ∀ n, (flatN X n).set k (Value.int .i64 u) = (if k < n then flatN Y n else flatN X n)
  | 0 => by rw [if_neg (by omega)]; rfl
  | n + 1 => by
    have ih := flatN_set X Y k u hk ho n
    have hl := flatN_len X n
    show (flatN X n ++ [Value.int .i64 (X n)]).set k (Value.int .i64 u) = _
    rw [List.set_append, hl]
    by_cases h1 : k < n
    · rw [if_pos h1, ih, if_pos h1, if_pos (by omega)]
      show _ = flatN Y n ++ [Value.int .i64 (Y n)]
      rw [ho n (by omega)]
    · rw [if_neg h1]
      by_cases h2 : k = n
      · subst h2
        rw [if_pos (by omega), Nat.sub_self]
        show flatN X k ++ [Value.int .i64 u] = flatN Y k ++ [Value.int .i64 (Y k)]
        rw [hk, flatN_congr (X := X) (Y := Y) (fun i hi => (ho i (by omega)).symm)]
      · rw [if_neg (by omega), List.set_eq_of_length_le (by simp; omega)]
        rfl
theorem any_succ (p : Nat → Bool) (n : Nat) : Ba.any p (n + 1) = (Ba.any p n || p n) := by
  rw [Bool.eq_iff_iff, Bool.or_eq_true, Ba.any_iff, Ba.any_iff]
  constructor
  · rintro ⟨i, hi, h⟩
    rcases (by omega : i < n ∨ i = n) with q | rfl
    · exact .inl ⟨i, q, h⟩
    · exact .inr h
  · rintro (⟨i, hi, h⟩ | h)
    · exact ⟨i, by omega, h⟩
    · exact ⟨n, by omega, h⟩
theorem own_slN {w : World} {base E n : Nat} {v : Value} {X : Nat → Int} (h : w.ownsRow base E 1 v n (flatN X n)) (hb : ∀ j, j < n → Ba.i64 (X j)) : ∃ s : Ba.SlI, v = .slice s.A s.n s.c ∧ s.At w ∧ s.n = n ∧ s.X = X := by
  obtain ⟨A, c, g, rfl, h1, -, h3, h4, h5⟩ := own_rowN h
  exact ⟨⟨A, n, c, g, 0, X⟩, rfl, ⟨h1, h3, h4, fun j hj => ⟨by simp only [Nat.zero_add]; exact (h5 j hj).1, hb j hj⟩⟩, rfl, rfl⟩
/-- What Sum answers, over plain words. -/
def SumP (E : Int) (L : Nat) (V : Nat → Int) (w : World) (e : Ending) (w' : World) : Prop := ∃ r : Ba.SlI, e = .returned (.tuple #[.slice r.A r.n r.c, .int .i64 E]) ∧ r.At w' ∧ (E = 0 → r.n = L ∧ ∀ j, j < r.n → r.X j = V j) ∧ (E ≠ 0 → r.n = 0) ∧ Gr w w'
theorem nil_atz {w : World} : Ba.SlI.At w ⟨none, 0, 0, 0, 0, fun _ => 0⟩ := ⟨fun h => absurd h (by simp), Nat.le_refl _, by simp, fun i hi => absurd hi (by simp)⟩
namespace Ba
def nmB (G : SlInflow) (t : ByteArray) (i : Nat) : Bool := eqS (G.D i).nm t
/-- How long a sum is, what it holds, behind some inflows; and within one. -/
def lnS (G : SlInflow) (t : ByteArray) : Nat → Nat
  | 0 => 0
  | i + 1 => if nmB G t i = true then max (lnS G t i) (G.D i).vs.n else lnS G t i
def vlS (G : SlInflow) (t : ByteArray) : Nat → Nat → Int
  | 0, _ => 0
  | i + 1, j => if nmB G t i = true then vlS G t i j + (if j < (G.D i).vs.n then (G.D i).vs.X j else 0) else vlS G t i j
def vkS (G : SlInflow) (t : ByteArray) (i k j : Nat) : Int := vlS G t i j + (if j < k then (G.D i).vs.X j else 0)
def smE (G : SlInflow) (t : ByteArray) : Int := if infE G = 0 then if any (nmB G t) G.n = true then if allB (fun j => bet (vlS G t G.n j) 0 1125899906842624) (lnS G t G.n) = true then 0 else 5 else 12 else infE G
end Ba
/-- What Sum answers. -/
def RetSum (G : Ba.SlInflow) (t : ByteArray) (w : World) (e : Ending) (w' : World) : Prop := ∃ r : Ba.SlI, e = .returned (.tuple #[.slice r.A r.n r.c, .int .i64 (Ba.smE G t)]) ∧ r.At w' ∧ (Ba.smE G t = 0 → r.n = Ba.lnS G t G.n ∧ ∀ j, j < r.n → r.X j = Ba.vlS G t G.n j) ∧ (Ba.smE G t ≠ 0 → r.n = 0) ∧ Gr w w'

set_option maxRecDepth 100000 in
set_option maxHeartbeats 4000000 in
theorem psum_e (A : Option Addr) (n c : Nat) (t : ByteArray) (ec : Int) (w : World) (hec : ec ≠ 0) (HG : Hid (∀ W, Gr w W → Calls Try.prog 48 #[.slice A n c] W fun e w' => e = .returned (.int .i64 ec) ∧ Gr W w')) : Calls Try.prog 23 #[.slice A n c, .string t] w fun e w' => e = .returned (.tuple #[.slice none 0 0, .int .i64 ec]) ∧ Gr w w' := by
  have t0 : (ec != 0) = true := bne_iff_ne.2 hec
  clear hec
  go_enter Try.func23, Try.ntmps23
  go_wp2_with fail
  refine (HG.out _ gr_auto).mono ?_
  rintro e w1 ⟨rfl, hb1⟩
  go_wp2_with fail
  refine bodyPost_ret (by simp [results, Try.results23, go_sem]; try rfl) rfl ?_
  exact ⟨rfl, gr_auto⟩

set_option maxRecDepth 100000 in
set_option maxHeartbeats 4000000 in
theorem psum_ok (A : Option Addr) (n c b o : Nat) (D : Nat → Ba.Inflow) (t : ByteArray) (nb : Nat → Bool) (ln : Nat → Nat) (vl : Nat → Nat → Int) (lk : Nat → Nat → Nat) (vk : Nat → Nat → Nat → Int) (w : World) (hm : n ≤ 1000) (HA : Hid (0 < n → A = some ⟨b, o, none⟩)) (HD : Hid (∀ i, i < n → (D i).Cells w b (o + i * 2) ∧ (D i).Ok w)) (HG : Hid (∀ W, Gr w W → Calls Try.prog 48 #[.slice A n c] W fun e w' => e = .returned (.int .i64 0) ∧ Gr W w'))
    (HNB : Hid (∀ i, nb i = ((D i).nm.toList == t.toList))) (HL0 : Hid (ln 0 = 0)) (HLN : Hid (∀ i, nb i = false → ln (i + 1) = ln i ∧ vl (i + 1) = vl i)) (HLY : Hid (∀ i, i < n → nb i = true → ln (i + 1) = lk i (D i).vs.n ∧ vl (i + 1) = vk i (D i).vs.n)) (HR : Hid (∀ i, i < n → Ba.infB (D i) = true))
    (HKK : Hid (∀ i, i < n → lk i 0 = ln i ∧ vk i 0 = vl i ∧ ∀ k, k < (D i).vs.n → lk i (k + 1) = max (lk i k) (k + 1) ∧ k ≤ lk i k ∧ (∀ j, lk i k ≤ j → vk i k j = 0) ∧ vk i (k + 1) k = vk i k k + (D i).vs.X k ∧ ∀ j, j ≠ k → vk i (k + 1) j = vk i k j)) (HKB : Hid (∀ i, i < n → ∀ k, k ≤ (D i).vs.n → lk i k ≤ 10000 ∧ ∀ j, 0 ≤ vk i k j ∧ vk i k j ≤ 1125899906842624 * (i + 1)))
    (HLB : Hid (∀ i, i ≤ n → ∀ j, 0 ≤ vl i j ∧ vl i j ≤ 1125899906842624 * i)) (HLL : Hid (∀ i, i ≤ n → ln i ≤ 10000)) (E : Int) (hE12 : Hid (Ba.any nb n = false → E = 12)) (hE5 : Hid (Ba.any nb n = true → Ba.allB (fun j => Ba.bet (vl n j) 0 1125899906842624) (ln n) = false → E = 5)) (hE0 : Hid (Ba.any nb n = true → Ba.allB (fun j => Ba.bet (vl n j) 0 1125899906842624) (ln n) = true → E = 0)) : Calls Try.prog 23 #[.slice A n c, .string t] w (SumP E (ln n) (vl n) w) := by
  obtain ⟨i1, hi0, hz0, hz1, hz2⟩ := info_parts info_int
  have KI := Lib.hid hi0; have KZ0 := Lib.hid hz0; have KZ1 := Lib.hid hz1; have KZ2 := Lib.hid hz2
  clear hi0 hz0 hz1 hz2
  go_enter Try.func23, Try.ntmps23
  go_wp2_with fail
  refine (HG.out _ gr_auto).mono ?_
  rintro e w1 ⟨rfl, hb1⟩
  clear HG
  go_wp2_with fail
  go_loopw [7, 8, 20] (fun va vs x wr => ∃ i : Nat, i ≤ n ∧ x = .int .i64 (i : Int) ∧ vs = .bool (Ba.any nb i) ∧ (∃ (vA : Option Addr) (vc : Nat), va = .slice vA (ln i) vc ∧ Hid (wr.ownsRow w.heap.size 3 1 (.slice vA (ln i) vc) (ln i) (flatN (vl i) (ln i)))) ∧ Gr w wr) (fun _ _ x _ => n - (intOf x).toNat)
  case atStart => exact ⟨0, Nat.zero_le _, rfl, rfl, ⟨none, 0, by rw [HL0.out], Lib.hid (by rw [HL0.out]; exact ⟨rfl, Or.inl ⟨rfl, rfl⟩⟩)⟩, hb1⟩
  case round =>
    clear hb1
    obtain ⟨i, hi, rfl, rfl, ⟨vA0, vc0, rfl, HO0⟩, hg⟩ := hrel
    by_cases hlt : i < n
    · obtain rfl := HA.out (by omega)
      obtain ⟨c0, c1⟩ := (HD.out i hlt).1.gr hg
      have hvs := (HD.out i hlt).2.2
      have hR := HR.out i hlt
      have hvm := (Ba.inf_vol hR).1
      have ib0 : (0 : Int) ≤ (i : Int) := by omega
      have ib1 : (i : Int) < (n : Int) := by omega
      have SA := Lib.hid hvs.hA; have SX := Lib.hid (fun k (hk : k < (D i).vs.n) => (hvs.hX k hk).1)
      have HV := Lib.hid (Ba.inf_vol hR).2
      have hN := HNB.out i
      have HK := Lib.hid (HKK.out i hlt); have HKBi := Lib.hid (HKB.out i hlt); have HY := Lib.hid (HLY.out i hlt); have HF := Lib.hid (HLN.out i)
      have sc1 := hvs.hc; have sc2 := hvs.hb
      clear hvs hR HD HR HNB HKK HKB HLY HLN
      have HKB := HKBi
      clear HKBi
      generalize D i = dd at *
      obtain ⟨nm, ⟨sA, sn, sc, sb, so, sX⟩⟩ := dd
      simp only at *
      have SX0 := SX
      cases hp : nb i
      · rw [hp] at hN
        replace hN := hN.symm
        obtain ⟨y1, y2⟩ := HF.out hp
        have HYY := Lib.hid (And.intro y1 y2)
        have HAN := Lib.hid (show Ba.any nb (i + 1) = Ba.any nb i from by rw [any_succ, hp, Bool.or_false])
        clear HF HY HK HKB SX SX0 HV y1 y2
        go_wp2_with fail
        go_roundw
        case rel => exact ⟨i + 1, by omega, by go_num, by rw [HAN.out], ⟨vA0, vc0, by rw [HYY.out.1], by rw [HYY.out.1, HYY.out.2]; exact Lib.hid (ownsRow_gr HO0.out gr_auto)⟩, by exact gr_auto⟩
        case measure => simp [intOf]; omega
      · have HNBi := Lib.hid hp
        rw [hp] at hN
        replace hN := hN.symm
        clear HF
        go_wp2_with fail
        go_loopw [7, 31] (fun va x wz => ∃ k : Nat, k ≤ sn ∧ x = .int .i64 (k : Int) ∧ (∃ (vA : Option Addr) (vc : Nat), va = .slice vA (lk i k) vc ∧ Hid (wz.ownsRow w.heap.size 3 1 (.slice vA (lk i k) vc) (lk i k) (flatN (vk i k) (lk i k)))) ∧ Gr w wz) (fun _ x _ => sn - (intOf x).toNat)
        case atStart => exact ⟨0, Nat.zero_le _, rfl, ⟨vA0, vc0, by rw [HK.out.1], by rw [HK.out.1, HK.out.2.1]; exact Lib.hid (ownsRow_gr HO0.out gr_auto)⟩, by exact gr_auto⟩
        case round =>
          clear HO0 hg c0 c1
          rename_i wq _ _ _
          obtain ⟨k, hk, rfl, ⟨vA, vc, rfl, HO⟩, hg⟩ := hrel
          by_cases hkn : k < sn
          · obtain rfl := SA.out (by omega)
            have b0 := Gr.at hg (SX.out k hkn)
            have xb := HV.out k hkn
            have kb0 : (0 : Int) ≤ (k : Int) := by omega
            have kb1 : (k : Int) < (sn : Int) := by omega
            obtain ⟨n1, n2, n3, n4, n5⟩ := HK.out.2.2 k hkn
            have vb := (HKB.out k (by omega)).2 k; have lb := (HKB.out k (by omega)).1
            have HSET := Lib.hid (fun L (hL : k < L) => flatN_set (vk i k) (vk i (k + 1)) k (vk i k k + sX k) n4 n5 L)
            rcases (by omega : k = lk i k ∨ k < lk i k) with hc | hc
            · have HLN := Lib.hid (show lk i (k + 1) = k + 1 by omega)
              have HVZ := Lib.hid (show vk i k k = 0 from n3 k (by omega))
              have HOk := Lib.hid (show wr.ownsRow w.heap.size 3 1 (.slice vA k vc) k (flatN (vk i k) k) from by have z := HO.out; rw [← hc] at z; exact z)
              rw [← hc]
              have kkb : k ≤ 10000 := by omega
              clear HO hc n1 n2 n3 n4 n5 SX HV HKB HK
              have HO := HOk
              clear HOk
              go_wp2_with (at_builtin; refine wpList_append_lies _ (by rfl) _ _ 23 (by rfl) w.heap.size 3 i1 (.int .i64 0) 1 8 Try.underlying23 KI.out KZ0.out KZ1.out KZ2.out rfl (by decide) (.slice vA k vc) k (flatN (vk i k) k) (by rfl) (ownsRow_gr HO.out (by exact gr_auto)) ⟨wr.heap.size, 0, none⟩ 1 1 [.int .i64 0] (by rfl) rfl (by intro p u hp; rcases p with _ | p <;> simp at hp; subst hp; simp [Addr.add, go_sem]) (by intro u hu; simp at hu; subst hu; rfl) (by omega) (by unfold maxLen; omega) (by omega) (by have := Gr.size hg; simp; omega) _ rfl ?_)
              intro g cp w9 hown hgrow hat hlt9
              have g9 : Gr w w9 := Gr.own (show Gr w _ from gr_auto) (Nat.le_refl _) (ownsRow_gr HO.out gr_auto) hgrow
              have HO9 := Lib.hid (show w9.ownsRow w.heap.size 3 1 (.slice (some ⟨g, 0, none⟩) (k + 1) cp) (k + 1) (flatN (vk i k) (k + 1)) from by rw [flatN, HVZ.out]; exact hown)
              have q0 : w9.cell? ⟨g, k, none⟩ = some (.int .i64 (vk i k k)) := by
                have z := HO9.out.cellAt k (by omega)
                rw [flatN_get _ (Nat.lt_succ_self k)] at z; exact z
              have q1 := HO9.out.frozenAt k
              have hgb : w.heap.size ≤ g := (HO9.out.lt g rfl).1
              have b9 := Gr.at g9 (SX0.out k hkn)
              have HST := Lib.hid (fun x (hx : x = vk i k k + sX k) => (show (w9.setCell ⟨g, k, none⟩ (.int .i64 x)).ownsRow w.heap.size 3 1 (.slice (some ⟨g, 0, none⟩) (k + 1) cp) (k + 1) (flatN (vk i (k + 1)) (k + 1)) from by
                have z := (HO9.out.stored k (.int .i64 x)).1
                rw [hx] at z ⊢
                rw [HSET.out (k + 1) (by omega), if_pos (by omega)] at z
                exact z))
              have gst := fun x => Gr.setCell g9 (p := ⟨g, k, none⟩) hgb x
              clear hown hgrow hat HO HO9 HSET
              generalize vk i k k = v0 at *
              generalize sX k = xk at *
              have kb2 : (k : Int) < (k : Int) + 1 := by omega
              go_wp2_with fail
              go_roundw
              case rel => exact ⟨k + 1, by omega, by go_num, ⟨_, cp, by rw [HLN.out], by rw [HLN.out]; exact Lib.hid (HST.out _ rfl)⟩, gst _⟩
              case measure => simp [intOf]; omega
            · have HLN2 := Lib.hid (show lk i (k + 1) = lk i k by omega)
              obtain ⟨g, cp, hv, hgb, hglt⟩ := HO.out.form (by omega)
              simp only [Value.slice.injEq] at hv
              obtain ⟨rfl, -, rfl⟩ := hv
              obtain ⟨L, hL⟩ : ∃ z, lk i k = z := ⟨_, rfl⟩
              have HLK := Lib.hid hL
              rw [hL] at HO HLN2 hc lb
              simp only [hL]
              clear hL
              have q0 : wr.cell? ⟨g, k, none⟩ = some (.int .i64 (vk i k k)) := by
                have z := HO.out.cellAt k (by omega)
                rw [flatN_get _ hc] at z; exact z
              have q1 := HO.out.frozenAt k
              have HST := Lib.hid (fun x (hx : x = vk i k k + sX k) => (show (wr.setCell ⟨g, k, none⟩ (.int .i64 x)).ownsRow w.heap.size 3 1 (.slice (some ⟨g, 0, none⟩) L vc) L (flatN (vk i (k + 1)) L) from by
                have z := (HO.out.stored k (.int .i64 x)).1
                rw [hx] at z ⊢
                rw [HSET.out L hc, if_pos hc] at z
                exact z))
              have gst := fun x => Gr.setCell hg (p := ⟨g, k, none⟩) hgb x
              have tz : ((k : Int) == (L : Int)) = false := beq_eq_false_iff_ne.2 (by omega)
              have kL : (k : Int) < (L : Int) := by omega
              clear HO HSET n1 n2 n3 n4 n5 SX HV HKB HK hc
              generalize vk i k k = v0 at *
              generalize sX k = xk at *
              go_wp2_with fail
              go_roundw
              case rel => exact ⟨k + 1, by omega, by go_num, ⟨_, vc, by rw [HLN2.out], by rw [HLN2.out]; exact Lib.hid (HST.out _ rfl)⟩, gst _⟩
              case measure => simp [intOf]; omega
          · obtain rfl : sn = k := by omega
            obtain ⟨y1, y2⟩ := HY.out HNBi.out
            have HYY := Lib.hid (And.intro y1 y2)
            have HAN := Lib.hid (show Ba.any nb (i + 1) = true from by rw [any_succ, HNBi.out, Bool.or_true])
            clear HY y1 y2 SX HV HKB HK
            go_wp2_with fail
            go_roundw
            case rel => exact ⟨i + 1, by omega, by go_num, by rw [HAN.out], ⟨vA, vc, by rw [HYY.out.1], by rw [HYY.out.1, HYY.out.2]; exact HO⟩, hg⟩
            case measure => simp [intOf]; omega
    · obtain rfl : n = i := by omega
      have HB := Lib.hid (fun j => HLB.out n (Nat.le_refl _) j)
      have hln := (HLL.out n (Nat.le_refl _))
      have i64s : ∀ j, j < ln n → Ba.i64 (vl n j) := fun j _ => by
        have z := HB.out j
        have : (n : Int) ≤ 1000 := (by omega)
        unfold Ba.i64
        omega
      obtain ⟨r, hr, r1, r2, r3⟩ := own_slN HO0.out i64s
      simp only [Value.slice.injEq] at hr
      obtain ⟨rfl, -, rfl⟩ := hr
      have HS := Lib.hid (fun W (hh : Gr wr W) => pseries_any r W (r1.gr hh))
      have hvol : Ba.volB r = Ba.allB (fun j => Ba.bet (vl n j) 0 1125899906842624) (ln n) := by
        unfold Ba.volB Ba.wiB
        rw [r2, r3, decide_eq_true (by omega), Bool.true_and]
      rw [hvol, r2] at HS
      have R1 := Lib.hid r1; have R2 := Lib.hid r2; have R3 := Lib.hid r3
      have E1 := Lib.hid hE12.out; have E2 := Lib.hid hE5.out; have E3 := Lib.hid hE0.out
      clear hvol r1 r2 r3 i64s HB HD HR HNB HKK HKB HLY HLN HLB HLL HL0 HA HO0 hE12 hE5 hE0 KI KZ0 KZ1 KZ2
      cases hany : Ba.any nb n
      · have hE := Lib.hid (E1.out hany)
        clear hany
        go_wp2_with fail
        refine bodyPost_ret (by simp [results, Try.results23, go_sem]; try rfl) rfl ?_
        exact ⟨⟨none, 0, 0, 0, 0, fun _ => 0⟩, by rw [hE.out], nil_atz, fun h => absurd (hE.out.symm.trans h) (by decide), fun _ => rfl, hg⟩
      · have E2' := Lib.hid (E2.out hany); have E3' := Lib.hid (E3.out hany)
        clear hany E1 E2 E3
        cases hq : Ba.allB (fun j => Ba.bet (vl n j) 0 1125899906842624) (ln n)
        · rw [hq] at HS
          have hE := Lib.hid (E2'.out hq)
          clear hq
          go_wp2_with fail
          refine (HS.out _ (by exact Gr.refl _)).mono ?_
          rintro e w5 ⟨rfl, hb5⟩
          go_wp2_with fail
          refine bodyPost_ret (by simp [results, Try.results23, go_sem]; try rfl) rfl ?_
          exact ⟨⟨none, 0, 0, 0, 0, fun _ => 0⟩, by rw [hE.out], nil_atz, fun h => absurd (hE.out.symm.trans h) (by decide), fun _ => rfl, hg.trans hb5⟩
        · rw [hq] at HS
          have hE := Lib.hid (E3'.out hq)
          clear hq
          go_wp2_with fail
          refine (HS.out _ (by exact Gr.refl _)).mono ?_
          rintro e w5 ⟨rfl, hb5⟩
          go_wp2_with fail
          refine bodyPost_ret (by simp [results, Try.results23, go_sem]; try rfl) rfl ?_
          exact ⟨r, by rw [hE.out, R2.out], R1.out.gr hb5, fun _ => ⟨R2.out, fun j _ => by rw [R3.out]⟩, fun h => absurd hE.out h, hg.trans hb5⟩

end Go.Proofs.Ytjighhphadfoiaa
namespace Go.Proofs.Ytjighhphadfoiaa
open Go.RowKit
namespace Ba
theorem lnS_le {G : SlInflow} {t : ByteArray} (h : infE G = 0) : ∀ i, i ≤ G.n → lnS G t i ≤ 10000
  | 0, _ => by unfold lnS; omega
  | i + 1, hi => by
    have a := lnS_le (t := t) h i (by omega)
    have b := (inf_vol ((inf_right h).2 i (by omega))).1
    rw [lnS]; split <;> omega
theorem vlS_far {G : SlInflow} {t : ByteArray} : ∀ i j, lnS G t i ≤ j → vlS G t i j = 0
  | 0, _, _ => rfl
  | i + 1, j, hj => by
    rw [lnS] at hj
    rw [vlS]
    split
    · rename_i h
      rw [if_pos h] at hj
      rw [vlS_far i j (by omega), if_neg (by omega)]; rfl
    · rename_i h
      rw [if_neg h] at hj
      exact vlS_far i j hj
theorem vlS_le {G : SlInflow} {t : ByteArray} (h : infE G = 0) : ∀ i, i ≤ G.n → ∀ j, 0 ≤ vlS G t i j ∧ vlS G t i j ≤ 1125899906842624 * (i : Int)
  | 0, _, j => by rw [vlS]; omega
  | i + 1, hi, j => by
    have a := vlS_le (t := t) h i (by omega) j
    have b := (inf_vol ((inf_right h).2 i (by omega))).2 j
    rw [vlS]
    push_cast
    split
    · split
      · have := b (by assumption); omega
      · omega
    · omega
theorem vkS_le {G : SlInflow} {t : ByteArray} (h : infE G = 0) {i : Nat} (hi : i < G.n) {k : Nat} (hk : k ≤ (G.D i).vs.n) (j : Nat) : 0 ≤ vkS G t i k j ∧ vkS G t i k j ≤ 1125899906842624 * ((i : Int) + 1) := by
  have a := vlS_le (t := t) h i (by omega) j
  have b := (inf_vol ((inf_right h).2 i hi)).2 j
  unfold vkS
  split
  · have := b (by omega); omega
  · omega
theorem vkS_parts {G : SlInflow} {t : ByteArray} {i : Nat} : max (lnS G t i) 0 = lnS G t i ∧ vkS G t i 0 = vlS G t i ∧ ∀ k, k < (G.D i).vs.n → max (lnS G t i) (k + 1) = max (max (lnS G t i) k) (k + 1) ∧ k ≤ max (lnS G t i) k ∧ (∀ j, max (lnS G t i) k ≤ j → vkS G t i k j = 0) ∧ vkS G t i (k + 1) k = vkS G t i k k + (G.D i).vs.X k ∧ ∀ j, j ≠ k → vkS G t i (k + 1) j = vkS G t i k j := by
  refine ⟨by omega, funext fun j => by unfold vkS; rw [if_neg (by omega)]; omega, fun k _ => ⟨by omega, by omega, fun j hj => ?_, ?_, fun j hj => ?_⟩⟩
  · unfold vkS; rw [vlS_far i j (by omega), if_neg (by omega)]; rfl
  · unfold vkS; rw [if_pos (by omega), if_neg (by omega)]; omega
  · unfold vkS
    by_cases c : j < k
    · rw [if_pos c, if_pos (by omega)]
    · rw [if_neg c, if_neg (by omega)]
end Ba
set_option maxHeartbeats 1000000 in
theorem psum_any_ (G : Ba.SlInflow) (t : ByteArray) (w : World) (h : G.At w) : Calls Try.prog 23 #[.slice G.A G.n G.c, .string t] w (RetSum G t w) := by
  have HG := Lib.hid (fun W (hh : Gr w W) => inf_any G W (h.gr hh))
  by_cases he : Ba.infE G = 0
  rotate_left
  · have e : Ba.smE G t = Ba.infE G := by unfold Ba.smE; rw [if_neg he]
    refine (psum_e G.A G.n G.c t _ w he HG).mono ?_
    rintro e' w' ⟨rfl, h1⟩
    exact ⟨⟨none, 0, 0, 0, 0, fun _ => 0⟩, by rw [e], nil_atz, fun q => absurd (e ▸ q) he, fun _ => rfl, h1⟩
  rw [he] at HG
  have e : Ba.smE G t = if Ba.any (Ba.nmB G t) G.n = true then if Ba.allB (fun j => Ba.bet (Ba.vlS G t G.n j) 0 1125899906842624) (Ba.lnS G t G.n) = true then 0 else 5 else 12 := by unfold Ba.smE; rw [if_pos he]
  refine (psum_ok G.A G.n G.c G.b G.o G.D t (Ba.nmB G t) (Ba.lnS G t) (Ba.vlS G t) (fun i k => max (Ba.lnS G t i) k) (Ba.vkS G t) w (Ba.inf_right he).1 (Lib.hid h.hA) (Lib.hid h.hD) HG (Lib.hid fun _ => rfl) (Lib.hid rfl)
    (Lib.hid fun i hi => ⟨by rw [Ba.lnS, if_neg (by rw [hi]; decide)], funext fun j => by rw [Ba.vlS, if_neg (by rw [hi]; decide)]⟩) (Lib.hid fun i _ hi => ⟨by rw [Ba.lnS, if_pos hi], funext fun j => by rw [Ba.vlS, if_pos hi]; rfl⟩) (Lib.hid (Ba.inf_right he).2)
    (Lib.hid fun i _ => Ba.vkS_parts) (Lib.hid fun i hi k hk => ⟨by have := Ba.lnS_le (t := t) he i (by omega); have := (Ba.inf_vol ((Ba.inf_right he).2 i hi)).1; omega, fun j => Ba.vkS_le he hi hk j⟩) (Lib.hid (Ba.vlS_le he)) (Lib.hid (Ba.lnS_le he)) (Ba.smE G t)
    (Lib.hid fun q => by rw [e, if_neg (by rw [q]; decide)]) (Lib.hid fun q r => by rw [e, if_pos q, if_neg (by rw [r]; decide)]) (Lib.hid fun q r => by rw [e, if_pos q, if_pos r])).mono fun e' w' z => z
end Go.Proofs.Ytjighhphadfoiaa
namespace Go.Proofs.Ytjighhphadfoiaa
open Go.RowKit
attribute [local go_sem ↓] Go.wp_at_zero Go.wp_at_succ
set_option maxRecDepth 100000 in
set_option maxHeartbeats 4000000 in
theorem rsm_e (A : Option Addr) (n c : Nat) (t : ByteArray) (ec : Int) (w : World) (hec : ec ≠ 0) (HG : Hid (∀ W, Gr w W → Calls Try.prog 55 #[.slice A n c] W fun e w' => e = .returned (.int .i64 ec) ∧ Gr W w')) : Calls Try.prog 26 #[.slice A n c, .string t] w fun e w' => e = .returned (.tuple #[.slice none 0 0, .int .i64 ec]) ∧ Gr w w' := by
  have t0 : (ec != 0) = true := bne_iff_ne.2 hec
  clear hec
  go_enter Try.func26, Try.ntmps26
  go_wp2_with fail
  refine (HG.out _ gr_auto).mono ?_
  rintro e w1 ⟨rfl, hb1⟩
  go_wp2_with fail
  refine bodyPost_ret (by simp [results, Try.results26, go_sem]; try rfl) rfl ?_
  exact ⟨rfl, gr_auto⟩

set_option maxRecDepth 100000 in
set_option maxHeartbeats 4000000 in
theorem rsm_ok (A : Option Addr) (n c b o : Nat) (D : Nat → Ba.Inflow) (t : ByteArray) (nb : Nat → Bool) (ln : Nat → Nat) (vl : Nat → Nat → Int) (lk : Nat → Nat → Nat) (vk : Nat → Nat → Nat → Int) (w : World) (hm : n ≤ 1000) (HA : Hid (0 < n → A = some ⟨b, o, none⟩)) (HD : Hid (∀ i, i < n → (D i).Cells w b (o + i * 2) ∧ (D i).Ok w)) (HG : Hid (∀ W, Gr w W → Calls Try.prog 55 #[.slice A n c] W fun e w' => e = .returned (.int .i64 0) ∧ Gr W w'))
    (HNB : Hid (∀ i, nb i = ((D i).nm.toList == t.toList))) (HL0 : Hid (ln 0 = 0)) (HLN : Hid (∀ i, nb i = false → ln (i + 1) = ln i ∧ vl (i + 1) = vl i)) (HLY : Hid (∀ i, i < n → nb i = true → ln (i + 1) = lk i (D i).vs.n ∧ vl (i + 1) = vk i (D i).vs.n)) (HR : Hid (∀ i, i < n → Ba.infB (D i) = true))
    (HKK : Hid (∀ i, i < n → lk i 0 = ln i ∧ vk i 0 = vl i ∧ ∀ k, k < (D i).vs.n → lk i (k + 1) = max (lk i k) (k + 1) ∧ k ≤ lk i k ∧ (∀ j, lk i k ≤ j → vk i k j = 0) ∧ vk i (k + 1) k = vk i k k + (D i).vs.X k ∧ ∀ j, j ≠ k → vk i (k + 1) j = vk i k j)) (HKB : Hid (∀ i, i < n → ∀ k, k ≤ (D i).vs.n → lk i k ≤ 10000 ∧ ∀ j, 0 ≤ vk i k j ∧ vk i k j ≤ 1125899906842624 * (i + 1)))
    (bg : Nat → Bool) (BG : Nat → Nat → Bool) (HG0 : Hid (bg 0 = false)) (HGN : Hid (∀ i, nb i = false → bg (i + 1) = bg i)) (HGY : Hid (∀ i, i < n → nb i = true → bg (i + 1) = BG i (D i).vs.n)) (HGK : Hid (∀ i, i < n → BG i 0 = bg i ∧ ∀ k, k < (D i).vs.n → BG i (k + 1) = (BG i k || decide ((1125899906842624 : Int) < vk i (k + 1) k)))) (HGF : Hid (bg n = !Ba.allB (fun j => Ba.bet (vl n j) 0 1125899906842624) (ln n))) (HLB : Hid (∀ i, i ≤ n → ∀ j, 0 ≤ vl i j ∧ vl i j ≤ 1125899906842624 * i)) (HLL : Hid (∀ i, i ≤ n → ln i ≤ 10000)) (E : Int) (hE12 : Hid (Ba.any nb n = false → E = 12)) (hE5 : Hid (Ba.any nb n = true → Ba.allB (fun j => Ba.bet (vl n j) 0 1125899906842624) (ln n) = false → E = 5)) (hE0 : Hid (Ba.any nb n = true → Ba.allB (fun j => Ba.bet (vl n j) 0 1125899906842624) (ln n) = true → E = 0)) : Calls Try.prog 26 #[.slice A n c, .string t] w (SumP E (ln n) (vl n) w) := by
  obtain ⟨i1, hi0, hz0, hz1, hz2⟩ := info_parts info_int
  have KI := Lib.hid hi0; have KZ0 := Lib.hid hz0; have KZ1 := Lib.hid hz1; have KZ2 := Lib.hid hz2
  clear hi0 hz0 hz1 hz2
  go_enter Try.func26, Try.ntmps26
  go_wp2_with fail
  refine (HG.out _ gr_auto).mono ?_
  rintro e w1 ⟨rfl, hb1⟩
  clear HG
  go_wp2_with fail
  go_loopw [7, 8, 9, 10] (fun va vs vg x wr => ∃ i : Nat, i ≤ n ∧ x = .int .i64 (i : Int) ∧ vs = .bool (Ba.any nb i) ∧ vg = .bool (bg i) ∧ (∃ (vA : Option Addr) (vc : Nat), va = .slice vA (ln i) vc ∧ Hid (wr.ownsRow w.heap.size 3 1 (.slice vA (ln i) vc) (ln i) (flatN (vl i) (ln i)))) ∧ Gr w wr) (fun _ _ _ x _ => n - (intOf x).toNat)
  case atStart => exact ⟨0, Nat.zero_le _, rfl, rfl, by rw [HG0.out], ⟨none, 0, by rw [HL0.out], Lib.hid (by rw [HL0.out]; exact ⟨rfl, Or.inl ⟨rfl, rfl⟩⟩)⟩, hb1⟩
  case round =>
    clear hb1
    obtain ⟨i, hi, rfl, rfl, rfl, ⟨vA0, vc0, rfl, HO0⟩, hg⟩ := hrel
    by_cases hlt : i < n
    · obtain rfl := HA.out (by omega)
      obtain ⟨c0, c1⟩ := (HD.out i hlt).1.gr hg
      have hvs := (HD.out i hlt).2.2
      have hR := HR.out i hlt
      have hvm := (Ba.inf_vol hR).1
      have ib0 : (0 : Int) ≤ (i : Int) := by omega
      have ib1 : (i : Int) < (n : Int) := by omega
      have SA := Lib.hid hvs.hA; have SX := Lib.hid (fun k (hk : k < (D i).vs.n) => (hvs.hX k hk).1)
      have HV := Lib.hid (Ba.inf_vol hR).2
      have hN := HNB.out i
      have HK := Lib.hid (HKK.out i hlt); have HKBi := Lib.hid (HKB.out i hlt); have HY := Lib.hid (HLY.out i hlt); have HF := Lib.hid (HLN.out i); have HGk := Lib.hid (HGK.out i hlt); have HGy := Lib.hid (HGY.out i hlt); have HGn := Lib.hid (HGN.out i)
      have sc1 := hvs.hc; have sc2 := hvs.hb
      have c1w := (HD.out i hlt).1.2
      clear hvs hR HD HR HNB HKK HKB HLY HLN HGK HGY HGN
      have HKB := HKBi
      clear HKBi
      generalize D i = dd at *
      obtain ⟨nm, ⟨sA, sn, sc, sb, so, sX⟩⟩ := dd
      simp only at *
      have SX0 := SX
      cases hp : nb i
      · rw [hp] at hN
        replace hN := hN.symm
        obtain ⟨y1, y2⟩ := HF.out hp
        have HGE := Lib.hid (HGn.out hp)
        have HYY := Lib.hid (And.intro y1 y2)
        have HAN := Lib.hid (show Ba.any nb (i + 1) = Ba.any nb i from by rw [any_succ, hp, Bool.or_false])
        clear HF HY HK HKB SX SX0 HV y1 y2 HGk HGy HGn
        go_wp2_with fail
        go_roundw
        case rel => exact ⟨i + 1, by omega, by go_num, by rw [HAN.out], by rw [HGE.out], ⟨vA0, vc0, by rw [HYY.out.1], by rw [HYY.out.1, HYY.out.2]; exact Lib.hid (ownsRow_gr HO0.out gr_auto)⟩, by exact gr_auto⟩
        case measure => simp [intOf]; omega
      · have HNBi := Lib.hid hp
        rw [hp] at hN
        replace hN := hN.symm
        clear HF
        go_wp2_with fail
        go_loopw [7, 9, 11] (fun va vg x wz => ∃ k : Nat, k ≤ sn ∧ x = .int .i64 (k : Int) ∧ vg = .bool (BG i k) ∧ (∃ (vA : Option Addr) (vc : Nat), va = .slice vA (lk i k) vc ∧ Hid (wz.ownsRow w.heap.size 3 1 (.slice vA (lk i k) vc) (lk i k) (flatN (vk i k) (lk i k)))) ∧ Gr w wz) (fun _ _ x _ => sn - (intOf x).toNat)
        case atStart => exact ⟨0, Nat.zero_le _, rfl, by rw [HGk.out.1], ⟨vA0, vc0, by rw [HK.out.1], by rw [HK.out.1, HK.out.2.1]; exact Lib.hid (ownsRow_gr HO0.out gr_auto)⟩, by exact gr_auto⟩
        case round =>
          clear HO0 hg c0 c1
          rename_i wq _ _ _
          obtain ⟨k, hk, rfl, rfl, ⟨vA, vc, rfl, HO⟩, hg⟩ := hrel
          have c1k := Gr.at hg c1w
          by_cases hkn : k < sn
          · obtain rfl := SA.out (by omega)
            have b0 := Gr.at hg (SX.out k hkn)
            have xb := HV.out k hkn
            have kb0 : (0 : Int) ≤ (k : Int) := by omega
            have kb1 : (k : Int) < (sn : Int) := by omega
            obtain ⟨n1, n2, n3, n4, n5⟩ := HK.out.2.2 k hkn
            have HBK := Lib.hid (show BG i (k + 1) = (BG i k || decide ((1125899906842624 : Int) < vk i k k + sX k)) from by rw [← n4]; exact HGk.out.2 k hkn)
            obtain ⟨bk, hbk⟩ : ∃ z, BG i k = z := ⟨_, rfl⟩
            rw [hbk] at HBK
            simp only [hbk]
            clear hbk
            have vb := (HKB.out k (by omega)).2 k; have lb := (HKB.out k (by omega)).1
            have HSET := Lib.hid (fun L (hL : k < L) => flatN_set (vk i k) (vk i (k + 1)) k (vk i k k + sX k) n4 n5 L)
            rcases (by omega : k = lk i k ∨ k < lk i k) with hc | hc
            · have HLN := Lib.hid (show lk i (k + 1) = k + 1 by omega)
              have HVZ := Lib.hid (show vk i k k = 0 from n3 k (by omega))
              have HOk := Lib.hid (show wr.ownsRow w.heap.size 3 1 (.slice vA k vc) k (flatN (vk i k) k) from by have z := HO.out; rw [← hc] at z; exact z)
              rw [← hc]
              have kkb : k ≤ 10000 := by omega
              clear HO hc n1 n2 n3 n4 n5 SX HV HKB HK
              have HO := HOk
              clear HOk
              go_wp2_with (at_builtin; refine wpList_append_lies _ (by rfl) _ _ 23 (by rfl) w.heap.size 3 i1 (.int .i64 0) 1 8 Try.underlying23 KI.out KZ0.out KZ1.out KZ2.out rfl (by decide) (.slice vA k vc) k (flatN (vk i k) k) (by rfl) (ownsRow_gr HO.out (by exact gr_auto)) ⟨wr.heap.size, 0, none⟩ 1 1 [.int .i64 0] (by rfl) rfl (by intro p u hp; rcases p with _ | p <;> simp at hp; subst hp; simp [Addr.add, go_sem]) (by intro u hu; simp at hu; subst hu; rfl) (by omega) (by unfold maxLen; omega) (by omega) (by have := Gr.size hg; simp; omega) _ rfl ?_)
              intro g cp w9 hown hgrow hat hlt9
              have g9 : Gr w w9 := Gr.own (show Gr w _ from gr_auto) (Nat.le_refl _) (ownsRow_gr HO.out gr_auto) hgrow
              have HO9 := Lib.hid (show w9.ownsRow w.heap.size 3 1 (.slice (some ⟨g, 0, none⟩) (k + 1) cp) (k + 1) (flatN (vk i k) (k + 1)) from by rw [flatN, HVZ.out]; exact hown)
              have q0 : w9.cell? ⟨g, k, none⟩ = some (.int .i64 (vk i k k)) := by
                have z := HO9.out.cellAt k (by omega)
                rw [flatN_get _ (Nat.lt_succ_self k)] at z; exact z
              have q1 := HO9.out.frozenAt k
              have hgb : w.heap.size ≤ g := (HO9.out.lt g rfl).1
              have b9 := Gr.at g9 (SX0.out k hkn)
              have HST := Lib.hid (fun x (hx : x = vk i k k + sX k) => (show (w9.setCell ⟨g, k, none⟩ (.int .i64 x)).drew.ownsRow w.heap.size 3 1 (.slice (some ⟨g, 0, none⟩) (k + 1) cp) (k + 1) (flatN (vk i (k + 1)) (k + 1)) from by
                have z := (HO9.out.stored k (.int .i64 x)).1
                rw [hx] at z ⊢
                rw [HSET.out (k + 1) (by omega), if_pos (by omega)] at z
                exact z))
              have gst := fun x => Gr.drew (Gr.setCell g9 (p := ⟨g, k, none⟩) hgb x)
              have c19 := Gr.at g9 c1w
              have qn := fun x => Gr.at (Gr.drew (Gr.refl (w9.setCell ⟨g, k, none⟩ x))) (Own.set (u := x) ⟨q0, q1⟩).1
              clear hown hgrow hat HO HO9 HSET
              generalize vk i k k = v0 at *
              generalize sX k = xk at *
              have kb2 : (k : Int) < (k : Int) + 1 := by omega
              go_wp2_with fail
              refine wp_region_tail 16 (by kernel_rfl) (by kernel_rfl) ?_
              simp only [List.take_succ_cons, List.take_zero, List.drop_succ_cons, List.drop_zero]
              repeat (go_big_quiet_step (skip))
              refine wpQuiet_nil ?_
              have vb2 : 0 ≤ v0 + xk ∧ v0 + xk ≤ 9223372036854775807 := by omega
              cases bk
              · cases hd : decide ((1125899906842624 : Int) < v0 + xk)
                all_goals
                  have HBK2 := Lib.hid (HBK.out.trans (by rw [hd]))
                  go_wp2_with fail
                  go_roundw
                  case rel => exact ⟨k + 1, by omega, by go_num, by (rw [HBK2.out]; rfl), ⟨_, cp, by rw [HLN.out], by rw [HLN.out]; exact Lib.hid (HST.out _ rfl)⟩, gst _⟩
                  case measure => simp [intOf]; omega
              · have HBK2 := Lib.hid (HBK.out.trans (show (true || _) = true from rfl))
                go_wp2_with fail
                go_roundw
                case rel => exact ⟨k + 1, by omega, by go_num, by first | (rw [HBK2.out]; done) | (rw [HBK2.out]; rfl), ⟨_, cp, by rw [HLN.out], by rw [HLN.out]; exact Lib.hid (HST.out _ rfl)⟩, gst _⟩
                case measure => simp [intOf]; omega
            · have HLN2 := Lib.hid (show lk i (k + 1) = lk i k by omega)
              obtain ⟨g, cp, hv, hgb, hglt⟩ := HO.out.form (by omega)
              simp only [Value.slice.injEq] at hv
              obtain ⟨rfl, -, rfl⟩ := hv
              obtain ⟨L, hL⟩ : ∃ z, lk i k = z := ⟨_, rfl⟩
              have HLK := Lib.hid hL
              rw [hL] at HO HLN2 hc lb
              simp only [hL]
              clear hL
              have q0 : wr.cell? ⟨g, k, none⟩ = some (.int .i64 (vk i k k)) := by
                have z := HO.out.cellAt k (by omega)
                rw [flatN_get _ hc] at z; exact z
              have q1 := HO.out.frozenAt k
              have HST := Lib.hid (fun x (hx : x = vk i k k + sX k) => (show (wr.setCell ⟨g, k, none⟩ (.int .i64 x)).drew.ownsRow w.heap.size 3 1 (.slice (some ⟨g, 0, none⟩) L vc) L (flatN (vk i (k + 1)) L) from by
                have z := (HO.out.stored k (.int .i64 x)).1
                rw [hx] at z ⊢
                rw [HSET.out L hc, if_pos hc] at z
                exact z))
              have gst := fun x => Gr.drew (Gr.setCell hg (p := ⟨g, k, none⟩) hgb x)
              have qn := fun x => Gr.at (Gr.drew (Gr.refl (wr.setCell ⟨g, k, none⟩ x))) (Own.set (u := x) ⟨q0, q1⟩).1
              have tz : ((k : Int) == (L : Int)) = false := beq_eq_false_iff_ne.2 (by omega)
              have kL : (k : Int) < (L : Int) := by omega
              clear HO HSET n1 n2 n3 n4 n5 SX HV HKB HK hc
              generalize vk i k k = v0 at *
              generalize sX k = xk at *
              go_wp2_with fail
              refine wp_region_tail 16 (by kernel_rfl) (by kernel_rfl) ?_
              simp only [List.take_succ_cons, List.take_zero, List.drop_succ_cons, List.drop_zero]
              repeat (go_big_quiet_step (skip))
              refine wpQuiet_nil ?_
              have vb2 : 0 ≤ v0 + xk ∧ v0 + xk ≤ 9223372036854775807 := by omega
              cases bk
              · cases hd : decide ((1125899906842624 : Int) < v0 + xk)
                all_goals
                  have HBK2 := Lib.hid (HBK.out.trans (by rw [hd]))
                  go_wp2_with fail
                  go_roundw
                  case rel => exact ⟨k + 1, by omega, by go_num, by (rw [HBK2.out]; rfl), ⟨_, vc, by rw [HLN2.out], by rw [HLN2.out]; exact Lib.hid (HST.out _ rfl)⟩, gst _⟩
                  case measure => simp [intOf]; omega
              · have HBK2 := Lib.hid (HBK.out.trans (show (true || _) = true from rfl))
                go_wp2_with fail
                go_roundw
                case rel => exact ⟨k + 1, by omega, by go_num, by first | (rw [HBK2.out]; done) | (rw [HBK2.out]; rfl), ⟨_, vc, by rw [HLN2.out], by rw [HLN2.out]; exact Lib.hid (HST.out _ rfl)⟩, gst _⟩
                case measure => simp [intOf]; omega
          · obtain rfl : sn = k := by omega
            obtain ⟨y1, y2⟩ := HY.out HNBi.out
            have HYY := Lib.hid (And.intro y1 y2)
            have HAN := Lib.hid (show Ba.any nb (i + 1) = true from by rw [any_succ, HNBi.out, Bool.or_true])
            have HGE := Lib.hid (HGy.out HNBi.out)
            clear HY y1 y2 SX HV HKB HK
            go_wp2_with fail
            go_roundw
            case rel => exact ⟨i + 1, by omega, by go_num, by rw [HAN.out], by rw [HGE.out], ⟨vA, vc, by rw [HYY.out.1], by rw [HYY.out.1, HYY.out.2]; exact HO⟩, hg⟩
            case measure => simp [intOf]; omega
    · obtain rfl : n = i := by omega
      have HB := Lib.hid (fun j => HLB.out n (Nat.le_refl _) j)
      have hln := (HLL.out n (Nat.le_refl _))
      have i64s : ∀ j, j < ln n → Ba.i64 (vl n j) := fun j _ => by
        have z := HB.out j
        have : (n : Int) ≤ 1000 := (by omega)
        unfold Ba.i64
        omega
      obtain ⟨r, hr, r1, r2, r3⟩ := own_slN HO0.out i64s
      simp only [Value.slice.injEq] at hr
      obtain ⟨rfl, -, rfl⟩ := hr
      have R1 := Lib.hid r1; have R2 := Lib.hid r2; have R3 := Lib.hid r3
      have E1 := Lib.hid hE12.out; have E2 := Lib.hid hE5.out; have E3 := Lib.hid hE0.out
      have HGf := HGF.out
      clear r1 r2 r3 i64s HG0 HGN HGY HGK HGF HB HD HR HNB HKK HKB HLY HLN HLB HLL HL0 HA HO0 hE12 hE5 hE0 KI KZ0 KZ1 KZ2
      cases hany : Ba.any nb n
      · have hE := Lib.hid (E1.out hany)
        clear hany
        go_wp2_with fail
        refine bodyPost_ret (by simp [results, Try.results26, go_sem]; try rfl) rfl ?_
        exact ⟨⟨none, 0, 0, 0, 0, fun _ => 0⟩, by rw [hE.out], nil_atz, fun h => absurd (hE.out.symm.trans h) (by decide), fun _ => rfl, hg⟩
      · have E2' := Lib.hid (E2.out hany); have E3' := Lib.hid (E3.out hany)
        clear hany E1 E2 E3
        cases hq : Ba.allB (fun j => Ba.bet (vl n j) 0 1125899906842624) (ln n)
        · have hE := Lib.hid (E2'.out hq)
          rw [hq] at HGf
          simp only [Bool.not_false] at HGf
          clear hq
          simp only [HGf]
          clear HGf
          go_wp2_with fail
          refine bodyPost_ret (by simp [results, Try.results26, go_sem]; try rfl) rfl ?_
          exact ⟨⟨none, 0, 0, 0, 0, fun _ => 0⟩, by rw [hE.out], nil_atz, fun h => absurd (hE.out.symm.trans h) (by decide), fun _ => rfl, hg⟩
        · have hE := Lib.hid (E3'.out hq)
          rw [hq] at HGf
          simp only [Bool.not_true] at HGf
          clear hq
          simp only [HGf]
          clear HGf
          go_wp2_with fail
          refine bodyPost_ret (by simp [results, Try.results26, go_sem]; try rfl) rfl ?_
          exact ⟨r, by rw [hE.out, R2.out], R1.out, fun _ => ⟨R2.out, fun j _ => by rw [R3.out]⟩, fun h => absurd hE.out h, hg⟩

end Go.Proofs.Ytjighhphadfoiaa
namespace Go.Proofs.Ytjighhphadfoiaa
open Go.RowKit
namespace Ba
/-- Is one of the sums too great? -/
def bgS (G : SlInflow) (t : ByteArray) (i : Nat) : Bool := any (fun j => decide ((1125899906842624 : Int) < vlS G t i j)) (lnS G t i)
def bkS (G : SlInflow) (t : ByteArray) (i k : Nat) : Bool := any (fun j => decide ((1125899906842624 : Int) < vkS G t i k j)) (max (lnS G t i) k)
theorem bgS_no {G : SlInflow} {t : ByteArray} {i : Nat} (h : nmB G t i = false) : bgS G t (i + 1) = bgS G t i := by
  have e : vlS G t (i + 1) = vlS G t i := funext fun j => by rw [vlS, if_neg (by rw [h]; decide)]
  unfold bgS
  rw [lnS, if_neg (by rw [h]; decide), e]
theorem bgS_yes {G : SlInflow} {t : ByteArray} {i : Nat} (h : nmB G t i = true) : bgS G t (i + 1) = bkS G t i (G.D i).vs.n := by
  have e : vlS G t (i + 1) = vkS G t i (G.D i).vs.n := funext fun j => by rw [vlS, if_pos h]; rfl
  unfold bgS bkS
  rw [lnS, if_pos h, e]
theorem bkS_zero {G : SlInflow} {t : ByteArray} {i : Nat} : bkS G t i 0 = bgS G t i := by
  unfold bkS bgS
  rw [vkS_parts.1, vkS_parts.2.1]
theorem bkS_next {G : SlInflow} {t : ByteArray} (he : infE G = 0) {i : Nat} (hi : i < G.n) {k : Nat} (hk : k < (G.D i).vs.n) : bkS G t i (k + 1) = (bkS G t i k || decide ((1125899906842624 : Int) < vkS G t i (k + 1) k)) := by
  obtain ⟨-, -, h⟩ := vkS_parts (G := G) (t := t) (i := i)
  obtain ⟨h1, h2, h3, h4, h5⟩ := h k hk
  have hx := ((inf_vol ((inf_right he).2 i hi)).2 k hk).1
  unfold bkS
  rw [Bool.eq_iff_iff, Bool.or_eq_true, any_iff, any_iff]
  constructor
  · rintro ⟨j, hj, hb⟩
    by_cases e : j = k
    · subst e; exact .inr hb
    · rw [h5 j e] at hb
      exact .inl ⟨j, by omega, hb⟩
  · rintro (⟨j, hj, hb⟩ | hb)
    · refine ⟨j, by omega, ?_⟩
      by_cases e : j = k
      · subst e
        rw [decide_eq_true_eq] at hb ⊢
        rw [h4]; omega
      · rw [h5 j e]; exact hb
    · exact ⟨k, by omega, hb⟩
theorem bgS_all {G : SlInflow} {t : ByteArray} (he : infE G = 0) : bgS G t G.n = !allB (fun j => bet (vlS G t G.n j) 0 1125899906842624) (lnS G t G.n) := by
  have e : (fun j => decide ((1125899906842624 : Int) < vlS G t G.n j)) = fun j => !bet (vlS G t G.n j) 0 1125899906842624 := funext fun j => by
    have z := (vlS_le (t := t) he G.n (Nat.le_refl _) j).1
    cases hb : bet (vlS G t G.n j) 0 1125899906842624
    · rw [Bool.not_false]
      exact decide_eq_true (by
        rcases Int.lt_or_le 1125899906842624 (vlS G t G.n j) with q | q
        · exact q
        · rw [(bet_iff _ _ _).2 ⟨z, q⟩] at hb; cases hb)
    · rw [Bool.not_true]
      have y := (bet_iff _ _ _).1 hb
      exact decide_eq_false (by omega)
  unfold bgS
  rw [e, ← any_not, Bool.not_not]
end Ba
set_option maxHeartbeats 1000000 in
theorem rsm_any (G : Ba.SlInflow) (t : ByteArray) (w : World) (h : G.At w) : Calls Try.prog 26 #[.slice G.A G.n G.c, .string t] w (RetSum G t w) := by
  have HG := Lib.hid (fun W (hh : Gr w W) => rinf_any G W (h.gr hh))
  by_cases he : Ba.infE G = 0
  rotate_left
  · have e : Ba.smE G t = Ba.infE G := by unfold Ba.smE; rw [if_neg he]
    refine (rsm_e G.A G.n G.c t _ w he HG).mono ?_
    rintro e' w' ⟨rfl, h1⟩
    exact ⟨⟨none, 0, 0, 0, 0, fun _ => 0⟩, by rw [e], nil_atz, fun q => absurd (e ▸ q) he, fun _ => rfl, h1⟩
  rw [he] at HG
  have e : Ba.smE G t = if Ba.any (Ba.nmB G t) G.n = true then if Ba.allB (fun j => Ba.bet (Ba.vlS G t G.n j) 0 1125899906842624) (Ba.lnS G t G.n) = true then 0 else 5 else 12 := by unfold Ba.smE; rw [if_pos he]
  refine (rsm_ok G.A G.n G.c G.b G.o G.D t (Ba.nmB G t) (Ba.lnS G t) (Ba.vlS G t) (fun i k => max (Ba.lnS G t i) k) (Ba.vkS G t) w (Ba.inf_right he).1 (Lib.hid h.hA) (Lib.hid h.hD) HG (Lib.hid fun _ => rfl) (Lib.hid rfl)
    (Lib.hid fun i hi => ⟨by rw [Ba.lnS, if_neg (by rw [hi]; decide)], funext fun j => by rw [Ba.vlS, if_neg (by rw [hi]; decide)]⟩) (Lib.hid fun i _ hi => ⟨by rw [Ba.lnS, if_pos hi], funext fun j => by rw [Ba.vlS, if_pos hi]; rfl⟩) (Lib.hid (Ba.inf_right he).2)
    (Lib.hid fun i _ => Ba.vkS_parts) (Lib.hid fun i hi k hk => ⟨by have := Ba.lnS_le (t := t) he i (by omega); have := (Ba.inf_vol ((Ba.inf_right he).2 i hi)).1; omega, fun j => Ba.vkS_le he hi hk j⟩) (Ba.bgS G t) (Ba.bkS G t) (Lib.hid rfl) (Lib.hid fun i hi => Ba.bgS_no hi) (Lib.hid fun i _ hi => Ba.bgS_yes hi) (Lib.hid fun i hi => ⟨Ba.bkS_zero, fun k hk => Ba.bkS_next he hi hk⟩) (Lib.hid (Ba.bgS_all he)) (Lib.hid (Ba.vlS_le he)) (Lib.hid (Ba.lnS_le he)) (Ba.smE G t)
    (Lib.hid fun q => by rw [e, if_neg (by rw [q]; decide)]) (Lib.hid fun q r => by rw [e, if_pos q, if_neg (by rw [r]; decide)]) (Lib.hid fun q r => by rw [e, if_pos q, if_pos r])).mono fun e' w' z => z
end Go.Proofs.Ytjighhphadfoiaa
