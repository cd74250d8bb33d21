/-
  Areal: the reference's Mean; Mean in all ways. (Printed by mkq.py.)
-/
import Derived.Test.YtnfjebfmfjpepaaArO
import Derived.Test.YtnfjebfmfjpepaaArP
import Derived.Deep.RegionWith
set_option linter.unusedVariables false
set_option linter.unusedSimpArgs false
namespace Go.Proofs.Ytnfjebfmfjpepaa
open Go.RowKit
attribute [local go_sem ↓] Go.wp_at_zero Go.wp_at_succ
theorem mn_any (S : Ba.SlSer) (u : Ba.SlI) (w : World) (hS : S.At w) (hu : u.At w) : Calls Try.prog 23 #[.slice S.A S.n S.c, .slice u.A u.n u.c] w (RetMn S u w) := by
  have nil : ∀ (E : Int) (w' : World), E ≠ 0 → Ba.mnE S u = E → Gr w w' → RetMn S u w (.returned (.tuple #[.agg #[.int .i64 0, .int .i64 0, .slice none 0 0], .int .i64 E])) w' := fun E w' hE he hg => ⟨⟨0, 0, ⟨none, 0, 0, 0, 0, fun _ => 0⟩⟩, by rw [he]; rfl, nil_ser, fun h => absurd (he.symm.trans h) hE, fun _ => ⟨rfl, rfl, rfl⟩, hg⟩
  by_cases hg0 : Ba.giE S = 0
  rotate_left
  · refine (mn_no1 S u w hS hu hg0).mono fun e' w' ⟨h1, h2⟩ => ?_
    subst h1
    exact nil _ w' hg0 (by unfold Ba.mnE; rw [if_neg hg0]) h2
  by_cases hn : u.n = S.n
  rotate_left
  · refine (mn_no2 S u w hS hu hg0 hn).mono fun e' w' ⟨h1, h2⟩ => ?_
    subst h1
    exact nil 3 w' (by decide) (by unfold Ba.mnE; rw [if_pos hg0, if_neg hn]) h2
  cases hw : Ba.wtB u
  · refine (mn_no3 S u w hS hu hg0 hn hw).mono fun e' w' ⟨h1, h2⟩ => ?_
    subst h1
    exact nil 2 w' (by decide) (by unfold Ba.mnE; rw [if_pos hg0, if_pos hn, hw]; rfl) h2
  cases hf : Ba.fitB S
  · refine (mn_no4 S u w hS hu hg0 hn hw hf).mono fun e' w' ⟨h1, h2⟩ => ?_
    subst h1
    exact nil 25 w' (by decide) (by unfold Ba.mnE; rw [if_pos hg0, if_pos hn, hw, if_pos rfl, hf]; rfl) h2
  have e : Ba.mnE S u = 0 := by unfold Ba.mnE; rw [if_pos hg0, if_pos hn, if_pos hw, if_pos hf]
  obtain ⟨n1, n2, hv⟩ := Ba.gi_parts hg0
  have fb := Ba.fr_bd hv n1 S.n (Nat.le_refl _)
  have s0 := (Ba.ser_nums (hv 0 n1)).2.1
  have c0 := (Ba.cm_bd hg0 hf).1
  refine (mn_ok S u w hS hu hg0 hn hw hf).mono fun e' w' ⟨r, h1, h2, h3, h4, h5⟩ => ⟨⟨Ba.frI S S.n, (S.D 0).st, r⟩, by rw [h1, e]; rfl, ⟨by show Ba.i64 (Ba.frI S S.n); unfold Ba.i64; omega, by show Ba.i64 (S.D 0).st; unfold Ba.i64; omega, h2⟩, fun _ => ⟨rfl, rfl, by show r.n = _; omega, fun k hk => h4 k (by have : k < r.n := hk; omega)⟩, fun h => absurd e h, h5⟩

set_option maxRecDepth 100000 in
set_option maxHeartbeats 8000000 in
theorem rmn_no1 (S : Ba.SlSer) (u : Ba.SlI) (w : World) (hS : S.At w) (hu : u.At w) (hg0 : Ba.giE S ≠ 0) : Calls Try.prog 25 #[.slice S.A S.n S.c, .slice u.A u.n u.c] w (fun e w' => e = .returned (.tuple #[.agg #[.int .i64 0, .int .i64 0, .slice none 0 0], .int .i64 (Ba.giE S)]) ∧ Gr w w') := by
  have hm := Nat.le_trans hS.hc hS.hb; have hm2 := Nat.le_trans hu.hc hu.hb
  have HG := Lib.hid (fun W (hh : Gr w W) => rgiv_any S W (hS.gr hh))
  clear hS hu
  generalize Ba.giE S = E at *
  have t0 : (E != 0) = true := bne_iff_ne.2 hg0
  clear hg0
  generalize S.A = A at *; generalize S.n = n at *; generalize S.c = c at *; generalize u.A = uA at *; generalize u.n = un at *; generalize u.c = uc at *
  go_enter Try.func25, Try.ntmps25
  go_wp2_with fail
  refine (show (∀ W, W = _ → Calls _ _ _ W _) → Calls _ _ _ _ _ from fun h => h _ rfl) ?_
  intro W1 hW1
  have g1 : Gr w W1 := by rw [hW1]; exact gr_auto
  have k0 : Own W1 w.heap.size 0 (.int .i64 0) := by rw [hW1]; exact ⟨by simp [go_sem], by simp [go_sem]⟩
  have k1 : Own W1 w.heap.size 1 (.int .i64 0) := by rw [hW1]; exact ⟨by simp [go_sem], by simp [go_sem]⟩
  have k2 : Own W1 w.heap.size 2 (.slice none 0 0) := by rw [hW1]; exact ⟨by simp [go_sem], by simp [go_sem]⟩
  clear hW1
  refine (HG.out _ g1).mono ?_
  rintro e w2 ⟨rfl, hb2⟩
  have g2 := g1.trans hb2
  replace k0 := k0.gr hb2; replace k1 := k1.gr hb2; replace k2 := k2.gr hb2
  clear HG
  obtain ⟨x0, f0⟩ := k0; obtain ⟨x1, f1⟩ := k1; obtain ⟨x2, f2⟩ := k2
  go_wp2_with fail
  refine bodyPost_ret (by simp [results, Try.results25, go_sem, x0, x1, x2, f0, f1, f2]; try rfl) rfl ?_
  exact ⟨rfl, gr_auto⟩

set_option maxRecDepth 100000 in
set_option maxHeartbeats 8000000 in
theorem rmn_no2 (S : Ba.SlSer) (u : Ba.SlI) (w : World) (hS : S.At w) (hu : u.At w) (hg0 : Ba.giE S = 0) (hn : u.n ≠ S.n) : Calls Try.prog 25 #[.slice S.A S.n S.c, .slice u.A u.n u.c] w (fun e w' => e = .returned (.tuple #[.agg #[.int .i64 0, .int .i64 0, .slice none 0 0], .int .i64 3]) ∧ Gr w w') := by
  have hm := Nat.le_trans hS.hc hS.hb; have hm2 := Nat.le_trans hu.hc hu.hb
  have HG := Lib.hid (fun W (hh : Gr w W) => rgiv_any S W (hS.gr hh))
  rw [hg0] at HG
  have t0 : ((u.n : Int) != (S.n : Int)) = true := bne_iff_ne.2 (by omega)
  clear hS hu hg0 hn
  generalize S.A = A at *; generalize S.n = n at *; generalize S.c = c at *; generalize u.A = uA at *; generalize u.n = un at *; generalize u.c = uc at *
  go_enter Try.func25, Try.ntmps25
  go_wp2_with fail
  refine (show (∀ W, W = _ → Calls _ _ _ W _) → Calls _ _ _ _ _ from fun h => h _ rfl) ?_
  intro W1 hW1
  have g1 : Gr w W1 := by rw [hW1]; exact gr_auto
  have k0 : Own W1 w.heap.size 0 (.int .i64 0) := by rw [hW1]; exact ⟨by simp [go_sem], by simp [go_sem]⟩
  have k1 : Own W1 w.heap.size 1 (.int .i64 0) := by rw [hW1]; exact ⟨by simp [go_sem], by simp [go_sem]⟩
  have k2 : Own W1 w.heap.size 2 (.slice none 0 0) := by rw [hW1]; exact ⟨by simp [go_sem], by simp [go_sem]⟩
  clear hW1
  refine (HG.out _ g1).mono ?_
  rintro e w2 ⟨rfl, hb2⟩
  have g2 := g1.trans hb2
  replace k0 := k0.gr hb2; replace k1 := k1.gr hb2; replace k2 := k2.gr hb2
  clear HG
  obtain ⟨x0, f0⟩ := k0; obtain ⟨x1, f1⟩ := k1; obtain ⟨x2, f2⟩ := k2
  go_wp2_with fail
  refine bodyPost_ret (by simp [results, Try.results25, go_sem, x0, x1, x2, f0, f1, f2]; try rfl) rfl ?_
  exact ⟨rfl, gr_auto⟩

set_option maxRecDepth 100000 in
set_option maxHeartbeats 8000000 in
theorem rmn_no3 (S : Ba.SlSer) (u : Ba.SlI) (w : World) (hS : S.At w) (hu : u.At w) (hg0 : Ba.giE S = 0) (hn : u.n = S.n) (hw : Ba.wtB u = false) : Calls Try.prog 25 #[.slice S.A S.n S.c, .slice u.A u.n u.c] w (fun e w' => e = .returned (.tuple #[.agg #[.int .i64 0, .int .i64 0, .slice none 0 0], .int .i64 2]) ∧ Gr w w') := by
  have hm := Nat.le_trans hS.hc hS.hb; have hm2 := Nat.le_trans hu.hc hu.hb
  have HG := Lib.hid (fun W (hh : Gr w W) => rgiv_any S W (hS.gr hh))
  have HUA := Lib.hid hu.hA; have HUX := Lib.hid (fun i hi => (hu.hX i hi).1)
  rw [hg0] at HG
  have t0 : ((u.n : Int) != (S.n : Int)) = false := by rw [hn]; simp
  have HW := Lib.hid hw
  unfold Ba.wtB at HW
  clear hS hu hg0 hw hn
  generalize S.A = A at *; generalize S.n = n at *; generalize S.c = c at *
  obtain ⟨uA, un, uc, ub, uo, U⟩ := u
  simp only at *
  go_enter Try.func25, Try.ntmps25
  go_wp2_with fail
  refine (show (∀ W, W = _ → Calls _ _ _ W _) → Calls _ _ _ _ _ from fun h => h _ rfl) ?_
  intro W1 hW1
  have g1 : Gr w W1 := by rw [hW1]; exact gr_auto
  have k0 : Own W1 w.heap.size 0 (.int .i64 0) := by rw [hW1]; exact ⟨by simp [go_sem], by simp [go_sem]⟩
  have k1 : Own W1 w.heap.size 1 (.int .i64 0) := by rw [hW1]; exact ⟨by simp [go_sem], by simp [go_sem]⟩
  have k2 : Own W1 w.heap.size 2 (.slice none 0 0) := by rw [hW1]; exact ⟨by simp [go_sem], by simp [go_sem]⟩
  clear hW1
  refine (HG.out _ g1).mono ?_
  rintro e w2 ⟨rfl, hb2⟩
  have g2 := g1.trans hb2
  replace k0 := k0.gr hb2; replace k1 := k1.gr hb2; replace k2 := k2.gr hb2
  clear HG
  go_wp2_with fail
  replace k0 := Lib.hid k0; replace k1 := Lib.hid k1; replace k2 := Lib.hid k2
  go_loopw [7] (fun x wr => ∃ i : Nat, i ≤ un ∧ x = .int .i64 (i : Int) ∧ Hid (Ba.allB (fun i => Ba.bet (U i) 0 9007199254740992) i = true) ∧ Gr w2 wr) (fun x _ => un - (intOf x).toNat)
  case atStart => exact ⟨0, Nat.zero_le _, rfl, Lib.hid rfl, Gr.refl _⟩
  case round =>
    obtain ⟨i, hi, rfl, HQ, hg⟩ := hrel
    have gw := g2.trans hg
    have K0 := k0.out.gr hg; have K1 := k1.out.gr hg; have K2 := k2.out.gr hg
    clear k0 k1 k2
    by_cases hlt : i < un
    · obtain rfl := HUA.out (by omega)
      have a0 := Gr.at gw (HUX.out i hlt)
      have ib0 : (0 : Int) ≤ (i : Int) := by omega
      have ib1 : (i : Int) < (un : Int) := by omega
      cases q : Ba.bet (U i) 0 9007199254740992
      · have b : U i < 0 ∨ (0 ≤ U i ∧ 9007199254740992 < U i) := by
          by_cases h1 : 0 ≤ U i
          · refine .inr ⟨h1, ?_⟩
            by_cases h2 : U i ≤ 9007199254740992
            · rw [(Ba.bet_iff _ _ _).2 ⟨h1, h2⟩] at q; cases q
            · omega
          · exact .inl (by omega)
        clear HQ q HUX
        obtain ⟨x0, f0⟩ := K0; obtain ⟨x1, f1⟩ := K1; obtain ⟨x2, f2⟩ := K2
        generalize U i = x at *
        rcases b with b | b
        all_goals
          go_wp2_with fail
          refine bodyPost_ret (by simp [results, Try.results25, go_sem, x0, x1, x2, f0, f1, f2]; try rfl) rfl ?_
          exact ⟨rfl, GrX.gr gw (Nat.le_refl _) (show GrX w.heap.size wr _ from (by repeat' (first | (with_reducible assumption) | (with_reducible exact GrX.refl _ _) | (with_reducible refine GrX.drew ?_) | (with_reducible refine GrX.drewN ?_ _) | (with_reducible refine GrX.setCell ?_ ?_ _) | (rfl; done) | (with_reducible refine GrX.alloc ?_ _) | (with_reducible refine GrX.grown ?_ (by with_reducible assumption)))))⟩
      · have b := (Ba.bet_iff _ _ _).1 q
        have HQ2 := Lib.hid (Ba.allB_go (p := fun i => Ba.bet (U i) 0 9007199254740992) HQ.out q)
        clear HQ q HUX
        generalize U i = x at *
        go_wp2_with fail
        go_roundw
        case rel => exact ⟨i + 1, by omega, by go_num, HQ2, hg⟩
        case measure => simp [intOf]; omega
    · obtain rfl : un = i := by omega
      rw [HW.out] at HQ
      exact absurd HQ.out (by decide)

set_option maxRecDepth 100000 in
set_option maxHeartbeats 8000000 in
theorem rmn_no4 (S : Ba.SlSer) (u : Ba.SlI) (w : World) (hS : S.At w) (hu : u.At w) (hg0 : Ba.giE S = 0) (hn : u.n = S.n) (hw : Ba.wtB u = true) (hf : Ba.fitB S = false) : Calls Try.prog 25 #[.slice S.A S.n S.c, .slice u.A u.n u.c] w (fun e w' => e = .returned (.tuple #[.agg #[.int .i64 0, .int .i64 0, .slice none 0 0], .int .i64 25]) ∧ Gr w w') := by
  have hm := Nat.le_trans hS.hc hS.hb; have hm2 := Nat.le_trans hu.hc hu.hb
  have HG := Lib.hid (fun W (hh : Gr w W) => rgiv_any S W (hS.gr hh))
  have HUA := Lib.hid hu.hA; have HUX := Lib.hid (fun i hi => (hu.hX i hi).1)
  have HC := Lib.hid (fun W (hh : Gr w W) => rfit_any S W (hS.gr hh) hg0)
  rw [hf] at HC
  rw [hg0] at HG
  have t0 : ((u.n : Int) != (S.n : Int)) = false := by rw [hn]; simp
  have HW := Lib.hid hw
  unfold Ba.wtB at HW
  clear hS hu hg0 hw hn hf
  generalize S.A = A at *; generalize S.n = n at *; generalize S.c = c at *
  obtain ⟨uA, un, uc, ub, uo, U⟩ := u
  simp only at *
  go_enter Try.func25, Try.ntmps25
  go_wp2_with fail
  refine (show (∀ W, W = _ → Calls _ _ _ W _) → Calls _ _ _ _ _ from fun h => h _ rfl) ?_
  intro W1 hW1
  have g1 : Gr w W1 := by rw [hW1]; exact gr_auto
  have k0 : Own W1 w.heap.size 0 (.int .i64 0) := by rw [hW1]; exact ⟨by simp [go_sem], by simp [go_sem]⟩
  have k1 : Own W1 w.heap.size 1 (.int .i64 0) := by rw [hW1]; exact ⟨by simp [go_sem], by simp [go_sem]⟩
  have k2 : Own W1 w.heap.size 2 (.slice none 0 0) := by rw [hW1]; exact ⟨by simp [go_sem], by simp [go_sem]⟩
  clear hW1
  refine (HG.out _ g1).mono ?_
  rintro e w2 ⟨rfl, hb2⟩
  have g2 := g1.trans hb2
  replace k0 := k0.gr hb2; replace k1 := k1.gr hb2; replace k2 := k2.gr hb2
  clear HG
  go_wp2_with fail
  replace k0 := Lib.hid k0; replace k1 := Lib.hid k1; replace k2 := Lib.hid k2
  go_loopw [7] (fun x wr => ∃ i : Nat, i ≤ un ∧ x = .int .i64 (i : Int) ∧ Hid (Ba.allB (fun i => Ba.bet (U i) 0 9007199254740992) i = true) ∧ Gr w2 wr) (fun x _ => un - (intOf x).toNat)
  case atStart => exact ⟨0, Nat.zero_le _, rfl, Lib.hid rfl, Gr.refl _⟩
  case round =>
    obtain ⟨i, hi, rfl, HQ, hg⟩ := hrel
    have gw := g2.trans hg
    have K0 := k0.out.gr hg; have K1 := k1.out.gr hg; have K2 := k2.out.gr hg
    clear k0 k1 k2
    by_cases hlt : i < un
    · obtain rfl := HUA.out (by omega)
      have a0 := Gr.at gw (HUX.out i hlt)
      have ib0 : (0 : Int) ≤ (i : Int) := by omega
      have ib1 : (i : Int) < (un : Int) := by omega
      have q : Ba.bet (U i) 0 9007199254740992 = true := Ba.allB_at (p := fun i => Ba.bet (U i) 0 9007199254740992) HW.out hlt
      have b := (Ba.bet_iff _ _ _).1 q
      have HQ2 := Lib.hid (Ba.allB_go (p := fun i => Ba.bet (U i) 0 9007199254740992) HQ.out q)
      clear HQ q HUX
      generalize U i = x at *
      go_wp2_with fail
      go_roundw
      case rel => exact ⟨i + 1, by omega, by go_num, HQ2, hg⟩
      case measure => simp [intOf]; omega
    · obtain rfl : un = i := by omega
      clear HQ HUA HUX HW
      go_wp2_with fail
      refine (HC.out _ gw).mono ?_
      rintro e w3 ⟨rfl, hb3⟩
      have g3 := gw.trans hb3
      have k0 := K0.gr hb3; have k1 := K1.gr hb3; have k2 := K2.gr hb3
      clear HC K0 K1 K2
      obtain ⟨x0, f0⟩ := k0; obtain ⟨x1, f1⟩ := k1; obtain ⟨x2, f2⟩ := k2
      go_wp2_with fail
      refine bodyPost_ret (by simp [results, Try.results25, go_sem, x0, x1, x2, f0, f1, f2]; try rfl) rfl ?_
      exact ⟨rfl, GrX.gr g3 (Nat.le_refl _) (show GrX w.heap.size w3 _ from (by repeat' (first | (with_reducible assumption) | (with_reducible exact GrX.refl _ _) | (with_reducible refine GrX.drew ?_) | (with_reducible refine GrX.drewN ?_ _) | (with_reducible refine GrX.setCell ?_ ?_ _) | (rfl; done) | (with_reducible refine GrX.alloc ?_ _) | (with_reducible refine GrX.grown ?_ (by with_reducible assumption)))))⟩

set_option maxRecDepth 100000 in
set_option maxHeartbeats 8000000 in
theorem rmn_ok (S : Ba.SlSer) (u : Ba.SlI) (w : World) (hS : S.At w) (hu : u.At w) (hg0 : Ba.giE S = 0) (hn : u.n = S.n) (hw : Ba.wtB u = true) (hf : Ba.fitB S = true) : Calls Try.prog 25 #[.slice S.A S.n S.c, .slice u.A u.n u.c] w (fun e w' => ∃ r : Ba.SlI, e = .returned (.tuple #[.agg #[.int .i64 (Ba.frI S S.n), .int .i64 (S.D 0).st, .slice r.A r.n r.c], .int .i64 0]) ∧ r.At w' ∧ (r.n : Int) = Ba.cmN S ∧ (∀ k : Nat, (k : Int) < Ba.cmN S → r.X k = Ba.mnV S u (Ba.frI S S.n + (k : Int) * (S.D 0).st)) ∧ Gr w w') := by
  have hm := Nat.le_trans hS.hc hS.hb; have hm2 := Nat.le_trans hu.hc hu.hb
  have HG := Lib.hid (fun W (hh : Gr w W) => rgiv_any S W (hS.gr hh))
  have HUA := Lib.hid hu.hA; have HUX := Lib.hid (fun i hi => (hu.hX i hi).1)
  obtain ⟨n1, n2, hv⟩ := Ba.gi_parts hg0
  obtain ⟨cm0, cm1, cmI⟩ := Ba.cm_bd hg0 hf
  have fb := Ba.fr_bd hv n1 S.n (Nat.le_refl _)
  have s0 := (Ba.ser_nums (hv 0 n1)).2.1
  have hwt : Ba.WtB u := fun i hi => (Ba.bet_iff _ _ _).1 (Ba.allB_at hw hi)
  have HC := Lib.hid (fun W (hh : Gr w W) => rfit_any S W (hS.gr hh) hg0)
  have HSp := Lib.hid (fun W (hh : Gr w W) => rspan_any S W (hS.gr hh) hg0 hf)
  rw [hf] at HC
  rw [hg0] at HG
  have HMn := Lib.hid (fun (k : Nat) (hk : (k : Int) < Ba.cmN S) W (hW : Gr w W) => rmean_any S u (Ba.frI S S.n + (k : Int) * (S.D 0).st) W (hS.gr hW) (hu.gr hW) hg0 hn hwt (cmI k (by omega) hk))
  have hA := hS.hA (by omega)
  obtain ⟨z0, z1, z2⟩ := (hS.hD 0 (by omega)).1
  rw [Nat.zero_mul, Nat.add_zero] at z0 z1 z2
  have hnc := hS.hc; have hcb := hS.hb
  have t0 : ((u.n : Int) != (S.n : Int)) = false := by rw [hn]; simp
  have HW := Lib.hid hw
  unfold Ba.wtB at HW
  rw [hA] at HG HC HSp HMn ⊢
  obtain ⟨N, hN⟩ : ∃ N : Nat, Ba.cmN S = (N : Int) := ⟨(Ba.cmN S).toNat, by omega⟩
  have hmvb0 := fun (k : Nat) (hk : (k : Int) < (N : Int)) => mnV_i64 hg0 hn hwt (cmI k (by omega) (by omega))
  rw [hN] at HSp HMn cm0 cm1 ⊢
  clear hg0 hw hf hv hwt cmI hS hu hA hN hn
  obtain ⟨mv, hmv⟩ : ∃ f : Nat → Int, (fun k : Nat => Ba.mnV S u (Ba.frI S S.n + (k : Int) * (S.D 0).st)) = f := ⟨_, rfl⟩
  have HMV2 := Lib.hid (fun k : Nat => show Ba.mnV S u (Ba.frI S S.n + (k : Int) * (S.D 0).st) = mv k from by rw [← hmv])
  have HMn2 := Lib.hid (fun (k : Nat) (hk : k < N) W (hW : Gr w W) => by have z := HMn.out k (by omega) W hW; rw [HMV2.out k] at z; exact z)
  have HPost := Lib.hid (fun (X : Nat → Int) (h : ∀ k, k < N → X k = mv k) => fun k (hk : k < N) => (h k hk).trans (HMV2.out k).symm)
  have hmvb := Lib.hid (fun (k : Nat) (hk : k < N) => show Ba.i64 (mv k) from by rw [← HMV2.out k]; exact hmvb0 k (by omega))
  clear HMn hmv HMV2 hmvb0
  generalize Ba.mnV S u = mm at *
  generalize Ba.frI S S.n = fr at *
  generalize (S.D 0).st = st at *
  generalize (S.D 0).fr = fr0 at *
  generalize (S.D 0).ds.A = dsA at *
  generalize (S.D 0).ds.n = dsn at *
  generalize (S.D 0).ds.c = dsc at *
  generalize S.b = sb at *; generalize S.o = so at *; generalize S.n = n at *; generalize S.c = c at *
  obtain ⟨i1, hi0, hz0, hz1, hz2⟩ := info_parts info_intz
  have KI := Lib.hid hi0; have KZ0 := Lib.hid hz0; have KZ1 := Lib.hid hz1; have KZ2 := Lib.hid hz2
  clear hi0 hz0 hz1 hz2
  have nb1 : (0 : Int) < (n : Int) := by omega
  have nb2 : 0 < n := by omega
  obtain ⟨uA, un, uc, ub, uo, U⟩ := u
  simp only at *
  go_enter Try.func25, Try.ntmps25
  go_wp2_with fail
  refine (show (∀ W, W = _ → Calls _ _ _ W _) → Calls _ _ _ _ _ from fun h => h _ rfl) ?_
  intro W1 hW1
  have g1 : Gr w W1 := by rw [hW1]; exact gr_auto
  have k0 : Own W1 w.heap.size 0 (.int .i64 0) := by rw [hW1]; exact ⟨by simp [go_sem], by simp [go_sem]⟩
  have k1 : Own W1 w.heap.size 1 (.int .i64 0) := by rw [hW1]; exact ⟨by simp [go_sem], by simp [go_sem]⟩
  have k2 : Own W1 w.heap.size 2 (.slice none 0 0) := by rw [hW1]; exact ⟨by simp [go_sem], by simp [go_sem]⟩
  clear hW1
  refine (HG.out _ g1).mono ?_
  rintro e w2 ⟨rfl, hb2⟩
  have g2 := g1.trans hb2
  replace k0 := k0.gr hb2; replace k1 := k1.gr hb2; replace k2 := k2.gr hb2
  clear HG
  go_wp2_with fail
  replace k0 := Lib.hid k0; replace k1 := Lib.hid k1; replace k2 := Lib.hid k2
  go_loopw [7] (fun x wr => ∃ i : Nat, i ≤ un ∧ x = .int .i64 (i : Int) ∧ Hid (Ba.allB (fun i => Ba.bet (U i) 0 9007199254740992) i = true) ∧ Gr w2 wr) (fun x _ => un - (intOf x).toNat)
  case atStart => exact ⟨0, Nat.zero_le _, rfl, Lib.hid rfl, Gr.refl _⟩
  case round =>
    obtain ⟨i, hi, rfl, HQ, hg⟩ := hrel
    have gw := g2.trans hg
    have K0 := k0.out.gr hg; have K1 := k1.out.gr hg; have K2 := k2.out.gr hg
    clear k0 k1 k2
    by_cases hlt : i < un
    · obtain rfl := HUA.out (by omega)
      have a0 := Gr.at gw (HUX.out i hlt)
      have ib0 : (0 : Int) ≤ (i : Int) := by omega
      have ib1 : (i : Int) < (un : Int) := by omega
      have q : Ba.bet (U i) 0 9007199254740992 = true := Ba.allB_at (p := fun i => Ba.bet (U i) 0 9007199254740992) HW.out hlt
      have b := (Ba.bet_iff _ _ _).1 q
      have HQ2 := Lib.hid (Ba.allB_go (p := fun i => Ba.bet (U i) 0 9007199254740992) HQ.out q)
      clear HQ q HUX
      generalize U i = x at *
      go_wp2_with fail
      go_roundw
      case rel => exact ⟨i + 1, by omega, by go_num, HQ2, hg⟩
      case measure => simp [intOf]; omega
    · obtain rfl : un = i := by omega
      clear HQ HUA HUX HW
      go_wp2_with fail
      refine (HC.out _ gw).mono ?_
      rintro e w3 ⟨rfl, hb3⟩
      have g3 := gw.trans hb3
      have k0 := K0.gr hb3; have k1 := K1.gr hb3; have k2 := K2.gr hb3
      clear HC K0 K1 K2
      go_wp2_with fail
      refine (HSp.out _ g3).mono ?_
      rintro e w4 ⟨rfl, hb4⟩
      have g4 := g3.trans hb4
      replace k0 := k0.gr hb4; replace k1 := k1.gr hb4; replace k2 := k2.gr hb4
      clear HSp
      have y1 := Gr.at g4 z1
      have hB4 : w.heap.size < w4.heap.size := World.block_lt_of_cell? _ _ k0.1
      -- @a
      go_wp2_with fail
      -- @b
      refine name_world ?_
      intro W6 hW6
      have gs6 : Gr w4 W6 := by rw [hW6]; exact gr_auto
      have P0 : Own W6 w4.heap.size 0 (.int .i64 fr) := by rw [hW6]; exact ⟨by simp [go_sem], by simp [go_sem]⟩
      have P1 : Own W6 w4.heap.size 1 (.int .i64 st) := by rw [hW6]; exact ⟨by simp [go_sem], by simp [go_sem]⟩
      have P2 : Own W6 w4.heap.size 2 (.slice none 0 0) := by rw [hW6]; exact ⟨by simp [go_sem], by simp [go_sem]⟩
      clear hW6
      have g6 := g4.trans gs6
      replace k0 := k0.gr gs6; replace k1 := k1.gr gs6; replace k2 := k2.gr gs6
      have nB : w4.heap.size < W6.heap.size := World.block_lt_of_cell? _ _ P0.1
      generalize w4.heap.size = BO at *
      replace P0 := Lib.hid P0; replace P1 := Lib.hid P1; replace P2 := Lib.hid P2
      replace k0 := Lib.hid k0; replace k1 := Lib.hid k1; replace k2 := Lib.hid k2
      clear z0 z1 z2 y1
      go_loopw [11] (fun x wr => ∃ k : Nat, k ≤ N ∧ x = .int .i64 (k : Int) ∧ (∃ va, Hid (Own wr BO 2 va) ∧ Hid (wr.ownsRow W6.heap.size 3 1 va k ((List.range k).map fun k => .int .i64 (mv k)))) ∧ Hid (Own wr BO 0 (.int .i64 fr)) ∧ Hid (Own wr BO 1 (.int .i64 st)) ∧ GrY BO BO W6 wr) (fun x _ => N - (intOf x).toNat)
      case atStart => exact ⟨0, Nat.zero_le _, rfl, ⟨_, P2, Lib.hid ⟨rfl, Or.inl ⟨rfl, rfl⟩⟩⟩, P0, P1, GrY.refl _ _ _⟩
      case round =>
        clear P0 P1 P2 hg gw
        obtain ⟨k, hk, rfl, ⟨va, HC, HO⟩, HD0, HD1, hg⟩ := hrel
        have gw : Gr w wr := GrY.below g6 (by omega) (by omega) hg
        by_cases hlt : k < N
        · have HMk := Lib.hid (fun W (hW : Gr wr W) => HMn2.out k hlt W (gw.trans hW))
          have ib0 : (0 : Int) ≤ (k : Int) := by omega
          have ib1 : (k : Int) < (N : Int) := by omega
          have kb : 0 ≤ (k : Int) * st ∧ (k : Int) * st ≤ 10000 * 86400 := ⟨Int.mul_nonneg (by omega) (by omega), Int.mul_le_mul (by omega) (by omega) (by omega) (by omega)⟩
          have hfar : some BO ≠ va.ownBlock := own_far HO.out nB
          have bw := hg.size
          clear HMn2 HPost k0 k1 k2
          obtain ⟨mk, hmk⟩ : ∃ z, mv k = z := ⟨_, rfl⟩
          rw [hmk] at HMk
          replace hmk := Lib.hid hmk
          have ew0 : IntKind.i64.wrap ((k : Int) * st) = (k : Int) * st := by rw [IntKind.wrap_i64]; omega
          have ew1 : IntKind.i64.wrap (fr + IntKind.i64.wrap ((k : Int) * st)) = fr + (k : Int) * st := by rw [ew0, IntKind.wrap_i64]; omega
          rw [← ew1] at HMk
          clear ew0 ew1
          have c1 := HC.out.1; have f1 := HC.out.2; have d1 := HD0.out.1; have df1 := HD0.out.2; have e1 := HD1.out.1; have ef1 := HD1.out.2
          have bBO : BO < wr.heap.size := World.block_lt_of_cell? _ _ c1
          clear HC HD0 HD1
          -- @c
          go_wp2_with fail
          -- @d
          go_region_law (first | (go_simp; go_at_call 56; refine (HMk.out _ gr_auto).mono ?_; rintro e w22 ⟨rfl, hb22⟩; have c22 := Gr.at (w1 := w22) (show Gr wr w22 from gr_auto) c1; have e22 := Gr.at (w1 := w22) (show Gr wr w22 from gr_auto) e1; have z22 := Gr.size (show Gr wr w22 from gr_auto); have n22 : BO ≠ w22.heap.size := Nat.ne_of_lt (Nat.lt_of_lt_of_le bBO z22); have l22 : BO < w22.heap.size := Nat.lt_of_lt_of_le bBO z22) | (refine step_append_lies _ (by rfl) _ _ 30 (by rfl) W6.heap.size 3 i1 (.int .i64 0) 1 8 Try.underlying30 KI.out KZ0.out KZ1.out KZ2.out rfl (by decide) va k ((List.range k).map fun k => .int .i64 (mv k)) (by rfl) (ownsRow_gr HO.out (by exact gr_auto)) ⟨w22.heap.size, 0, none⟩ 1 1 [.int .i64 mk] (by rfl) rfl (by intro p u hp; rcases p with _ | p <;> simp at hp <;> (try subst hp) <;> first | (simp [Addr.add, go_sem]; done) | (simp [Addr.add]; done)) (by intro u hu; simp at hu; subst hu; rfl) (by omega) (by unfold maxLen; omega) (by omega) (by simp; omega) _ rfl ?_; intro g9 cp9 w9 hown9 hgrow9 hat9 hlt9; have c9 : w9.cell? ⟨BO, 2, none⟩ = some va := (hgrow9.cell_far ⟨BO, 2, none⟩ (by simp; omega) hfar).trans (Gr.at (show Gr wr _ from gr_auto) c1); have f9 : w9.frozen? ⟨BO, 2, none⟩ = false := (hgrow9.frozen_far ⟨BO, 2, none⟩ (by simp; omega) hfar).trans (Gr.free (show Gr wr _ from gr_auto) c1 f1); have gy9 : GrY BO BO W6 w9 := GrY.grow (base := W6.heap.size) (GrY.gr hg (show Gr wr _ from gr_auto)) (Nat.le_refl _) (ownsRow_gr HO.out (show Gr wr _ from gr_auto)) hgrow9; have hd9 : Own w9 BO 0 (.int .i64 fr) := ⟨(hgrow9.cell_far ⟨BO, 0, none⟩ (by simp; omega) hfar).trans (Gr.at (show Gr wr _ from gr_auto) d1), (hgrow9.frozen_far ⟨BO, 0, none⟩ (by simp; omega) hfar).trans (Gr.free (show Gr wr _ from gr_auto) d1 df1)⟩; have he9 : Own w9 BO 1 (.int .i64 st) := ⟨(hgrow9.cell_far ⟨BO, 1, none⟩ (by simp; omega) hfar).trans (Gr.at (show Gr wr _ from gr_auto) e1), (hgrow9.frozen_far ⟨BO, 1, none⟩ (by simp; omega) hfar).trans (Gr.free (show Gr wr _ from gr_auto) e1 ef1)⟩))
          -- @e
          all_goals
            have HOn := Lib.hid (show (w9.setCell ⟨BO, 2, none⟩ (.slice (some ⟨g9, 0, none⟩) (k + 1) cp9)).ownsRow W6.heap.size 3 1 (.slice (some ⟨g9, 0, none⟩) (k + 1) cp9) (k + 1) ((List.range (k + 1)).map fun k => .int .i64 (mv k)) from ownsRow_set (by rw [List.range_succ, List.map_append, List.map_cons, List.map_nil, hmk.out]; exact hown9) nB)
            have HCn := Lib.hid (show Own (w9.setCell ⟨BO, 2, none⟩ (.slice (some ⟨g9, 0, none⟩) (k + 1) cp9)) BO 2 (.slice (some ⟨g9, 0, none⟩) (k + 1) cp9) from Own.set ⟨c9, f9⟩)
            have HDn := Lib.hid (Own.other hd9 (b' := BO) (o' := 2) (u := (.slice (some ⟨g9, 0, none⟩) (k + 1) cp9)) (Or.inr (by decide))); have HEn := Lib.hid (Own.other he9 (b' := BO) (o' := 2) (u := (.slice (some ⟨g9, 0, none⟩) (k + 1) cp9)) (Or.inr (by decide)))
            have gyn := GrY.setCell gy9 (p := ⟨BO, 2, none⟩) rfl (.slice (some ⟨g9, 0, none⟩) (k + 1) cp9)
            clear hown9 hgrow9 hat9 hd9 he9 c9 f9 gy9 HMk
            go_wp2_with fail
            go_roundw
            case rel => exact ⟨k + 1, by omega, by go_num, ⟨_, HCn, HOn⟩, HDn, HEn, gyn⟩
            case measure => simp [intOf]; omega
        · obtain rfl : N = k := by omega
          have K0 := hg.keep (by omega) (by omega) k0.out; have K1 := hg.keep (by omega) (by omega) k1.out; have K2 := hg.keep (by omega) (by omega) k2.out
          obtain ⟨x0, f0⟩ := K0; obtain ⟨x1, f1⟩ := K1; obtain ⟨x2, f2⟩ := K2
          have d0 := HD0.out.1; have d1 := HD1.out.1; have d2 := HC.out.1
          have HRow := Lib.hid HO.out
          have HPo := Lib.hid HPost.out
          have hmb : ∀ i, i < N → Ba.i64 (mv i) := hmvb.out
          clear HMn2 HPost k0 k1 k2 HO HC HD0 HD1
          obtain ⟨r, rfl, r1, r2, r3, r4⟩ := own_slin HRow.out hmb
          replace r1 := Lib.hid r1; replace r2 := Lib.hid r2; replace r3 := Lib.hid r3
          have hrb : w.heap.size ≠ r.b := by omega
          clear hmb HRow
          -- @g
          go_wp2_with fail
          -- @h
          refine bodyPost_ret (by simp [results, Try.results25, go_sem, x0, x1, x2, f0, f1, f2]; try rfl) rfl ?_
          exact ⟨r, rfl, ⟨r1.out.hA, r1.out.hc, r1.out.hb, fun i hi => ⟨GrX.at (R := w.heap.size) (show GrX w.heap.size wr _ from (by repeat' (first | (with_reducible assumption) | (with_reducible exact GrX.refl _ _) | (with_reducible refine GrX.drew ?_) | (with_reducible refine GrX.drewN ?_ _) | (with_reducible refine GrX.setCell ?_ ?_ _) | (rfl; done) | (with_reducible refine GrX.alloc ?_ _) | (with_reducible refine GrX.grown ?_ (by with_reducible assumption))))) (by omega) (r1.out.hX i hi).1, (r1.out.hX i hi).2⟩⟩, by rw [r2.out], fun k hk => HPo.out r.X (fun k hk => r3.out k (by rw [r2.out]; exact hk)) k (by omega), GrX.gr gw (Nat.le_refl _) (show GrX w.heap.size wr _ from (by repeat' (first | (with_reducible assumption) | (with_reducible exact GrX.refl _ _) | (with_reducible refine GrX.drew ?_) | (with_reducible refine GrX.drewN ?_ _) | (with_reducible refine GrX.setCell ?_ ?_ _) | (rfl; done) | (with_reducible refine GrX.alloc ?_ _) | (with_reducible refine GrX.grown ?_ (by with_reducible assumption)))))⟩

theorem rmn_any (S : Ba.SlSer) (u : Ba.SlI) (w : World) (hS : S.At w) (hu : u.At w) : Calls Try.prog 25 #[.slice S.A S.n S.c, .slice u.A u.n u.c] w (RetMn S u w) := by
  have nil : ∀ (E : Int) (w' : World), E ≠ 0 → Ba.mnE S u = E → Gr w w' → RetMn S u w (.returned (.tuple #[.agg #[.int .i64 0, .int .i64 0, .slice none 0 0], .int .i64 E])) w' := fun E w' hE he hg => ⟨⟨0, 0, ⟨none, 0, 0, 0, 0, fun _ => 0⟩⟩, by rw [he]; rfl, nil_ser, fun h => absurd (he.symm.trans h) hE, fun _ => ⟨rfl, rfl, rfl⟩, hg⟩
  by_cases hg0 : Ba.giE S = 0
  rotate_left
  · refine (rmn_no1 S u w hS hu hg0).mono fun e' w' ⟨h1, h2⟩ => ?_
    subst h1
    exact nil _ w' hg0 (by unfold Ba.mnE; rw [if_neg hg0]) h2
  by_cases hn : u.n = S.n
  rotate_left
  · refine (rmn_no2 S u w hS hu hg0 hn).mono fun e' w' ⟨h1, h2⟩ => ?_
    subst h1
    exact nil 3 w' (by decide) (by unfold Ba.mnE; rw [if_pos hg0, if_neg hn]) h2
  cases hw : Ba.wtB u
  · refine (rmn_no3 S u w hS hu hg0 hn hw).mono fun e' w' ⟨h1, h2⟩ => ?_
    subst h1
    exact nil 2 w' (by decide) (by unfold Ba.mnE; rw [if_pos hg0, if_pos hn, hw]; rfl) h2
  cases hf : Ba.fitB S
  · refine (rmn_no4 S u w hS hu hg0 hn hw hf).mono fun e' w' ⟨h1, h2⟩ => ?_
    subst h1
    exact nil 25 w' (by decide) (by unfold Ba.mnE; rw [if_pos hg0, if_pos hn, hw, if_pos rfl, hf]; rfl) h2
  have e : Ba.mnE S u = 0 := by unfold Ba.mnE; rw [if_pos hg0, if_pos hn, if_pos hw, if_pos hf]
  obtain ⟨n1, n2, hv⟩ := Ba.gi_parts hg0
  have fb := Ba.fr_bd hv n1 S.n (Nat.le_refl _)
  have s0 := (Ba.ser_nums (hv 0 n1)).2.1
  have c0 := (Ba.cm_bd hg0 hf).1
  refine (rmn_ok S u w hS hu hg0 hn hw hf).mono fun e' w' ⟨r, h1, h2, h3, h4, h5⟩ => ⟨⟨Ba.frI S S.n, (S.D 0).st, r⟩, by rw [h1, e]; rfl, ⟨by show Ba.i64 (Ba.frI S S.n); unfold Ba.i64; omega, by show Ba.i64 (S.D 0).st; unfold Ba.i64; omega, h2⟩, fun _ => ⟨rfl, rfl, by show r.n = _; omega, fun k hk => h4 k (by have : k < r.n := hk; omega)⟩, fun h => absurd e h, h5⟩

end Go.Proofs.Ytnfjebfmfjpepaa
