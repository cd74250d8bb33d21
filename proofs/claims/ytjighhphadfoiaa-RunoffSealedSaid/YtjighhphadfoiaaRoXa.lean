/-
  Runoff: gauge.Total of a valid record; losses.Run and losses.Lost of what is right. (Printed by mkxa.py.)
-/
import Derived.Test.YtjighhphadfoiaaRoL
import Derived.Test.YtjighhphadfoiaaTail
import Derived.Deep.RegionLaw
import Derived.Deep.AppendLies
set_option linter.unusedVariables false
set_option linter.unusedSimpArgs false
namespace Go.Proofs.Ytjighhphadfoiaa
open Go.RowKit
attribute [local go_sem ↓] Go.wp_at_zero Go.wp_at_succ

set_option maxRecDepth 100000 in
set_option maxHeartbeats 4000000 in
theorem gdepth_any (x : Int) (w : World) : Calls Try.prog 60 #[.int .i64 x] w fun e w' => e = .returned (.int .i64 (max 0 x)) ∧ w = w' := by
  rw [Int.max_comm]
  go_enter Try.func60, Try.ntmps60
  go_wp2_with fail
  go_ret
  exact ⟨rfl, rfl⟩

set_option maxRecDepth 100000 in
set_option maxHeartbeats 4000000 in
theorem gtotal_ok (fr st : Int) (A : Option Addr) (n c b oo : Nat) (X SM : Nat → Int) (w : World) (hn : n ≤ 10000) (HV : Hid (∀ W, Gr w W → Calls Try.prog 59 #[.agg #[.int .i64 fr, .int .i64 st, .slice A n c]] W fun e w' => e = .returned (.bool true) ∧ Gr W w')) (HA : Hid (0 < n → A = some ⟨b, oo, none⟩)) (HX : Hid (∀ i, i < n → w.cell? ⟨b, oo + i, none⟩ = some (.int .i64 (X i)) ∧ -1 ≤ X i ∧ X i ≤ 4194304))
    (HS0 : Hid (SM 0 = 0)) (HSS : Hid (∀ i, SM (i + 1) = SM i + max 0 (X i))) (HSB : Hid (∀ i, i ≤ n → 0 ≤ SM i ∧ SM i ≤ 107374182400000)) : Calls Try.prog 31 #[.agg #[.int .i64 fr, .int .i64 st, .slice A n c]] w fun e w' => ∃ m : Int, e = .returned (.tuple #[.int .i64 (SM n), .int .i64 m, .int .i64 0]) ∧ Gr w w' := by
  go_enter Try.func31, Try.ntmps31
  go_wp2_with fail
  (first | refine name_world ?_ | refine (show (∀ W, W = _ → Calls _ _ _ W _) → Calls _ _ _ _ _ from fun h => h _ rfl) ?_); intro W1 hW1
  have g1 : Gr w W1 := by rw [hW1]; exact gr_auto
  have k1_0 : W1.cell? ⟨w.heap.size, 0, none⟩ = some (.int .i64 fr) := by rw [hW1]; first | (simp [go_sem, *]; done) | (refine Gr.at ?_ (by assumption); exact gr_auto)
  have b1_0 : w.heap.size < W1.heap.size := World.block_lt_of_cell? _ _ k1_0
  have k1_1 : W1.cell? ⟨w.heap.size, 1, none⟩ = some (.int .i64 st) := by rw [hW1]; first | (simp [go_sem, *]; done) | (refine Gr.at ?_ (by assumption); exact gr_auto)
  have k1_2 : W1.cell? ⟨w.heap.size, 2, none⟩ = some (.slice A n c) := by rw [hW1]; first | (simp [go_sem, *]; done) | (refine Gr.at ?_ (by assumption); exact gr_auto)
  clear hW1
  refine (HV.out _ (by exact g1)).mono ?_
  rintro e w2 ⟨rfl, hb2⟩
  have g2 := g1.trans hb2
  have c0 := Gr.at hb2 k1_0; have c1 := Gr.at hb2 k1_1; have c2 := Gr.at hb2 k1_2
  clear k1_0 k1_1 k1_2 HV
  go_wp2_with fail
  go_loopw [5, 6, 15] (fun v u x wr => ∃ i : Nat, i ≤ n ∧ x = .int .i64 (i : Int) ∧ v = .int .i64 (SM i) ∧ (∃ m : Int, u = .int .i64 m ∧ 0 ≤ m ∧ m ≤ (i : Int)) ∧ Gr w2 wr) (fun _ _ x _ => n - (intOf x).toNat)
  case atStart => exact ⟨0, Nat.zero_le _, rfl, by rw [HS0.out], ⟨0, rfl, by omega, by omega⟩, Gr.refl _⟩
  case round =>
    obtain ⟨i, hi, rfl, rfl, ⟨m, rfl, m0, m1⟩, hg⟩ := hrel
    have t := HSB.out i hi
    by_cases hlt : i < n
    · obtain rfl := HA.out (by omega)
      obtain ⟨a0, x0, x1⟩ := HX.out i hlt
      replace a0 := Gr.at (g2.trans hg) a0
      have T := Lib.hid (HSS.out i)
      have tc := HSB.out (i + 1) hlt
      rw [T.out] at tc
      have ib0 : (0 : Int) ≤ (i : Int) := by omega
      have ib1 : (i : Int) < (n : Int) := by omega
      have HD := Lib.hid (fun W => gdepth_any (X i) W)
      clear HX HA HS0 HSS HSB
      generalize SM i = s0 at *
      generalize X i = x at *
      obtain ⟨y, hy⟩ : ∃ y, max 0 x = y := ⟨_, rfl⟩
      rw [hy] at T tc HD
      clear hy
      by_cases hm : x = -1
      · have tz : (x == -1) = true := by rw [hm]; rfl
        clear hm
        go_wp2_with fail
        refine (HD.out _).mono ?_
        rintro e w4 ⟨rfl, rfl⟩
        go_wp2_with fail
        go_roundw
        case rel => exact ⟨i + 1, by omega, by go_num, by rw [T.out], ⟨m + 1, rfl, by omega, by omega⟩, hg⟩
        case measure => simp [intOf]; omega
      · have tz : (x == -1) = false := beq_eq_false_iff_ne.2 hm
        clear hm
        go_wp2_with fail
        refine (HD.out _).mono ?_
        rintro e w4 ⟨rfl, rfl⟩
        go_wp2_with fail
        go_roundw
        case rel => exact ⟨i + 1, by omega, by go_num, by rw [T.out], ⟨m, rfl, by omega, by omega⟩, hg⟩
        case measure => simp [intOf]; omega
    · obtain rfl : n = i := by omega
      clear HX HA HS0 HSS HSB
      go_wp2_with fail
      refine bodyPost_ret (by simp [results, Try.results31, go_sem]; try rfl) rfl ?_
      exact ⟨m, rfl, g2.trans hg⟩

set_option maxRecDepth 100000 in
set_option maxHeartbeats 4000000 in
theorem runf_any (x : Int) (w : World) : Calls Try.prog 91 #[.int .i64 x] w fun e w' => e = .returned (.bool (!Ba.bet x 0 4194304)) ∧ w = w' := by
  have HI := Lib.hid (fun W => lwithin_any x 4194304 W)
  generalize Ba.bet x 0 4194304 = q at *
  go_enter Try.func91, Try.ntmps91
  go_wp2_with fail
  refine (HI.out _).mono ?_
  rintro e w1 ⟨rfl, rfl⟩
  go_wp2_with fail
  go_ret
  exact ⟨rfl, rfl⟩

set_option maxRecDepth 100000 in
set_option maxHeartbeats 4000000 in
theorem run_ok (nm : ByteArray) (se we ro dr sec : Int) (A : Option Addr) (n c b oo : Nat) (X sw sh of : Nat → Int) (w : World) (hn : n ≤ 10000) (HA : Hid (0 < n → A = some ⟨b, oo, none⟩)) (HX : Hid (∀ i, i < n → w.cell? ⟨b, oo + i, none⟩ = some (.int .i64 (X i)))) (HZ : Hid (sw 0 = 0 ∧ sh 0 = 0)) (HOB : Hid (∀ i, i < n → 0 ≤ of i ∧ of i ≤ 4194304000))
    (HVS : Hid (∀ W, Gr w W → Calls Try.prog 72 #[.agg #[.string nm, .int .i64 se, .int .i64 we, .int .i64 ro, .int .i64 dr], .agg #[.int .i64 0, .int .i64 0]] W fun e w' => e = .returned (.bool true) ∧ Gr W w'))
    (HL : Hid (∀ W, Calls Try.prog 74 #[.int .i64 sec] W fun e w' => e = .returned (.bool true) ∧ W = w'))
    (HC : Hid (∀ W, Gr w W → Calls Try.prog 29 #[.slice A n c, .func (.func 91) #[] #[]] W fun e w' => e = .returned (.bool false) ∧ Gr W w'))
    (HST : Hid (∀ i, i < n → ∀ W, w.heap.size ≤ W.heap.size → Calls Try.prog 75 #[.agg #[.string nm, .int .i64 se, .int .i64 we, .int .i64 ro, .int .i64 dr], .agg #[.int .i64 (sw i), .int .i64 (sh i)], .int .i64 (X i), .int .i64 sec] W fun e w' => e = .returned (.tuple #[.agg #[.int .i64 (sw (i + 1)), .int .i64 (sh (i + 1))], .int .i64 (of i)]) ∧ Gr W w')) :
    Calls Try.prog 61 #[.agg #[.string nm, .int .i64 se, .int .i64 we, .int .i64 ro, .int .i64 dr], .agg #[.int .i64 0, .int .i64 0], .slice A n c, .int .i64 sec] w fun e w' => ∃ s : Ba.SlI, e = .returned (.tuple #[.agg #[.int .i64 (sw n), .int .i64 (sh n)], .slice s.A s.n s.c, .int .i64 0]) ∧ s.At w' ∧ s.n = n ∧ (∀ i, i < n → s.X i = of i) ∧ Gr w w' := by
  obtain ⟨i1, hi0, hz0, hz1, hz2⟩ := info_parts info_int
  have KI := Lib.hid hi0; have KZ0 := Lib.hid hz0; have KZ1 := Lib.hid hz1; have KZ2 := Lib.hid hz2
  clear hi0 hz0 hz1 hz2
  go_enter Try.func61, Try.ntmps61
  go_wp2_with fail
  (first | refine name_world ?_ | refine (show (∀ W, W = _ → Calls _ _ _ W _) → Calls _ _ _ _ _ from fun h => h _ rfl) ?_); intro W0 hW0
  have g0 : Gr w W0 := by rw [hW0]; exact gr_auto
  have k0 : W0.cell? ⟨w.heap.size, 0, none⟩ = some (.string nm) := by rw [hW0]; simp [go_sem]
  have k1 : W0.cell? ⟨w.heap.size, 1, none⟩ = some (.int .i64 se) := by rw [hW0]; simp [go_sem]
  have k2 : W0.cell? ⟨w.heap.size, 2, none⟩ = some (.int .i64 we) := by rw [hW0]; simp [go_sem]
  have k3 : W0.cell? ⟨w.heap.size, 3, none⟩ = some (.int .i64 ro) := by rw [hW0]; simp [go_sem]
  have k4 : W0.cell? ⟨w.heap.size, 4, none⟩ = some (.int .i64 dr) := by rw [hW0]; simp [go_sem]
  have P0 : Own W0 (w.heap.size + 1) 0 (.int .i64 0) := ⟨by rw [hW0]; simp [go_sem], by rw [hW0]; simp [go_sem]⟩
  have P1 : Own W0 (w.heap.size + 1) 1 (.int .i64 0) := ⟨by rw [hW0]; simp [go_sem], by rw [hW0]; simp [go_sem]⟩
  have R0 : Own W0 (w.heap.size + 1 + 1) 0 (.int .i64 0) := ⟨by rw [hW0]; simp [go_sem], by rw [hW0]; simp [go_sem]⟩
  have R1 : Own W0 (w.heap.size + 1 + 1) 1 (.int .i64 0) := ⟨by rw [hW0]; simp [go_sem], by rw [hW0]; simp [go_sem]⟩
  clear hW0
  refine (HVS.out _ (by exact g0)).mono ?_
  rintro e w1 ⟨rfl, hb1⟩
  have g1 := g0.trans hb1
  replace k0 := Gr.at hb1 k0
  replace k1 := Gr.at hb1 k1
  replace k2 := Gr.at hb1 k2
  replace k3 := Gr.at hb1 k3
  replace k4 := Gr.at hb1 k4
  replace P0 := P0.gr hb1; replace P1 := P1.gr hb1; replace R0 := R0.gr hb1; replace R1 := R1.gr hb1
  clear HVS
  go_wp2_with fail
  refine (HL.out _).mono ?_
  rintro e w2 ⟨rfl, rfl⟩
  go_wp2_with fail
  refine (HC.out _ (by exact g1)).mono ?_
  rintro e W1 ⟨rfl, hb2⟩
  have g2 := g1.trans hb2
  replace k0 := Gr.at hb2 k0
  replace k1 := Gr.at hb2 k1
  replace k2 := Gr.at hb2 k2
  replace k3 := Gr.at hb2 k3
  replace k4 := Gr.at hb2 k4
  replace P0 := P0.gr hb2; replace P1 := P1.gr hb2; replace R0 := R0.gr hb2; replace R1 := R1.gr hb2
  clear HC HL
  have zB : w.heap.size + 1 + 1 < W1.heap.size := World.block_lt_of_cell? _ _ R0.1
  have HR01 := Lib.hid (And.intro R0 R1)
  clear R0 R1 hb1 hb2
  go_wp2_with fail
  go_loopw [11, 38] (fun va x wr => ∃ i : Nat, i ≤ n ∧ x = .int .i64 (i : Int) ∧ Hid (Own wr (w.heap.size + 1) 0 (.int .i64 (sw i)) ∧ Own wr (w.heap.size + 1) 1 (.int .i64 (sh i))) ∧ Hid (wr.ownsRow W1.heap.size 3 1 va i ((List.range i).map fun i => .int .i64 (of i))) ∧ GrY (w.heap.size + 1) (w.heap.size + 1) W1 wr) (fun _ x _ => n - (intOf x).toNat)
  case atStart => exact ⟨0, Nat.zero_le _, rfl, Lib.hid (by rw [HZ.out.1, HZ.out.2]; exact ⟨P0, P1⟩), Lib.hid ⟨rfl, Or.inl ⟨rfl, rfl⟩⟩, GrY.refl _ _ _⟩
  case round =>
    clear P0 P1
    obtain ⟨i, hi, rfl, HP, HO, hg⟩ := hrel
    have k0 := GrY.at (w' := wr) hg (by omega) (by omega) k0; have k1 := GrY.at (w' := wr) hg (by omega) (by omega) k1; have k2 := GrY.at (w' := wr) hg (by omega) (by omega) k2; have k3 := GrY.at (w' := wr) hg (by omega) (by omega) k3; have k4 := GrY.at (w' := wr) hg (by omega) (by omega) k4
    have bw := hg.size
    by_cases hlt : i < n
    · obtain rfl := HA.out (by omega)
      have a0 := GrY.at hg (by have := World.block_lt_of_cell? _ _ (HX.out i hlt); simp only at this; omega) (by have := World.block_lt_of_cell? _ _ (HX.out i hlt); simp only at this; omega) (Gr.at g2 (HX.out i hlt))
      have ib0 : (0 : Int) ≤ (i : Int) := by omega
      have ib1 : (i : Int) < (n : Int) := by omega
      have HSi := Lib.hid (HST.out i hlt)
      have s0 := HP.out.1.1; have s1 := HP.out.2.1
      have ob := HOB.out i hlt
      clear HX HST HOB HZ
      obtain ⟨oi, hoi⟩ : ∃ z, of i = z := ⟨_, rfl⟩
      obtain ⟨swn, hsw⟩ : ∃ z, sw (i + 1) = z := ⟨_, rfl⟩
      obtain ⟨shn, hsh⟩ : ∃ z, sh (i + 1) = z := ⟨_, rfl⟩
      rw [hoi, hsw, hsh] at HSi
      rw [hoi] at ob
      have HOI := Lib.hid hoi; have HSW := Lib.hid hsw; have HSH := Lib.hid hsh
      clear hoi hsw hsh
      obtain ⟨x, hx⟩ : ∃ z, X i = z := ⟨_, rfl⟩
      rw [hx] at a0 HSi
      clear hx
      obtain ⟨wi, hwi⟩ : ∃ z, sw i = z := ⟨_, rfl⟩
      obtain ⟨hi_, hhi⟩ : ∃ z, sh i = z := ⟨_, rfl⟩
      rw [hwi, hhi] at HSi
      rw [hwi, hhi] at HP
      rw [hwi] at s0
      rw [hhi] at s1
      clear hwi hhi
      go_wp2_with fail
      refine (HSi.out _ (by omega)).mono ?_
      rintro e w5 ⟨rfl, hb5⟩
      have k0 := Gr.at (w1 := w5) gr_auto k0; have k1 := Gr.at (w1 := w5) gr_auto k1; have k2 := Gr.at (w1 := w5) gr_auto k2; have k3 := Gr.at (w1 := w5) gr_auto k3; have k4 := Gr.at (w1 := w5) gr_auto k4; have a0 := Gr.at (w1 := w5) gr_auto a0; have s0 := Gr.at (w1 := w5) gr_auto s0; have s1 := Gr.at (w1 := w5) gr_auto s1
      go_wp2_with fail
      (first | refine name_world ?_ | refine (show (∀ W, W = _ → Calls _ _ _ W _) → Calls _ _ _ _ _ from fun h => h _ rfl) ?_); intro W7 hW7
      have gb7 : Gr wr W7 := by rw [hW7]; exact gr_auto
      have q0 : W7.cell? ⟨w5.heap.size, 0, none⟩ = some (.int .i64 swn) := by rw [hW7]; simp [go_sem, *]
      have q1 : W7.cell? ⟨w5.heap.size, 1, none⟩ = some (.int .i64 shn) := by rw [hW7]; simp [go_sem, *]
      clear hW7
      have P07 := HP.out.1.gr gb7; have P17 := HP.out.2.gr gb7
      have p0 := P07.1; have fp0 := P07.2; have p1 := P17.1; have fp1 := P17.2
      have HO7 := Lib.hid (ownsRow_gr HO.out gb7)
      have gy7 := GrY.gr hg gb7
      have hfar1 : some (w.heap.size + 1) ≠ u11.ownBlock := own_far HO.out (by omega)
      have z5 := Gr.size hb5; have z7 := Gr.size gb7
      have zT := World.block_lt_of_cell? _ _ q0
      simp only at zT
      have hfarT : some w5.heap.size ≠ u11.ownBlock := fun e => by
        have := (HO.out.lt w5.heap.size (by first | exact e | exact e.symm)).2; omega
      obtain ⟨BT, hBT⟩ : ∃ z, w5.heap.size = z := ⟨_, rfl⟩
      rw [hBT] at q0 q1 zT hfarT z5
      simp only [hBT]
      have nBT : w.heap.size + 1 < BT := by omega
      have nBT2 := Nat.ne_of_lt nBT
      clear hBT k0 k1 k2 k3 k4 a0 s0 s1 P07 P17 HP HO hb5
      go_region_law (first | (refine step_append_lies _ (by rfl) _ _ 23 (by rfl) W1.heap.size 3 i1 (.int .i64 0) 1 8 Try.underlying23 KI.out KZ0.out KZ1.out KZ2.out rfl (by decide) u11 i ((List.range i).map fun i => .int .i64 (of i)) (by rfl) (ownsRow_gr HO7.out (by exact gr_auto)) _ 1 1 [.int .i64 oi] (by rfl) rfl (by intro p u hp; rcases p with _ | p <;> simp at hp <;> (try subst hp) <;> first | (simp [Addr.add, go_sem]; done) | (simp [Addr.add]; done)) (by intro u hu; simp at hu; subst hu; rfl) (by omega) (by unfold maxLen; omega) (by omega) (by first | omega | (simp; done) | (simp; omega)) _ rfl ?_; intro g9 cp9 w9 hown9 hgrow9 hat9 hlt9; have j0 := (hgrow9.cell_far ⟨w.heap.size + 1, 0, none⟩ (by simp; omega) hfar1).trans (Gr.at (show Gr W7 _ from gr_auto) p0); have j1 := (hgrow9.cell_far ⟨w.heap.size + 1, 1, none⟩ (by simp; omega) hfar1).trans (Gr.at (show Gr W7 _ from gr_auto) p1); have f0 := (hgrow9.frozen_far ⟨w.heap.size + 1, 0, none⟩ (by simp; omega) hfar1).trans (Gr.free (show Gr W7 _ from gr_auto) p0 fp0); have f1 := (hgrow9.frozen_far ⟨w.heap.size + 1, 1, none⟩ (by simp; omega) hfar1).trans (Gr.free (show Gr W7 _ from gr_auto) p1 fp1); have l0 := (hgrow9.cell_far ⟨BT, 0, none⟩ (by simp; omega) hfarT).trans (Gr.at (show Gr W7 _ from gr_auto) q0); have l1 := (hgrow9.cell_far ⟨BT, 1, none⟩ (by simp; omega) hfarT).trans (Gr.at (show Gr W7 _ from gr_auto) q1); have gy9 : GrY (w.heap.size + 1) (w.heap.size + 1) W1 w9 := GrY.grow (base := W1.heap.size) (GrY.gr gy7 (show Gr W7 _ from gr_auto)) (Nat.le_refl _) (ownsRow_gr HO7.out (show Gr W7 _ from gr_auto)) hgrow9))
      all_goals
        have HOn := Lib.hid (show ((w9.setCell ⟨w.heap.size + 1, 0, none⟩ (.int .i64 swn)).setCell ⟨w.heap.size + 1, 1, none⟩ (.int .i64 shn)).ownsRow W1.heap.size 3 1 (.slice (some ⟨g9, 0, none⟩) (i + 1) cp9) (i + 1) ((List.range (i + 1)).map fun i => .int .i64 (of i)) from ownsRow_set (ownsRow_set (by rw [List.range_succ, List.map_append, List.map_cons, List.map_nil, HOI.out]; exact hown9) (by omega)) (by omega))
        have HPn := Lib.hid (show Own ((w9.setCell ⟨w.heap.size + 1, 0, none⟩ (.int .i64 swn)).setCell ⟨w.heap.size + 1, 1, none⟩ (.int .i64 shn)) (w.heap.size + 1) 0 (.int .i64 (sw (i + 1))) ∧ Own ((w9.setCell ⟨w.heap.size + 1, 0, none⟩ (.int .i64 swn)).setCell ⟨w.heap.size + 1, 1, none⟩ (.int .i64 shn)) (w.heap.size + 1) 1 (.int .i64 (sh (i + 1))) from by
          rw [HSW.out, HSH.out]
          exact ⟨Own.other (Own.set ⟨j0, f0⟩) (Or.inr (by decide)), Own.set (Own.other ⟨j1, f1⟩ (Or.inr (by decide)))⟩)
        have gyn := GrY.setCell (GrY.setCell gy9 (p := ⟨w.heap.size + 1, 0, none⟩) rfl (.int .i64 swn)) (p := ⟨w.heap.size + 1, 1, none⟩) rfl (.int .i64 shn)
        clear hown9 hgrow9 hat9 j0 j1 f0 f1 l0 l1 gy9 HSi
        go_wp2_with fail
        go_roundw
        case rel => exact ⟨i + 1, by omega, by go_num, HPn, HOn, gyn⟩
        case measure => simp [intOf]; omega
    · obtain rfl : n = i := by omega
      have r0 := GrY.keep hg (by omega) (by omega) HR01.out.1; have r1 := GrY.keep hg (by omega) (by omega) HR01.out.2
      have s0 := HP.out.1.1; have s1 := HP.out.2.1
      have e0 := r0.1; have e1 := r0.2; have e2 := r1.1; have e3 := r1.2
      have hbo : ∀ i, i < n → Ba.i64 (of i) := fun i hi => by have h := HOB.out i hi; unfold Ba.i64; omega
      obtain ⟨A9, c9, b9, rfl, q1, q2, q3, q4⟩ := ownsRow_at HO.out
      clear q1 q2 q3 q4
      have HOf := Lib.hid (own_sli (ownsRow_set (B := w.heap.size + 1 + 1) (o := 1) (u := .int .i64 (sh n)) (ownsRow_set (B := w.heap.size + 1 + 1) (o := 0) (u := .int .i64 (sw n)) HO.out (by omega)) (by omega)) hbo)
      have gf : Gr w ((wr.setCell ⟨w.heap.size + 1 + 1, 0, none⟩ (.int .i64 (sw n))).setCell ⟨w.heap.size + 1 + 1, 1, none⟩ (.int .i64 (sh n))) := Gr.setCell (Gr.setCell (GrY.below g2 (by omega) (by omega) hg) (by simp only; omega) _) (by simp only; omega) _
      have u0 : (wr.setCell ⟨w.heap.size + 1 + 1, 0, none⟩ (.int .i64 (sw n))).cell? ⟨w.heap.size + 1 + 1, 0, none⟩ = some (.int .i64 (sw n)) := (Own.set (o := 0) ⟨e0, e1⟩).1
      have u1 : ((wr.setCell ⟨w.heap.size + 1 + 1, 0, none⟩ (.int .i64 (sw n))).setCell ⟨w.heap.size + 1 + 1, 1, none⟩ (.int .i64 (sh n))).cell? ⟨w.heap.size + 1 + 1, 0, none⟩ = some (.int .i64 (sw n)) := (Own.other (o' := 1) (Own.set (o := 0) ⟨e0, e1⟩) (Or.inr (by decide))).1
      have u2 : ((wr.setCell ⟨w.heap.size + 1 + 1, 0, none⟩ (.int .i64 (sw n))).setCell ⟨w.heap.size + 1 + 1, 1, none⟩ (.int .i64 (sh n))).cell? ⟨w.heap.size + 1 + 1, 1, none⟩ = some (.int .i64 (sh n)) := (Own.set (Own.other (o := 1) (o' := 0) ⟨e2, e3⟩ (Or.inr (by decide)))).1
      have nq : w.heap.size + 1 ≠ w.heap.size + 1 + 1 := by omega
      clear hbo HO HP HR01 HX HST HOB HZ k0 k1 k2 k3 k4 r0 r1
      go_wp2_with fail
      refine bodyPost_ret (by simp [results, Try.results61, go_sem, u1, u2]; try rfl) rfl ?_
      obtain ⟨s, hs, z1, z2, z3⟩ := HOf.out
      simp only [Value.slice.injEq] at hs
      obtain ⟨h1, h2, h3⟩ := hs
      exact ⟨s, by rw [← h1, ← h2, ← h3], z1, z2, fun i hi => z3 i (by omega), gf⟩

end Go.Proofs.Ytjighhphadfoiaa
