/-
  Runoff: ratio.Share of what is right. (Printed by mkh.py.)
  Runoff: runoff.sum of numbers that are not negative; Dry's own function, the volume up to a time. (Printed by mki.py.)
-/
import Derived.Test.YtajhhplgcegodaaGreatDoorInf16
import Derived.Test.YtajhhplgcegodaaGreatDoorInf23

set_option linter.unusedVariables false
set_option linter.unusedSimpArgs false
namespace Go.Proofs.YtajhhplgcegodaaGreatDoor
open Go.RowKit
attribute [local go_sem ↓] Go.wp_at_zero Go.wp_at_succ
set_option maxRecDepth 100000 in
set_option maxHeartbeats 4000000 in
theorem share_ok (A : Option Addr) (n c b oo : Nat) (X : Nat → Int) (t : Int) (w : World) (hn1 : 1 ≤ n) (hn : n ≤ 1000) (hA : A = some ⟨b, oo, none⟩) (ht : 0 ≤ t ∧ t ≤ 1099511627776) (HX : Hid (∀ i, i < n → w.cell? ⟨b, oo + i, none⟩ = some (.int .i64 (X i)) ∧ 0 ≤ X i ∧ X i ≤ 1073741824))
    (SM : Nat → Int) (HS0 : Hid (SM 0 = 0)) (HSS : Hid (∀ i, SM (i + 1) = SM i + X i)) (HSB : Hid (∀ i, i ≤ n → 0 ≤ SM i ∧ SM i ≤ 1099511627776)) (hpos : 0 < SM n)
    (q hi lo r : Nat → Int) (HQ0 : Hid (q 0 = 0)) (HQB : Hid (∀ i, i ≤ n → 0 ≤ q i ∧ q i ≤ 1099511627776))
    (HM : Hid (∀ i, i < n → ∀ W : World, Calls Tryz.prog 151 #[.int .u64 t, .int .u64 (SM (i + 1))] W fun e w' => e = .returned (.tuple #[.int .u64 (hi i), .int .u64 (lo i)]) ∧ W = w'))
    (HD : Hid (∀ i, i < n → ∀ W : World, Calls Tryz.prog 152 #[.int .u64 (hi i), .int .u64 (lo i), .int .u64 (SM n)] W fun e w' => e = .returned (.tuple #[.int .u64 (q (i + 1)), .int .u64 (r i)]) ∧ Gr W w')) : Calls Tryz.prog 96 #[.int .i64 t, .slice A n c] w (fun e w' => ∃ s : Ba.SlI, e = .returned (.tuple #[.slice s.A s.n s.c, .int .i64 0]) ∧ s.At w' ∧ s.n = n ∧ (∀ i, i < n → s.X i = q (i + 1) - q i) ∧ Gr w w') := by
  subst hA
  obtain ⟨i1, hi0, hz0, hz1, hz2⟩ := info_parts info_int
  have KI := Lib.hid hi0; have KZ0 := Lib.hid hz0; have KZ1 := Lib.hid hz1; have KZ2 := Lib.hid hz2
  clear hi0 hz0 hz1 hz2
  have tn := HSB.out n (Nat.le_refl _)
  go_enter Tryz.func96, Tryz.ntmps96
  go_wp2_with fail
  go_loopw [6, 7, 30] (fun v vg x wr => ∃ i : Nat, i ≤ n ∧ x = .int .i64 (i : Int) ∧ v = .int .i64 (SM i) ∧ vg = .bool false ∧ Gr w wr) (fun _ _ x _ => n - (intOf x).toNat)
  case atStart => exact ⟨0, Nat.zero_le _, rfl, by rw [HS0.out], rfl, Gr.refl _⟩
  case round =>
    obtain ⟨i, hi_, rfl, rfl, rfl, hg⟩ := hrel
    have tb := HSB.out i hi_
    by_cases hlt : i < n
    · obtain ⟨a0, x0, x1⟩ := HX.out i hlt
      replace a0 := Gr.at hg a0
      have T := Lib.hid (HSS.out i)
      have tc := HSB.out (i + 1) hlt
      rw [T.out] at tc
      have ib0 : (0 : Int) ≤ (i : Int) := by omega
      have ib1 : (i : Int) < (n : Int) := by omega
      have hpn := Lib.hid hpos
      clear HX HS0 HSS HSB HQ0 HQB HM HD hpos tn
      generalize SM i = s0 at *
      generalize X i = x at *
      go_wp2_with fail
      go_roundw
      case rel => exact ⟨i + 1, by omega, by go_num, by rw [T.out], rfl, hg⟩
      case measure => simp [intOf]; omega
    · obtain rfl : n = i := by omega
      have HSn := Lib.hid (show SM n = SM n from rfl)
      obtain ⟨sn, hsn⟩ : ∃ s, SM n = s := ⟨_, rfl⟩
      have HN := Lib.hid hsn
      rw [hsn] at hpos tn tb HD
      rw [hsn]
      clear HSn hsn
      have nz : (sn == 0) = false := by simp; omega
      go_wp2_with (at_make; refine wpList_make_own _ rfl _ _ _ rfl w.heap.size 3 i1 (.int .i64 0) 1 Tryz.underlying26 KI.out KZ0.out KZ1.out .i64 .i64 n n rfl rfl rfl ?d1 ?d2 ?d3 ?_)
      case d1 => rw [KZ2.out]; omega
      case d2 => unfold maxLen; omega
      case d3 => exact Gr.size hg
      intro w3 hown hgrow
      have G3 : Gr w w3 := Gr.own (base := w.heap.size) hg (Nat.le_refl _) (n := 0) (e := 3) (size := 1) (xs := []) (v := .slice none 0 0) ⟨rfl, Or.inl ⟨rfl, rfl⟩⟩ hgrow
      have HO0 := Lib.hid hown
      clear hown hgrow
      go_wp2_with fail
      go_loopw [10, 11, 12, 56] (fun va vf vb x wz => ∃ i : Nat, i ≤ n ∧ x = .int .i64 (i : Int) ∧ vf = .int .i64 (SM i) ∧ vb = .int .i64 (q i) ∧ Hid (wz.ownsRow w.heap.size 3 1 va i ((List.range i).map fun i => .int .i64 (q (i + 1) - q i))) ∧ Gr w wz) (fun _ _ _ x _ => n - (intOf x).toNat)
      case atStart => exact ⟨0, Nat.zero_le _, rfl, by rw [HS0.out], by rw [HQ0.out], HO0, G3⟩
      case round =>
        clear HO0 G3 hg tb
        rename_i wq
        obtain ⟨i, hi_, rfl, rfl, rfl, HO, hg⟩ := hrel
        have tb := HSB.out i hi_
        have qb := HQB.out i hi_
        by_cases hlt : i < n
        · obtain ⟨a0, x0, x1⟩ := HX.out i hlt
          replace a0 := Gr.at hg a0
          have T := Lib.hid (HSS.out i)
          have tc := HSB.out (i + 1) hlt
          have qc := HQB.out (i + 1) hlt
          have HMi := Lib.hid (HM.out i hlt)
          have HDi := Lib.hid (HD.out i hlt)
          rw [T.out] at tc HMi
          have ib0 : (0 : Int) ≤ (i : Int) := by omega
          have ib1 : (i : Int) < (n : Int) := by omega
          obtain ⟨qn, hqn⟩ : ∃ z, q (i + 1) = z := ⟨_, rfl⟩
          obtain ⟨qo, hqo⟩ : ∃ z, q i = z := ⟨_, rfl⟩
          have HQN := Lib.hid hqn; have HQO := Lib.hid hqo
          rw [hqn] at qc HDi
          rw [hqo] at qb
          rw [hqo]
          clear HX HS0 HSS HSB HQ0 HQB HM HD hqn hqo HN
          generalize SM i = s0 at *
          generalize X i = x at *
          generalize hi i = h1 at *
          generalize lo i = l1 at *
          generalize r i = r1 at *
          go_wp2_with fail
          refine (HMi.out _).mono ?_
          rintro e w4 ⟨rfl, rfl⟩
          go_wp2_with fail
          refine (HDi.out _).mono ?_
          rintro e w5 ⟨rfl, hb5⟩
          have g5 := hg.trans hb5
          have HO5 := Lib.hid (ownsRow_gr HO.out hb5)
          have bw3 := Gr.size g5
          clear HMi HDi HO
          go_wp2_with (at_builtin; refine wpList_append_own _ rfl _ _ 26 rfl w.heap.size 3 i1 (.int .i64 0) 1 8 Tryz.underlying26 KI.out KZ0.out KZ1.out KZ2.out rfl (by decide) _ i ((List.range i).map fun i => .int .i64 (q (i + 1) - q i)) rfl (ownsRow_gr HO5.out (by exact gr_auto)) ⟨w5.heap.size, 0, none⟩ 1 1 [.int .i64 (qn - qo)] rfl rfl (by intro p u hp; rcases p with _ | p <;> simp at hp <;> (try subst hp) <;> first | (simp [Addr.add, go_sem]; done) | (simp [Addr.add]; done)) (by intro u hu; simp at hu; subst hu; rfl) (by unfold maxLen; omega) (by omega) (by simp; omega) ?_)
          intro v' w9 hown' hgrow hnil
          have hg9 : Gr w w9 := by
            refine Gr.own (base := w.heap.size) ?_ (Nat.le_refl _) (ownsRow_gr HO5.out ?_) hgrow
            · exact g5.trans (by exact gr_auto)
            · exact gr_auto
          have HO9 := Lib.hid (show w9.ownsRow w.heap.size 3 1 v' (i + 1) ((List.range (i + 1)).map fun i => .int .i64 (q (i + 1) - q i)) from by
            rw [List.range_succ, List.map_append, List.map_cons, List.map_nil, HQN.out, HQO.out]; exact hown')
          clear hown' hgrow hnil HO5
          go_wp2_with fail
          go_roundw
          case rel => exact ⟨i + 1, by omega, by go_num, by rw [T.out], by rw [HQN.out], HO9, hg9⟩
          case measure => simp [intOf]; omega
        · obtain rfl : n = i := by omega
          have hbo : ∀ i, i < n → Ba.i64 (q (i + 1) - q i) := fun i hi => by
            have h1 := HQB.out i (by omega); have h2 := HQB.out (i + 1) (by omega)
            unfold Ba.i64; omega
          obtain ⟨s, rfl, r1, r2, r3⟩ := own_sli HO.out hbo
          have R1 := Lib.hid r1; have R2 := Lib.hid r2; have R3 := Lib.hid r3
          clear r1 r2 r3 hbo HX HS0 HSS HSB HQ0 HQB HM HD KI KZ0 KZ1 KZ2 HO HN
          go_wp2_with fail
          refine bodyPost_ret (by simp [results, Tryz.results96, go_sem]; try rfl) rfl ?_
          exact ⟨s, rfl, R1.out, R2.out, fun i hi => R3.out i (by rw [R2.out]; exact hi), hg⟩
end Go.Proofs.YtajhhplgcegodaaGreatDoor
set_option linter.unusedVariables false
set_option linter.unusedSimpArgs false
namespace Go.Proofs.YtajhhplgcegodaaGreatDoor
open Go.RowKit
attribute [local go_sem ↓] Go.wp_at_zero Go.wp_at_succ
set_option maxRecDepth 100000 in
set_option maxHeartbeats 4000000 in
theorem qsum_any (A : Option Addr) (n c b oo : Nat) (X SM : Nat → Int) (w : World) (hn : n ≤ 100000) (HA : Hid (0 < n → A = some ⟨b, oo, none⟩)) (HX : Hid (∀ i, i < n → w.cell? ⟨b, oo + i, none⟩ = some (.int .i64 (X i)) ∧ 0 ≤ X i ∧ X i ≤ 1099511627776)) (HS0 : Hid (SM 0 = 0)) (HSS : Hid (∀ i, SM (i + 1) = SM i + X i)) (HB : Hid (∀ i, i ≤ n → 0 ≤ SM i ∧ SM i ≤ 1099511627776)) : Calls Tryz.prog 98 #[.slice A n c] w fun e w' => e = .returned (.int .i64 (SM n)) ∧ Gr w w' := by
  go_enter Tryz.func98, Tryz.ntmps98
  go_wp2_with fail
  go_loopw [3, 8] (fun v x wr => ∃ i : Nat, i ≤ n ∧ x = .int .i64 (i : Int) ∧ v = .int .i64 (SM i) ∧ Gr w wr) (fun _ x _ => n - (intOf x).toNat)
  case atStart => exact ⟨0, Nat.zero_le _, rfl, by rw [HS0.out], Gr.refl _⟩
  case round =>
    obtain ⟨i, hi, rfl, rfl, hg⟩ := hrel
    have t := HB.out i hi
    by_cases hlt : i < n
    · obtain rfl := HA.out (by omega)
      obtain ⟨a0, a1, a2⟩ := HX.out i hlt
      replace a0 := Gr.at hg a0
      have ib0 : (0 : Int) ≤ (i : Int) := by omega
      have ib1 : (i : Int) < (n : Int) := by omega
      have T := Lib.hid (HSS.out i)
      clear HX HB HSS HS0
      generalize SM i = s0 at *
      generalize X i = x at *
      have mx := Lib.hid (show max 0 x = x by omega)
      go_wp2_with fail
      go_roundw
      case rel => exact ⟨i + 1, by omega, by go_num, by rw [T.out, mx.out], gr_auto⟩
      case measure => simp [intOf]; omega
    · obtain rfl : n = i := by omega
      clear HX HB HSS
      go_wp2_with fail
      go_ret
      exact ⟨rfl, hg⟩
set_option maxRecDepth 100000 in
set_option maxHeartbeats 4000000 in
theorem upf_any (t m daily y sv dd ym qv : Int) (BL BD BP : Nat) (PA : Option Addr) (pn pc pb po p : Nat) (w : World) (ht : 0 ≤ t ∧ t ≤ 864000000) (hm : 1 ≤ m ∧ m ≤ 86400) (hdd : Hid (t / 86400 * daily = dd)) (hym : Hid (y * (t % 86400 % m) = ym)) (hqv : Hid (ym / m = qv)) (bdd : 0 ≤ dd ∧ dd ≤ 1000000000000000000) (bym : 0 ≤ ym ∧ ym ≤ 1000000000000000000) (bqv : 0 ≤ qv ∧ qv ≤ 1000000000000000000) (bsv : 0 ≤ sv ∧ sv ≤ 1099511627776) (hp : Hid (t % 86400 / m = (p : Int))) (hpn : p < pn) (hpc : pn ≤ pc) (hmax : pc ≤ 9223372036854775807)
    (cL : w.cell? ⟨BL, 0, none⟩ = some (.int .i64 m)) (cD : w.cell? ⟨BD, 0, none⟩ = some (.int .i64 daily)) (cP : w.cell? ⟨BP, 0, none⟩ = some (.slice PA pn pc)) (hPA : PA = some ⟨pb, po, none⟩) (cY : w.cell? ⟨pb, po + p, none⟩ = some (.int .i64 y))
    (HS : Hid (∀ W, Gr w W → Calls Tryz.prog 98 #[.slice PA p pc] W fun e w' => e = .returned (.int .i64 sv) ∧ Gr W w')) : Calls Tryz.prog 97 #[.int .i64 t, .pointer (some ⟨BL, 0, none⟩), .pointer (some ⟨BD, 0, none⟩), .pointer (some ⟨BP, 0, none⟩)] w fun e w' => e = .returned (.int .i64 (dd + sv + qv)) ∧ Gr w w' := by
  subst hPA
  have r0 : 0 ≤ t % 86400 := by omega
  have r1 : t % 86400 < 86400 := by omega
  have d0 : 0 ≤ t / 86400 := by omega
  have d1 : t / 86400 ≤ 10000 := by omega
  have m0 : m ≠ 0 := by omega
  have p0 : 0 ≤ t % 86400 / m := Int.ediv_nonneg r0 (by omega)
  have p1 : t % 86400 / m ≤ 86400 := by have := Int.ediv_le_self m r0; omega
  have q0 : 0 ≤ t % 86400 % m := Int.emod_nonneg _ m0
  have q1 : t % 86400 % m < m := Int.emod_lt_of_pos _ (by omega)
  have hBL : BL < w.heap.size := World.block_lt_of_cell? _ _ cL
  have hBD : BD < w.heap.size := World.block_lt_of_cell? _ _ cD
  have hBP : BP < w.heap.size := World.block_lt_of_cell? _ _ cP
  go_enter Tryz.func97, Tryz.ntmps97
  go_wp2_with fail
  obtain ⟨dy, hdy⟩ : ∃ z, t / 86400 = z := ⟨_, rfl⟩
  obtain ⟨rs, hrs⟩ : ∃ z, t % 86400 = z := ⟨_, rfl⟩
  rw [hdy] at hdd d0 d1
  rw [hrs] at hym hp r0 r1 p0 p1 q0 q1
  simp only [hdy, hrs, hp.out]
  obtain ⟨rm, hrm⟩ : ∃ z, rs % m = z := ⟨_, rfl⟩
  rw [hrm] at hym q0 q1
  have HRM := Lib.hid hrm
  clear hdy hrs hp p0 p1 hrm
  have ib0 : (0 : Int) ≤ (p : Int) := by omega
  have ib1 : (p : Int) < (pn : Int) := by omega
  have hdd' := hdd.out; have hym' := hym.out; have hqv' := hqv.out; have hrm' := HRM.out
  have o1 : 0 ≤ dd + sv ∧ dd + sv ≤ 2000000000000000000 := by omega
  have o2 : 0 ≤ dd + sv + qv ∧ dd + sv + qv ≤ 4000000000000000000 := by omega
  (first | refine name_world ?_ | refine (show (∀ W, W = _ → Calls _ _ _ W _) → Calls _ _ _ _ _ from fun h => h _ rfl) ?_); intro W2 hW2
  have g2 : Gr w W2 := by rw [hW2]; exact gr_auto
  have gb2_w : Gr w W2 := by (try clear g2); rw [hW2]; exact gr_auto
  have k2_0 : W2.cell? ⟨BL, 0, none⟩ = some (.int .i64 m) := by rw [hW2]; first | (simp [go_sem, *]; done) | (refine Gr.at ?_ (by assumption); exact gr_auto)
  have b2_0 : BL < W2.heap.size := World.block_lt_of_cell? _ _ k2_0
  have k2_1 : W2.cell? ⟨BD, 0, none⟩ = some (.int .i64 daily) := by rw [hW2]; first | (simp [go_sem, *]; done) | (refine Gr.at ?_ (by assumption); exact gr_auto)
  have b2_1 : BD < W2.heap.size := World.block_lt_of_cell? _ _ k2_1
  have k2_2 : W2.cell? ⟨BP, 0, none⟩ = some (.slice (some ⟨pb, po, none⟩) pn pc) := by rw [hW2]; first | (simp [go_sem, *]; done) | (refine Gr.at ?_ (by assumption); exact gr_auto)
  have b2_2 : BP < W2.heap.size := World.block_lt_of_cell? _ _ k2_2
  have k2_3 : W2.cell? ⟨pb, po + p, none⟩ = some (.int .i64 y) := by rw [hW2]; first | (simp [go_sem, *]; done) | (refine Gr.at ?_ (by assumption); exact gr_auto)
  have b2_3 : pb < W2.heap.size := World.block_lt_of_cell? _ _ k2_3
  clear hW2
  have s2_0 : ∀ gw : GW W2, gw.1.cell? ⟨BL, 0, none⟩ = some (.int .i64 m) := fun gw => Gr.at gw.2 k2_0
  have s2_1 : ∀ gw : GW W2, gw.1.cell? ⟨BD, 0, none⟩ = some (.int .i64 daily) := fun gw => Gr.at gw.2 k2_1
  have s2_2 : ∀ gw : GW W2, gw.1.cell? ⟨BP, 0, none⟩ = some (.slice (some ⟨pb, po, none⟩) pn pc) := fun gw => Gr.at gw.2 k2_2
  have s2_3 : ∀ gw : GW W2, gw.1.cell? ⟨pb, po + p, none⟩ = some (.int .i64 y) := fun gw => Gr.at gw.2 k2_3
  have HS3 := Lib.hid (fun gw : GW W2 => gw_call (HS.out gw.1 (g2.trans gw.2)))
  refine wp_region_gr (by kernel_rfl) (by kernel_rfl) ?_
  repeat (go_big_quiet_step ((go_at_call 98; exact HS3.out _)))
  refine wpQuiet_nil ?_
  intro w3 hb3
  clear s2_0 s2_1 s2_2 s2_3
  have g3 : Gr w w3 := g2.trans hb3
  have k2_0 := Gr.at hb3 k2_0
  have k2_1 := Gr.at hb3 k2_1
  have k2_2 := Gr.at hb3 k2_2
  have k2_3 := Gr.at hb3 k2_3
  go_wp2_with fail
  go_ret
  exact ⟨rfl, g3⟩
end Go.Proofs.YtajhhplgcegodaaGreatDoor
