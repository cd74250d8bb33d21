/-
  Runoff: runoff.sum of numbers that are not negative; Dry's own function, the volume up to a time. (Printed by mki.py.)
-/
import Derived.Test.YtjighhphadfoiaaRoH
set_option linter.unusedVariables false
set_option linter.unusedSimpArgs false
namespace Go.Proofs.Ytjighhphadfoiaa
open Go.RowKit
attribute [local go_sem ↓] Go.wp_at_zero Go.wp_at_succ

set_option maxRecDepth 100000 in
set_option maxHeartbeats 4000000 in
theorem qsum_any (A : Option Addr) (n c b oo : Nat) (X SM : Nat → Int) (w : World) (hn : n ≤ 100000) (HA : Hid (0 < n → A = some ⟨b, oo, none⟩)) (HX : Hid (∀ i, i < n → w.cell? ⟨b, oo + i, none⟩ = some (.int .i64 (X i)) ∧ 0 ≤ X i ∧ X i ≤ 1099511627776)) (HS0 : Hid (SM 0 = 0)) (HSS : Hid (∀ i, SM (i + 1) = SM i + X i)) (HB : Hid (∀ i, i ≤ n → 0 ≤ SM i ∧ SM i ≤ 1099511627776)) : Calls Try.prog 54 #[.slice A n c] w fun e w' => e = .returned (.int .i64 (SM n)) ∧ Gr w w' := by
  go_enter Try.func54, Try.ntmps54
  go_wp2_with fail
  go_loopw [3, 8] (fun v x wr => ∃ i : Nat, i ≤ n ∧ x = .int .i64 (i : Int) ∧ v = .int .i64 (SM i) ∧ Gr w wr) (fun _ x _ => n - (intOf x).toNat)
  case atStart => exact ⟨0, Nat.zero_le _, rfl, by rw [HS0.out], Gr.refl _⟩
  case round =>
    obtain ⟨i, hi, rfl, rfl, hg⟩ := hrel
    have t := HB.out i hi
    by_cases hlt : i < n
    · obtain rfl := HA.out (by omega)
      obtain ⟨a0, a1, a2⟩ := HX.out i hlt
      replace a0 := Gr.at hg a0
      have ib0 : (0 : Int) ≤ (i : Int) := by omega
      have ib1 : (i : Int) < (n : Int) := by omega
      have T := Lib.hid (HSS.out i)
      clear HX HB HSS HS0
      generalize SM i = s0 at *
      generalize X i = x at *
      have mx := Lib.hid (show max 0 x = x by omega)
      go_wp2_with fail
      go_roundw
      case rel => exact ⟨i + 1, by omega, by go_num, by rw [T.out, mx.out], gr_auto⟩
      case measure => simp [intOf]; omega
    · obtain rfl : n = i := by omega
      clear HX HB HSS
      go_wp2_with fail
      go_ret
      exact ⟨rfl, hg⟩

set_option maxRecDepth 100000 in
set_option maxHeartbeats 4000000 in
theorem upf_any (t m daily y sv dd ym qv : Int) (BL BD BP : Nat) (PA : Option Addr) (pn pc pb po p : Nat) (w : World) (ht : 0 ≤ t ∧ t ≤ 864000000) (hm : 1 ≤ m ∧ m ≤ 86400) (hdd : Hid (t / 86400 * daily = dd)) (hym : Hid (y * (t % 86400 % m) = ym)) (hqv : Hid (ym / m = qv)) (bdd : 0 ≤ dd ∧ dd ≤ 1000000000000000000) (bym : 0 ≤ ym ∧ ym ≤ 1000000000000000000) (bqv : 0 ≤ qv ∧ qv ≤ 1000000000000000000) (bsv : 0 ≤ sv ∧ sv ≤ 1099511627776) (hp : Hid (t % 86400 / m = (p : Int))) (hpn : p < pn) (hpc : pn ≤ pc) (hmax : pc ≤ 9223372036854775807)
    (cL : w.cell? ⟨BL, 0, none⟩ = some (.int .i64 m)) (cD : w.cell? ⟨BD, 0, none⟩ = some (.int .i64 daily)) (cP : w.cell? ⟨BP, 0, none⟩ = some (.slice PA pn pc)) (hPA : PA = some ⟨pb, po, none⟩) (cY : w.cell? ⟨pb, po + p, none⟩ = some (.int .i64 y))
    (HS : Hid (∀ W, Gr w W → Calls Try.prog 54 #[.slice PA p pc] W fun e w' => e = .returned (.int .i64 sv) ∧ Gr W w')) : Calls Try.prog 53 #[.int .i64 t, .pointer (some ⟨BL, 0, none⟩), .pointer (some ⟨BD, 0, none⟩), .pointer (some ⟨BP, 0, none⟩)] w fun e w' => e = .returned (.int .i64 (dd + sv + qv)) ∧ Gr w w' := by
  subst hPA
  have r0 : 0 ≤ t % 86400 := by omega
  have r1 : t % 86400 < 86400 := by omega
  have d0 : 0 ≤ t / 86400 := by omega
  have d1 : t / 86400 ≤ 10000 := by omega
  have m0 : m ≠ 0 := by omega
  have p0 : 0 ≤ t % 86400 / m := Int.ediv_nonneg r0 (by omega)
  have p1 : t % 86400 / m ≤ 86400 := by have := Int.ediv_le_self m r0; omega
  have q0 : 0 ≤ t % 86400 % m := Int.emod_nonneg _ m0
  have q1 : t % 86400 % m < m := Int.emod_lt_of_pos _ (by omega)
  have hBL : BL < w.heap.size := World.block_lt_of_cell? _ _ cL
  have hBD : BD < w.heap.size := World.block_lt_of_cell? _ _ cD
  have hBP : BP < w.heap.size := World.block_lt_of_cell? _ _ cP
  go_enter Try.func53, Try.ntmps53
  go_wp2_with fail
  obtain ⟨dy, hdy⟩ : ∃ z, t / 86400 = z := ⟨_, rfl⟩
  obtain ⟨rs, hrs⟩ : ∃ z, t % 86400 = z := ⟨_, rfl⟩
  rw [hdy] at hdd d0 d1
  rw [hrs] at hym hp r0 r1 p0 p1 q0 q1
  simp only [hdy, hrs, hp.out]
  obtain ⟨rm, hrm⟩ : ∃ z, rs % m = z := ⟨_, rfl⟩
  rw [hrm] at hym q0 q1
  have HRM := Lib.hid hrm
  clear hdy hrs hp p0 p1 hrm
  have ib0 : (0 : Int) ≤ (p : Int) := by omega
  have ib1 : (p : Int) < (pn : Int) := by omega
  have hdd' := hdd.out; have hym' := hym.out; have hqv' := hqv.out; have hrm' := HRM.out
  have o1 : 0 ≤ dd + sv ∧ dd + sv ≤ 2000000000000000000 := by omega
  have o2 : 0 ≤ dd + sv + qv ∧ dd + sv + qv ≤ 4000000000000000000 := by omega
  (first | refine name_world ?_ | refine (show (∀ W, W = _ → Calls _ _ _ W _) → Calls _ _ _ _ _ from fun h => h _ rfl) ?_); intro W2 hW2
  have g2 : Gr w W2 := by rw [hW2]; exact gr_auto
  have gb2_w : Gr w W2 := by (try clear g2); rw [hW2]; exact gr_auto
  have k2_0 : W2.cell? ⟨BL, 0, none⟩ = some (.int .i64 m) := by rw [hW2]; first | (simp [go_sem, *]; done) | (refine Gr.at ?_ (by assumption); exact gr_auto)
  have b2_0 : BL < W2.heap.size := World.block_lt_of_cell? _ _ k2_0
  have k2_1 : W2.cell? ⟨BD, 0, none⟩ = some (.int .i64 daily) := by rw [hW2]; first | (simp [go_sem, *]; done) | (refine Gr.at ?_ (by assumption); exact gr_auto)
  have b2_1 : BD < W2.heap.size := World.block_lt_of_cell? _ _ k2_1
  have k2_2 : W2.cell? ⟨BP, 0, none⟩ = some (.slice (some ⟨pb, po, none⟩) pn pc) := by rw [hW2]; first | (simp [go_sem, *]; done) | (refine Gr.at ?_ (by assumption); exact gr_auto)
  have b2_2 : BP < W2.heap.size := World.block_lt_of_cell? _ _ k2_2
  have k2_3 : W2.cell? ⟨pb, po + p, none⟩ = some (.int .i64 y) := by rw [hW2]; first | (simp [go_sem, *]; done) | (refine Gr.at ?_ (by assumption); exact gr_auto)
  have b2_3 : pb < W2.heap.size := World.block_lt_of_cell? _ _ k2_3
  clear hW2
  have s2_0 : ∀ gw : GW W2, gw.1.cell? ⟨BL, 0, none⟩ = some (.int .i64 m) := fun gw => Gr.at gw.2 k2_0
  have s2_1 : ∀ gw : GW W2, gw.1.cell? ⟨BD, 0, none⟩ = some (.int .i64 daily) := fun gw => Gr.at gw.2 k2_1
  have s2_2 : ∀ gw : GW W2, gw.1.cell? ⟨BP, 0, none⟩ = some (.slice (some ⟨pb, po, none⟩) pn pc) := fun gw => Gr.at gw.2 k2_2
  have s2_3 : ∀ gw : GW W2, gw.1.cell? ⟨pb, po + p, none⟩ = some (.int .i64 y) := fun gw => Gr.at gw.2 k2_3
  have HS3 := Lib.hid (fun gw : GW W2 => gw_call (HS.out gw.1 (g2.trans gw.2)))
  refine wp_region_gr (by kernel_rfl) (by kernel_rfl) ?_
  repeat (go_big_quiet_step ((go_at_call 54; exact HS3.out _)))
  refine wpQuiet_nil ?_
  intro w3 hb3
  clear s2_0 s2_1 s2_2 s2_3
  have g3 : Gr w w3 := g2.trans hb3
  have k2_0 := Gr.at hb3 k2_0
  have k2_1 := Gr.at hb3 k2_1
  have k2_2 := Gr.at hb3 k2_2
  have k2_3 := Gr.at hb3 k2_3
  go_wp2_with fail
  go_ret
  exact ⟨rfl, g3⟩

end Go.Proofs.Ytjighhphadfoiaa
