/-
  Land use: square metres (landuse.part, landuse.Metres of what is right). (Printed by mkrm.py.)
-/
import Derived.Test.YtajhhplgcegodaaGreatDoorInf26
import Derived.Test.YtajhhplgcegodaaGreatDoorInf23
import Derived.Test.YtajhhplgcegodaaGreatDoorInf02

set_option linter.unusedVariables false
set_option linter.unusedSimpArgs false
namespace Go.Proofs.YtajhhplgcegodaaGreatDoor
open Go.RowKit
attribute [local go_sem ↓] Go.wp_at_zero Go.wp_at_succ
namespace Ba
/-- Where the first i numbers end, in parts of the whole in square metres; the share of number i. -/
def mtQ (X : Nat → Int) (n i : Nat) : Int := if sumI X n = 0 then 0 else sumI X n / 2000000 * sumI X i / sumI X n
def mtI (X : Nat → Int) (n i : Nat) : Int := mtQ X n (i + 1) - mtQ X n i
theorem part_bd {t n a : Int} (ht : 0 ≤ t ∧ t ≤ 1152921504606846976) (hn : 0 ≤ n ∧ n ≤ a) (ha : 0 < a ∧ a ≤ 1152921504606846976) : 0 ≤ t * n ∧ t * n / 18446744073709551616 < a ∧ 0 ≤ t * n / a ∧ t * n / a ≤ t := by
  have h0 : 0 ≤ t * n := Int.mul_nonneg ht.1 hn.1
  have h1 : t * n ≤ t * a := Int.mul_le_mul_of_nonneg_left hn.2 ht.1
  have h2 : t * a ≤ 1152921504606846976 * a := Int.mul_le_mul_of_nonneg_right ht.2 (by omega)
  refine ⟨h0, ?_, Int.ediv_nonneg h0 (by omega), Int.ediv_le_of_le_mul ha.1 h1⟩
  have : t * n / 18446744073709551616 ≤ 1152921504606846976 * a / 18446744073709551616 := Int.ediv_le_ediv (by decide) (by omega)
  omega
theorem sumI_mono {X : Nat → Int} {n : Nat} (h : ∀ i, i < n → 0 ≤ X i) : ∀ k i, i + k = n → 0 ≤ sumI X i ∧ sumI X i ≤ sumI X n
  | 0, i, e => by
    have : i = n := by omega
    subst this
    exact ⟨sumI_pos h i (Nat.le_refl _), Int.le_refl _⟩
  | k + 1, i, e => by
    have a := sumI_mono h k (i + 1) (by omega)
    have b := h i (by omega)
    have c := sumI_pos h i (by omega)
    rw [sumI] at a
    exact ⟨c, by omega⟩
where
  sumI_pos {X : Nat → Int} {n : Nat} (h : ∀ i, i < n → 0 ≤ X i) : ∀ i, i ≤ n → 0 ≤ sumI X i
  | 0, _ => by rw [sumI]; exact Int.le_refl _
  | i + 1, hi => by
    have := sumI_pos h i (by omega); have := h i (by omega)
    rw [sumI]; omega
end Ba
theorem row_sl {w : World} {R n : Nat} {X : Nat → Int} (h : Row w R n (fun j => .int .i64 (X j))) (hn : n ≤ 1000) (hb : ∀ j, j < n → Ba.i64 (X j)) : Ba.SlI.At w ⟨some ⟨R, 0, none⟩, n, n, R, 0, X⟩ := ⟨fun _ => rfl, Nat.le_refl _, by simp only; omega, fun i hi => by
  simp only [Nat.zero_add]
  exact ⟨(h i hi).1, hb i hi⟩⟩
theorem luw_any (x h : Int) (w : World) : Calls Tryz.prog 106 #[.int .i64 x, .int .i64 h] w fun e w' => e = .returned (.bool (Ba.bet x 0 h)) ∧ Gr w w' := by
  unfold Ba.bet
  cases t0 : decide (0 ≤ x)
  · go_enter Tryz.func106, Tryz.ntmps106
    go_wp2_with fail
    go_ret
    exact ⟨rfl, gr_auto⟩
  · cases t1 : decide (x ≤ h)
    · go_enter Tryz.func106, Tryz.ntmps106
      go_wp2_with fail
      go_ret
      exact ⟨rfl, gr_auto⟩
    · go_enter Tryz.func106, Tryz.ntmps106
      go_wp2_with fail
      go_ret
      exact ⟨rfl, gr_auto⟩
set_option maxRecDepth 100000 in
set_option maxHeartbeats 4000000 in
theorem part_any (t n a : Int) (w : World) (ht : 0 ≤ t ∧ t ≤ 1152921504606846976) (hn : 0 ≤ n ∧ n ≤ a) (ha : 0 < a ∧ a ≤ 1152921504606846976) : Calls Tryz.prog 107 #[.int .i64 t, .int .i64 n, .int .i64 a] w fun e w' => e = .returned (.int .i64 (t * n / a)) ∧ Gr w w' := by
  obtain ⟨b0, b1, b2, b3⟩ := Ba.part_bd ht hn ha
  have HM := Lib.hid (fun W => mul64_any t n W ht.1 (by omega) hn.1 (by omega))
  have HD := Lib.hid (fun W => div64_all (t * n / 18446744073709551616) (t * n % 18446744073709551616) a W (by omega) (by omega) (by omega) b1 (by omega))
  have e : t * n / 18446744073709551616 * 18446744073709551616 + t * n % 18446744073709551616 = t * n := by omega
  rw [e] at HD
  have q1 : t * n / a ≤ 9223372036854775807 := by omega
  have t1 := ht.1; have t2 := ht.2; have n1 := hn.1; have n2 := hn.2; have a1 := ha.1; have a2 := ha.2
  clear ht hn ha e b0 b1 b3
  generalize t * n / 18446744073709551616 = h1 at *
  generalize t * n % 18446744073709551616 = l1 at *
  generalize t * n / a = q at *
  generalize t * n % a = r at *
  go_enter Tryz.func107, Tryz.ntmps107
  go_wp2_with fail
  refine (HM.out _).mono ?_
  rintro e w1 ⟨rfl, rfl⟩
  go_wp2_with fail
  refine (HD.out _).mono ?_
  rintro e w2 ⟨rfl, hb2⟩
  clear HM HD
  go_wp2_with fail
  go_ret
  exact ⟨rfl, hb2⟩
/-- What Metres answers of what is right. -/
def RetMt (s : Ba.SlI) (w : World) (e : Ending) (w' : World) : Prop := ∃ r : Ba.SlI, e = .returned (.tuple #[.slice r.A r.n r.c, .int .i64 0]) ∧ r.At w' ∧ r.n = s.n ∧ (∀ i, i < s.n → r.X i = Ba.mtI s.X s.n i) ∧ Gr w w'
/-- A row of which the first i numbers are written. -/
def mtR (X : Nat → Int) (n i j : Nat) : Int := if j < i then Ba.mtI X n j else 0
set_option maxRecDepth 100000 in
set_option maxHeartbeats 4000000 in
theorem metres_ok (s : Ba.SlI) (w : World) (hs : s.At w) (hn : s.n ≤ 1000) (hX : ∀ i, i < s.n → 0 ≤ s.X i) (ht : Ba.sumI s.X s.n ≤ 1152921504606846976) : Calls Tryz.prog 56 #[.slice s.A s.n s.c] w (RetMt s w) := by
  have HMO := Lib.hid (fun i (hi : i ≤ s.n) => Ba.sumI_mono hX (s.n - i) i (by omega))
  have HA := Lib.hid hs.hA
  have HX := Lib.hid (fun i (hi : i < s.n) => And.intro (hs.hX i hi).1 (hX i hi))
  have HS := Lib.hid (fun i => show Ba.sumI s.X (i + 1) = Ba.sumI s.X i + s.X i from rfl)
  have hs0 : Ba.sumI s.X 0 = 0 := rfl
  have HQ := Lib.hid (fun i => show Ba.mtQ s.X s.n i = if Ba.sumI s.X s.n = 0 then 0 else Ba.sumI s.X s.n / 2000000 * Ba.sumI s.X i / Ba.sumI s.X s.n from rfl)
  have HI := Lib.hid (fun i => show Ba.mtI s.X s.n i = Ba.mtQ s.X s.n (i + 1) - Ba.mtQ s.X s.n i from rfl)
  have HR := Lib.hid (fun i j => show mtR s.X s.n i j = if j < i then Ba.mtI s.X s.n j else 0 from rfl)
  have HW := Lib.hid (fun x W => luw_any x 1152921504606846976 W)
  unfold RetMt
  obtain ⟨A, n, c, b, oo, X⟩ := s
  simp only at *
  have hnc := hs.hc; have hcb := hs.hb
  simp only at hnc hcb
  clear hs hX
  generalize Ba.mtI X n = mt at *
  generalize Ba.mtQ X n = mq at *
  generalize mtR X n = mr at *
  generalize Ba.sumI X = SM at *
  obtain ⟨j1, hj0, hz0, hz1, hz2⟩ := info_parts info_int
  have KI := Lib.hid hj0; have KZ0 := Lib.hid hz0; have KZ1 := Lib.hid hz1; have KZ2 := Lib.hid hz2
  clear hj0 hz0 hz1 hz2
  have n1 : ¬ (1000 : Int) < (n : Int) := by omega
  go_enter Tryz.func56, Tryz.ntmps56
  go_wp2_with fail
  go_loopw [4, 5, 20] (fun v f x wr => ∃ i : Nat, i ≤ n ∧ x = .int .i64 (i : Int) ∧ v = .int .i64 (SM i) ∧ f = .bool false ∧ Gr w wr) (fun _ _ x _ => n - (intOf x).toNat)
  case atStart => exact ⟨0, Nat.zero_le _, rfl, by rw [hs0], rfl, Gr.refl _⟩
  case round =>
    obtain ⟨i, hi, rfl, rfl, rfl, hg⟩ := hrel
    rename World => W1
    by_cases hlt : i < n
    · obtain rfl := HA.out (by omega)
      have ib0 : (0 : Int) ≤ (i : Int) := by omega
      have ib1 : (i : Int) < (n : Int) := by omega
      obtain ⟨c0, x0⟩ := HX.out i hlt
      replace c0 := Gr.at hg c0
      have hst := HS.out i
      have m1 := HMO.out i hi; have m2 := HMO.out (i + 1) hlt
      rw [hst] at m2
      have HWi := Lib.hid (HW.out (X i))
      rw [show Ba.bet (X i) 0 1152921504606846976 = true from (Ba.bet_iff ..).2 ⟨x0, by omega⟩] at HWi
      have HST := Lib.hid hst
      have bl := World.block_lt_of_cell? _ _ c0
      simp only at bl
      clear HX HS HMO HQ HI HR HW hst
      generalize X i = x at *
      generalize SM i = sm at *
      have bt1 : -9223372036854775808 ≤ sm + x := by omega
      have bt2 : sm + x ≤ 9223372036854775807 := by omega
      have bt3 : ¬ (1152921504606846976 : Int) < sm + x := by omega
      clear m1 m2 x0
      go_wp2_with fail
      refine (HWi.out _).mono ?_
      rintro e w2 ⟨rfl, hb2⟩
      clear HWi
      go_wp2_with fail
      go_roundw
      case rel => exact ⟨i + 1, by omega, by go_num, by rw [HST.out], rfl, hg.trans hb2⟩
      case measure => simp [intOf]; omega
    · obtain rfl : n = i := by omega
      have mn := HMO.out n (Nat.le_refl _)
      have hgs := Gr.size hg
      go_wp2_with (at_make; refine wpList_make_full _ rfl _ _ _ rfl w.heap.size 3 j1 (.int .i64 0) 1 Tryz.underlying26 KI.out KZ0.out KZ1.out .i64 .i64 n n n rfl rfl rfl rfl ?d1 ?d2 ?d3 ?_)
      case d1 => rw [KZ2.out]; omega
      case d2 => unfold maxLen; omega
      case d3 => exact hgs
      intro w4 hown hgrow
      have hrow := Lib.hid (made_row hown)
      have G14 : Gr W1 w4 := Gr.own (Gr.refl _) (Nat.le_refl _) (n := 0) (e := 3) (size := 1) (xs := []) (v := .slice none 0 0) ⟨rfl, Or.inl ⟨rfl, rfl⟩⟩ hgrow
      have g4 := hg.trans G14
      obtain ⟨R, hR⟩ : ∃ R, W1.heap.size = R := ⟨_, rfl⟩
      rw [hR] at hrow hgs ⊢
      clear hown hgrow G14 hR
      by_cases hz : SM n = 0
      · have z1 : (SM n == 0) = true := by simp [hz]
        have HRZ := Lib.hid (show Row w4 R n (fun j => .int .i64 (mt j)) from fun j hj => by
          have e : mt j = 0 := by rw [HI.out, HQ.out, HQ.out, if_pos hz, if_pos hz]; rfl
          show Own w4 R j (.int .i64 (mt j)); rw [e]; exact hrow.out j hj)
        have HMZ := Lib.hid (fun j => show mt j = 0 from by rw [HI.out, HQ.out, HQ.out, if_pos hz, if_pos hz]; rfl)
        clear HX HS HMO HQ HI HR HW hrow
        go_wp2_with fail
        go_ret2
        exact ⟨⟨some ⟨R, 0, none⟩, n, n, R, 0, mt⟩, rfl, row_sl HRZ.out hn (fun j _ => by rw [HMZ.out]; unfold Ba.i64; omega), rfl, fun _ _ => rfl, g4⟩
      · have z1 : (SM n == 0) = false := by simp [hz]
        have hq0 : mq 0 = 0 := by rw [HQ.out, if_neg hz, hs0, Int.mul_zero, Int.zero_ediv]
        have HR0 := Lib.hid (show Row w4 R n (fun j => .int .i64 (mr 0 j)) from fun j hj => by
          show Own w4 R j (.int .i64 (mr 0 j)); rw [HR.out, if_neg (Nat.not_lt_zero j)]; exact hrow.out j hj)
        obtain ⟨TT, hTT⟩ : ∃ q, SM n / 2000000 = q := ⟨_, rfl⟩
        have htt : 0 ≤ TT ∧ TT ≤ 1152921504606846976 := by omega
        have HP := Lib.hid (fun i (hi : i ≤ n) W => part_any TT (SM i) (SM n) W htt (HMO.out i hi) ⟨by omega, ht⟩)
        have HQP := Lib.hid (fun i => show TT * SM i / SM n = mq i from by rw [HQ.out, if_neg hz, hTT])
        have HQB := Lib.hid (fun i (hi : i ≤ n) => show 0 ≤ mq i ∧ mq i ≤ 1152921504606846976 from by
          have := Ba.part_bd htt (HMO.out i hi) (a := SM n) ⟨by omega, ht⟩
          rw [HQP.out] at this; omega)
        have tq : (SM n).tdiv 2000000 = TT := by rw [Int.tdiv_eq_ediv_of_nonneg mn.1]; exact hTT
        clear HQ HW hrow
        go_wp2_with fail
        go_loopw [10, 11, 44] (fun pb pd x wr => ∃ i : Nat, i ≤ n ∧ x = .int .i64 (i : Int) ∧ pb = .int .i64 (mq i) ∧ pd = .int .i64 (SM i) ∧ Hid (Row wr R n (fun j => .int .i64 (mr i j))) ∧ Gr w wr) (fun _ _ x _ => n - (intOf x).toNat)
        case atStart => exact ⟨0, Nat.zero_le _, rfl, by rw [hq0], by rw [hs0], HR0, g4⟩
        case round =>
          clear HR0 g4 hg
          obtain ⟨i, hi, rfl, rfl, rfl, HRi, hgi⟩ := hrel
          rename World => W2
          by_cases hlt : i < n
          · obtain rfl := HA.out (by omega)
            have ib0 : (0 : Int) ≤ (i : Int) := by omega
            have ib1 : (i : Int) < (n : Int) := by omega
            obtain ⟨c0, x0⟩ := HX.out i hlt
            replace c0 := Gr.at hgi c0
            have hst := HS.out i
            have HST := Lib.hid hst
            have m2 := HMO.out (i + 1) hlt
            have q0 := HQB.out i hi; have q1 := HQB.out (i + 1) hlt
            have HPi := Lib.hid (HP.out (i + 1) hlt)
            rw [show TT * SM (i + 1) / SM n = mq (i + 1) from HQP.out (i + 1), hst] at HPi
            rw [hst] at m2
            have m1 := HMO.out i hi
            have e1 : mr (i + 1) i = mq (i + 1) - mq i := by rw [HR.out, if_pos (by omega), HI.out]
            have HO := Lib.hid (fun j (hj : j ≠ i) => show mr (i + 1) j = mr i j from by
              rw [HR.out, HR.out]
              by_cases q : j < i
              · rw [if_pos q, if_pos (by omega)]
              · rw [if_neg q, if_neg (by omega)])
            have HE1 := Lib.hid e1
            have bt1 : -9223372036854775808 ≤ SM i + X i := by omega
            have bt2 : SM i + X i ≤ 9223372036854775807 := by omega
            have bt3 : -9223372036854775808 ≤ mq (i + 1) - mq i := by omega
            have bt4 : mq (i + 1) - mq i ≤ 9223372036854775807 := by omega
            have bl := World.block_lt_of_cell? _ _ c0
            simp only at bl
            clear HX HS HMO HQB HQP HP HI HR hst m1 m2 e1 q0 q1 x0
            generalize X i = x at *
            generalize PE : mq (i + 1) = p1 at *
            generalize SM i = sm at *
            go_wp2_with fail
            refine (HPi.out _).mono ?_
            rintro e w5 ⟨rfl, hb5⟩
            obtain ⟨r0, r1⟩ := HRi.out.gr hb5 i hlt
            have HRn := Lib.hid (show Row (w5.setCell ⟨R, i, none⟩ (.int .i64 (p1 - mq i))) R n (fun j => .int .i64 (mr (i + 1) j)) from Row.set (k := i) (HRi.out.gr hb5) (by show Value.int .i64 _ = _; rw [HE1.out]) (fun j _ hj => by show Value.int .i64 _ = Value.int .i64 _; rw [HO.out j hj]))
            have HGn := Lib.hid (Gr.setCell (hgi.trans hb5) (p := ⟨R, i, none⟩) hgs (.int .i64 (p1 - mq i)))
            clear HPi HRi HO HE1 hb5 hgi c0
            go_wp2_with fail
            go_roundw
            case rel => exact ⟨i + 1, by omega, by go_num, by rw [PE], by rw [HST.out], HRn.out, HGn.out⟩
            case measure => simp [intOf]; omega
          · obtain rfl : n = i := by omega
            have HRF := Lib.hid (show Row W2 R n (fun j => .int .i64 (mt j)) from fun j hj => by
              have : Own W2 R j (.int .i64 (mr n j)) := HRi.out j hj
              rw [HR.out, if_pos hj] at this; exact this)
            have HMB := Lib.hid (fun j (hj : j < n) => show Ba.i64 (mt j) from by
              have a := HQB.out j (by omega); have b := HQB.out (j + 1) hj
              rw [HI.out]; unfold Ba.i64; omega)
            clear HX HS HMO HQB HQP HP HI HR HRi
            go_wp2_with fail
            go_ret2
            exact ⟨⟨some ⟨R, 0, none⟩, n, n, R, 0, mt⟩, rfl, row_sl HRF.out hn HMB.out, rfl, fun _ _ => rfl, hgi⟩
end Go.Proofs.YtajhhplgcegodaaGreatDoor
