/-
  Land use, the reference: square metres (sewershedref15.Metres of what is right). Typed.
-/
import Derived.Test.YtajhhplgcegodaaGreatDoorInf27
import Derived.Test.YtajhhplgcegodaaGreatDoorInf41

set_option linter.unusedVariables false
set_option linter.unusedSimpArgs false
namespace Go.Proofs.YtajhhplgcegodaaGreatDoor
open Go.RowKit
attribute [local go_sem ↓] Go.wp_at_zero Go.wp_at_succ
set_option maxRecDepth 100000 in
set_option maxHeartbeats 4000000 in
theorem rmetres_ok (s : Ba.SlI) (w : World) (hs : s.At w) (h1 : 1 ≤ s.n) (hn : s.n ≤ 1000) (hX : ∀ i, i < s.n → 0 ≤ s.X i) (ht : Ba.sumI s.X s.n ≤ 1152921504606846976) : Calls Tryz.prog 115 #[.slice s.A s.n s.c] w (RetMt s w) := by
  have HMO := Lib.hid (fun i (hi : i ≤ s.n) => Ba.sumI_mono hX (s.n - i) i (by omega))
  have HA := hs.hA h1
  have HX := Lib.hid (fun i (hi : i < s.n) => And.intro (hs.hX i hi).1 (hX i hi))
  have HS := Lib.hid (fun i => show Ba.sumI s.X (i + 1) = Ba.sumI s.X i + s.X i from rfl)
  have hs0 : Ba.sumI s.X 0 = 0 := rfl
  have HQ := Lib.hid (fun i => show Ba.mtQ s.X s.n i = if Ba.sumI s.X s.n = 0 then 0 else Ba.sumI s.X s.n / 2000000 * Ba.sumI s.X i / Ba.sumI s.X s.n from rfl)
  have HI := Lib.hid (fun i => show Ba.mtI s.X s.n i = Ba.mtQ s.X s.n (i + 1) - Ba.mtQ s.X s.n i from rfl)
  unfold RetMt
  obtain ⟨A, n, c, b, oo, X⟩ := s
  simp only at *
  subst HA
  have hnc := hs.hc; have hcb := hs.hb
  simp only at hnc hcb
  clear hs hX
  generalize Ba.mtI X n = mt at *
  generalize Ba.mtQ X n = mq at *
  generalize Ba.sumI X = SM at *
  obtain ⟨i1, hi0, hz0, hz1, hz2⟩ := info_parts info_int
  have KI := Lib.hid hi0; have KZ0 := Lib.hid hz0; have KZ1 := Lib.hid hz1; have KZ2 := Lib.hid hz2
  clear hi0 hz0 hz1 hz2
  have n1 : ¬ (1000 : Int) < (n : Int) := by omega
  go_enter Tryz.func115, Tryz.ntmps115
  go_wp2_with fail
  go_loopw [4] (fun x wr => ∃ i : Nat, i ≤ n ∧ x = .int .i64 (i : Int) ∧ Gr w wr) (fun x _ => n - (intOf x).toNat)
  case atStart => exact ⟨0, Nat.zero_le _, rfl, Gr.refl _⟩
  case round =>
    obtain ⟨i, hi, rfl, hg⟩ := hrel
    rename World => W1
    by_cases hlt : i < n
    · have ib0 : (0 : Int) ≤ (i : Int) := by omega
      have ib1 : (i : Int) < (n : Int) := by omega
      obtain ⟨c0, x0⟩ := HX.out i hlt
      replace c0 := Gr.at hg c0
      have hst := HS.out i
      have m1 := HMO.out i hi; have m2 := HMO.out (i + 1) hlt
      rw [hst] at m2
      have x1 : X i ≤ 1152921504606846976 := by omega
      clear HX HS HMO HQ HI hst m1 m2
      generalize X i = x at *
      go_wp2_with fail
      go_roundw
      case rel => exact ⟨i + 1, by omega, by go_num, hg⟩
      case measure => simp [intOf]; omega
    · obtain rfl : n = i := by omega
      go_wp2_with fail
      go_loopw [5, 6] (fun v x wr => ∃ i : Nat, i ≤ n ∧ x = .int .i64 (i : Int) ∧ v = .int .i64 (SM i) ∧ Gr w wr) (fun _ x _ => n - (intOf x).toNat)
      case atStart => exact ⟨0, Nat.zero_le _, rfl, by rw [hs0], hg⟩
      case round =>
        clear hg
        obtain ⟨i, hi2, rfl, rfl, hg⟩ := hrel
        rename World => W2
        by_cases hlt : i < n
        · have ib0 : (0 : Int) ≤ (i : Int) := by omega
          have ib1 : (i : Int) < (n : Int) := by omega
          obtain ⟨c0, x0⟩ := HX.out i hlt
          replace c0 := Gr.at hg c0
          have hst := HS.out i
          have HST := Lib.hid hst
          have m1 := HMO.out i hi2; have m2 := HMO.out (i + 1) hlt
          rw [hst] at m2
          clear HX HS HMO HQ HI hst
          generalize X i = x at *
          generalize SM i = sm at *
          have bt1 : -9223372036854775808 ≤ sm + x := by omega
          have bt2 : sm + x ≤ 9223372036854775807 := by omega
          have bt3 : sm + x ≤ (1152921504606846976 : Int) := by omega
          clear m1 m2
          go_wp2_with fail
          go_roundw
          case rel => exact ⟨i + 1, by omega, by go_num, by rw [HST.out], hg⟩
          case measure => simp [intOf]; omega
        · obtain rfl : n = i := by omega
          have mn := HMO.out n (Nat.le_refl _)
          obtain ⟨TT, hTT⟩ : ∃ q, SM n / 2000000 = q := ⟨_, rfl⟩
          have htt : 0 ≤ TT ∧ TT ≤ 1125899906842624 := by omega
          have HQP := Lib.hid (fun i => show mq i = if SM n = 0 then 0 else TT * SM i / SM n from by rw [HQ.out, hTT])
          have HQB := Lib.hid (fun i (hi : i ≤ n) => show 0 ≤ mq i ∧ mq i ≤ 1152921504606846976 from by
            rw [HQP.out]
            by_cases z : SM n = 0
            · rw [if_pos z]; omega
            · rw [if_neg z]
              have := Ba.part_bd ⟨htt.1, by omega⟩ (HMO.out i hi) (a := SM n) ⟨by omega, ht⟩
              omega)
          have hq0 : mq 0 = 0 := by
            rw [HQP.out, hs0, Int.mul_zero, Int.zero_ediv]; split <;> rfl
          have tq : (SM n).tdiv 2000000 = TT := by rw [Int.tdiv_eq_ediv_of_nonneg mn.1]; exact hTT
          obtain ⟨tt, rfl⟩ : ∃ t : Nat, TT = (t : Int) := ⟨TT.toNat, by omega⟩
          have HP := Lib.hid (fun i (hi : i ≤ n) (hz : SM n ≠ 0) W => part02_any tt (SM i) (SM n) W (by omega) (HMO.out i hi) ⟨by omega, ht⟩)
          obtain ⟨T, hT⟩ : ∃ T, SM n = T := ⟨_, rfl⟩
          rw [hT] at HQP HP mn tq
          rw [hT]
          clear hTT HQ hT
          go_wp2_with fail
          go_loopw [7, 8, 9, 10] (fun va vb vf x wz => ∃ i : Nat, i ≤ n ∧ x = .int .i64 (i : Int) ∧ vf = .int .i64 (SM i) ∧ vb = .int .i64 (mq i) ∧ Hid (wz.ownsRow w.heap.size 3 1 va i ((List.range i).map fun i => .int .i64 (mq (i + 1) - mq i))) ∧ Gr w wz) (fun _ _ _ x _ => n - (intOf x).toNat)
          case atStart => exact ⟨0, Nat.zero_le _, rfl, by rw [hs0], by rw [hq0], Lib.hid ⟨rfl, Or.inl ⟨rfl, rfl⟩⟩, hg⟩
          case round =>
            clear hg
            obtain ⟨i, hi3, rfl, rfl, rfl, HO, hg⟩ := hrel
            rename World => W3
            have qb := HQB.out i hi3
            by_cases hlt : i < n
            · obtain ⟨c0, x0⟩ := HX.out i hlt
              replace c0 := Gr.at hg c0
              have ib0 : (0 : Int) ≤ (i : Int) := by omega
              have ib1 : (i : Int) < (n : Int) := by omega
              have hst := HS.out i
              have HST := Lib.hid hst
              have m1 := HMO.out i hi3; have m2 := HMO.out (i + 1) hlt
              rw [hst] at m2
              have qc := HQB.out (i + 1) hlt
              have hqp := HQP.out (i + 1)
              have hqp2 := HQP.out i
              rw [hst] at hqp
              have HPi := Lib.hid (HP.out (i + 1) hlt)
              rw [hst] at HPi
              obtain ⟨qn, hqn⟩ : ∃ z, mq (i + 1) = z := ⟨_, rfl⟩
              obtain ⟨qo, hqo⟩ : ∃ z, mq i = z := ⟨_, rfl⟩
              have HQN := Lib.hid hqn; have HQO := Lib.hid hqo
              rw [hqn] at qc hqp
              rw [hqo] at qb hqp2
              rw [hqo]
              clear HX HS HMO HQP HQB HP HI hqn hqo hst
              generalize SM i = sm at *
              generalize X i = x at *
              have bt1 : -9223372036854775808 ≤ sm + x := by omega
              have bt2 : sm + x ≤ 9223372036854775807 := by omega
              have bt3 : -9223372036854775808 ≤ qn - qo := by omega
              have bt4 : qn - qo ≤ 9223372036854775807 := by omega
              by_cases hz : T = 0
              · subst hz
                rw [if_pos rfl] at hqp hqp2
                subst hqp
                subst hqp2
                have bw3 := Gr.size hg
                clear HPi
                go_upto_region 24 with fail
                go_wp2_with (at_builtin; refine wpList_append_own _ rfl _ _ 26 rfl w.heap.size 3 i1 (.int .i64 0) 1 8 Tryz.underlying26 KI.out KZ0.out KZ1.out KZ2.out rfl (by decide) _ i ((List.range i).map fun i => .int .i64 (mq (i + 1) - mq i)) rfl (ownsRow_gr HO.out (by exact gr_auto)) ⟨W3.heap.size, 0, none⟩ 1 1 [.int .i64 0] rfl rfl (by intro p u hp; rcases p with _ | p <;> simp at hp <;> (try subst hp) <;> first | (simp [Addr.add, go_sem]; done) | (simp [Addr.add]; done)) (by intro u hu; simp at hu; subst hu; rfl) (by unfold maxLen; omega) (by omega) (by simp; omega) ?_)
                intro v' w9 hown' hgrow hnil
                have hg9 : Gr w w9 := by
                  refine Gr.own (base := w.heap.size) ?_ (Nat.le_refl _) (ownsRow_gr HO.out ?_) hgrow
                  · exact hg.trans (by exact gr_auto)
                  · exact gr_auto
                have HO9 := Lib.hid (show w9.ownsRow w.heap.size 3 1 v' (i + 1) ((List.range (i + 1)).map fun i => .int .i64 (mq (i + 1) - mq i)) from by
                  rw [List.range_succ, List.map_append, List.map_cons, List.map_nil, HQN.out, HQO.out]; simpa using hown')
                clear hown' hgrow hnil HO
                go_wp2_with fail
                go_roundw
                case rel => exact ⟨i + 1, by omega, by go_num, by rw [HST.out], by rw [HQN.out], HO9, hg9⟩
                case measure => simp [intOf]; omega
              · rw [if_neg hz] at hqp
                have HPj := Lib.hid (HPi.out hz)
                rw [← hqp] at HPj
                have z1 : (0 : Int) < T := by omega
                clear HPi hqp hqp2
                go_wp2_with fail
                refine (HPj.out _).mono ?_
                rintro e w5 ⟨rfl, hb5⟩
                have g5 := hg.trans hb5
                have HO5 := Lib.hid (ownsRow_gr HO.out hb5)
                have bw3 := Gr.size g5
                clear HPj HO
                go_wp2_with (at_builtin; refine wpList_append_own _ rfl _ _ 26 rfl w.heap.size 3 i1 (.int .i64 0) 1 8 Tryz.underlying26 KI.out KZ0.out KZ1.out KZ2.out rfl (by decide) _ i ((List.range i).map fun i => .int .i64 (mq (i + 1) - mq i)) rfl (ownsRow_gr HO5.out (by exact gr_auto)) ⟨w5.heap.size, 0, none⟩ 1 1 [.int .i64 (qn - qo)] rfl rfl (by intro p u hp; rcases p with _ | p <;> simp at hp <;> (try subst hp) <;> first | (simp [Addr.add, go_sem]; done) | (simp [Addr.add]; done)) (by intro u hu; simp at hu; subst hu; rfl) (by unfold maxLen; omega) (by omega) (by simp; omega) ?_)
                intro v' w9 hown' hgrow hnil
                have hg9 : Gr w w9 := by
                  refine Gr.own (base := w.heap.size) ?_ (Nat.le_refl _) (ownsRow_gr HO5.out ?_) hgrow
                  · exact g5.trans (by exact gr_auto)
                  · exact gr_auto
                have HO9 := Lib.hid (show w9.ownsRow w.heap.size 3 1 v' (i + 1) ((List.range (i + 1)).map fun i => .int .i64 (mq (i + 1) - mq i)) from by
                  rw [List.range_succ, List.map_append, List.map_cons, List.map_nil, HQN.out, HQO.out]; exact hown')
                clear hown' hgrow hnil HO5
                go_wp2_with fail
                go_roundw
                case rel => exact ⟨i + 1, by omega, by go_num, by rw [HST.out], by rw [HQN.out], HO9, hg9⟩
                case measure => simp [intOf]; omega
            · obtain rfl : n = i := by omega
              have hbo : ∀ i, i < n → Ba.i64 (mq (i + 1) - mq i) := fun i hi => by
                have h1 := HQB.out i (by omega); have h2 := HQB.out (i + 1) (by omega)
                unfold Ba.i64; omega
              obtain ⟨s, rfl, r1, r2, r3, r4⟩ := own_slib HO.out hbo h1
              have R1 := Lib.hid r1; have R2 := Lib.hid r2; have R3 := Lib.hid (fun i (hi : i < n) => show s.X i = mt i from by rw [r3 i (by omega), HI.out])
              clear r1 r2 r3 r4 hbo HX HS HMO HQP HQB HP HI KI KZ0 KZ1 KZ2 HO
              go_wp2_with fail
              go_ret2
              exact ⟨s, rfl, R1.out, R2.out, R3.out, hg⟩
end Go.Proofs.YtajhhplgcegodaaGreatDoor
