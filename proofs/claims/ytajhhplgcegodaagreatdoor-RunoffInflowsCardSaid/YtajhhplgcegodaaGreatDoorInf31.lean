/-
  Runoff: ratio.Share for totals of at most 2^50; the shares lie in a new block. (Printed by mku.py.)
-/
import Derived.Test.YtajhhplgcegodaaGreatDoorInf26
import Derived.Test.YtajhhplgcegodaaGreatDoorInf23

set_option linter.unusedVariables false
set_option linter.unusedSimpArgs false
namespace Go.Proofs.YtajhhplgcegodaaGreatDoor
open Go.RowKit
attribute [local go_sem ↓] Go.wp_at_zero Go.wp_at_succ
theorem own_slib {w : World} {base E n : Nat} {v : Value} {X : Nat → Int} (h : w.ownsRow base E 1 v n ((List.range n).map fun i => .int .i64 (X i))) (hb : ∀ i, i < n → Ba.i64 (X i)) (h0 : 1 ≤ n) : ∃ s : Ba.SlI, v = .slice s.A s.n s.c ∧ s.At w ∧ s.n = n ∧ (∀ i, i < s.n → s.X i = X i) ∧ base ≤ s.b := by
  have h' := h
  obtain ⟨hl, ⟨rfl, rfl⟩ | ⟨g, cap, cur, rfl, hg, hc, hn, hm, r⟩⟩ := h
  · omega
  · refine ⟨⟨some ⟨g, 0, none⟩, n, cap, g, 0, X⟩, rfl, ⟨fun _ => rfl, hn, by unfold maxLen at hm; exact hm, fun i hi => ⟨?_, hb i hi⟩⟩, rfl, fun _ _ => rfl, hg⟩
    simp only at hi
    have := h'.cellAt i (by omega)
    rw [Nat.zero_add]
    rw [this]
    simp [hi]
set_option maxRecDepth 100000 in
set_option maxHeartbeats 4000000 in
theorem share_big (A : Option Addr) (n c b oo : Nat) (X : Nat → Int) (t : Int) (w : World) (hn1 : 1 ≤ n) (hn : n ≤ 1000) (hA : A = some ⟨b, oo, none⟩) (ht : 0 ≤ t ∧ t ≤ 1125899906842624) (HX : Hid (∀ i, i < n → w.cell? ⟨b, oo + i, none⟩ = some (.int .i64 (X i)) ∧ 0 ≤ X i ∧ X i ≤ 1073741824))
    (SM : Nat → Int) (HS0 : Hid (SM 0 = 0)) (HSS : Hid (∀ i, SM (i + 1) = SM i + X i)) (HSB : Hid (∀ i, i ≤ n → 0 ≤ SM i ∧ SM i ≤ 1099511627776)) (hpos : 0 < SM n)
    (q hi lo r : Nat → Int) (HQ0 : Hid (q 0 = 0)) (HQB : Hid (∀ i, i ≤ n → 0 ≤ q i ∧ q i ≤ 1125899906842624))
    (HM : Hid (∀ i, i < n → ∀ W : World, Calls Tryz.prog 151 #[.int .u64 t, .int .u64 (SM (i + 1))] W fun e w' => e = .returned (.tuple #[.int .u64 (hi i), .int .u64 (lo i)]) ∧ W = w'))
    (HD : Hid (∀ i, i < n → ∀ W : World, Calls Tryz.prog 152 #[.int .u64 (hi i), .int .u64 (lo i), .int .u64 (SM n)] W fun e w' => e = .returned (.tuple #[.int .u64 (q (i + 1)), .int .u64 (r i)]) ∧ Gr W w')) : Calls Tryz.prog 96 #[.int .i64 t, .slice A n c] w (fun e w' => ∃ s : Ba.SlI, e = .returned (.tuple #[.slice s.A s.n s.c, .int .i64 0]) ∧ s.At w' ∧ s.n = n ∧ (∀ i, i < n → s.X i = q (i + 1) - q i) ∧ w.heap.size ≤ s.b ∧ Gr w w') := by
  subst hA
  obtain ⟨i1, hi0, hz0, hz1, hz2⟩ := info_parts info_int
  have KI := Lib.hid hi0; have KZ0 := Lib.hid hz0; have KZ1 := Lib.hid hz1; have KZ2 := Lib.hid hz2
  clear hi0 hz0 hz1 hz2
  have tn := HSB.out n (Nat.le_refl _)
  go_enter Tryz.func96, Tryz.ntmps96
  go_wp2_with fail
  go_loopw [6, 7, 30] (fun v vg x wr => ∃ i : Nat, i ≤ n ∧ x = .int .i64 (i : Int) ∧ v = .int .i64 (SM i) ∧ vg = .bool false ∧ Gr w wr) (fun _ _ x _ => n - (intOf x).toNat)
  case atStart => exact ⟨0, Nat.zero_le _, rfl, by rw [HS0.out], rfl, Gr.refl _⟩
  case round =>
    obtain ⟨i, hi_, rfl, rfl, rfl, hg⟩ := hrel
    have tb := HSB.out i hi_
    by_cases hlt : i < n
    · obtain ⟨a0, x0, x1⟩ := HX.out i hlt
      replace a0 := Gr.at hg a0
      have T := Lib.hid (HSS.out i)
      have tc := HSB.out (i + 1) hlt
      rw [T.out] at tc
      have ib0 : (0 : Int) ≤ (i : Int) := by omega
      have ib1 : (i : Int) < (n : Int) := by omega
      have hpn := Lib.hid hpos
      clear HX HS0 HSS HSB HQ0 HQB HM HD hpos tn
      generalize SM i = s0 at *
      generalize X i = x at *
      go_wp2_with fail
      go_roundw
      case rel => exact ⟨i + 1, by omega, by go_num, by rw [T.out], rfl, hg⟩
      case measure => simp [intOf]; omega
    · obtain rfl : n = i := by omega
      have HSn := Lib.hid (show SM n = SM n from rfl)
      obtain ⟨sn, hsn⟩ : ∃ s, SM n = s := ⟨_, rfl⟩
      have HN := Lib.hid hsn
      rw [hsn] at hpos tn tb HD
      rw [hsn]
      clear HSn hsn
      have nz : (sn == 0) = false := by simp; omega
      go_wp2_with (at_make; refine wpList_make_own _ rfl _ _ _ rfl w.heap.size 3 i1 (.int .i64 0) 1 Tryz.underlying26 KI.out KZ0.out KZ1.out .i64 .i64 n n rfl rfl rfl ?d1 ?d2 ?d3 ?_)
      case d1 => rw [KZ2.out]; omega
      case d2 => unfold maxLen; omega
      case d3 => exact Gr.size hg
      intro w3 hown hgrow
      have G3 : Gr w w3 := Gr.own (base := w.heap.size) hg (Nat.le_refl _) (n := 0) (e := 3) (size := 1) (xs := []) (v := .slice none 0 0) ⟨rfl, Or.inl ⟨rfl, rfl⟩⟩ hgrow
      have HO0 := Lib.hid hown
      clear hown hgrow
      go_wp2_with fail
      go_loopw [10, 11, 12, 56] (fun va vf vb x wz => ∃ i : Nat, i ≤ n ∧ x = .int .i64 (i : Int) ∧ vf = .int .i64 (SM i) ∧ vb = .int .i64 (q i) ∧ Hid (wz.ownsRow w.heap.size 3 1 va i ((List.range i).map fun i => .int .i64 (q (i + 1) - q i))) ∧ Gr w wz) (fun _ _ _ x _ => n - (intOf x).toNat)
      case atStart => exact ⟨0, Nat.zero_le _, rfl, by rw [HS0.out], by rw [HQ0.out], HO0, G3⟩
      case round =>
        clear HO0 G3 hg tb
        rename_i wq
        obtain ⟨i, hi_, rfl, rfl, rfl, HO, hg⟩ := hrel
        have tb := HSB.out i hi_
        have qb := HQB.out i hi_
        by_cases hlt : i < n
        · obtain ⟨a0, x0, x1⟩ := HX.out i hlt
          replace a0 := Gr.at hg a0
          have T := Lib.hid (HSS.out i)
          have tc := HSB.out (i + 1) hlt
          have qc := HQB.out (i + 1) hlt
          have HMi := Lib.hid (HM.out i hlt)
          have HDi := Lib.hid (HD.out i hlt)
          rw [T.out] at tc HMi
          have ib0 : (0 : Int) ≤ (i : Int) := by omega
          have ib1 : (i : Int) < (n : Int) := by omega
          obtain ⟨qn, hqn⟩ : ∃ z, q (i + 1) = z := ⟨_, rfl⟩
          obtain ⟨qo, hqo⟩ : ∃ z, q i = z := ⟨_, rfl⟩
          have HQN := Lib.hid hqn; have HQO := Lib.hid hqo
          rw [hqn] at qc HDi
          rw [hqo] at qb
          rw [hqo]
          clear HX HS0 HSS HSB HQ0 HQB HM HD hqn hqo HN
          generalize SM i = s0 at *
          generalize X i = x at *
          generalize hi i = h1 at *
          generalize lo i = l1 at *
          generalize r i = r1 at *
          go_wp2_with fail
          refine (HMi.out _).mono ?_
          rintro e w4 ⟨rfl, rfl⟩
          go_wp2_with fail
          refine (HDi.out _).mono ?_
          rintro e w5 ⟨rfl, hb5⟩
          have g5 := hg.trans hb5
          have HO5 := Lib.hid (ownsRow_gr HO.out hb5)
          have bw3 := Gr.size g5
          clear HMi HDi HO
          go_wp2_with (at_builtin; refine wpList_append_own _ rfl _ _ 26 rfl w.heap.size 3 i1 (.int .i64 0) 1 8 Tryz.underlying26 KI.out KZ0.out KZ1.out KZ2.out rfl (by decide) _ i ((List.range i).map fun i => .int .i64 (q (i + 1) - q i)) rfl (ownsRow_gr HO5.out (by exact gr_auto)) ⟨w5.heap.size, 0, none⟩ 1 1 [.int .i64 (qn - qo)] rfl rfl (by intro p u hp; rcases p with _ | p <;> simp at hp <;> (try subst hp) <;> first | (simp [Addr.add, go_sem]; done) | (simp [Addr.add]; done)) (by intro u hu; simp at hu; subst hu; rfl) (by unfold maxLen; omega) (by omega) (by simp; omega) ?_)
          intro v' w9 hown' hgrow hnil
          have hg9 : Gr w w9 := by
            refine Gr.own (base := w.heap.size) ?_ (Nat.le_refl _) (ownsRow_gr HO5.out ?_) hgrow
            · exact g5.trans (by exact gr_auto)
            · exact gr_auto
          have HO9 := Lib.hid (show w9.ownsRow w.heap.size 3 1 v' (i + 1) ((List.range (i + 1)).map fun i => .int .i64 (q (i + 1) - q i)) from by
            rw [List.range_succ, List.map_append, List.map_cons, List.map_nil, HQN.out, HQO.out]; exact hown')
          clear hown' hgrow hnil HO5
          go_wp2_with fail
          go_roundw
          case rel => exact ⟨i + 1, by omega, by go_num, by rw [T.out], by rw [HQN.out], HO9, hg9⟩
          case measure => simp [intOf]; omega
        · obtain rfl : n = i := by omega
          have hbo : ∀ i, i < n → Ba.i64 (q (i + 1) - q i) := fun i hi => by
            have h1 := HQB.out i (by omega); have h2 := HQB.out (i + 1) (by omega)
            unfold Ba.i64; omega
          obtain ⟨s, rfl, r1, r2, r3, r4⟩ := own_slib HO.out hbo hn1
          have R1 := Lib.hid r1; have R2 := Lib.hid r2; have R3 := Lib.hid r3; have R4 := Lib.hid r4
          clear r1 r2 r3 r4 hbo HX HS0 HSS HSB HQ0 HQB HM HD KI KZ0 KZ1 KZ2 HO HN
          go_wp2_with fail
          refine bodyPost_ret (by simp [results, Tryz.results96, go_sem]; try rfl) rfl ?_
          exact ⟨s, rfl, R1.out, R2.out, fun i hi => R3.out i (by rw [R2.out]; exact hi), R4.out, hg⟩
set_option maxHeartbeats 1000000 in
theorem share_anyb (s : Ba.SlI) (t : Int) (w : World) (hs : s.At w) (hu : Ba.uniB s = true) (ht : 0 ≤ t ∧ t ≤ 1125899906842624) : Calls Tryz.prog 96 #[.int .i64 t, .slice s.A s.n s.c] w (fun e w' => ∃ r : Ba.SlI, e = .returned (.tuple #[.slice r.A r.n r.c, .int .i64 0]) ∧ r.At w' ∧ r.n = s.n ∧ (∀ i, i < s.n → r.X i = Ba.shrI s.X t s.n i) ∧ w.heap.size ≤ r.b ∧ Gr w w') := by
  obtain ⟨h1, h2, h3, h4⟩ := Ba.uni_parts hu
  have h5 := fun i (hi : i ≤ s.n) => Ba.uni_sum hu hi
  refine share_big s.A s.n s.c s.b s.o s.X t w h1 h2 (hs.hA (by omega)) ht (Lib.hid fun i hi => ⟨(hs.hX i hi).1, h3 i hi⟩) (Ba.sumI s.X) (Lib.hid rfl) (Lib.hid fun _ => rfl) (Lib.hid fun i hi => by have := h5 i hi; omega) h4
    (Ba.cutI s.X t s.n) (fun i => t * Ba.sumI s.X (i + 1) / 18446744073709551616) (fun i => t * Ba.sumI s.X (i + 1) % 18446744073709551616) (fun i => t * Ba.sumI s.X (i + 1) % Ba.sumI s.X s.n) (Lib.hid ?_) (Lib.hid fun i hi => by have := Ba.cut_le hu ht.1 hi; omega) (Lib.hid ?_) (Lib.hid ?_)
  · show t * Ba.sumI s.X 0 / Ba.sumI s.X s.n = 0
    rw [show Ba.sumI s.X 0 = 0 from rfl, Int.mul_zero, Int.zero_ediv]
  · intro i hi W
    have a := h5 (i + 1) (by omega)
    exact mul64_any t (Ba.sumI s.X (i + 1)) W ht.1 (by omega) a.1 (by omega)
  · intro i hi W
    have a := h5 (i + 1) (by omega)
    have p0 : 0 ≤ t * Ba.sumI s.X (i + 1) := Int.mul_nonneg ht.1 a.1
    have p1 : t * Ba.sumI s.X (i + 1) ≤ 1125899906842624 * Ba.sumI s.X s.n := Int.mul_le_mul ht.2 a.2.1 a.1 (by omega)
    have e := Int.mul_ediv_add_emod (t * Ba.sumI s.X (i + 1)) 18446744073709551616
    have q := div64_all (t * Ba.sumI s.X (i + 1) / 18446744073709551616) (t * Ba.sumI s.X (i + 1) % 18446744073709551616) (Ba.sumI s.X s.n) W (by omega) (by omega) (by omega) (by omega) (by omega)
    rw [show t * Ba.sumI s.X (i + 1) / 18446744073709551616 * 18446744073709551616 + t * Ba.sumI s.X (i + 1) % 18446744073709551616 = t * Ba.sumI s.X (i + 1) by omega] at q
    exact q
end Go.Proofs.YtajhhplgcegodaaGreatDoor
