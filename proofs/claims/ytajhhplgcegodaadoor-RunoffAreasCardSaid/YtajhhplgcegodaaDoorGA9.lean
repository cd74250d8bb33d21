/-
  Runoff: ratio.Share for totals of at most 2^50; the shares lie in a new block. (Printed by mku.py.)
  Runoff: runoff.Dry of what is right, joined.
-/
import Derived.Test.YtajhhplgcegodaaDoorRoK
import Derived.Test.YtajhhplgcegodaaDoorRoWd
set_option linter.unusedVariables false
set_option linter.unusedSimpArgs false
namespace Go.Proofs.YtajhhplgcegodaaDoor
open Go.RowKit
attribute [local go_sem ↓] Go.wp_at_zero Go.wp_at_succ
theorem own_slib {w : World} {base E n : Nat} {v : Value} {X : Nat → Int} (h : w.ownsRow base E 1 v n ((List.range n).map fun i => .int .i64 (X i))) (hb : ∀ i, i < n → Ba.i64 (X i)) (h0 : 1 ≤ n) : ∃ s : Ba.SlI, v = .slice s.A s.n s.c ∧ s.At w ∧ s.n = n ∧ (∀ i, i < s.n → s.X i = X i) ∧ base ≤ s.b := by
  have h' := h
  obtain ⟨hl, ⟨rfl, rfl⟩ | ⟨g, cap, cur, rfl, hg, hc, hn, hm, r⟩⟩ := h
  · omega
  · refine ⟨⟨some ⟨g, 0, none⟩, n, cap, g, 0, X⟩, rfl, ⟨fun _ => rfl, hn, by unfold maxLen at hm; exact hm, fun i hi => ⟨?_, hb i hi⟩⟩, rfl, fun _ _ => rfl, hg⟩
    simp only at hi
    have := h'.cellAt i (by omega)
    rw [Nat.zero_add]
    rw [this]
    simp [hi]

set_option maxRecDepth 100000 in
set_option maxHeartbeats 4000000 in
theorem share_big (A : Option Addr) (n c b oo : Nat) (X : Nat → Int) (t : Int) (w : World) (hn1 : 1 ≤ n) (hn : n ≤ 1000) (hA : A = some ⟨b, oo, none⟩) (ht : 0 ≤ t ∧ t ≤ 1125899906842624) (HX : Hid (∀ i, i < n → w.cell? ⟨b, oo + i, none⟩ = some (.int .i64 (X i)) ∧ 0 ≤ X i ∧ X i ≤ 1073741824))
    (SM : Nat → Int) (HS0 : Hid (SM 0 = 0)) (HSS : Hid (∀ i, SM (i + 1) = SM i + X i)) (HSB : Hid (∀ i, i ≤ n → 0 ≤ SM i ∧ SM i ≤ 1099511627776)) (hpos : 0 < SM n)
    (q hi lo r : Nat → Int) (HQ0 : Hid (q 0 = 0)) (HQB : Hid (∀ i, i ≤ n → 0 ≤ q i ∧ q i ≤ 1125899906842624))
    (HM : Hid (∀ i, i < n → ∀ W : World, Calls Tryd.prog 137 #[.int .u64 t, .int .u64 (SM (i + 1))] W fun e w' => e = .returned (.tuple #[.int .u64 (hi i), .int .u64 (lo i)]) ∧ W = w'))
    (HD : Hid (∀ i, i < n → ∀ W : World, Calls Tryd.prog 138 #[.int .u64 (hi i), .int .u64 (lo i), .int .u64 (SM n)] W fun e w' => e = .returned (.tuple #[.int .u64 (q (i + 1)), .int .u64 (r i)]) ∧ Gr W w')) : Calls Tryd.prog 108 #[.int .i64 t, .slice A n c] w (fun e w' => ∃ s : Ba.SlI, e = .returned (.tuple #[.slice s.A s.n s.c, .int .i64 0]) ∧ s.At w' ∧ s.n = n ∧ (∀ i, i < n → s.X i = q (i + 1) - q i) ∧ w.heap.size ≤ s.b ∧ Gr w w') := by
  subst hA
  obtain ⟨i1, hi0, hz0, hz1, hz2⟩ := info_parts info_int
  have KI := Lib.hid hi0; have KZ0 := Lib.hid hz0; have KZ1 := Lib.hid hz1; have KZ2 := Lib.hid hz2
  clear hi0 hz0 hz1 hz2
  have tn := HSB.out n (Nat.le_refl _)
  go_enter Tryd.func108, Tryd.ntmps108
  go_wp2_with fail
  go_loopw [6, 7, 30] (fun v vg x wr => ∃ i : Nat, i ≤ n ∧ x = .int .i64 (i : Int) ∧ v = .int .i64 (SM i) ∧ vg = .bool false ∧ Gr w wr) (fun _ _ x _ => n - (intOf x).toNat)
  case atStart => exact ⟨0, Nat.zero_le _, rfl, by rw [HS0.out], rfl, Gr.refl _⟩
  case round =>
    obtain ⟨i, hi_, rfl, rfl, rfl, hg⟩ := hrel
    have tb := HSB.out i hi_
    by_cases hlt : i < n
    · obtain ⟨a0, x0, x1⟩ := HX.out i hlt
      replace a0 := Gr.at hg a0
      have T := Lib.hid (HSS.out i)
      have tc := HSB.out (i + 1) hlt
      rw [T.out] at tc
      have ib0 : (0 : Int) ≤ (i : Int) := by omega
      have ib1 : (i : Int) < (n : Int) := by omega
      have hpn := Lib.hid hpos
      clear HX HS0 HSS HSB HQ0 HQB HM HD hpos tn
      generalize SM i = s0 at *
      generalize X i = x at *
      go_wp2_with fail
      go_roundw
      case rel => exact ⟨i + 1, by omega, by go_num, by rw [T.out], rfl, hg⟩
      case measure => simp [intOf]; omega
    · obtain rfl : n = i := by omega
      have HSn := Lib.hid (show SM n = SM n from rfl)
      obtain ⟨sn, hsn⟩ : ∃ s, SM n = s := ⟨_, rfl⟩
      have HN := Lib.hid hsn
      rw [hsn] at hpos tn tb HD
      rw [hsn]
      clear HSn hsn
      have nz : (sn == 0) = false := by simp; omega
      go_wp2_with (at_make; refine wpList_make_own _ rfl _ _ _ rfl w.heap.size 3 i1 (.int .i64 0) 1 Tryd.underlying44 KI.out KZ0.out KZ1.out .i64 .i64 n n rfl rfl rfl ?d1 ?d2 ?d3 ?_)
      case d1 => rw [KZ2.out]; omega
      case d2 => unfold maxLen; omega
      case d3 => exact Gr.size hg
      intro w3 hown hgrow
      have G3 : Gr w w3 := Gr.own (base := w.heap.size) hg (Nat.le_refl _) (n := 0) (e := 3) (size := 1) (xs := []) (v := .slice none 0 0) ⟨rfl, Or.inl ⟨rfl, rfl⟩⟩ hgrow
      have HO0 := Lib.hid hown
      clear hown hgrow
      go_wp2_with fail
      go_loopw [10, 11, 12, 56] (fun va vf vb x wz => ∃ i : Nat, i ≤ n ∧ x = .int .i64 (i : Int) ∧ vf = .int .i64 (SM i) ∧ vb = .int .i64 (q i) ∧ Hid (wz.ownsRow w.heap.size 3 1 va i ((List.range i).map fun i => .int .i64 (q (i + 1) - q i))) ∧ Gr w wz) (fun _ _ _ x _ => n - (intOf x).toNat)
      case atStart => exact ⟨0, Nat.zero_le _, rfl, by rw [HS0.out], by rw [HQ0.out], HO0, G3⟩
      case round =>
        clear HO0 G3 hg tb
        rename_i wq
        obtain ⟨i, hi_, rfl, rfl, rfl, HO, hg⟩ := hrel
        have tb := HSB.out i hi_
        have qb := HQB.out i hi_
        by_cases hlt : i < n
        · obtain ⟨a0, x0, x1⟩ := HX.out i hlt
          replace a0 := Gr.at hg a0
          have T := Lib.hid (HSS.out i)
          have tc := HSB.out (i + 1) hlt
          have qc := HQB.out (i + 1) hlt
          have HMi := Lib.hid (HM.out i hlt)
          have HDi := Lib.hid (HD.out i hlt)
          rw [T.out] at tc HMi
          have ib0 : (0 : Int) ≤ (i : Int) := by omega
          have ib1 : (i : Int) < (n : Int) := by omega
          obtain ⟨qn, hqn⟩ : ∃ z, q (i + 1) = z := ⟨_, rfl⟩
          obtain ⟨qo, hqo⟩ : ∃ z, q i = z := ⟨_, rfl⟩
          have HQN := Lib.hid hqn; have HQO := Lib.hid hqo
          rw [hqn] at qc HDi
          rw [hqo] at qb
          rw [hqo]
          clear HX HS0 HSS HSB HQ0 HQB HM HD hqn hqo HN
          generalize SM i = s0 at *
          generalize X i = x at *
          generalize hi i = h1 at *
          generalize lo i = l1 at *
          generalize r i = r1 at *
          go_wp2_with fail
          refine (HMi.out _).mono ?_
          rintro e w4 ⟨rfl, rfl⟩
          go_wp2_with fail
          refine (HDi.out _).mono ?_
          rintro e w5 ⟨rfl, hb5⟩
          have g5 := hg.trans hb5
          have HO5 := Lib.hid (ownsRow_gr HO.out hb5)
          have bw3 := Gr.size g5
          clear HMi HDi HO
          go_wp2_with (at_builtin; refine wpList_append_own _ rfl _ _ 44 rfl w.heap.size 3 i1 (.int .i64 0) 1 8 Tryd.underlying44 KI.out KZ0.out KZ1.out KZ2.out rfl (by decide) _ i ((List.range i).map fun i => .int .i64 (q (i + 1) - q i)) rfl (ownsRow_gr HO5.out (by exact gr_auto)) ⟨w5.heap.size, 0, none⟩ 1 1 [.int .i64 (qn - qo)] rfl rfl (by intro p u hp; rcases p with _ | p <;> simp at hp <;> (try subst hp) <;> first | (simp [Addr.add, go_sem]; done) | (simp [Addr.add]; done)) (by intro u hu; simp at hu; subst hu; rfl) (by unfold maxLen; omega) (by omega) (by simp; omega) ?_)
          intro v' w9 hown' hgrow hnil
          have hg9 : Gr w w9 := by
            refine Gr.own (base := w.heap.size) ?_ (Nat.le_refl _) (ownsRow_gr HO5.out ?_) hgrow
            · exact g5.trans (by exact gr_auto)
            · exact gr_auto
          have HO9 := Lib.hid (show w9.ownsRow w.heap.size 3 1 v' (i + 1) ((List.range (i + 1)).map fun i => .int .i64 (q (i + 1) - q i)) from by
            rw [List.range_succ, List.map_append, List.map_cons, List.map_nil, HQN.out, HQO.out]; exact hown')
          clear hown' hgrow hnil HO5
          go_wp2_with fail
          go_roundw
          case rel => exact ⟨i + 1, by omega, by go_num, by rw [T.out], by rw [HQN.out], HO9, hg9⟩
          case measure => simp [intOf]; omega
        · obtain rfl : n = i := by omega
          have hbo : ∀ i, i < n → Ba.i64 (q (i + 1) - q i) := fun i hi => by
            have h1 := HQB.out i (by omega); have h2 := HQB.out (i + 1) (by omega)
            unfold Ba.i64; omega
          obtain ⟨s, rfl, r1, r2, r3, r4⟩ := own_slib HO.out hbo hn1
          have R1 := Lib.hid r1; have R2 := Lib.hid r2; have R3 := Lib.hid r3; have R4 := Lib.hid r4
          clear r1 r2 r3 r4 hbo HX HS0 HSS HSB HQ0 HQB HM HD KI KZ0 KZ1 KZ2 HO HN
          go_wp2_with fail
          refine bodyPost_ret (by simp [results, Tryd.results108, go_sem]; try rfl) rfl ?_
          exact ⟨s, rfl, R1.out, R2.out, fun i hi => R3.out i (by rw [R2.out]; exact hi), R4.out, hg⟩

set_option maxHeartbeats 1000000 in
theorem share_anyb (s : Ba.SlI) (t : Int) (w : World) (hs : s.At w) (hu : Ba.uniB s = true) (ht : 0 ≤ t ∧ t ≤ 1125899906842624) : Calls Tryd.prog 108 #[.int .i64 t, .slice s.A s.n s.c] w (fun e w' => ∃ r : Ba.SlI, e = .returned (.tuple #[.slice r.A r.n r.c, .int .i64 0]) ∧ r.At w' ∧ r.n = s.n ∧ (∀ i, i < s.n → r.X i = Ba.shrI s.X t s.n i) ∧ w.heap.size ≤ r.b ∧ Gr w w') := by
  obtain ⟨h1, h2, h3, h4⟩ := Ba.uni_parts hu
  have h5 := fun i (hi : i ≤ s.n) => Ba.uni_sum hu hi
  refine share_big s.A s.n s.c s.b s.o s.X t w h1 h2 (hs.hA (by omega)) ht (Lib.hid fun i hi => ⟨(hs.hX i hi).1, h3 i hi⟩) (Ba.sumI s.X) (Lib.hid rfl) (Lib.hid fun _ => rfl) (Lib.hid fun i hi => by have := h5 i hi; omega) h4
    (Ba.cutI s.X t s.n) (fun i => t * Ba.sumI s.X (i + 1) / 18446744073709551616) (fun i => t * Ba.sumI s.X (i + 1) % 18446744073709551616) (fun i => t * Ba.sumI s.X (i + 1) % Ba.sumI s.X s.n) (Lib.hid ?_) (Lib.hid fun i hi => by have := Ba.cut_le hu ht.1 hi; omega) (Lib.hid ?_) (Lib.hid ?_)
  · show t * Ba.sumI s.X 0 / Ba.sumI s.X s.n = 0
    rw [show Ba.sumI s.X 0 = 0 from rfl, Int.mul_zero, Int.zero_ediv]
  · intro i hi W
    have a := h5 (i + 1) (by omega)
    exact mul64_any t (Ba.sumI s.X (i + 1)) W ht.1 (by omega) a.1 (by omega)
  · intro i hi W
    have a := h5 (i + 1) (by omega)
    have p0 : 0 ≤ t * Ba.sumI s.X (i + 1) := Int.mul_nonneg ht.1 a.1
    have p1 : t * Ba.sumI s.X (i + 1) ≤ 1125899906842624 * Ba.sumI s.X s.n := Int.mul_le_mul ht.2 a.2.1 a.1 (by omega)
    have e := Int.mul_ediv_add_emod (t * Ba.sumI s.X (i + 1)) 18446744073709551616
    have q := div64_all (t * Ba.sumI s.X (i + 1) / 18446744073709551616) (t * Ba.sumI s.X (i + 1) % 18446744073709551616) (Ba.sumI s.X s.n) W (by omega) (by omega) (by omega) (by omega) (by omega)
    rw [show t * Ba.sumI s.X (i + 1) / 18446744073709551616 * 18446744073709551616 + t * Ba.sumI s.X (i + 1) % 18446744073709551616 = t * Ba.sumI s.X (i + 1) by omega] at q
    exact q
end Go.Proofs.YtajhhplgcegodaaDoor
namespace Go.Proofs.YtajhhplgcegodaaDoor
open Go.RowKit
namespace Ba
theorem shr_le {s : SlI} (h : uniB s = true) {t : Int} (ht : 0 ≤ t) {i : Nat} (hi : i < s.n) : 0 ≤ shrI s.X t s.n i ∧ shrI s.X t s.n i ≤ t := by
  have a := cut_le h ht (i := i + 1) hi
  have b := cut_le h ht (i := i) (by omega)
  have p := (uni_parts h).2.2.2
  have x := ((uni_parts h).2.2.1 i hi).1
  have c : cutI s.X t s.n i ≤ cutI s.X t s.n (i + 1) := by
    unfold cutI
    refine Int.ediv_le_ediv p (Int.mul_le_mul_of_nonneg_left ?_ ht)
    rw [sumI]; omega
  unfold shrI; omega
/-- The volume up to a time. -/
def upI (X : Nat → Int) (daily : Int) (n : Nat) (t : Int) : Int := t / 86400 * daily + cutI X daily n (t % 86400 / (86400 / (n : Int))).toNat + shrI X daily n (t % 86400 / (86400 / (n : Int))).toNat * (t % 86400 % (86400 / (n : Int))) / (86400 / (n : Int))
/-- What is reckoned at a time. -/
structure Hour (s : SlI) (daily t : Int) : Prop where
  m : 1 ≤ 86400 / (s.n : Int) ∧ 86400 / (s.n : Int) ≤ 86400
  p : t % 86400 / (86400 / (s.n : Int)) = ((t % 86400 / (86400 / (s.n : Int))).toNat : Int)
  pn : (t % 86400 / (86400 / (s.n : Int))).toNat < s.n
  dd : 0 ≤ t / 86400 * daily ∧ t / 86400 * daily ≤ 1000000000000000000
  ym : 0 ≤ shrI s.X daily s.n (t % 86400 / (86400 / (s.n : Int))).toNat * (t % 86400 % (86400 / (s.n : Int))) ∧ shrI s.X daily s.n (t % 86400 / (86400 / (s.n : Int))).toNat * (t % 86400 % (86400 / (s.n : Int))) ≤ 1000000000000000000
  qv : 0 ≤ shrI s.X daily s.n (t % 86400 / (86400 / (s.n : Int))).toNat * (t % 86400 % (86400 / (s.n : Int))) / (86400 / (s.n : Int)) ∧ shrI s.X daily s.n (t % 86400 / (86400 / (s.n : Int))).toNat * (t % 86400 % (86400 / (s.n : Int))) / (86400 / (s.n : Int)) ≤ 1000000000000000000
theorem hour_of {s : SlI} (h : uniB s = true) (hd : 86400 % (s.n : Int) = 0) {daily t : Int} (h1 : 0 ≤ daily ∧ daily ≤ 1099511627776) (ht : 0 ≤ t ∧ t ≤ 864000000) : Hour s daily t := by
  obtain ⟨u1, u2, -, -⟩ := uni_parts h
  have e := Int.mul_ediv_add_emod 86400 (s.n : Int)
  rw [hd, Int.add_zero] at e
  obtain ⟨m, hm⟩ : ∃ m, 86400 / (s.n : Int) = m := ⟨_, rfl⟩
  rw [hm] at e
  have m1 : 1 ≤ m := by
    rcases (by omega : 1 ≤ m ∨ m ≤ 0) with q | q
    · exact q
    · have := Int.mul_nonpos_of_nonneg_of_nonpos (a := (s.n : Int)) (by omega) q; omega
  have m2 : m ≤ 86400 := by rw [← hm]; exact Int.ediv_le_self _ (by omega)
  have r0 : 0 ≤ t % 86400 := by omega
  have p0 : 0 ≤ t % 86400 / m := Int.ediv_nonneg r0 (by omega)
  have p1 : t % 86400 / m < (s.n : Int) := Int.ediv_lt_of_lt_mul (by omega) (by rw [e]; omega)
  have pp : t % 86400 / m = ((t % 86400 / m).toNat : Int) := by omega
  have pn : (t % 86400 / m).toNat < s.n := by omega
  have y := shr_le h h1.1 pn
  have q0 : 0 ≤ t % 86400 % m := Int.emod_nonneg _ (by omega)
  have q1 : t % 86400 % m < m := Int.emod_lt_of_pos _ (by omega)
  have ym0 := Int.mul_nonneg y.1 q0
  have ym1 : shrI s.X daily s.n (t % 86400 / m).toNat * (t % 86400 % m) ≤ 1099511627776 * 86400 := Int.mul_le_mul (by omega) (by omega) q0 (by omega)
  have d0 : 0 ≤ t / 86400 * daily := Int.mul_nonneg (by omega) h1.1
  have d1 : t / 86400 * daily ≤ 10000 * 1099511627776 := Int.mul_le_mul (by omega) h1.2 h1.1 (by omega)
  have v0 := Int.ediv_nonneg (a := shrI s.X daily s.n (t % 86400 / m).toNat * (t % 86400 % m)) (b := m) ym0 (by omega)
  have v1 := Int.ediv_le_self (a := shrI s.X daily s.n (t % 86400 / m).toNat * (t % 86400 % m)) m ym0
  exact ⟨by rw [hm]; omega, by rw [hm]; exact pp, by rw [hm]; exact pn, by omega, by rw [hm]; omega, by rw [hm]; omega⟩
end Ba
set_option maxHeartbeats 1000000 in
theorem up_any (s r : Ba.SlI) (daily t : Int) (BL BD BP : Nat) (w : World) (hu : Ba.uniB s = true) (hd : 86400 % (s.n : Int) = 0) (h1 : 0 ≤ daily ∧ daily ≤ 1099511627776) (ht : 0 ≤ t ∧ t ≤ 864000000) (hr : r.At w) (rn : r.n = s.n) (rX : ∀ i, i < s.n → r.X i = Ba.shrI s.X daily s.n i)
    (cL : w.cell? ⟨BL, 0, none⟩ = some (.int .i64 (86400 / (s.n : Int)))) (cD : w.cell? ⟨BD, 0, none⟩ = some (.int .i64 daily)) (cP : w.cell? ⟨BP, 0, none⟩ = some (.slice r.A r.n r.c)) : Calls Tryd.prog 109 #[.int .i64 t, .pointer (some ⟨BL, 0, none⟩), .pointer (some ⟨BD, 0, none⟩), .pointer (some ⟨BP, 0, none⟩)] w fun e w' => e = .returned (.int .i64 (Ba.upI s.X daily s.n t)) ∧ Gr w w' := by
  have H := Ba.hour_of hu hd h1 ht
  obtain ⟨u1, u2, -, -⟩ := Ba.uni_parts hu
  have c := Ba.cut_le hu h1.1 (Nat.le_of_lt H.pn)
  have ci := (hr.hX _ (by rw [rn]; exact H.pn)).1
  rw [rX _ H.pn] at ci
  exact upf_any t _ daily _ _ _ _ _ BL BD BP r.A r.n r.c r.b r.o _ w ht H.m (Lib.hid rfl) (Lib.hid rfl) (Lib.hid rfl) H.dd H.ym H.qv (by omega) (Lib.hid H.p) (by rw [rn]; exact H.pn) hr.hc hr.hb cL cD cP (hr.hA (by omega)) ci
    (Lib.hid fun W hW => qsum_any r.A _ r.c r.b r.o (Ba.shrI s.X daily s.n) (Ba.cutI s.X daily s.n) W (by have := H.pn; omega) (Lib.hid fun _ => hr.hA (by omega)) (Lib.hid fun i hi => by
      have hin : i < s.n := Nat.lt_trans hi H.pn
      have y := Ba.shr_le hu h1.1 hin
      have x := (hr.hX i (by omega)).1
      rw [rX i hin] at x
      exact ⟨Gr.at hW x, by omega, by omega⟩) (Lib.hid (by unfold Ba.cutI; rw [show Ba.sumI s.X 0 = 0 from rfl, Int.mul_zero, Int.zero_ediv])) (Lib.hid fun i => by unfold Ba.shrI; omega) (Lib.hid fun i hi => by have := Ba.cut_le hu h1.1 (i := i) (by have := H.pn; omega); omega))
/-- What Dry answers of what is right. -/
def RetDry (nd : ByteArray) (s : Ba.SlI) (daily step : Int) (kk : Nat) (w : World) (e : Ending) (w' : World) : Prop := ∃ r : Ba.SlI, e = .returned (.tuple #[.agg #[.string nd, .slice r.A r.n r.c], .int .i64 0]) ∧ r.At w' ∧ r.n = kk ∧ (∀ i : Nat, i < kk → r.X i = Ba.upI s.X daily s.n (((i + 1 : Nat) : Int) * step) - Ba.upI s.X daily s.n ((i : Int) * step)) ∧ Gr w w'
set_option maxHeartbeats 1000000 in
theorem dry_any (nd : ByteArray) (s : Ba.SlI) (daily step : Int) (kk : Nat) (w : World) (hm : nd.size ≤ 9223372036854775807) (hnm : Dc.isName nd.data.toList = true) (hs : s.At w) (hu : Ba.uniB s = true) (hd : 86400 % (s.n : Int) = 0) (h1 : 0 ≤ daily ∧ daily ≤ 1099511627776) (hst : 1 ≤ step ∧ step ≤ 86400) (hk : kk ≤ 10000) : Calls Tryd.prog 84 #[.string nd, .int .i64 daily, .slice s.A s.n s.c, .int .i64 step, .int .i64 (kk : Int)] w (RetDry nd s daily step kk w) := by
  obtain ⟨u1, u2, -, -⟩ := Ba.uni_parts hu
  have tb : ∀ j : Nat, j ≤ kk → 0 ≤ (j : Int) * step ∧ (j : Int) * step ≤ 864000000 := fun j hj => by
    have a := Int.mul_nonneg (a := (j : Int)) (b := step) (by omega) (by omega)
    have b : (j : Int) * step ≤ 10000 * 86400 := Int.mul_le_mul (by omega) hst.2 (by omega) (by omega)
    omega
  refine dry_ok nd s.A s.n s.c kk daily step w u1 u2 (Lib.hid hd) hst hk (Lib.hid fun W => ?_) (Lib.hid fun W hW => ?_) (Lib.hid fun W => ?_) (Lib.hid fun W => ?_) (Ba.shrI s.X daily s.n) (Lib.hid fun W hW => share_any s daily W (hs.gr hW) hu h1) (86400 / (s.n : Int)) (Lib.hid rfl) (fun j => Ba.upI s.X daily s.n ((j : Int) * step)) (Lib.hid fun j hj => ?_) (Lib.hid tb) (Lib.hid fun j => by rw [show ((j + 1 : Nat) : Int) = (j : Int) + 1 by omega])
    (Lib.hid fun j hj r BL BD BP W hr rn rX cL cD cP => up_any s r daily _ BL BD BP W hu hd h1 (tb j hj) hr rn rX cL cD cP)
  · have := isname_all nd W hm
    rw [hnm] at this; exact this
  · have := hvalid_any s W (hs.gr hW)
    rw [hu] at this; exact this
  · have := rwithin_any_ daily 1099511627776 W
    rw [show Ba.bet daily 0 1099511627776 = true by rw [Ba.bet_iff]; omega] at this; exact this
  · have := rwithin_any_ (kk : Int) 10000 W
    rw [show Ba.bet (kk : Int) 0 10000 = true by rw [Ba.bet_iff]; omega] at this; exact this
  · have H := Ba.hour_of hu hd h1 (tb j hj)
    have c := Ba.cut_le hu h1.1 (Nat.le_of_lt H.pn)
    have a := H.dd; have b := H.qv
    unfold Ba.upI; omega
end Go.Proofs.YtajhhplgcegodaaDoor
