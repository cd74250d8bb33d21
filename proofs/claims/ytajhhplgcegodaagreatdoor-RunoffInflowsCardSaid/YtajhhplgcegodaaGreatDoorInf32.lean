/-
  Runoff: runoff.Dry of what is right, joined.
-/
import Derived.Test.YtajhhplgcegodaaGreatDoorInf26

set_option linter.unusedVariables false
set_option linter.unusedSimpArgs false
namespace Go.Proofs.YtajhhplgcegodaaGreatDoor
open Go.RowKit
namespace Ba
theorem shr_le {s : SlI} (h : uniB s = true) {t : Int} (ht : 0 ≤ t) {i : Nat} (hi : i < s.n) : 0 ≤ shrI s.X t s.n i ∧ shrI s.X t s.n i ≤ t := by
  have a := cut_le h ht (i := i + 1) hi
  have b := cut_le h ht (i := i) (by omega)
  have p := (uni_parts h).2.2.2
  have x := ((uni_parts h).2.2.1 i hi).1
  have c : cutI s.X t s.n i ≤ cutI s.X t s.n (i + 1) := by
    unfold cutI
    refine Int.ediv_le_ediv p (Int.mul_le_mul_of_nonneg_left ?_ ht)
    rw [sumI]; omega
  unfold shrI; omega
/-- The volume up to a time. -/
def upI (X : Nat → Int) (daily : Int) (n : Nat) (t : Int) : Int := t / 86400 * daily + cutI X daily n (t % 86400 / (86400 / (n : Int))).toNat + shrI X daily n (t % 86400 / (86400 / (n : Int))).toNat * (t % 86400 % (86400 / (n : Int))) / (86400 / (n : Int))
/-- What is reckoned at a time. -/
structure Hour (s : SlI) (daily t : Int) : Prop where
  m : 1 ≤ 86400 / (s.n : Int) ∧ 86400 / (s.n : Int) ≤ 86400
  p : t % 86400 / (86400 / (s.n : Int)) = ((t % 86400 / (86400 / (s.n : Int))).toNat : Int)
  pn : (t % 86400 / (86400 / (s.n : Int))).toNat < s.n
  dd : 0 ≤ t / 86400 * daily ∧ t / 86400 * daily ≤ 1000000000000000000
  ym : 0 ≤ shrI s.X daily s.n (t % 86400 / (86400 / (s.n : Int))).toNat * (t % 86400 % (86400 / (s.n : Int))) ∧ shrI s.X daily s.n (t % 86400 / (86400 / (s.n : Int))).toNat * (t % 86400 % (86400 / (s.n : Int))) ≤ 1000000000000000000
  qv : 0 ≤ shrI s.X daily s.n (t % 86400 / (86400 / (s.n : Int))).toNat * (t % 86400 % (86400 / (s.n : Int))) / (86400 / (s.n : Int)) ∧ shrI s.X daily s.n (t % 86400 / (86400 / (s.n : Int))).toNat * (t % 86400 % (86400 / (s.n : Int))) / (86400 / (s.n : Int)) ≤ 1000000000000000000
theorem hour_of {s : SlI} (h : uniB s = true) (hd : 86400 % (s.n : Int) = 0) {daily t : Int} (h1 : 0 ≤ daily ∧ daily ≤ 1099511627776) (ht : 0 ≤ t ∧ t ≤ 864000000) : Hour s daily t := by
  obtain ⟨u1, u2, -, -⟩ := uni_parts h
  have e := Int.mul_ediv_add_emod 86400 (s.n : Int)
  rw [hd, Int.add_zero] at e
  obtain ⟨m, hm⟩ : ∃ m, 86400 / (s.n : Int) = m := ⟨_, rfl⟩
  rw [hm] at e
  have m1 : 1 ≤ m := by
    rcases (by omega : 1 ≤ m ∨ m ≤ 0) with q | q
    · exact q
    · have := Int.mul_nonpos_of_nonneg_of_nonpos (a := (s.n : Int)) (by omega) q; omega
  have m2 : m ≤ 86400 := by rw [← hm]; exact Int.ediv_le_self _ (by omega)
  have r0 : 0 ≤ t % 86400 := by omega
  have p0 : 0 ≤ t % 86400 / m := Int.ediv_nonneg r0 (by omega)
  have p1 : t % 86400 / m < (s.n : Int) := Int.ediv_lt_of_lt_mul (by omega) (by rw [e]; omega)
  have pp : t % 86400 / m = ((t % 86400 / m).toNat : Int) := by omega
  have pn : (t % 86400 / m).toNat < s.n := by omega
  have y := shr_le h h1.1 pn
  have q0 : 0 ≤ t % 86400 % m := Int.emod_nonneg _ (by omega)
  have q1 : t % 86400 % m < m := Int.emod_lt_of_pos _ (by omega)
  have ym0 := Int.mul_nonneg y.1 q0
  have ym1 : shrI s.X daily s.n (t % 86400 / m).toNat * (t % 86400 % m) ≤ 1099511627776 * 86400 := Int.mul_le_mul (by omega) (by omega) q0 (by omega)
  have d0 : 0 ≤ t / 86400 * daily := Int.mul_nonneg (by omega) h1.1
  have d1 : t / 86400 * daily ≤ 10000 * 1099511627776 := Int.mul_le_mul (by omega) h1.2 h1.1 (by omega)
  have v0 := Int.ediv_nonneg (a := shrI s.X daily s.n (t % 86400 / m).toNat * (t % 86400 % m)) (b := m) ym0 (by omega)
  have v1 := Int.ediv_le_self (a := shrI s.X daily s.n (t % 86400 / m).toNat * (t % 86400 % m)) m ym0
  exact ⟨by rw [hm]; omega, by rw [hm]; exact pp, by rw [hm]; exact pn, by omega, by rw [hm]; omega, by rw [hm]; omega⟩
end Ba
set_option maxHeartbeats 1000000 in
theorem up_any (s r : Ba.SlI) (daily t : Int) (BL BD BP : Nat) (w : World) (hu : Ba.uniB s = true) (hd : 86400 % (s.n : Int) = 0) (h1 : 0 ≤ daily ∧ daily ≤ 1099511627776) (ht : 0 ≤ t ∧ t ≤ 864000000) (hr : r.At w) (rn : r.n = s.n) (rX : ∀ i, i < s.n → r.X i = Ba.shrI s.X daily s.n i)
    (cL : w.cell? ⟨BL, 0, none⟩ = some (.int .i64 (86400 / (s.n : Int)))) (cD : w.cell? ⟨BD, 0, none⟩ = some (.int .i64 daily)) (cP : w.cell? ⟨BP, 0, none⟩ = some (.slice r.A r.n r.c)) : Calls Tryz.prog 97 #[.int .i64 t, .pointer (some ⟨BL, 0, none⟩), .pointer (some ⟨BD, 0, none⟩), .pointer (some ⟨BP, 0, none⟩)] w fun e w' => e = .returned (.int .i64 (Ba.upI s.X daily s.n t)) ∧ Gr w w' := by
  have H := Ba.hour_of hu hd h1 ht
  obtain ⟨u1, u2, -, -⟩ := Ba.uni_parts hu
  have c := Ba.cut_le hu h1.1 (Nat.le_of_lt H.pn)
  have ci := (hr.hX _ (by rw [rn]; exact H.pn)).1
  rw [rX _ H.pn] at ci
  exact upf_any t _ daily _ _ _ _ _ BL BD BP r.A r.n r.c r.b r.o _ w ht H.m (Lib.hid rfl) (Lib.hid rfl) (Lib.hid rfl) H.dd H.ym H.qv (by omega) (Lib.hid H.p) (by rw [rn]; exact H.pn) hr.hc hr.hb cL cD cP (hr.hA (by omega)) ci
    (Lib.hid fun W hW => qsum_any r.A _ r.c r.b r.o (Ba.shrI s.X daily s.n) (Ba.cutI s.X daily s.n) W (by have := H.pn; omega) (Lib.hid fun _ => hr.hA (by omega)) (Lib.hid fun i hi => by
      have hin : i < s.n := Nat.lt_trans hi H.pn
      have y := Ba.shr_le hu h1.1 hin
      have x := (hr.hX i (by omega)).1
      rw [rX i hin] at x
      exact ⟨Gr.at hW x, by omega, by omega⟩) (Lib.hid (by unfold Ba.cutI; rw [show Ba.sumI s.X 0 = 0 from rfl, Int.mul_zero, Int.zero_ediv])) (Lib.hid fun i => by unfold Ba.shrI; omega) (Lib.hid fun i hi => by have := Ba.cut_le hu h1.1 (i := i) (by have := H.pn; omega); omega))
/-- What Dry answers of what is right. -/
def RetDry (nd : ByteArray) (s : Ba.SlI) (daily step : Int) (kk : Nat) (w : World) (e : Ending) (w' : World) : Prop := ∃ r : Ba.SlI, e = .returned (.tuple #[.agg #[.string nd, .slice r.A r.n r.c], .int .i64 0]) ∧ r.At w' ∧ r.n = kk ∧ (∀ i : Nat, i < kk → r.X i = Ba.upI s.X daily s.n (((i + 1 : Nat) : Int) * step) - Ba.upI s.X daily s.n ((i : Int) * step)) ∧ Gr w w'
set_option maxHeartbeats 1000000 in
theorem dry_any (nd : ByteArray) (s : Ba.SlI) (daily step : Int) (kk : Nat) (w : World) (hm : nd.size ≤ 9223372036854775807) (hnm : Dc.isName nd.data.toList = true) (hs : s.At w) (hu : Ba.uniB s = true) (hd : 86400 % (s.n : Int) = 0) (h1 : 0 ≤ daily ∧ daily ≤ 1099511627776) (hst : 1 ≤ step ∧ step ≤ 86400) (hk : kk ≤ 10000) : Calls Tryz.prog 50 #[.string nd, .int .i64 daily, .slice s.A s.n s.c, .int .i64 step, .int .i64 (kk : Int)] w (RetDry nd s daily step kk w) := by
  obtain ⟨u1, u2, -, -⟩ := Ba.uni_parts hu
  have tb : ∀ j : Nat, j ≤ kk → 0 ≤ (j : Int) * step ∧ (j : Int) * step ≤ 864000000 := fun j hj => by
    have a := Int.mul_nonneg (a := (j : Int)) (b := step) (by omega) (by omega)
    have b : (j : Int) * step ≤ 10000 * 86400 := Int.mul_le_mul (by omega) hst.2 (by omega) (by omega)
    omega
  refine dry_ok nd s.A s.n s.c kk daily step w u1 u2 (Lib.hid hd) hst hk (Lib.hid fun W => ?_) (Lib.hid fun W hW => ?_) (Lib.hid fun W => ?_) (Lib.hid fun W => ?_) (Ba.shrI s.X daily s.n) (Lib.hid fun W hW => share_any s daily W (hs.gr hW) hu h1) (86400 / (s.n : Int)) (Lib.hid rfl) (fun j => Ba.upI s.X daily s.n ((j : Int) * step)) (Lib.hid fun j hj => ?_) (Lib.hid tb) (Lib.hid fun j => by rw [show ((j + 1 : Nat) : Int) = (j : Int) + 1 by omega])
    (Lib.hid fun j hj r BL BD BP W hr rn rX cL cD cP => up_any s r daily _ BL BD BP W hu hd h1 (tb j hj) hr rn rX cL cD cP)
  · have := isname_all nd W hm
    rw [hnm] at this; exact this
  · have := hvalid_any s W (hs.gr hW)
    rw [hu] at this; exact this
  · have := rwithin_any_ daily 1099511627776 W
    rw [show Ba.bet daily 0 1099511627776 = true by rw [Ba.bet_iff]; omega] at this; exact this
  · have := rwithin_any_ (kk : Int) 10000 W
    rw [show Ba.bet (kk : Int) 0 10000 = true by rw [Ba.bet_iff]; omega] at this; exact this
  · have H := Ba.hour_of hu hd h1 (tb j hj)
    have c := Ba.cut_le hu h1.1 (Nat.le_of_lt H.pn)
    have a := H.dd; have b := H.qv
    unfold Ba.upI; omega
end Go.Proofs.YtajhhplgcegodaaGreatDoor
