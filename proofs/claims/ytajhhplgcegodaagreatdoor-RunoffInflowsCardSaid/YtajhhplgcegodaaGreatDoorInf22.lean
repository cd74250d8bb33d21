/-
  Runoff: runoff.right answers Ba.riE. Typed.
-/
import Derived.Test.YtajhhplgcegodaaGreatDoorInf21

set_option linter.unusedVariables false
set_option linter.unusedSimpArgs false
namespace Go.Proofs.YtajhhplgcegodaaGreatDoor
open Go.RowKit
namespace Ba
def badU (U : SlU) (i : Nat) : Bool := !uniB (U.X i)
def badN (N : SlS) (i : Nat) : Bool := !Dc.isName (N.X i).data.toList
def badI (P : SlI) (n i : Nat) : Bool := decide (P.X i < -1) || decide ((n : Int) ≤ P.X i)
def badK (m : Ms.Mesh) (n i : Nat) : Bool := decide ((n : Int) ≤ (m.F.D i).k)
/-- What right answers. -/
def riE (m : Ms.Mesh) (C : SlClass) (P : SlI) (N : SlS) (U : SlU) (s : Ser) : Int :=
  if Ms.vlB m = false then 1 else if clsB C = false then 1 else if serB s = false then 1 else if any (badU U) U.n = true then 1 else if any (badN N) N.n = true then 1
  else if 300 < N.n then 4 else if P.n ≠ m.F.n then 3 else if U.n ≠ N.n then 3 else if twB N.X N.n = true then 10 else if any (badI P N.n) P.n = true then 2 else if any (badK m C.n) m.F.n = true then 11 else 0
theorem riE_zero {m : Ms.Mesh} {C : SlClass} {P : SlI} {N : SlS} {U : SlU} {s : Ser} (h : riE m C P N U s = 0) : Ms.vlB m = true ∧ clsB C = true ∧ serB s = true ∧ any (badU U) U.n = false ∧ any (badN N) N.n = false ∧ N.n ≤ 300 ∧ P.n = m.F.n ∧ U.n = N.n ∧ twB N.X N.n = false ∧ any (badI P N.n) P.n = false ∧ any (badK m C.n) m.F.n = false := by
  unfold riE at h
  repeat' split at h
  all_goals first | (exfalso; omega) | skip
  simp only [Bool.not_eq_true, Bool.not_eq_false, Decidable.not_not] at *
  exact ⟨by assumption, by assumption, by assumption, by assumption, by assumption, by omega, by assumption, by assumption, by assumption, by assumption, by assumption⟩
end Ba
theorem right_any (m : Ms.Mesh) (C : Ba.SlClass) (P : Ba.SlI) (N : Ba.SlS) (U : Ba.SlU) (s : Ba.Ser) (w : World) (hm : m.At w) (hs : Ms.smB m = false ∨ (m.S.n ≤ 61 ∧ m.F.n ≤ 61)) (hC : C.At w) (hP : P.At w) (hN : N.At w) (hU : U.At w) (hS : s.Ok w) : Calls Tryz.prog 55 #[m.val, .slice C.A C.n C.c, .slice P.A P.n P.c, .slice N.A N.n N.c, .slice U.A U.n U.c, s.val] w fun e w' => e = .returned (.int .i64 (Ba.riE m C P N U s)) ∧ Gr w w' := by
  have HV := Lib.hid (fun W (hh : Gr w W) => ms_valid m W ⟨hm.s.gr hh, hm.f.gr hh⟩ hs)
  have HC := Lib.hid (fun W (hh : Gr w W) => uvalid_any C W (hC.gr hh))
  have HS := Lib.hid (fun W (hh : Gr w W) => gvalid_any s W (hS.gr hh))
  have HU := Lib.hid (fun W (hh : Gr w W) => has_units 100 #[] U (Ba.badU U) W (hU.gr hh) (enter_of Tryz.func100 (by kernel_rfl) (by kernel_rfl)) fun i hi W' hW' => rw1_any (U.X i) W' (((hU.hX i hi).2.gr hh).gr hW'))
  have HN := Lib.hid (fun W (hh : Gr w W) => has_strs 101 #[] N (Ba.badN N) W (hN.gr hh) (enter_of Tryz.func101 (by kernel_rfl) (by kernel_rfl)) fun i hi W' _ => rw2_any (N.X i) W' (hN.hX i hi).2)
  have HT := Lib.hid (fun W (hh : Gr w W) => twice_any N W (hN.gr hh))
  have HP := Lib.hid (fun B W (hh : Gr w W) (hc : W.cell? ⟨B, 0, none⟩ = some (.slice N.A N.n N.c)) => has_int 104 #[.pointer (some ⟨B, 0, none⟩)] P (Ba.badI P N.n) W (hP.gr hh) (enter_of Tryz.func104 (by kernel_rfl) (by kernel_rfl)) fun i _ W' hW' => rw3_any (P.X i) N.A N.n N.c B W' (Gr.at hW' hc))
  have HF := Lib.hid (fun B W (hh : Gr w W) (hc : W.cell? ⟨B, 0, none⟩ = some (.slice C.A C.n C.c)) => has_face 105 #[.pointer (some ⟨B, 0, none⟩)] m.F (Ba.badK m C.n) W (hm.f.gr hh) (enter_of Tryz.func105 (by kernel_rfl) (by kernel_rfl)) fun i _ W' hW' => rw4_any (m.F.D i) C.A C.n C.c B W' (Gr.at hW' hc))
  have l1 := Nat.le_trans hm.f.hc hm.f.hb; have l2 := Nat.le_trans hC.hc hC.hb; have l3 := Nat.le_trans hP.hc hP.hb; have l4 := Nat.le_trans hN.hc hN.hb; have l5 := Nat.le_trans hU.hc hU.hb
  unfold Ba.riE
  by_cases c0 : Ms.vlB m = false
  · rw [c0] at HV
    rw [if_pos c0]
    exact ri_V m.S.A m.F.A C.A P.A N.A U.A s.ds.A m.S.n m.S.c m.F.n m.F.c C.n C.c P.n P.c N.n N.c U.n U.c s.ds.n s.ds.c s.fr s.st w l1 l2 l3 l4 l5 HV
  rw [if_neg c0]
  replace c0 : Ms.vlB m = true := by cases q : Ms.vlB m <;> simp_all
  rw [c0] at HV
  by_cases c1 : Ba.clsB C = false
  · rw [c1] at HC
    rw [if_pos c1]
    exact ri_C m.S.A m.F.A C.A P.A N.A U.A s.ds.A m.S.n m.S.c m.F.n m.F.c C.n C.c P.n P.c N.n N.c U.n U.c s.ds.n s.ds.c s.fr s.st w l1 l2 l3 l4 l5 HV HC
  rw [if_neg c1]
  replace c1 : Ba.clsB C = true := by cases q : Ba.clsB C <;> simp_all
  rw [c1] at HC
  by_cases c2 : Ba.serB s = false
  · rw [c2] at HS
    rw [if_pos c2]
    exact ri_S m.S.A m.F.A C.A P.A N.A U.A s.ds.A m.S.n m.S.c m.F.n m.F.c C.n C.c P.n P.c N.n N.c U.n U.c s.ds.n s.ds.c s.fr s.st w l1 l2 l3 l4 l5 HV HC HS
  rw [if_neg c2]
  replace c2 : Ba.serB s = true := by cases q : Ba.serB s <;> simp_all
  rw [c2] at HS
  by_cases c3 : Ba.any (Ba.badU U) U.n = true
  · rw [c3] at HU
    rw [if_pos c3]
    exact ri_U m.S.A m.F.A C.A P.A N.A U.A s.ds.A m.S.n m.S.c m.F.n m.F.c C.n C.c P.n P.c N.n N.c U.n U.c s.ds.n s.ds.c s.fr s.st w l1 l2 l3 l4 l5 HV HC HS HU
  rw [if_neg c3]
  replace c3 : Ba.any (Ba.badU U) U.n = false := by cases q : Ba.any (Ba.badU U) U.n <;> simp_all
  rw [c3] at HU
  by_cases c4 : Ba.any (Ba.badN N) N.n = true
  · rw [c4] at HN
    rw [if_pos c4]
    exact ri_N m.S.A m.F.A C.A P.A N.A U.A s.ds.A m.S.n m.S.c m.F.n m.F.c C.n C.c P.n P.c N.n N.c U.n U.c s.ds.n s.ds.c s.fr s.st w l1 l2 l3 l4 l5 HV HC HS HU HN
  rw [if_neg c4]
  replace c4 : Ba.any (Ba.badN N) N.n = false := by cases q : Ba.any (Ba.badN N) N.n <;> simp_all
  rw [c4] at HN
  by_cases c5 : 300 < N.n
  · rw [if_pos c5]
    exact ri_full m.S.A m.F.A C.A P.A N.A U.A s.ds.A m.S.n m.S.c m.F.n m.F.c C.n C.c P.n P.c N.n N.c U.n U.c s.ds.n s.ds.c s.fr s.st w l1 l2 l3 l4 l5 HV HC HS HU HN (decide_eq_true (by omega))
  rw [if_neg c5]
  by_cases c6 : P.n ≠ m.F.n
  · rw [if_pos c6]
    exact ri_sizeP m.S.A m.F.A C.A P.A N.A U.A s.ds.A m.S.n m.S.c m.F.n m.F.c C.n C.c P.n P.c N.n N.c U.n U.c s.ds.n s.ds.c s.fr s.st w l1 l2 l3 l4 l5 HV HC HS HU HN (decide_eq_false (by omega)) (by rw [bne_iff_ne]; omega)
  rw [if_neg c6]
  have t6 : ((P.n : Int) != (m.F.n : Int)) = false := by rw [Decidable.not_not.1 c6]; simp
  by_cases c7 : U.n ≠ N.n
  · rw [if_pos c7]
    exact ri_sizeU m.S.A m.F.A C.A P.A N.A U.A s.ds.A m.S.n m.S.c m.F.n m.F.c C.n C.c P.n P.c N.n N.c U.n U.c s.ds.n s.ds.c s.fr s.st w l1 l2 l3 l4 l5 HV HC HS HU HN (decide_eq_false (by omega)) t6 (by rw [bne_iff_ne]; omega)
  rw [if_neg c7]
  have t7 : ((U.n : Int) != (N.n : Int)) = false := by rw [Decidable.not_not.1 c7]; simp
  by_cases c8 : Ba.twB N.X N.n = true
  · rw [c8] at HT
    rw [if_pos c8]
    exact ri_twice m.S.A m.F.A C.A P.A N.A U.A s.ds.A m.S.n m.S.c m.F.n m.F.c C.n C.c P.n P.c N.n N.c U.n U.c s.ds.n s.ds.c s.fr s.st w l1 l2 l3 l4 l5 HV HC HS HU HN (decide_eq_false (by omega)) t6 t7 HT
  rw [if_neg c8]
  replace c8 : Ba.twB N.X N.n = false := by cases q : Ba.twB N.X N.n <;> simp_all
  rw [c8] at HT
  by_cases c9 : Ba.any (Ba.badI P N.n) P.n = true
  · rw [c9] at HP
    rw [if_pos c9]
    exact ri_range m.S.A m.F.A C.A P.A N.A U.A s.ds.A m.S.n m.S.c m.F.n m.F.c C.n C.c P.n P.c N.n N.c U.n U.c s.ds.n s.ds.c s.fr s.st w l1 l2 l3 l4 l5 HV HC HS HU HN (decide_eq_false (by omega)) t6 t7 HT HP
  rw [if_neg c9]
  replace c9 : Ba.any (Ba.badI P N.n) P.n = false := by cases q : Ba.any (Ba.badI P N.n) P.n <;> simp_all
  rw [c9] at HP
  by_cases c10 : Ba.any (Ba.badK m C.n) m.F.n = true
  · rw [c10] at HF
    rw [if_pos c10]
    exact ri_kind m.S.A m.F.A C.A P.A N.A U.A s.ds.A m.S.n m.S.c m.F.n m.F.c C.n C.c P.n P.c N.n N.c U.n U.c s.ds.n s.ds.c s.fr s.st w l1 l2 l3 l4 l5 HV HC HS HU HN (decide_eq_false (by omega)) t6 t7 HT HP HF
  rw [if_neg c10]
  replace c10 : Ba.any (Ba.badK m C.n) m.F.n = false := by cases q : Ba.any (Ba.badK m C.n) m.F.n <;> simp_all
  rw [c10] at HF
  exact ri_ok m.S.A m.F.A C.A P.A N.A U.A s.ds.A m.S.n m.S.c m.F.n m.F.c C.n C.c P.n P.c N.n N.c U.n U.c s.ds.n s.ds.c s.fr s.st w l1 l2 l3 l4 l5 HV HC HS HU HN (decide_eq_false (by omega)) t6 t7 HT HP HF
end Go.Proofs.YtajhhplgcegodaaGreatDoor
