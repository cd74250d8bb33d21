/-
  Runoff.Inflows of what is not right. Typed.
  RunoffAreas: Inflows of 16 sealed classes, four names, and one unit hydrograph. Typed.
-/
import Derived.Test.YtajhhplgcegodaaDoorRmE
import Derived.Test.YtajhhplgcegodaaDoorGA14
import Derived.Test.YtajhhplgcegodaaDoorRmH
set_option linter.unusedVariables false
set_option linter.unusedSimpArgs false
namespace Go.Proofs.YtajhhplgcegodaaDoor
open Go.RowKit
set_option maxRecDepth 100000 in
set_option maxHeartbeats 4000000 in
theorem inflows_no (m : Ms.Mesh) (C : Ba.SlClass) (P : Ba.SlI) (N : Ba.SlS) (U : Ba.SlU) (s : Ba.Ser) (w : World) (hm : m.At w) (hs : Ms.smB m = false ∨ (m.S.n ≤ 61 ∧ m.F.n ≤ 61)) (hC : C.At w) (hP : P.At w) (hN : N.At w) (hU : U.At w) (hS : s.Ok w) (h : Ba.riE m C P N U s ≠ 0) : Calls Tryd.prog 45 #[m.val, .slice C.A C.n C.c, .slice P.A P.n P.c, .slice N.A N.n N.c, .slice U.A U.n U.c, s.val] w fun e w' => e = .returned (.tuple #[.slice none 0 0, .int .i64 (Ba.riE m C P N U s)]) ∧ Gr w w' := by
  have HR := Lib.hid (fun W (hW : Gr w W) => right_any m C P N U s W ⟨hm.s.gr hW, hm.f.gr hW⟩ hs (hC.gr hW) (hP.gr hW) (hN.gr hW) (hU.gr hW) (hS.gr hW))
  clear hm hs hC hP hN hU hS
  generalize Ba.riE m C P N U s = er at *
  have q0 : (er != 0) = true := bne_iff_ne.2 h
  clear h
  unfold Ms.Mesh.val Ba.Ser.val at *
  generalize m.S.A = sA at *; generalize m.S.n = sn at *; generalize m.S.c = sc at *; generalize m.F.A = fA at *; generalize m.F.n = fn at *; generalize m.F.c = fc at *
  generalize s.fr = fr at *; generalize s.st = st at *; generalize s.ds.A = dA at *; generalize s.ds.n = dn at *; generalize s.ds.c = dc at *
  generalize P.A = pA at *; generalize P.n = pn at *; generalize P.c = pc at *
  generalize C.A = cA at *; generalize C.n = cn at *; generalize C.c = cc at *
  generalize N.A = nA at *; generalize N.n = nn at *; generalize N.c = nc at *
  generalize U.A = uA' at *; generalize U.n = un' at *; generalize U.c = uc' at *
  go_enter Tryd.func45, Tryd.ntmps45
  go_wp2_with fail
  refine (HR.out _ (by exact gr_auto)).mono ?_
  rintro e w1 ⟨rfl, hb1⟩
  have g1 : Gr w w1 := Gr.trans (by exact gr_auto) hb1
  clear HR hb1
  go_wp2_with fail
  go_ret2
  exact ⟨rfl, g1⟩
end Go.Proofs.YtajhhplgcegodaaDoor
namespace Go.Proofs.YtajhhplgcegodaaDoor
open Go.RowKit
namespace Ba
theorem eqS_fun : eqS = fun a b => (a.data.toList == b.data.toList) := by
  funext a b; unfold eqS; rw [Lib.toList_data, Lib.toList_data]
/-- The name of class i; the class; the first 16 of them. -/
def nmC (i : Nat) : ByteArray := ⟨#[99, UInt8.ofNat (97 + i)]⟩
def seD (i : Nat) : Class := ⟨nmC i, 1000, 0, 0, 0⟩
def seC (A : Option Addr) (c b : Nat) : SlClass := ⟨A, 16, c, b, 0, seD⟩
def flC : Nat → List Value
  | 0 => []
  | k + 1 => flC k ++ [.string (nmC k), .int .i64 1000, .int .i64 0, .int .i64 0, .int .i64 0]
theorem flC_len : ∀ k, (flC k).length = k * 5
  | 0 => rfl
  | k + 1 => by rw [flC, List.length_append, flC_len k]; simp; omega
theorem flC_get : ∀ {k r : Nat}, r < k → (flC k)[r * 5]? = some (.string (nmC r)) ∧ (flC k)[r * 5 + 1]? = some (.int .i64 1000) ∧ (flC k)[r * 5 + 2]? = some (.int .i64 0) ∧ (flC k)[r * 5 + 3]? = some (.int .i64 0) ∧ (flC k)[r * 5 + 4]? = some (.int .i64 0)
  | 0, r, h => absurd h (by omega)
  | k + 1, r, h => by
    rw [flC]
    by_cases e : r = k
    · subst e
      have q : ∀ j, (flC r ++ [.string (nmC r), .int .i64 1000, .int .i64 0, .int .i64 0, .int .i64 0])[r * 5 + j]? = ([.string (nmC r), .int .i64 1000, .int .i64 0, .int .i64 0, .int .i64 0] : List Value)[j]? := fun j => by
        rw [List.getElem?_append_right (by rw [flC_len]; omega), flC_len, show r * 5 + j - r * 5 = j by omega]
      exact ⟨q 0, q 1, q 2, q 3, q 4⟩
    · have l := flC_len k
      rw [List.getElem?_append_left (by omega), List.getElem?_append_left (by omega), List.getElem?_append_left (by omega), List.getElem?_append_left (by omega), List.getElem?_append_left (by omega)]
      exact flC_get (by omega)
theorem seC_at {W : World} {base : Nat} {v : Value} (h : W.ownsRow base 86 5 v 16 (flC 16)) : ∃ (A : Option Addr) (c b : Nat), v = .slice A 16 c ∧ (seC A c b).At W := by
  have h' := h
  obtain ⟨hl, ⟨rfl, he⟩ | ⟨g, cap, cur, rfl, hb, hc, hn, hm, r⟩⟩ := h
  · exact absurd he (by decide)
  · refine ⟨some ⟨g, 0, none⟩, cap, g, rfl, fun _ => rfl, hn, by unfold maxLen at hm; exact hm, fun i hi => ?_⟩
    have hi' : i < 16 := hi
    have l := flC_len 16
    obtain ⟨q0, q1, q2, q3, q4⟩ := flC_get hi'
    have cq : ∀ j, j < 5 → W.cell? ⟨g, i * 5 + j, none⟩ = (flC 16)[i * 5 + j]? := fun j hj => h'.cellAt (i * 5 + j) (by omega)
    have e : (0 : Nat) + i * 5 = i * 5 := Nat.zero_add _
    refine ⟨⟨?_, ?_, ?_, ?_, ?_⟩, by show i64 1000; unfold i64; omega, by show i64 0; unfold i64; omega, by show i64 0; unfold i64; omega, by show i64 0; unfold i64; omega, by show (2 : Nat) ≤ _; omega⟩
    · show W.cell? ⟨g, 0 + i * 5, none⟩ = _; rw [e]; exact (cq 0 (by omega)).trans q0
    · show W.cell? ⟨g, 0 + i * 5 + 1, none⟩ = _; rw [e]; exact (cq 1 (by omega)).trans q1
    · show W.cell? ⟨g, 0 + i * 5 + 2, none⟩ = _; rw [e]; exact (cq 2 (by omega)).trans q2
    · show W.cell? ⟨g, 0 + i * 5 + 3, none⟩ = _; rw [e]; exact (cq 3 (by omega)).trans q3
    · show W.cell? ⟨g, 0 + i * 5 + 4, none⟩ = _; rw [e]; exact (cq 4 (by omega)).trans q4
theorem seC_cls (A : Option Addr) (c b : Nat) : clsB (seC A c b) = true := by
  unfold clsB clB cix
  rw [eqS_fun]
  show (decide (1 ≤ 16) && (decide (16 ≤ 16) && _)) = true
  kernel_rfl
theorem seC_seal (A : Option Addr) (c b : Nat) : Seal (seC A c b) := fun _ _ => ⟨rfl, rfl, rfl⟩
/-- The four names; the unit hydrograph. -/
def nm4 (i : Nat) : ByteArray := ⟨#[UInt8.ofNat (97 + i)]⟩
def na4 (b : Nat) : SlS := ⟨some ⟨b, 0, none⟩, 4, 4, b, 0, nm4⟩
def unX (i : Nat) : Int := if i = 1 then 2 else 1
def un3 (b : Nat) : SlI := ⟨some ⟨b, 0, none⟩, 3, 3, b, 0, unX⟩
def us4 (b u : Nat) : SlU := ⟨some ⟨b, 0, none⟩, 4, 4, b, 0, fun _ => un3 u⟩
theorem un3_uni (u : Nat) : uniB (un3 u) = true := by kernel_rfl
theorem nm4_tw (b : Nat) : twB (na4 b).X (na4 b).n = false := by
  show twB nm4 4 = false
  unfold twB
  simp only [twB, seenB, eqS_fun]
  kernel_rfl
theorem na4_name (b : Nat) : any (badN (na4 b)) (na4 b).n = false := by
  show any (badN ⟨some ⟨b, 0, none⟩, 4, 4, b, 0, nm4⟩) 4 = false
  kernel_rfl
/-- What is wrong, where classes, names, and unit hydrographs are right. -/
theorem ri_seal {m : Ms.Mesh} {P : SlI} {s : Ser} {A : Option Addr} {c b nb ub u : Nat} (h : riE m (seC A c b) P (na4 nb) (us4 ub u) s = 1) : Ms.vlB m = false ∨ serB s = false := by
  rcases riE_arg h with q | q | q | q | q
  · exact .inl q
  · rw [seC_cls] at q; cases q
  · exact .inr q
  · obtain ⟨i, -, e⟩ := (any_iff _ _).1 q
    unfold badU at e
    rw [show (us4 ub u).X i = un3 u from rfl, un3_uni] at e
    cases e
  · rw [na4_name] at q; cases q
end Ba
/-- What the call of Inflows answers. -/
def RetA (m : Ms.Mesh) (P : Ba.SlI) (s : Ba.Ser) (w : World) (e : Ending) (w' : World) : Prop :=
  ∃ (err : Int) (A : Option Addr) (n c b : Nat) (V : Nat → Ba.SlI), e = .returned (.tuple #[.slice A n c, .int .i64 err]) ∧ Gr w w' ∧
    (err = 0 → Ms.vlB m = true ∧ Ba.serB s = true ∧ n = 4 ∧ A = some ⟨b, 0, none⟩ ∧ n ≤ c ∧ c ≤ 9223372036854775807 ∧ (0 ≤ Ba.sumP s.ds.X s.ds.n ∧ Ba.sumP s.ds.X s.ds.n ≤ 1073741824) ∧ ∀ i, i < 4 → w'.cell? ⟨b, i * 2, none⟩ = some (.string (Ba.nm4 i)) ∧ w'.cell? ⟨b, i * 2 + 1, none⟩ = some (.slice (V i).A (V i).n (V i).c) ∧ (V i).At w' ∧ Ba.volB (V i) = true ∧ (∀ j, j ≤ (V i).n → Ba.i64 (Ba.sumI (V i).X j)) ∧ Ba.sumI (V i).X (V i).n = Ba.twI m P.X i m.F.n / 2000000 * Ba.sumP s.ds.X s.ds.n) ∧
    (err ≠ 0 → n = 0 ∧ (Ms.vlB m && (Ba.serB s && (err == 1))) = false)
theorem in_call (m : Ms.Mesh) (P : Ba.SlI) (s : Ba.Ser) (A : Option Addr) (c b nb ub u : Nat) (w : World) (hm : m.At w) (hsm : m.S.n ≤ 61 ∧ m.F.n ≤ 61) (hP : P.At w) (hS : s.Ok w) (hd : s.ds.n ≤ 60) (hC : (Ba.seC A c b).At w) (hN : (Ba.na4 nb).At w) (hU : (Ba.us4 ub u).At w) :
    Calls Tryd.prog 45 #[m.val, .slice A 16 c, .slice P.A P.n P.c, .slice (some ⟨nb, 0, none⟩) 4 4, .slice (some ⟨ub, 0, none⟩) 4 4, s.val] w (RetA m P s w) := by
  by_cases h : Ba.riE m (Ba.seC A c b) P (Ba.na4 nb) (Ba.us4 ub u) s = 0
  · have z := inflows_ok m (Ba.seC A c b) P (Ba.na4 nb) (Ba.us4 ub u) s w hm hsm hC hP hN hU hS (by show 1 ≤ 16; omega) (by show 16 ≤ 16; omega) (by omega) h
    refine z.mono ?_
    rintro e w' ⟨err, A', n, c', b', V, rfl, hg, h0, h1⟩
    obtain ⟨z1, -, z3, -, -, -, z7, -, -, -, -⟩ := Ba.riE_zero h
    refine ⟨err, A', n, c', b', V, rfl, hg, fun he => ?_, fun he => ?_⟩
    · obtain ⟨rfl, a2, a3, a4, a5⟩ := h0 he
      have sp := Ba.ser_parts z3
      have rb : 0 ≤ Ba.sumP s.ds.X s.ds.n ∧ Ba.sumP s.ds.X s.ds.n ≤ 1073741824 := by
        have b1 := (a5 0 (by show 0 < 4; omega)).1
        unfold Ba.inE at b1
        have R := (Ba.dep_right (Ba.ofE_dep (Ba.un3_uni u) b1)).1
        have q := R.rain
        have q0 := (Ba.sumP_le (X := s.ds.X) (n := s.ds.n) (hi := 4194304) (by omega) fun i hi => by have := (sp.2.2.2 i hi).2; omega).1
        omega
      refine ⟨z1, z3, rfl, a2 (by show 0 < 4; omega), a3, a4, rb, fun i hi => ?_⟩
      obtain ⟨b1, b2, b3, b4, b5, b6⟩ := a5 i hi
      unfold Ba.inE at b1
      rw [show (Ba.us4 ub u).X i = Ba.un3 u from rfl] at b1 b5 b6
      have hd0 := Ba.ofE_dep (Ba.un3_uni u) b1
      have er := Ba.of_errs (C := Ba.seC A c b) (a := Ba.ownS m P (Ba.seC A c b).n i) (u := Ba.un3 u) (s := s) hd0 (by omega) (by show 3 ≤ 60; omega)
      rw [b1] at er
      rcases er with ⟨-, -, er⟩ | er | er
      · have vn : (V i).n ≤ 200 := by
          rw [b5]; unfold Ba.ofN
          split
          · omega
          · show s.ds.n + 3 - 1 ≤ 200; omega
        have vb : ∀ j, j < (V i).n → 0 ≤ (V i).X j ∧ (V i).X j ≤ 1125899906842624 := fun j hj => by
          rw [b6 j hj]
          rcases er with er | er
          · rw [b5] at hj; unfold Ba.ofN at hj; rw [if_pos er] at hj; omega
          · refine er j ?_
            rw [b5] at hj; unfold Ba.ofN at hj
            split at hj <;> omega
        refine ⟨b2, b3, b4, ?_, Ba.sumI_bd vn vb, ?_⟩
        · unfold Ba.volB Ba.wiB
          simp only [Bool.and_eq_true, decide_eq_true_eq]
          exact ⟨by omega, Ba.allB_iff.2 fun j hj => (Ba.bet_iff _ _ _).2 (vb j hj)⟩
        · rw [Ba.sumI_congr b6, b5]
          exact Ba.own_sum z1 (Ba.seC_seal A c b) z7 (fun j hj => by have := Ba.vl_kind z1 hj; show _ < ((16 : Nat) : Int); omega) (Ba.un3_uni u) i b1
      · exact absurd er (by decide)
      · exact absurd er (by decide)
    · obtain ⟨a1, i, hi, a2, -⟩ := h1 he
      refine ⟨a1, ?_⟩
      rw [z1, z3, Bool.true_and, Bool.true_and, beq_eq_false_iff_ne]
      rw [a2]
      unfold Ba.inE
      exact Ba.ofE_arg (Ba.un3_uni u) (Ba.seC_cls A c b) z3
  · have z := inflows_no m (Ba.seC A c b) P (Ba.na4 nb) (Ba.us4 ub u) s w hm (Or.inr hsm) hC hP hN hU hS h
    refine z.mono ?_
    rintro e w' ⟨rfl, hg⟩
    refine ⟨_, none, 0, 0, 0, fun _ => ⟨none, 0, 0, 0, 0, fun _ => 0⟩, rfl, hg, fun he => absurd he h, fun _ => ⟨rfl, ?_⟩⟩
    cases hv : Ms.vlB m
    · rfl
    · cases hs : Ba.serB s
      · rfl
      · rw [Bool.true_and, Bool.true_and, beq_eq_false_iff_ne]
        intro e
        rcases Ba.ri_seal e with q | q
        · rw [hv] at q; cases q
        · rw [hs] at q; cases q
end Go.Proofs.YtajhhplgcegodaaDoor
