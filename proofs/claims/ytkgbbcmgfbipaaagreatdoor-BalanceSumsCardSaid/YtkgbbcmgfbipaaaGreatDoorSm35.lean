/-
  What is given right, and is not much, is fine. The plain words of Step. (No program is in sight.)
-/
import Derived.Test.YtkgbbcmgfbipaaaGreatDoorSm27
import Derived.Test.YtkgbbcmgfbipaaaGreatDoorSm31
import Derived.Test.YtkgbbcmgfbipaaaGreatDoorSm34

set_option linter.unusedVariables false
set_option linter.unusedSimpArgs false
namespace Go.Proofs.YtkgbbcmgfbipaaaGreatDoor
open Go.RowKit
namespace Ba
theorem rnode_cap {d : Node} (h : rnode d = true) : 0 ≤ capy d → capy d ≤ 1125899906842624 := by
  intro _
  unfold capy
  split
  · omega
  rename_i hk
  unfold rnode at h
  rw [if_neg hk] at h
  split at h
  · simp only [Bool.and_eq_true] at h
    have h3 := h.2.2.1
    unfold shp shpB at h3
    simp only [Bool.and_eq_true, decide_eq_true_eq] at h3
    exact h3.2.2.2.2
  · simp at h
theorem vs_parts {N : SlNode} {L : SlLink} {s : State} (h : vs N L s = true) : netB N L = true ∧ s.vs.n = N.n ∧ s.ps.n = N.n ∧ s.st.n = L.n ∧ s.on.n = L.n ∧ (∀ i, i < N.n → 0 ≤ s.vs.X i ∧ s.vs.X i ≤ 1125899906842624 ∧ s.vs.X i ≤ capy (N.D i)) ∧ (∀ i, i < N.n → 0 ≤ s.ps.X i ∧ s.ps.X i ≤ 1125899906842624 ∧ ((N.D i).kd = 3 → s.ps.X i = 0)) ∧
    (∀ k, k < L.n → 0 ≤ s.st.X k ∧ s.st.X k ≤ 1000 ∧ (s.on.X k = true → (L.D k).kd = 4)) := by
  unfold vs at h
  rw [Bool.and_eq_true] at h
  obtain ⟨hn, hs⟩ := h
  unfold stateB at hs
  simp only [Bool.and_eq_true] at hs
  obtain ⟨hz, h1, h2⟩ := hs
  unfold sizB at hz
  simp only [Bool.and_eq_true, decide_eq_true_eq] at hz
  obtain ⟨z0, z1, z2, z3⟩ := hz
  have hn2 := hn
  unfold netB at hn2
  simp only [Bool.and_eq_true] at hn2
  refine ⟨hn, z0, z1, z2, z3, fun i hi => ?_, fun i hi => ?_, fun k hk => ?_⟩
  · have a := allB_at h1 hi
    unfold stN at a
    simp only [Bool.and_eq_true, bet_iff] at a
    have b := allB_at hn2.2.2.1 hi
    unfold nodeB at b
    rw [Bool.and_eq_true] at b
    have := rnode_cap b.1 (by omega)
    omega
  · have a := allB_at h1 hi
    unfold stN at a
    simp only [Bool.and_eq_true, bet_iff] at a
    refine ⟨a.2.1.1, a.2.1.2, fun hk => ?_⟩
    have := a.2.2
    simp [hk] at this
    exact this
  · have a := allB_at h2 hk
    unfold stL at a
    simp only [Bool.and_eq_true, bet_iff] at a
    refine ⟨a.1.1, a.1.2, fun ho => ?_⟩
    have := a.2
    simp [ho] at this
    exact this
theorem giv_parts {N : SlNode} {L : SlLink} {s1 s2 : State} {I : SlI} {g : Ledger} (h : givE N L s1 s2 I g = 0) : vs N L s1 = true ∧ vs N L s2 = true ∧ ledgB L g = true ∧ I.n = N.n ∧ wiB I 1125899906842624 = true := by
  unfold givE at h
  split at h
  · omega
  rename_i h0
  split at h
  rotate_left
  · omega
  rename_i h1
  split at h
  rotate_left
  · omega
  rename_i h2
  simp only [Bool.not_eq_false, Bool.and_eq_true] at h0
  exact ⟨h0.1, h0.2.1, h0.2.2, h1, h2⟩
theorem ledg_parts {L : SlLink} {g : Ledger} (h : ledgB L g = true) : (0 ≤ g.inn ∧ g.inn ≤ 1152921504606846976) ∧ (0 ≤ g.out ∧ g.out ≤ 1152921504606846976) ∧ g.ps.n = L.n ∧ ∀ k, k < L.n → 0 ≤ g.ps.X k ∧ g.ps.X k ≤ 9007199254740992 := by
  unfold ledgB at h
  simp only [Bool.and_eq_true, bet_iff, decide_eq_true_eq] at h
  obtain ⟨a, b, c, d⟩ := h
  refine ⟨a, b, c, fun k hk => ?_⟩
  unfold passB at d
  have := allB_at d (k := k) (by omega)
  rw [bet_iff] at this
  exact this
theorem fine_of {N : SlNode} {L : SlLink} {s1 s2 : State} {I : SlI} {g : Ledger} (h : givE N L s1 s2 I g = 0) (hn : N.n ≤ 12) (hl : L.n ≤ 20) : Fine N L s1 s2 I g.ps := by
  obtain ⟨a, b, c, d, e⟩ := giv_parts h
  obtain ⟨q, q1, q2, -, -, q3, q4, -⟩ := vs_parts a
  obtain ⟨-, r1, r2, -, -, r3, r4, -⟩ := vs_parts b
  obtain ⟨-, -, p1, p2⟩ := ledg_parts c
  refine ⟨q, hn, hl, d, p1, q1, q2, r1, r2, fun i hi => ?_, p2, fun i hi => ⟨(q3 i hi).1, (q3 i hi).2.1⟩, fun i hi => ⟨(q4 i hi).1, (q4 i hi).2.1⟩, fun i hi => ⟨(r3 i hi).1, (r3 i hi).2.1⟩, fun i hi => ⟨(r4 i hi).1, (r4 i hi).2.1⟩⟩
  unfold wiB at e
  have := allB_at e (k := i) (by omega)
  rw [bet_iff] at this
  exact this
theorem Fine.few1 {N : SlNode} {L : SlLink} {s1 s2 : State} {I P : SlI} (F : Fine N L s1 s2 I P) : few s1.vs ∧ few s1.ps ∧ few s2.vs ∧ few s2.ps ∧ few I := by
  have := F.nn
  refine ⟨⟨by have := F.v1; omega, fun i hi => F.bv1 i (by have := F.v1; omega)⟩, ⟨by have := F.p1; omega, fun i hi => F.bp1 i (by have := F.p1; omega)⟩, ⟨by have := F.v2; omega, fun i hi => F.bv2 i (by have := F.v2; omega)⟩, ⟨by have := F.p2; omega, fun i hi => F.bp2 i (by have := F.p2; omega)⟩, ⟨by have := F.i; omega, fun i hi => F.bi i (by have := F.i; omega)⟩⟩
/-- By how much a step does not close; whether it does; the error. -/
def leftI (s1 s2 : State) (g : Ledger) : Int := heldI s1 + g.inn - heldI s2 - g.out
def okB (N : SlNode) (L : SlLink) (s1 s2 : State) (I : SlI) (g : Ledger) : Bool := (leftI s1 s2 g == 0) && ((g.inn == sumI I.X I.n) && (g.out == lostI N L (fun _ => true) I g.ps))
def stepB (N : SlNode) (L : SlLink) (s1 s2 : State) (I : SlI) (g : Ledger) : Bool := if givE N L s1 s2 I g = 0 then okB N L s1 s2 I g else false
def stepL (N : SlNode) (L : SlLink) (s1 s2 : State) (I : SlI) (g : Ledger) : Int := if givE N L s1 s2 I g = 0 then leftI s1 s2 g else 0
theorem held_two {s : State} (h : s.ps.n = s.vs.n) : heldI s = sumI s.vs.X s.vs.n + sumI s.ps.X s.ps.n := by
  unfold heldI; rw [sumI_add, h]
end Ba
end Go.Proofs.YtkgbbcmgfbipaaaGreatDoor
