/-
  Sums of ledgers: the plain law; the program's Sum for any list.
-/
import Derived.Test.YtkgbbcmgfbipaaaGreatDoorSm39

set_option linter.unusedVariables false
set_option linter.unusedSimpArgs false
namespace Go.Proofs.YtkgbbcmgfbipaaaGreatDoor
open Go.RowKit
namespace Ba
/-- The error of a sum. -/
def sumE (N : SlNode) (L : SlLink) (G : SlLedger) : Int := if lstE N L G = 0 then if allB (fun i => okS G.D L.n (i + 1)) G.n = true then 0 else 5 else lstE N L G
theorem lst_zero {N : SlNode} {L : SlLink} {G : SlLedger} (h : lstE N L G = 0) : netB N L = true ∧ ledsB L G = true ∧ G.n ≤ 10000 := by
  unfold lstE at h
  split at h
  · omega
  split at h
  · omega
  split at h
  · omega
  rename_i a b c
  exact ⟨by simpa using a, by simpa using b, by omega⟩
theorem leds_iff {L : SlLink} {G : SlLedger} : ledsB L G = true ↔ ∀ i, i < G.n → ledgB L (G.D i) = true := by
  unfold ledsB; rw [allB_iff]
theorem same_of {a b : Ledger} (h1 : a.inn = b.inn) (h2 : a.out = b.out) (h3 : a.ps.n = b.ps.n) (h4 : ∀ k, k < a.ps.n → a.ps.X k = b.ps.X k) : sameB a b = true := by
  unfold sameB
  rw [h1, h2]
  simp only [beq_self_eq_true, Bool.true_and, Bool.and_eq_true, decide_eq_true_eq]
  refine ⟨h3, ?_⟩
  rw [allB_iff]
  intro k hk; rw [h4 k hk]; simp
end Ba
end Go.Proofs.YtkgbbcmgfbipaaaGreatDoor
