/-
  Plain reading of a text after a pattern of digits: what clock.numbers computes, position by position. No program here.
-/
import Derived.WalkKit
set_option linter.unusedVariables false
set_option linter.unusedSimpArgs false
namespace Go.Proofs.YtlcbjkkcfenlmaaDoor
namespace Ck
/-- One position: a byte of the pattern, a byte of the text, what has been read so far. -/
def stp (p c : Nat) (st : List Int × Int × Bool) : Option (List Int × Int × Bool) :=
  if p = 48 then (if c < 48 ∨ 57 < c then none else some (st.1, 10 * st.2.1 + ((c : Int) - 48), true))
  else (if c = p then some ((if st.2.2 then st.1 ++ [st.2.1] else st.1), 0, false) else none)
def run (pl sl : List UInt8) : Nat → Option (List Int × Int × Bool)
  | 0 => some ([], 0, false)
  | k + 1 => (run pl sl k).bind (stp (pl.getD k 0).toNat (sl.getD k 0).toNat)
def pat : List UInt8 := [48, 48, 48, 48, 45, 48, 48, 45, 48, 48, 32, 48, 48, 58, 48, 48, 58, 48, 48]
theorem run_succ (pl sl : List UInt8) (k : Nat) : run pl sl (k + 1) = (run pl sl k).bind (stp (pl.getD k 0).toNat (sl.getD k 0).toNat) := rfl
theorem run_none {pl sl : List UInt8} {k : Nat} (h : run pl sl k = none) : ∀ j, k ≤ j → run pl sl j = none := by
  intro j hj
  obtain ⟨i, rfl⟩ : ∃ i, j = k + i := ⟨j - k, by omega⟩
  clear hj
  induction i with
  | zero => exact h
  | succ i ih => rw [← Nat.add_assoc, run_succ, ih]; rfl
def lim (k : Nat) : Int := [0, 9, 99, 999, 9999, 0, 9, 99, 0, 9, 99, 0, 9, 99, 0, 9, 99, 0, 9, 99].getD k 0
theorem lim_step : ∀ k, k < 19 → 0 ≤ lim (k + 1) ∧ ((pat.getD k 0).toNat = 48 → 10 * lim k + 9 ≤ lim (k + 1)) := by decide
theorem lim_le : ∀ k, k < 20 → lim k ≤ 9999 := by decide
theorem run_lim (sl : List UInt8) : ∀ k, k ≤ 19 → ∀ L n o, run pat sl k = some (L, n, o) → 0 ≤ n ∧ n ≤ lim k
  | 0, _, L, n, o, h => by
    simp only [run, Option.some.injEq, Prod.mk.injEq] at h; obtain ⟨_, rfl, _⟩ := h; decide
  | k + 1, hk, L, n, o, h => by
    rw [run_succ] at h
    cases hr : run pat sl k with
    | none => rw [hr] at h; cases h
    | some st =>
      obtain ⟨L', n', o'⟩ := st
      rw [hr] at h
      have ih := run_lim sl k (by omega) L' n' o' hr
      obtain ⟨l0, l1⟩ := lim_step k (by omega)
      simp only [Option.bind_some, stp] at h
      by_cases hp : (pat.getD k 0).toNat = 48
      · rw [if_pos hp] at h
        split at h
        · cases h
        · simp only [Option.some.injEq, Prod.mk.injEq] at h
          obtain ⟨_, rfl, _⟩ := h
          have := l1 hp
          omega
      · rw [if_neg hp] at h
        split at h
        · simp only [Option.some.injEq, Prod.mk.injEq] at h
          obtain ⟨_, rfl, _⟩ := h
          omega
        · cases h
theorem run_bd {sl : List UInt8} {k : Nat} {L : List Int} {n : Int} {o : Bool} (hk : k ≤ 19) (h : run pat sl k = some (L, n, o)) : 0 ≤ n ∧ n ≤ 9999 := by
  have := run_lim sl k hk L n o h; have := lim_le k (by omega); omega
theorem run_len {pl sl : List UInt8} : ∀ k L n o, run pl sl k = some (L, n, o) → L.length ≤ k
  | 0, L, n, o, h => by
    simp only [run, Option.some.injEq, Prod.mk.injEq] at h; obtain ⟨rfl, _, _⟩ := h; simp
  | k + 1, L, n, o, h => by
    rw [run_succ] at h
    cases hr : run pl sl k with
    | none => rw [hr] at h; cases h
    | some st =>
      obtain ⟨L', n', o'⟩ := st
      rw [hr] at h
      have ih := run_len k L' n' o' hr
      simp only [Option.bind_some, stp] at h
      split at h
      · split at h
        · cases h
        · simp only [Option.some.injEq, Prod.mk.injEq] at h; obtain ⟨rfl, _, _⟩ := h; omega
      · split at h
        · simp only [Option.some.injEq, Prod.mk.injEq] at h
          obtain ⟨rfl, _, _⟩ := h
          split
          · simp; omega
          · omega
        · cases h
/-- The four ways of a round. -/
theorem run_digit {pl sl : List UInt8} {k : Nat} {L : List Int} {n : Int} {o : Bool} (h : run pl sl k = some (L, n, o)) (hp : (pl.getD k 0).toNat = 48) (h0 : 48 ≤ (sl.getD k 0).toNat) (h1 : (sl.getD k 0).toNat ≤ 57) :
    run pl sl (k + 1) = some (L, 10 * n + (((sl.getD k 0).toNat : Int) - 48), true) := by
  rw [run_succ, h]; simp only [Option.bind_some, stp]; rw [if_pos hp, if_neg (by omega)]
theorem run_bad {pl sl : List UInt8} {k : Nat} {L : List Int} {n : Int} {o : Bool} (h : run pl sl k = some (L, n, o)) (hp : (pl.getD k 0).toNat = 48) (h0 : (sl.getD k 0).toNat < 48 ∨ 57 < (sl.getD k 0).toNat) :
    run pl sl (k + 1) = none := by
  rw [run_succ, h]; simp only [Option.bind_some, stp]; rw [if_pos hp, if_pos h0]
theorem run_sep {pl sl : List UInt8} {k : Nat} {L : List Int} {n : Int} {o : Bool} (h : run pl sl k = some (L, n, o)) (hp : (pl.getD k 0).toNat ≠ 48) (h0 : (sl.getD k 0).toNat = (pl.getD k 0).toNat) :
    run pl sl (k + 1) = some ((if o then L ++ [n] else L), 0, false) := by
  rw [run_succ, h]; simp only [Option.bind_some, stp]; rw [if_neg hp, if_pos h0]
theorem run_miss {pl sl : List UInt8} {k : Nat} {L : List Int} {n : Int} {o : Bool} (h : run pl sl k = some (L, n, o)) (hp : (pl.getD k 0).toNat ≠ 48) (h0 : (sl.getD k 0).toNat ≠ (pl.getD k 0).toNat) :
    run pl sl (k + 1) = none := by
  rw [run_succ, h]; simp only [Option.bind_some, stp]; rw [if_neg hp, if_neg h0]
end Ck
end Go.Proofs.YtlcbjkkcfenlmaaDoor
