/-
  Plain: chains of an injective partial function on the numbers below N end; the pigeonhole principle. No condition.
-/
import Derived.Test.YtajhhplgcegodaaDoorGr
set_option linter.unusedVariables false
set_option linter.unusedSimpArgs false
namespace Go.Proofs.YtajhhplgcegodaaDoor
namespace Ms
theorem php : ∀ (N : Nat) (f : Nat → Nat), (∀ i, i ≤ N → f i < N) → ∃ i j, i < j ∧ j ≤ N ∧ f i = f j
  | 0, f, h => absurd (h 0 (Nat.le_refl _)) (by omega)
  | N + 1, f, h => by
    by_cases e : ∃ i, i ≤ N ∧ f i = f (N + 1)
    · obtain ⟨i, hi, he⟩ := e
      exact ⟨i, N + 1, by omega, Nat.le_refl _, he⟩
    · have hv := h (N + 1) (Nat.le_refl _)
      have hne : ∀ i, i ≤ N → f i ≠ f (N + 1) := fun i hi he => e ⟨i, hi, he⟩
      obtain ⟨i, j, hij, hj, hf⟩ := php N (fun i => if f i = N then f (N + 1) else f i) (fun i hi => by
        have a := h i (by omega); have b := hne i hi
        show (if f i = N then f (N + 1) else f i) < N
        split <;> omega)
      refine ⟨i, j, hij, by omega, ?_⟩
      have a := hne i (by omega); have b := hne j (by omega)
      revert hf; show (if f i = N then f (N + 1) else f i) = (if f j = N then f (N + 1) else f j) → _; intro hf
      split at hf <;> split at hf <;> omega
/-- The k-th step of a chain. -/
def it (g : Nat → Option Nat) (x : Nat) : Nat → Option Nat
  | 0 => some x
  | k + 1 => (it g x k).bind g
/-- A partial function on the numbers below N that is injective. -/
structure Inj (g : Nat → Option Nat) (N : Nat) : Prop where
  lt : ∀ x y, x < N → g x = some y → y < N
  inj : ∀ x x' y, x < N → x' < N → g x = some y → g x' = some y → x = x'
theorem it_lt {g : Nat → Option Nat} {N x : Nat} (hg : Inj g N) (hx : x < N) : ∀ {k y}, it g x k = some y → y < N
  | 0, y, h => by simp only [it, Option.some.injEq] at h; omega
  | k + 1, y, h => by
    simp only [it] at h
    cases e : it g x k with
    | none => rw [e] at h; cases h
    | some z => rw [e] at h; exact hg.lt z y (it_lt hg hx e) h
theorem it_le {g : Nat → Option Nat} {x : Nat} : ∀ {k m : Nat}, k ≤ m → (it g x m).isSome = true → (it g x k).isSome = true
  | k, 0, h, hs => by obtain rfl : k = 0 := by omega
                      exact hs
  | k, m + 1, h, hs => by
    by_cases e : k = m + 1
    · subst e; exact hs
    · refine it_le (m := m) (by omega) ?_
      simp only [it] at hs
      cases e : it g x m with
      | none => rw [e] at hs; cases hs
      | some z => rfl
/-- Two places of a chain that are equal: the chain comes back to its head. -/
theorem it_back {g : Nat → Option Nat} {N x x' : Nat} (hg : Inj g N) (hx : x < N) (hx' : x' < N) : ∀ {i j y}, it g x i = some y → it g x' (i + j) = some y → it g x' j = some x
  | 0, j, y, h, h' => by
    simp only [it, Option.some.injEq] at h
    rw [Nat.zero_add] at h'; rw [h', h]
  | i + 1, j, y, h, h' => by
    rw [show i + 1 + j = (i + j) + 1 by omega] at h'
    simp only [it] at h h'
    cases e : it g x i with
    | none => rw [e] at h; cases h
    | some z =>
      cases e' : it g x' (i + j) with
      | none => rw [e'] at h'; cases h'
      | some z' =>
        rw [e] at h; rw [e'] at h'
        have := hg.inj z z' y (it_lt hg hx e) (it_lt hg hx' e') h h'
        subst this
        exact it_back hg hx hx' e e'
/-- A chain whose head has nothing ahead of it ends. -/
theorem it_ends {g : Nat → Option Nat} {N x : Nat} (hg : Inj g N) (hx : x < N) (hn : ∀ z, z < N → g z ≠ some x) : it g x N = none := by
  cases e : it g x N with
  | none => rfl
  | some y =>
    exfalso
    have hs : ∀ i, i ≤ N → ∃ z, it g x i = some z := fun i hi => Option.isSome_iff_exists.1 (it_le (m := N) hi (by rw [e]; rfl))
    obtain ⟨i, j, hij, hj, hf⟩ := php N (fun i => (it g x i).getD 0) (fun i hi => by
      obtain ⟨z, hz⟩ := hs i hi
      show (it g x i).getD 0 < N
      rw [hz]; exact it_lt hg hx hz)
    obtain ⟨a, ha⟩ := hs i (by omega); obtain ⟨b, hb⟩ := hs j hj
    simp only [ha, hb, Option.getD_some] at hf
    subst hf
    have hk := it_back (j := j - i) hg hx hx ha (by rw [show i + (j - i) = j by omega]; exact hb)
    rw [show j - i = (j - i - 1) + 1 by omega] at hk
    simp only [it] at hk
    cases e' : it g x (j - i - 1) with
    | none => rw [e'] at hk; cases hk
    | some z => rw [e'] at hk; exact hn z (it_lt hg hx e') hk
/-- The end of a chain of at most m steps. -/
def last (g : Nat → Option Nat) : Nat → Nat → Nat
  | 0, x => x
  | m + 1, x => match g x with | none => x | some y => last g m y
/-- The number of its steps. -/
def steps (g : Nat → Option Nat) : Nat → Nat → Nat
  | 0, _ => 0
  | m + 1, x => match g x with | none => 0 | some y => steps g m y + 1
theorem it_succ' (g : Nat → Option Nat) (x : Nat) : ∀ k, it g x (k + 1) = (g x).bind fun y => it g y k
  | 0 => by
    show (some x).bind g = _
    cases e : g x with
    | none => simp [e]
    | some y => simp [e, it]
  | k + 1 => by
    rw [it, it_succ' g x k]
    cases e : g x with
    | none => rfl
    | some y => rfl
theorem last_it {g : Nat → Option Nat} : ∀ {m x}, it g x m = none → it g x (steps g m x) = some (last g m x) ∧ g (last g m x) = none ∧ steps g m x < m
  | 0, x, h => by cases h
  | m + 1, x, h => by
    rw [it_succ'] at h
    cases e : g x with
    | none => refine ⟨?_, ?_, ?_⟩ <;> simp [steps, last, e, it]
    | some y =>
      rw [e] at h
      obtain ⟨a, b, c⟩ := last_it (m := m) (x := y) h
      simp only [steps, last, e]
      refine ⟨?_, b, by omega⟩
      rw [it_succ', e]; exact a
theorem last_more {g : Nat → Option Nat} : ∀ {m x n}, it g x m = none → m ≤ n → last g n x = last g m x ∧ steps g n x = steps g m x
  | 0, x, n, h, _ => by cases h
  | m + 1, x, n, h, hn => by
    obtain ⟨n, rfl⟩ : ∃ q, n = q + 1 := ⟨n - 1, by omega⟩
    rw [it_succ'] at h
    cases e : g x with
    | none =>
      refine ⟨?_, ?_⟩ <;> simp [steps, last, e]
    | some y =>
      rw [e] at h
      simp only [steps, last, e]
      obtain ⟨a, b⟩ := last_more (m := m) (x := y) (n := n) h (by omega)
      exact ⟨a, by rw [b]⟩
end Ms
end Go.Proofs.YtajhhplgcegodaaDoor
