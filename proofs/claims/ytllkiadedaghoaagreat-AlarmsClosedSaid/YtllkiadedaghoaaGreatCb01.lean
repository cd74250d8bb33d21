/-
  Tables, plain: the value of a valid table, rounded down. Typed.
-/
import Derived.Test.YtllkiadedaghoaaGreatCm07
import Derived.Test.YtllkiadedaghoaaGreatCm11

set_option linter.unusedVariables false
set_option linter.unusedSimpArgs false
namespace Go.Proofs.YtllkiadedaghoaaGreat
namespace Ba
/-- How many of the first n. -/
def cntB (p : Nat → Bool) : Nat → Nat
  | 0 => 0
  | n + 1 => cntB p n + (if p n = true then 1 else 0)
theorem cntB_le (p : Nat → Bool) : ∀ n, cntB p n ≤ n
  | 0 => Nat.le_refl 0
  | n + 1 => by have := cntB_le p n; rw [cntB]; split <;> omega
theorem cntB_all {p : Nat → Bool} : ∀ {n : Nat}, (∀ i, i < n → p i = true) → cntB p n = n
  | 0, _ => rfl
  | n + 1, h => by rw [cntB, cntB_all fun i hi => h i (by omega), h n (by omega)]; rfl
theorem cntB_eq {p : Nat → Bool} {k : Nat} (h1 : ∀ i, i < k → p i = true) : ∀ j, (∀ i, k ≤ i → i < k + j → p i = false) → cntB p (k + j) = k
  | 0, _ => cntB_all h1
  | j + 1, h => by
    rw [show k + (j + 1) = k + j + 1 by omega, cntB, cntB_eq h1 j fun i a b => h i a (by omega), h (k + j) (by omega) (by omega)]; rfl
theorem cntB_is {p : Nat → Bool} {k n : Nat} (hk : k ≤ n) (h1 : ∀ i, i < k → p i = true) (h2 : ∀ i, k ≤ i → i < n → p i = false) : cntB p n = k := by
  have := cntB_eq h1 (n - k) fun i a b => h2 i a (by omega)
  rwa [show k + (n - k) = n by omega] at this
/-- Knots that lie ahead of x, and those that do not lie behind it. -/
def ltC (X : Nat → Int) (x : Int) (n : Nat) : Nat := cntB (fun i => decide (X i < x)) n
def leC (X : Nat → Int) (x : Int) (n : Nat) : Nat := cntB (fun i => decide (X i ≤ x)) n
/-- The value at x, rounded down. -/
def tV (s : SlK) (x : Int) : Int :=
  if leC s.X x s.n = 0 then s.Y 0 else if leC s.X x s.n = s.n then s.Y (s.n - 1)
  else s.Y (leC s.X x s.n - 1) + (s.Y (leC s.X x s.n) - s.Y (leC s.X x s.n - 1)) * (x - s.X (leC s.X x s.n - 1)) / (s.X (leC s.X x s.n) - s.X (leC s.X x s.n - 1))
theorem kns_step {X Y : Nat → Int} {n k : Nat} (h : kns X Y n = true) (hk : k + 1 < n) : X k < X (k + 1) ∧ Y k ≤ Y (k + 1) := by
  have := kns_at h hk
  rw [kn, Bool.and_eq_true, Bool.and_eq_true, Bool.and_eq_true] at this
  exact ⟨of_decide_eq_true this.2.1, of_decide_eq_true this.2.2⟩
theorem kns_fits {X Y : Nat → Int} {n k : Nat} (h : kns X Y n = true) (hk : k < n) : (-1125899906842624 ≤ X k ∧ X k ≤ 1125899906842624) ∧ (-1125899906842624 ≤ Y k ∧ Y k ≤ 1125899906842624) := by
  have := kns_at h hk
  cases k with
  | zero => rw [kn, Bool.and_eq_true] at this; simpa [kfit] using this
  | succ k => rw [kn, Bool.and_eq_true, Bool.and_eq_true] at this; simpa [kfit] using this.1
theorem kns_mono {X Y : Nat → Int} {n : Nat} (h : kns X Y n = true) : ∀ d k, k + d < n → X k ≤ X (k + d) ∧ Y k ≤ Y (k + d)
  | 0, k, _ => ⟨Int.le_refl _, Int.le_refl _⟩
  | d + 1, k, hk => by
    have h1 := kns_mono h d k (by omega)
    have h2 := kns_step h (k := k + d) (by omega)
    exact ⟨by have := h2.1; rw [show k + (d + 1) = k + d + 1 by omega]; omega, by have := h2.2; rw [show k + (d + 1) = k + d + 1 by omega]; omega⟩
theorem kns_pair {X Y : Nat → Int} {n i j : Nat} (h : kns X Y n = true) (hij : i ≤ j) (hj : j < n) : X i ≤ X j ∧ Y i ≤ Y j := by
  have := kns_mono h (j - i) i (by omega)
  rwa [show i + (j - i) = j by omega] at this
theorem kns_less {X Y : Nat → Int} {n i j : Nat} (h : kns X Y n = true) (hij : i < j) (hj : j < n) : X i < X j := by
  have h1 := (kns_step h (k := i) (by omega)).1
  have h2 := (kns_pair h (i := i + 1) (j := j) hij hj).1
  omega
theorem ltC_is {X : Nat → Int} {x : Int} {k n : Nat} (hk : k ≤ n) (h1 : ∀ i, i < k → X i < x) (h2 : ∀ i, k ≤ i → i < n → x ≤ X i) : ltC X x n = k :=
  cntB_is hk (fun i hi => decide_eq_true (h1 i hi)) fun i a b => decide_eq_false (by have := h2 i a b; omega)
theorem leC_is {X : Nat → Int} {x : Int} {k n : Nat} (hk : k ≤ n) (h1 : ∀ i, i < k → X i ≤ x) (h2 : ∀ i, k ≤ i → i < n → x < X i) : leC X x n = k :=
  cntB_is hk (fun i hi => decide_eq_true (h1 i hi)) fun i a b => decide_eq_false (by have := h2 i a b; omega)
theorem tbl_parts {s : SlK} (h : tblB s = true) : 1 ≤ s.n ∧ s.n ≤ 100 ∧ kns s.X s.Y s.n = true := by
  unfold tblB at h
  rw [Bool.and_eq_true, Bool.and_eq_true] at h
  exact ⟨of_decide_eq_true h.1.1, of_decide_eq_true h.1.2, h.2⟩
/-- A knot at x. -/
theorem tV_hit {s : SlK} {x : Int} {k : Nat} (h : tblB s = true) (hk : k < s.n) (hx : s.X k = x) : tV s x = s.Y k := by
  obtain ⟨-, -, hs⟩ := tbl_parts h
  have e : leC s.X x s.n = k + 1 := leC_is (by omega) (fun i hi => by have := (kns_pair hs (i := i) (j := k) (by omega) hk).1; omega) fun i a b => by have := kns_less hs (i := k) (j := i) (by omega) b; omega
  unfold tV
  rw [e, if_neg (by omega)]
  by_cases q : k + 1 = s.n
  · rw [if_pos q, ← q, Nat.add_sub_cancel]
  · rw [if_neg q, Nat.add_sub_cancel, hx, Int.sub_self, Int.mul_zero, Int.zero_ediv, Int.add_zero]
theorem tV_low {s : SlK} {x : Int} (h2 : ∀ i, i < s.n → x < s.X i) : tV s x = s.Y 0 := by
  unfold tV
  rw [leC_is (k := 0) (Nat.zero_le _) (fun i hi => absurd hi (Nat.not_lt_zero _)) fun i _ b => h2 i b, if_pos rfl]
theorem tV_high {s : SlK} {x : Int} (h : 1 ≤ s.n) (h1 : ∀ i, i < s.n → s.X i ≤ x) : tV s x = s.Y (s.n - 1) := by
  unfold tV
  rw [leC_is (k := s.n) (Nat.le_refl _) h1 fun i a b => by omega, if_neg (by omega), if_pos rfl]
theorem tV_mid {s : SlK} {x : Int} {k : Nat} (hk : k + 1 < s.n) (h1 : ∀ i, i < k + 1 → s.X i ≤ x) (h2 : ∀ i, k + 1 ≤ i → i < s.n → x < s.X i) : tV s x = s.Y k + (s.Y (k + 1) - s.Y k) * (x - s.X k) / (s.X (k + 1) - s.X k) := by
  unfold tV
  rw [leC_is (k := k + 1) (by omega) h1 h2, if_neg (by omega), if_neg (by omega), Nat.add_sub_cancel]
/-- A quotient of two products lies in its range. -/
theorem quot_le {u a d : Int} (hu : 0 ≤ u) (ha : 0 ≤ a) (had : a ≤ d) (hd : 0 < d) : 0 ≤ u * a / d ∧ u * a / d ≤ u := by
  constructor
  · exact Int.ediv_nonneg (Int.mul_nonneg hu ha) (by omega)
  · have h1 : u * a ≤ u * d := Int.mul_le_mul_of_nonneg_left had hu
    have h2 := Int.ediv_le_ediv hd h1
    rwa [Int.mul_ediv_cancel _ (by omega)] at h2
/-- The value lies between the outer ones. -/
theorem tV_bd {s : SlK} {x : Int} (h : tblB s = true) : s.Y 0 ≤ tV s x ∧ tV s x ≤ s.Y (s.n - 1) := by
  obtain ⟨hn, -, hs⟩ := tbl_parts h
  have hl := cntB_le (fun i => decide (s.X i ≤ x)) s.n
  unfold tV
  change leC s.X x s.n ≤ s.n at hl
  by_cases q0 : leC s.X x s.n = 0
  · rw [if_pos q0]
    exact ⟨Int.le_refl _, (kns_pair hs (i := 0) (j := s.n - 1) (by omega) (by omega)).2⟩
  rw [if_neg q0]
  by_cases q1 : leC s.X x s.n = s.n
  · rw [if_pos q1]
    exact ⟨(kns_pair hs (i := 0) (j := s.n - 1) (by omega) (by omega)).2, Int.le_refl _⟩
  rw [if_neg q1]
  obtain ⟨k, hk⟩ : ∃ k, leC s.X x s.n = k + 1 := ⟨leC s.X x s.n - 1, by omega⟩
  have hk1 : k + 1 < s.n := by omega
  have hle : s.X k ≤ x ∧ x < s.X (k + 1) := by
    have hm : ∀ i j, i ≤ j → j < s.n → s.X j ≤ x → s.X i ≤ x := fun i j a b c => by have := (kns_pair hs a b).1; omega
    constructor
    · apply Classical.byContradiction
      intro z
      have : leC s.X x s.n ≤ k := by
        have e : leC s.X x s.n = cntB (fun i => decide (s.X i ≤ x)) (k + (s.n - k)) := by rw [show k + (s.n - k) = s.n by omega]; rfl
        have key : ∀ j, k + j ≤ s.n → cntB (fun i => decide (s.X i ≤ x)) (k + j) ≤ k := by
          intro j
          induction j with
          | zero => intro _; exact cntB_le _ _
          | succ j ih =>
            intro hj
            rw [show k + (j + 1) = k + j + 1 by omega, cntB, decide_eq_false (show ¬ s.X (k + j) ≤ x from fun c => z (hm k (k + j) (by omega) (by omega) c))]
            have := ih (by omega)
            simpa using this
        rw [e]; exact key _ (by omega)
      omega
    · apply Classical.byContradiction
      intro z
      have : k + 2 ≤ leC s.X x s.n := by
        have key : ∀ j, k + 2 + j ≤ s.n → k + 2 ≤ cntB (fun i => decide (s.X i ≤ x)) (k + 2 + j) := by
          intro j
          induction j with
          | zero => intro hj; rw [Nat.add_zero, cntB_all fun i hi => decide_eq_true (hm i (k + 1) (by omega) hk1 (by omega))]; exact Nat.le_refl _
          | succ j ih => intro hj; rw [show k + 2 + (j + 1) = k + 2 + j + 1 by omega, cntB]; have := ih (by omega); omega
        have := key (s.n - (k + 2)) (by omega)
        rw [show k + 2 + (s.n - (k + 2)) = s.n by omega] at this
        exact this
      omega
  rw [hk, Nat.add_sub_cancel]
  have hy := (kns_step hs hk1).2
  have hx := (kns_step hs hk1).1
  have hp := quot_le (u := s.Y (k + 1) - s.Y k) (a := x - s.X k) (d := s.X (k + 1) - s.X k) (by omega) (by omega) (by omega) (by omega)
  have h0 := (kns_pair hs (i := 0) (j := k) (by omega) (by omega)).2
  have h9 := (kns_pair hs (i := k + 1) (j := s.n - 1) (by omega) (by omega)).2
  omega
end Ba
end Go.Proofs.YtllkiadedaghoaaGreat
