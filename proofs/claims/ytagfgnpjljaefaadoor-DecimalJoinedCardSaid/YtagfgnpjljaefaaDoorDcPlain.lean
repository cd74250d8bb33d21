/-
  Decimal numbers and tokens, plainly. No program here.
-/
import Derived.WalkKit
set_option linter.unusedVariables false
set_option linter.unusedSimpArgs false
namespace Go.Proofs.YtagfgnpjljaefaaDoor
namespace Dc
/-- A number of the layer. -/
def num (n : Int) : Bool := decide (-1152921504606846976 ≤ n) && decide (n ≤ 1152921504606846976)
theorem num_iff (n : Int) : num n = true ↔ -1152921504606846976 ≤ n ∧ n ≤ 1152921504606846976 := by unfold num; simp only [Bool.and_eq_true, decide_eq_true_eq]
theorem num_no {n : Int} (h : num n = false) : n < -1152921504606846976 ∨ 1152921504606846976 < n := by
  unfold num at h; simp only [Bool.and_eq_false_iff, decide_eq_false_iff_not] at h; omega
/-- Rounding. -/
def rnd (n u : Int) : Int := (2 * n + u) / (2 * u)
def isL (c : UInt8) : Bool := decide (97 ≤ c.toNat) && decide (c.toNat ≤ 122) || decide (65 ≤ c.toNat) && decide (c.toNat ≤ 90)
def isD (c : UInt8) : Bool := decide (48 ≤ c.toNat) && decide (c.toNat ≤ 57)
def isW (c : UInt8) : Bool := isL c || isD c || decide (c.toNat = 95)
/-- How many bytes at the head have a property. -/
def spn (p : UInt8 → Bool) : List UInt8 → Nat
  | [] => 0
  | c :: l => if p c then spn p l + 1 else 0
theorem spn_le (p : UInt8 → Bool) : ∀ l, spn p l ≤ l.length
  | [] => Nat.le_refl _
  | c :: l => by unfold spn; have := spn_le p l; split <;> simp <;> omega
theorem spn_all {p : UInt8 → Bool} : ∀ {l : List UInt8} {k : Nat}, k ≤ l.length → (∀ j, j < k → p (l.getD j 0) = true) → k ≤ spn p l
  | l, 0, _, _ => Nat.zero_le _
  | [], k + 1, h, _ => by simp at h
  | c :: l, k + 1, h, hj => by
    have h0 := hj 0 (by omega)
    simp at h0
    unfold spn; rw [if_pos h0]
    have := spn_all (l := l) (k := k) (by simpa using h) fun j hjk => by have := hj (j + 1) (by omega); simpa using this
    omega
theorem spn_stop {p : UInt8 → Bool} : ∀ {l : List UInt8} {k : Nat}, (∀ j, j < k → p (l.getD j 0) = true) → k ≤ l.length → (k = l.length ∨ p (l.getD k 0) = false) → spn p l = k
  | [], k, _, h, _ => by simp at h; subst h; rfl
  | c :: l, 0, _, _, h => by
    rcases h with h | h
    · simp at h
    · simp at h; unfold spn; rw [if_neg (by rw [h]; decide)]
  | c :: l, k + 1, hj, h, hs => by
    have h0 := hj 0 (by omega)
    simp at h0
    unfold spn; rw [if_pos h0]
    congr 1
    refine spn_stop (fun j hjk => by have := hj (j + 1) (by omega); simpa using this) (by simpa using h) ?_
    rcases hs with hs | hs
    · left; simpa using hs
    · right; simpa using hs
/-- A property holds on the head and fails behind it. -/
theorem spn_get {p : UInt8 → Bool} : ∀ {l : List UInt8} {j : Nat}, j < spn p l → p (l.getD j 0) = true
  | [], j, h => by simp [spn] at h
  | c :: l, j, h => by
    unfold spn at h
    split at h
    · rename_i hc
      match j, h with
      | 0, _ => simpa using hc
      | j + 1, h => have := spn_get (p := p) (l := l) (j := j) (by omega); simpa using this
    · omega
theorem spn_end {p : UInt8 → Bool} : ∀ {l : List UInt8}, spn p l < l.length → p (l.getD (spn p l) 0) = false
  | [], h => by simp at h
  | c :: l, h => by
    unfold spn at h ⊢
    split
    · rename_i hc
      rw [if_pos hc] at h
      have := spn_end (p := p) (l := l) (by simpa using h)
      simpa using this
    · rename_i hc; simpa using hc
def word (l : List UInt8) : Nat := spn isW l
def figs (l : List UInt8) : Nat := spn isD l
def numeral (l : List UInt8) : Nat :=
  if figs l + 1 < l.length ∧ (l.getD (figs l) 0).toNat = 46 ∧ isD (l.getD (figs l + 1) 0) = true then figs l + 1 + figs (l.drop (figs l + 1)) else figs l
def isS (c : UInt8) : Bool := [45, 43, 58, 44, 59, 47, 61, 40, 41, 60, 62, 42].contains c
def symbol (l : List UInt8) : Nat :=
  if 1 < l.length ∧ (l.getD 1 0).toNat = 61 ∧ ((l.getD 0 0).toNat = 62 ∨ (l.getD 0 0).toNat = 60 ∨ (l.getD 0 0).toNat = 58) then 2
  else if isS (l.getD 0 0) then 1 else 0
/-- Up to the end of the line. -/
def rest (l : List UInt8) : Nat := spn (fun c => decide (c.toNat ≠ 10)) l
/-- What begins at the head of a text that is not empty: its kind (0 blank, -1 wrong), and its length. -/
def nx (l : List UInt8) : Int × Nat :=
  let c := l.getD 0 0
  if c.toNat = 32 ∨ c.toNat = 9 then (0, 1)
  else if c.toNat = 10 then (4, 1)
  else if c.toNat = 35 then (0, rest l)
  else if isL c then (if 20 < word l then (-1, word l) else (1, word l))
  else if isD c then (2, numeral l)
  else if symbol l = 0 then (-1, 1) else (3, symbol l)
/-- A token's cells. -/
def tok (k : Int) (t : List UInt8) (ln col : Int) : List Value := [.int .i64 k, .string ⟨t.toArray⟩, .int .i64 ln, .int .i64 col]
/-- The tokens of a text (or the place of the fault): what was found before stands in acc. -/
def go : Nat → List UInt8 → Int → Int → List Value → Sum (List Value) (Int × Int)
  | 0, _, ln, col, acc => .inl (acc ++ tok 5 [] ln col)
  | f + 1, l, ln, col, acc =>
    if l = [] then .inl (acc ++ tok 5 [] ln col)
    else if (nx l).1 < 0 then .inr (ln, col)
    else if (nx l).1 = 4 then go f (l.drop 1) (ln + 1) 1 (acc ++ tok 4 [] ln col)
    else if (nx l).1 = 0 then go f (l.drop (nx l).2) ln (col + (nx l).2) acc
    else go f (l.drop (nx l).2) ln (col + (nx l).2) (acc ++ tok (nx l).1 (l.take (nx l).2) ln col)
def tokens (l : List UInt8) : Sum (List Value) (Int × Int) := go l.length l 1 1 []
theorem spn_pos {p : UInt8 → Bool} {l : List UInt8} (hl : l ≠ []) (h : p (l.getD 0 0) = true) : 1 ≤ spn p l := by
  cases l with
  | nil => exact absurd rfl hl
  | cons c l => simp at h; unfold spn; rw [if_pos h]; omega
theorem nx_pos {l : List UInt8} (hl : l ≠ []) : 1 ≤ (nx l).2 := by
  unfold nx
  simp only
  split
  · simp
  · split
    · simp
    · split
      · rename_i h; exact spn_pos hl (decide_eq_true (by omega))
      · split
        · rename_i h
          have : 1 ≤ word l := spn_pos hl (by unfold isW; rw [h]; rfl)
          split <;> exact this
        · split
          · rename_i h
            have : 1 ≤ figs l := spn_pos hl h
            show 1 ≤ numeral l
            unfold numeral; split <;> omega
          · split
            · simp
            · show 1 ≤ symbol l; omega
theorem nx_len {l : List UInt8} (hl : l ≠ []) (h0 : 0 ≤ (nx l).1) : (nx l).2 ≤ l.length := by
  have hp : 1 ≤ l.length := by cases l with | nil => exact absurd rfl hl | cons => simp
  unfold nx at h0 ⊢
  simp only at h0 ⊢
  split
  · exact hp
  · split
    · exact hp
    · split
      · exact spn_le _ _
      · split
        · split <;> exact spn_le _ _
        · split
          · show numeral l ≤ l.length
            unfold numeral
            have a := spn_le isD l
            have b := spn_le isD (l.drop (figs l + 1))
            unfold figs at *
            rw [List.length_drop] at b
            split <;> omega
          · split
            · exact hp
            · show symbol l ≤ l.length
              unfold symbol; split
              · omega
              · split <;> omega
end Dc
end Go.Proofs.YtagfgnpjljaefaaDoor
