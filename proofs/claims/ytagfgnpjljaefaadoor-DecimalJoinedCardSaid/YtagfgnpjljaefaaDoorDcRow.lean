/-
  Rows of tokens, plainly.
-/
import Derived.Test.YtagfgnpjljaefaaDoorDcName
set_option linter.unusedVariables false
set_option linter.unusedSimpArgs false
namespace Go.Proofs.YtagfgnpjljaefaaDoor
open Go.RowKit
/-- A row of tokens. -/
inductive TokRow : List Value → Nat → Prop
  | nil : TokRow [] 0
  | snoc {cs : List Value} {n : Nat} (k : Int) (t : List UInt8) (ln col : Int) : TokRow cs n → TokRow (cs ++ Dc.tok k t ln col) (n + 1)
theorem TokRow.len {cs : List Value} {n : Nat} (h : TokRow cs n) : cs.length = n * 4 := by
  induction h with
  | nil => rfl
  | snoc k t ln col _ ih => rw [List.length_append, ih]; simp [Dc.tok]; omega
theorem TokRow.get {cs : List Value} {n : Nat} (h : TokRow cs n) : ∀ i, i < n → ∃ (k : Int) (t : ByteArray) (ln col : Int), cs[i * 4]? = some (.int .i64 k) ∧ cs[i * 4 + 1]? = some (.string t) ∧ cs[i * 4 + 2]? = some (.int .i64 ln) ∧ cs[i * 4 + 3]? = some (.int .i64 col) := by
  induction h with
  | nil => intro i hi; omega
  | @snoc cs n k t ln col h ih =>
    intro i hi
    have hl := h.len
    by_cases e : i < n
    · obtain ⟨k', t', ln', col', a, b, c, d⟩ := ih i e
      exact ⟨k', t', ln', col', by rw [List.getElem?_append_left (by omega)]; exact a, by rw [List.getElem?_append_left (by omega)]; exact b, by rw [List.getElem?_append_left (by omega)]; exact c, by rw [List.getElem?_append_left (by omega)]; exact d⟩
    · obtain rfl : i = n := by omega
      refine ⟨k, ⟨t.toArray⟩, ln, col, ?_, ?_, ?_, ?_⟩
      · rw [List.getElem?_append_right (by omega), hl, Nat.sub_self]; rfl
      · rw [List.getElem?_append_right (by omega), hl, show i * 4 + 1 - i * 4 = 1 by omega]; rfl
      · rw [List.getElem?_append_right (by omega), hl, show i * 4 + 2 - i * 4 = 2 by omega]; rfl
      · rw [List.getElem?_append_right (by omega), hl, show i * 4 + 3 - i * 4 = 3 by omega]; rfl
theorem go_row : ∀ (f : Nat) (l : List UInt8) (ln col : Int) (acc : List Value) (n : Nat) (cs : List Value), TokRow acc n → Dc.go f l ln col acc = .inl cs → ∃ m, TokRow cs m
  | 0, l, ln, col, acc, n, cs, ha, h => by
    unfold Dc.go at h
    injection h with h; subst h
    exact ⟨_, .snoc _ _ _ _ ha⟩
  | f + 1, l, ln, col, acc, n, cs, ha, h => by
    unfold Dc.go at h
    split at h
    · injection h with h; subst h; exact ⟨_, .snoc _ _ _ _ ha⟩
    · split at h
      · cases h
      · split at h
        · exact go_row f _ _ _ _ _ cs (.snoc _ _ _ _ ha) h
        · split at h
          · exact go_row f _ _ _ _ _ cs ha h
          · exact go_row f _ _ _ _ _ cs (.snoc _ _ _ _ ha) h
theorem tokens_row {l : List UInt8} {cs : List Value} (h : Dc.tokens l = .inl cs) : ∃ m, TokRow cs m := go_row _ _ _ _ _ _ _ .nil h
end Go.Proofs.YtagfgnpjljaefaaDoor
