/-
  More on tokens, plainly. No program here.
-/
import Derived.Test.YtagfgnpjljaefaaDoorDcPlain
import Derived.Lib.Strings
import Derived.Lib.Bytealg
set_option linter.unusedVariables false
set_option linter.unusedSimpArgs false
namespace Go.Proofs.YtagfgnpjljaefaaDoor
namespace Dc
theorem hasP2 (l : List UInt8) (a b : UInt8) : Lib.hasPrefix l [a, b] = true ↔ 1 < l.length ∧ l.getD 0 0 = a ∧ l.getD 1 0 = b := by
  unfold Lib.hasPrefix
  match l with
  | [] => simp [List.isPrefixOf]
  | [x] => simp [List.isPrefixOf]
  | x :: y :: l => simp [List.isPrefixOf]; exact ⟨fun h => ⟨h.1.symm, h.2.symm⟩, fun h => ⟨h.1.symm, h.2.symm⟩⟩
theorem index_rest : ∀ l : List UInt8, (Lib.indexByte l 10 = -1 ∧ rest l = l.length) ∨ Lib.indexByte l 10 = (rest l : Int)
  | [] => Or.inl ⟨rfl, rfl⟩
  | c :: l => by
    unfold rest spn
    by_cases h : c = 10
    · subst h; right; rfl
    · have hn : c.toNat ≠ 10 := fun e => h (UInt8.toNat_inj.1 e)
      rw [if_pos (decide_eq_true hn)]
      have hb : (c == 10) = false := beq_eq_false_iff_ne.2 h
      rcases index_rest l with ⟨h1, h2⟩ | h1
      · left
        unfold rest at h2
        refine ⟨?_, by rw [h2]; rfl⟩
        rw [Lib.indexByte, hb, h1]; rfl
      · right
        unfold rest at h1
        rw [Lib.indexByte, hb, h1]
        have : ((spn (fun c => decide (c.toNat ≠ 10)) l : Int) == -1) = false := beq_eq_false_iff_ne.2 (by omega)
        simp [this]
theorem index_mem : ∀ (l : List UInt8) (c : UInt8), (0 ≤ Lib.indexByte l c ↔ l.contains c = true)
  | [], c => by simp [Lib.indexByte]
  | b :: l, c => by
    have ih := index_mem l c
    have g := Lib.indexByte_ge l c
    rw [Lib.indexByte, List.contains_cons]
    by_cases h : b = c
    · subst h; simp
    · have hb : (b == c) = false := beq_eq_false_iff_ne.2 h
      have hc : (c == b) = false := beq_eq_false_iff_ne.2 fun e => h e.symm
      rw [hb, hc, Bool.false_or]
      by_cases e : Lib.indexByte l c = -1
      · rw [e] at ih ⊢; simp at ih ⊢; exact ih
      · have : (Lib.indexByte l c == -1) = false := beq_eq_false_iff_ne.2 e
        simp only [this, Bool.false_eq_true, if_false]
        rw [← ih]; omega
theorem isS_index (c : UInt8) : 0 ≤ Lib.indexByte [45, 43, 58, 44, 59, 47, 61, 40, 41, 60, 62, 42] c ↔ isS c = true := index_mem _ c
theorem getD_drop (l : List UInt8) (a j : Nat) : (l.drop a).getD j 0 = l.getD (a + j) 0 := by
  rw [List.getD_eq_getElem?_getD, List.getD_eq_getElem?_getD, List.getElem?_drop]
theorem spn_from {p : UInt8 → Bool} {l : List UInt8} {a k : Nat} (ha : a ≤ k) (hk : k ≤ l.length) (h : ∀ j, a ≤ j → j < k → p (l.getD j 0) = true) (hs : k = l.length ∨ p (l.getD k 0) = false) : a + spn p (l.drop a) = k := by
  have : spn p (l.drop a) = k - a := by
    refine spn_stop (fun j hj => by rw [getD_drop]; exact h _ (by omega) (by omega)) (by rw [List.length_drop]; omega) ?_
    rcases hs with hs | hs
    · left; rw [List.length_drop]; omega
    · right; rw [getD_drop, show a + (k - a) = k by omega]; exact hs
  omega
theorem symbol_eq (l : List UInt8) : symbol l = if Lib.hasPrefix l [62, 61] || Lib.hasPrefix l [60, 61] || Lib.hasPrefix l [58, 61] then 2 else if isS (l.getD 0 0) then 1 else 0 := by
  unfold symbol
  have e : (Lib.hasPrefix l [62, 61] || Lib.hasPrefix l [60, 61] || Lib.hasPrefix l [58, 61]) = true ↔ 1 < l.length ∧ (l.getD 1 0).toNat = 61 ∧ ((l.getD 0 0).toNat = 62 ∨ (l.getD 0 0).toNat = 60 ∨ (l.getD 0 0).toNat = 58) := by
    rw [Bool.or_eq_true, Bool.or_eq_true, hasP2, hasP2, hasP2]
    rw [← UInt8.toNat_inj (a := l.getD 0 0) (b := 62), ← UInt8.toNat_inj (a := l.getD 0 0) (b := 60), ← UInt8.toNat_inj (a := l.getD 0 0) (b := 58), ← UInt8.toNat_inj (a := l.getD 1 0) (b := 61)]
    simp only [show (62 : UInt8).toNat = 62 from rfl, show (60 : UInt8).toNat = 60 from rfl, show (58 : UInt8).toNat = 58 from rfl, show (61 : UInt8).toNat = 61 from rfl]
    constructor
    · rintro ((h | h) | h) <;> exact ⟨h.1, h.2.2, by have := h.2.1; omega⟩
    · rintro ⟨h1, h2, h | h | h⟩
      · exact Or.inl (Or.inl ⟨h1, h, h2⟩)
      · exact Or.inl (Or.inr ⟨h1, h, h2⟩)
      · exact Or.inr ⟨h1, h, h2⟩
  by_cases h : 1 < l.length ∧ (l.getD 1 0).toNat = 61 ∧ ((l.getD 0 0).toNat = 62 ∨ (l.getD 0 0).toNat = 60 ∨ (l.getD 0 0).toNat = 58)
  · rw [if_pos h, if_pos (e.2 h)]
  · rw [if_neg h, if_neg fun c => h (e.1 c)]
end Dc
end Go.Proofs.YtagfgnpjljaefaaDoor
