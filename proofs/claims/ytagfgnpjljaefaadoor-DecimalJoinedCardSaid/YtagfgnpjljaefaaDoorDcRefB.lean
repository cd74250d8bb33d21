import Derived.Test.YtagfgnpjljaefaaDoorDcRefA
set_option linter.unusedVariables false
set_option linter.unusedSimpArgs false
namespace Go.Proofs.YtagfgnpjljaefaaDoor
open Go.RowKit
/-- The bytes that are symbols by themselves. -/
def alone : ByteArray := ⟨#[45, 43, 58, 44, 59, 47, 61, 40, 41, 60, 62, 42]⟩
theorem isS_yes {c : UInt8} {k : Nat} (hk : k < alone.size) (h : c.toNat = alone[k].toNat) : Dc.isS c = true := by
  have e : c = alone[k] := UInt8.toNat_inj.1 h
  unfold Dc.isS
  rw [List.contains_iff_mem]
  have hm : alone[k] ∈ alone.data.toList := by
    rw [← getD_byte alone k hk, List.getD_eq_getElem?_getD, List.getElem?_eq_getElem (by simpa using hk)]; simp
  rw [e]; exact hm
theorem isS_no {c : UInt8} (h : ∀ j (hj : j < alone.size), c.toNat ≠ alone[j].toNat) : Dc.isS c = false := by
  cases hs : Dc.isS c
  · rfl
  · unfold Dc.isS at hs
    rw [List.contains_iff_mem] at hs
    obtain ⟨j, hj, he⟩ := List.getElem_of_mem hs
    have hj' : j < alone.size := hj
    refine absurd ?_ (h j hj')
    rw [← getD_byte alone j hj', List.getD_eq_getElem?_getD, List.getElem?_eq_getElem (by simpa using hj')]
    rw [← he]; rfl
theorem Dc.symbol_two {l : List UInt8} (h : 1 < l.length ∧ (l.getD 1 0).toNat = 61 ∧ ((l.getD 0 0).toNat = 62 ∨ (l.getD 0 0).toNat = 60 ∨ (l.getD 0 0).toNat = 58)) : Dc.symbol l = 2 := if_pos h
theorem Dc.symbol_one {l : List UInt8} (h : ¬ (1 < l.length ∧ (l.getD 1 0).toNat = 61 ∧ ((l.getD 0 0).toNat = 62 ∨ (l.getD 0 0).toNat = 60 ∨ (l.getD 0 0).toNat = 58))) : Dc.symbol l = if Dc.isS (l.getD 0 0) then 1 else 0 := if_neg h
end Go.Proofs.YtagfgnpjljaefaaDoor
