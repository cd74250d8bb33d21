/-
  Arguments opened: structs and slices.
-/
import Derived.Test.YtajhhplgcegodaaGreatDoorFit
import Derived.Lib.SmallJoins
set_option linter.unusedVariables false
set_option linter.unusedSimpArgs false
namespace Go.Proofs.YtajhhplgcegodaaGreatDoor
open Go.RowKit Go.ChangeShapes Go.WideShapes Go.Deep
theorem pick {α : Type} [Nonempty α] {P : Nat → α → Prop} {n : Nat} (h : ∀ i, i < n → ∃ d, P i d) : ∃ D : Nat → α, ∀ i, i < n → P i (D i) := by
  refine ⟨fun i => if hi : i < n then (h i hi).choose else Classical.choice inferInstance, fun i hi => ?_⟩
  simp only [dif_pos hi]
  exact (h i hi).choose_spec
section
variable {H : Type} {enc : TypeId × Value → H} {P : Program} {w : World} {base : Nat} {spare : Nat → Bool} {held : Bool} {r : Reach} {b0 : Nat}
theorem fit_struct {t : TypeId} {x : Ty} {fs : Array Field} {v : Value} {d : DataW H} {p : List MemPlace} (hI : Is P t x) (ht : P.underlying t = some (.struct fs)) (hv : Value.okWide P w r b0 t v) (h : DataW.Trod enc P w base spare held t v d p) : ∃ cs : Array Value, v = .agg cs ∧ Fits w x cs.toList := by
  obtain ⟨cs, rfl, -⟩ := okWide_struct ht hv
  obtain ⟨fuel, hf⟩ := h
  exact ⟨cs, rfl, fits_of hI hf⟩
theorem fit_slice {t e : TypeId} {x : Ty} {v : Value} {d : DataW H} {p : List MemPlace} (hI : Is P t (.sl x)) (ht : P.underlying t = some (.slice e)) (hv : Value.okWide P w r b0 t v) (h : DataW.Trod enc P w base spare held t v d p) : ∃ (A : Option Addr) (n c : Nat), v = .slice A n c ∧ Fits w (.sl x) [.slice A n c] := by
  have hs : ∃ A n c, v = .slice A n c := by
    unfold Value.okWide at hv
    rw [ht] at hv
    simp only [Cell.okWide, Cell.ok, ht] at hv
    split at hv
    all_goals first
      | exact ⟨_, _, _, rfl⟩
      | (split at hv <;> first | exact ⟨_, _, _, rfl⟩ | (exfalso; exact hv) | simp_all)
      | simp_all
  obtain ⟨A, n, c, rfl⟩ := hs
  obtain ⟨fuel, hf⟩ := h
  exact ⟨A, n, c, rfl, fits_of hI hf⟩
end
end Go.Proofs.YtajhhplgcegodaaGreatDoor
