/-
  A region that draws its order, of loads and of calls that make memory: one walk in the order of the text serves every order, if each call answers alike in every world that has grown.
-/
import Derived.Test.YtajhhplgcegodaaDoorGr
import Derived.Deep.Quiet
import Derived.BigQuiet
set_option linter.unusedVariables false
set_option linter.unusedSimpArgs false
namespace Go.Proofs.YtajhhplgcegodaaDoor
open Go.RowKit
/-- The worlds that have grown from W. -/
structure GW (W : World) where
  val : World
  property : Gr W val
instance (W : World) : Nonempty (GW W) := ⟨⟨W, Gr.refl W⟩⟩
theorem wp_region_gr {P : Program} {id : Nat} {Q : Exit → Act → World → Prop} {a : Act} {w : World} {l : List Oper} (hm : P.follows .mixedOrders = true) (hB : Region.lexB .any l.toArray = true)
    (h : wpQuiet P l.toArray (fun w' => ∃ x : GW w, w' = x.1) (fun a' => ∀ w', Gr w w' → Q .normal a' w') l a) : (Code.region id l.toArray true).wp P Q a w := by
  have e : (fun a' => ∀ w', Gr w w' → Q .normal a' w') = (fun a' => ∀ w', (∃ x : GW w, w' = x.1) → Q .normal a' w') := by
    funext a'
    apply propext
    constructor
    · rintro h w' ⟨x, rfl⟩; exact h _ x.2
    · intro h w' hg; exact h w' ⟨⟨w', hg⟩, rfl⟩
  rw [e] at h
  exact wp_region_quiet (C := fun w' => ∃ x : GW w, w' = x.1) hm hB ⟨⟨w.drew, Gr.drew (Gr.refl w)⟩, rfl⟩ h
theorem gw_call {P : Program} {f : FuncId} {args : Array Value} {W : World} {x : GW W} {v : Value} (h : Calls P f args x.1 fun e w' => e = .returned v ∧ Gr x.1 w') : Calls P f args x.1 fun e w'' => e = .returned v ∧ ∃ y : GW W, w'' = y.1 :=
  h.mono fun _ w' ⟨he, hg⟩ => ⟨he, ⟨w', x.2.trans hg⟩, rfl⟩
theorem gw_same {P : Program} {f : FuncId} {args : Array Value} {W : World} {x : GW W} {v : Value} (h : Calls P f args x.1 fun e w' => e = .returned v ∧ x.1 = w') : Calls P f args x.1 fun e w'' => e = .returned v ∧ ∃ y : GW W, w'' = y.1 :=
  h.mono fun _ _ ⟨he, hw⟩ => ⟨he, x, hw.symm⟩
end Go.Proofs.YtajhhplgcegodaaDoor
