/-
  Slices that a call makes: kept while the world grows; read as they are.
  Steps of a region that draws its order: append to a row that a call has made, whatever is appended. Typed.
-/
import Derived.Test.YtllkiadedaghoaaGreatDoorOr01
import Derived.OwnWalk
import Derived.Laws.CopyOwn
import Derived.Deep.AppendLies
import Derived.Deep.RegionWith
import Derived.Deep.RegionLaw
import Derived.Laws.AppendOwnNone
set_option linter.unusedVariables false
set_option linter.unusedSimpArgs false
namespace Go.Proofs.YtllkiadedaghoaaGreatDoor
open Go.RowKit
theorem ownsRow_gr {w w' : World} {base e size n : Nat} {v : Value} {xs : List Value} (h : w.ownsRow base e size v n xs) (hg : Gr w w') : w'.ownsRow base e size v n xs := by
  obtain ⟨hl, h | ⟨g, cap, cur, hv, hb, hc, r⟩⟩ := h
  · exact ⟨hl, Or.inl h⟩
  · refine ⟨hl, Or.inr ⟨g, cap, cur, hv, hb, ?_, r⟩⟩
    have hlt : g < w.heap.size := (Array.getElem?_eq_some_iff.1 hc).1
    rw [Below.block hg g hlt]; exact hc
theorem Gr.own {w W W1 : World} {base e size n : Nat} {v : Value} {xs : List Value} (hg : Gr w W) (hb : w.heap.size ≤ base) (ho : W.ownsRow base e size v n xs) (hgr : W.grownBy W1 v.ownBlock) : Gr w W1 :=
  Below.grown hg hgr (Gr.size hg) fun k hk => by have := (ho.lt k hk).1; omega
end Go.Proofs.YtllkiadedaghoaaGreatDoor
set_option linter.unusedVariables false
set_option linter.unusedSimpArgs false
namespace Go.Proofs.YtllkiadedaghoaaGreatDoor
open Go.RowKit
theorem own_empty {w : World} {base E g k : Nat} (h : w.heap[g]? = some (.cells #[] E (0, 0))) (hb : base ≤ g) : w.ownsRow base E k (.slice (some ⟨g, 0, none⟩) 0 0) 0 [] :=
  ⟨by simp, Or.inr ⟨g, 0, #[], rfl, hb, h, Nat.le_refl _, by unfold maxLen; omega, by simp, by simp⟩⟩
end Go.Proofs.YtllkiadedaghoaaGreatDoor
