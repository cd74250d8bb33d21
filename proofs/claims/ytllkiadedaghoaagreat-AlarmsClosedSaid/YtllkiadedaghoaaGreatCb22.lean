/-
  Alarms: the reference's Nodes, JumpRange, SameRange, Right. Typed.
-/
import Derived.Test.YtllkiadedaghoaaGreatCb21

set_option linter.unusedVariables false
set_option linter.unusedSimpArgs false
namespace Go.Proofs.YtllkiadedaghoaaGreat
open Go.RowKit Go.Sort Go.Shelf
attribute [local go_sem ↓] Go.wp_at_zero Go.wp_at_succ
/-- Ordered, of a row that a call has made. -/
theorem rordered_own (v : Value) (d : List Al.A) (w : World) (base : Nat) (h : Al.OwnA w base v d) (hsz : d.length ≤ 100000) :
    Calls Tryz.prog 67 #[v] w fun e w' => ∃ v' d', e = .returned v' ∧ Al.OwnA w' w.heap.size v' d' ∧ d'.map Al.A.con = Al.srt (d.map Al.A.con) ∧ Gr w w' := by
  obtain ⟨s, rfl, hs, hc⟩ := h.sl
  have := rordered_any s w hs (by have := congrArg List.length hc; rw [Al.SlA.con_len, List.length_map] at this; omega)
  rw [hc] at this
  exact this
end Go.Proofs.YtllkiadedaghoaaGreat
