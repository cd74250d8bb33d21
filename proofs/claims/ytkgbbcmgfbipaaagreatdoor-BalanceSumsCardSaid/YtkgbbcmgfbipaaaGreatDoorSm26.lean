/-
  Valid states: the reference's ValidState and Right, storage.ValidState. (Printed by mkstater.py.)
-/
import Derived.Test.YtkgbbcmgfbipaaaGreatDoorSm12
import Derived.Test.YtkgbbcmgfbipaaaGreatDoorSm25

set_option linter.unusedVariables false
set_option linter.unusedSimpArgs false
namespace Go.Proofs.YtkgbbcmgfbipaaaGreatDoor
open Go.RowKit
/-- A network is valid, and a state is, for it. -/
def Ba.vs (N : Ba.SlNode) (L : Ba.SlLink) (s : Ba.State) : Bool := Ba.netB N L && Ba.stateB N L s
theorem vstate_any (N : Ba.SlNode) (L : Ba.SlLink) (s : Ba.State) (w : World) (hN : N.At w) (hL : L.At w) (hs : s.Ok w) : Calls Tryz.prog 62 #[Ba.netVal N L, s.val] w fun e w' => e = .returned (.bool (Ba.vs N L s)) ∧ Gr w w' := by
  have HV := Lib.hid (fun W (hg : Gr w W) => netvalid_any N L W (hN.gr hg) (hL.gr hg))
  unfold Ba.vs
  cases h : Ba.netB N L
  · rw [h] at HV
    exact vstate_no N L s w hN hL hs HV
  rw [h] at HV
  unfold Ba.stateB
  cases hz : Ba.sizB N L s
  · exact vstate_size N L s w hN hL hs HV hz
  · exact vstate_yes N L s w hN hL hs HV hz h
end Go.Proofs.YtkgbbcmgfbipaaaGreatDoor
