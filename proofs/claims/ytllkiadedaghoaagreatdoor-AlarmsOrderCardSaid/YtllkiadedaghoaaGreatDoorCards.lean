/-
  DERIVED. GIVEN WITH THE SEED: THE CARDS: each row of YtllkiadedaghoaaGreatDoorRows.lean that lists a variable, with what it lists TIED to the program's text (the seventh form; the later family's looks); each row that meets fmt, with fmt's text TOLD by the authors' own Lean function (tested against real Go, not proved from fmt's source: count such statements apart). THE CARD IS WHAT COUNTS. Prove the row's statement (the work); the ties are given (YtllkiadedaghoaaGreatDoorTie.lean); close each card by the builder's one call (the guide's Derived/Test/ToyasCard.lean, 'card_holds'). Laid BY PROGRAM, IN A SANDBOX (cutbox-door.mjs). By AI agents, Wed Nov 11 2026. No macro, syntax, notation, axiom, sorry.
-/
import Derived.Test.YtllkiadedaghoaaGreatDoorRows
import GoSem.ClaimSeven
namespace Go.Proofs.YtllkiadedaghoaaGreatDoor
namespace Rows

/-- THE TIED CARD OF 'sewershedlaw53.AlarmsExplained'. -/
def alarmsExplainedCard : Claim7 := { stood := { row := alarmsExplainedRow, standIns := [], harness := (true, "2e0f6facbf2532d451680ac22ab0a3dcd3b31174f08d4a6a8bb576e9eb53945e"), looks := false }, kinds := [], alts := [], laidByText := true, laidKinds := [.data, .data, .data], laidTests := true, laidLooks := .later }
def AlarmsExplainedCardSaid : Prop := Claim7.holds Tryz.pinned (.plain (OpenSpec.ofChange alarmsExplainedSpec)) alarmsExplainedCard

/-- THE TIED CARD OF 'sewershedlaw53.AlarmsOrder'. -/
def alarmsOrderCard : Claim7 := { stood := { row := alarmsOrderRow, standIns := [], harness := (true, "2e0f6facbf2532d451680ac22ab0a3dcd3b31174f08d4a6a8bb576e9eb53945e"), looks := false }, kinds := [], alts := [], laidByText := true, laidKinds := [.data, .data, .data], laidTests := true, laidLooks := .later }
def AlarmsOrderCardSaid : Prop := Claim7.holds Tryz.pinned (.plain (OpenSpec.ofChange alarmsOrderSpec)) alarmsOrderCard

/-- THE SECOND FORM's CARD OF 'sewershedlaw53.AlarmsExplained'. -/
def alarmsExplainedUptoCard : Claim7 := { stood := { row := alarmsExplainedUptoRow, standIns := [], harness := (true, "2e0f6facbf2532d451680ac22ab0a3dcd3b31174f08d4a6a8bb576e9eb53945e"), looks := false }, kinds := [], alts := [], laidByText := true, laidKinds := [.data, .data, .data], laidTests := true, laidLooks := .later }
def AlarmsExplainedUptoCardSaid : Prop := Claim7.holds Tryz.pinned (.plain (OpenSpec.upto alarmsExplainedSpec)) alarmsExplainedUptoCard

/-- THE SECOND FORM's CARD OF 'sewershedlaw53.AlarmsOrder'. -/
def alarmsOrderUptoCard : Claim7 := { stood := { row := alarmsOrderUptoRow, standIns := [], harness := (true, "2e0f6facbf2532d451680ac22ab0a3dcd3b31174f08d4a6a8bb576e9eb53945e"), looks := false }, kinds := [], alts := [], laidByText := true, laidKinds := [.data, .data, .data], laidTests := true, laidLooks := .later }
def AlarmsOrderUptoCardSaid : Prop := Claim7.holds Tryz.pinned (.plain (OpenSpec.upto alarmsOrderSpec)) alarmsOrderUptoCard
end Rows
end Go.Proofs.YtllkiadedaghoaaGreatDoor
