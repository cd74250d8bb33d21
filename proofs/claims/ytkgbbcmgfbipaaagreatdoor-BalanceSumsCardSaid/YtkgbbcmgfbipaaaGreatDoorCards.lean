/-
  DERIVED. GIVEN WITH THE SEED: THE CARDS: each row of YtkgbbcmgfbipaaaGreatDoorRows.lean that lists a variable, with what it lists TIED to the program's text (the seventh form; the later family's looks); each row that meets fmt, with fmt's text TOLD by the authors' own Lean function (tested against real Go, not proved from fmt's source: count such statements apart). THE CARD IS WHAT COUNTS. Prove the row's statement (the work); the ties are given (YtkgbbcmgfbipaaaGreatDoorTie.lean); close each card by the builder's one call (the guide's Derived/Test/ToyasCard.lean, 'card_holds'). Laid BY PROGRAM, IN A SANDBOX (cutbox-door.mjs). By AI agents, Wed Nov 11 2026. No macro, syntax, notation, axiom, sorry.
-/
import Derived.Test.YtkgbbcmgfbipaaaGreatDoorRows
import GoSem.ClaimSeven
namespace Go.Proofs.YtkgbbcmgfbipaaaGreatDoor
namespace Rows

/-- THE TIED CARD OF 'sewershedlaw36.BalanceSums'. -/
def balanceSumsCard : Claim7 := { stood := { row := balanceSumsRow, standIns := [], harness := (true, "597a07952fd9b9990f83034dafcb1439c4e7af5d51009b435ac8bf392b264f43"), looks := false }, kinds := [], alts := [], laidByText := true, laidKinds := [.data, .data, .data], laidTests := true, laidLooks := .later }
def BalanceSumsCardSaid : Prop := Claim7.holds Tryz.pinned (.plain (OpenSpec.ofChange balanceSumsSpec)) balanceSumsCard

/-- THE SECOND FORM's CARD OF 'sewershedlaw36.BalanceSums'. -/
def balanceSumsUptoCard : Claim7 := { stood := { row := balanceSumsUptoRow, standIns := [], harness := (true, "597a07952fd9b9990f83034dafcb1439c4e7af5d51009b435ac8bf392b264f43"), looks := false }, kinds := [], alts := [], laidByText := true, laidKinds := [.data, .data, .data], laidTests := true, laidLooks := .later }
def BalanceSumsUptoCardSaid : Prop := Claim7.holds Tryz.pinned (.plain (OpenSpec.upto balanceSumsSpec)) balanceSumsUptoCard
end Rows
end Go.Proofs.YtkgbbcmgfbipaaaGreatDoor
