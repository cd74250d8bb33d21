/-
  DERIVED. GIVEN WITH THE SEED: THE CARDS: each row of YtlcbjkkcfenlmaaDoorRows.lean that lists a variable, with what it lists TIED to the program's text (the seventh form; the later family's looks); each row that meets fmt, with fmt's text TOLD by the authors' own Lean function (tested against real Go, not proved from fmt's source: count such statements apart). THE CARD IS WHAT COUNTS. Prove the row's statement (the work); the ties are given (YtlcbjkkcfenlmaaDoorTie.lean); close each card by the builder's one call (the guide's Derived/Test/ToyasCard.lean, 'card_holds'). Laid BY PROGRAM, IN A SANDBOX (cutbox-door.mjs). By AI agents, Wed Nov 11 2026. No macro, syntax, notation, axiom, sorry.
-/
import Derived.Test.YtlcbjkkcfenlmaaDoorRows
import GoSem.ClaimSeven
namespace Go.Proofs.YtlcbjkkcfenlmaaDoor
namespace Rows

/-- THE TIED CARD OF 'sewershedlaw05.ClockSteps'. -/
def clockStepsCard : Claim7 := { stood := { row := clockStepsRow, standIns := [], harness := (true, "ff5df877b3f7b6c739debdbaf017a278e376804e4572fa43e74e6dad8296ae41"), looks := false }, kinds := [], alts := [], laidByText := true, laidKinds := [.data, .data, .data], laidTests := true, laidLooks := .later }
def ClockStepsCardSaid : Prop := Claim7.holds Tryd.pinned (.plain (OpenSpec.ofChange clockStepsSpec)) clockStepsCard

/-- THE TIED CARD OF 'sewershedlaw05.ClockWhole'. -/
def clockWholeCard : Claim7 := { stood := { row := clockWholeRow, standIns := [], harness := (true, "ff5df877b3f7b6c739debdbaf017a278e376804e4572fa43e74e6dad8296ae41"), looks := false }, kinds := [], alts := [], laidByText := true, laidKinds := [.data, .data, .data], laidTests := true, laidLooks := .later }
def ClockWholeCardSaid : Prop := Claim7.holds Tryd.pinned (.plain (OpenSpec.ofChange clockWholeSpec)) clockWholeCard

/-- THE TIED CARD OF 'sewershedlaw05.ClockApart'. -/
def clockApartCard : Claim7 := { stood := { row := clockApartRow, standIns := [], harness := (true, "ff5df877b3f7b6c739debdbaf017a278e376804e4572fa43e74e6dad8296ae41"), looks := false }, kinds := [], alts := [], laidByText := true, laidKinds := [.data, .data, .data], laidTests := true, laidLooks := .later }
def ClockApartCardSaid : Prop := Claim7.holds Tryd.pinned (.plain (OpenSpec.ofChange clockApartSpec)) clockApartCard

/-- THE TIED CARD OF 'sewershedlaw05.ClockDates'. -/
def clockDatesCard : Claim7 := { stood := { row := clockDatesRow, standIns := [], harness := (true, "ff5df877b3f7b6c739debdbaf017a278e376804e4572fa43e74e6dad8296ae41"), looks := false }, kinds := [], alts := [], laidByText := true, laidKinds := [.data, .data, .data], laidTests := true, laidLooks := .later }
def ClockDatesCardSaid : Prop := Claim7.holds Tryd.pinned (.plain (OpenSpec.ofChange clockDatesSpec)) clockDatesCard

/-- THE TIED CARD OF 'sewershedlaw05.ClockNext'. -/
def clockNextCard : Claim7 := { stood := { row := clockNextRow, standIns := [], harness := (true, "ff5df877b3f7b6c739debdbaf017a278e376804e4572fa43e74e6dad8296ae41"), looks := false }, kinds := [], alts := [], laidByText := true, laidKinds := [.data, .data, .data], laidTests := true, laidLooks := .later }
def ClockNextCardSaid : Prop := Claim7.holds Tryd.pinned (.plain (OpenSpec.ofChange clockNextSpec)) clockNextCard

/-- THE TIED CARD OF 'sewershedlaw05.ClockInstants'. -/
def clockInstantsCard : Claim7 := { stood := { row := clockInstantsRow, standIns := [], harness := (true, "ff5df877b3f7b6c739debdbaf017a278e376804e4572fa43e74e6dad8296ae41"), looks := false }, kinds := [], alts := [], laidByText := true, laidKinds := [.data, .data, .data], laidTests := true, laidLooks := .later }
def ClockInstantsCardSaid : Prop := Claim7.holds Tryd.pinned (.plain (OpenSpec.ofChange clockInstantsSpec)) clockInstantsCard

/-- THE TIED CARD OF 'sewershedlaw05.ClockTexts'. -/
def clockTextsCard : Claim7 := { stood := { row := clockTextsRow, standIns := [], harness := (true, "ff5df877b3f7b6c739debdbaf017a278e376804e4572fa43e74e6dad8296ae41"), looks := false }, kinds := [], alts := [], laidByText := true, laidKinds := [.data, .data, .data], laidTests := true, laidLooks := .later }
def ClockTextsCardSaid : Prop := Claim7.holds Tryd.pinned (.plain (OpenSpec.ofChange clockTextsSpec)) clockTextsCard

/-- THE TIED CARD OF 'sewershedlaw05.ClockBack'. -/
def clockBackCard : Claim7 := { stood := { row := clockBackRow, standIns := [], harness := (true, "ff5df877b3f7b6c739debdbaf017a278e376804e4572fa43e74e6dad8296ae41"), looks := false }, kinds := [], alts := [], laidByText := true, laidKinds := [.data, .data, .data], laidTests := true, laidLooks := .later }
def ClockBackCardSaid : Prop := Claim7.holds Tryd.pinned (.plain (OpenSpec.ofChange clockBackSpec)) clockBackCard

/-- THE SECOND FORM's CARD OF 'sewershedlaw05.ClockSteps'. -/
def clockStepsUptoCard : Claim7 := { stood := { row := clockStepsUptoRow, standIns := [], harness := (true, "ff5df877b3f7b6c739debdbaf017a278e376804e4572fa43e74e6dad8296ae41"), looks := false }, kinds := [], alts := [], laidByText := true, laidKinds := [.data, .data, .data], laidTests := true, laidLooks := .later }
def ClockStepsUptoCardSaid : Prop := Claim7.holds Tryd.pinned (.plain (OpenSpec.upto clockStepsSpec)) clockStepsUptoCard

/-- THE SECOND FORM's CARD OF 'sewershedlaw05.ClockWhole'. -/
def clockWholeUptoCard : Claim7 := { stood := { row := clockWholeUptoRow, standIns := [], harness := (true, "ff5df877b3f7b6c739debdbaf017a278e376804e4572fa43e74e6dad8296ae41"), looks := false }, kinds := [], alts := [], laidByText := true, laidKinds := [.data, .data, .data], laidTests := true, laidLooks := .later }
def ClockWholeUptoCardSaid : Prop := Claim7.holds Tryd.pinned (.plain (OpenSpec.upto clockWholeSpec)) clockWholeUptoCard

/-- THE SECOND FORM's CARD OF 'sewershedlaw05.ClockApart'. -/
def clockApartUptoCard : Claim7 := { stood := { row := clockApartUptoRow, standIns := [], harness := (true, "ff5df877b3f7b6c739debdbaf017a278e376804e4572fa43e74e6dad8296ae41"), looks := false }, kinds := [], alts := [], laidByText := true, laidKinds := [.data, .data, .data], laidTests := true, laidLooks := .later }
def ClockApartUptoCardSaid : Prop := Claim7.holds Tryd.pinned (.plain (OpenSpec.upto clockApartSpec)) clockApartUptoCard

/-- THE SECOND FORM's CARD OF 'sewershedlaw05.ClockDates'. -/
def clockDatesUptoCard : Claim7 := { stood := { row := clockDatesUptoRow, standIns := [], harness := (true, "ff5df877b3f7b6c739debdbaf017a278e376804e4572fa43e74e6dad8296ae41"), looks := false }, kinds := [], alts := [], laidByText := true, laidKinds := [.data, .data, .data], laidTests := true, laidLooks := .later }
def ClockDatesUptoCardSaid : Prop := Claim7.holds Tryd.pinned (.plain (OpenSpec.upto clockDatesSpec)) clockDatesUptoCard

/-- THE SECOND FORM's CARD OF 'sewershedlaw05.ClockNext'. -/
def clockNextUptoCard : Claim7 := { stood := { row := clockNextUptoRow, standIns := [], harness := (true, "ff5df877b3f7b6c739debdbaf017a278e376804e4572fa43e74e6dad8296ae41"), looks := false }, kinds := [], alts := [], laidByText := true, laidKinds := [.data, .data, .data], laidTests := true, laidLooks := .later }
def ClockNextUptoCardSaid : Prop := Claim7.holds Tryd.pinned (.plain (OpenSpec.upto clockNextSpec)) clockNextUptoCard

/-- THE SECOND FORM's CARD OF 'sewershedlaw05.ClockInstants'. -/
def clockInstantsUptoCard : Claim7 := { stood := { row := clockInstantsUptoRow, standIns := [], harness := (true, "ff5df877b3f7b6c739debdbaf017a278e376804e4572fa43e74e6dad8296ae41"), looks := false }, kinds := [], alts := [], laidByText := true, laidKinds := [.data, .data, .data], laidTests := true, laidLooks := .later }
def ClockInstantsUptoCardSaid : Prop := Claim7.holds Tryd.pinned (.plain (OpenSpec.upto clockInstantsSpec)) clockInstantsUptoCard

/-- THE SECOND FORM's CARD OF 'sewershedlaw05.ClockTexts'. -/
def clockTextsUptoCard : Claim7 := { stood := { row := clockTextsUptoRow, standIns := [], harness := (true, "ff5df877b3f7b6c739debdbaf017a278e376804e4572fa43e74e6dad8296ae41"), looks := false }, kinds := [], alts := [], laidByText := true, laidKinds := [.data, .data, .data], laidTests := true, laidLooks := .later }
def ClockTextsUptoCardSaid : Prop := Claim7.holds Tryd.pinned (.plain (OpenSpec.upto clockTextsSpec)) clockTextsUptoCard

/-- THE SECOND FORM's CARD OF 'sewershedlaw05.ClockBack'. -/
def clockBackUptoCard : Claim7 := { stood := { row := clockBackUptoRow, standIns := [], harness := (true, "ff5df877b3f7b6c739debdbaf017a278e376804e4572fa43e74e6dad8296ae41"), looks := false }, kinds := [], alts := [], laidByText := true, laidKinds := [.data, .data, .data], laidTests := true, laidLooks := .later }
def ClockBackUptoCardSaid : Prop := Claim7.holds Tryd.pinned (.plain (OpenSpec.upto clockBackSpec)) clockBackUptoCard
end Rows
end Go.Proofs.YtlcbjkkcfenlmaaDoor
