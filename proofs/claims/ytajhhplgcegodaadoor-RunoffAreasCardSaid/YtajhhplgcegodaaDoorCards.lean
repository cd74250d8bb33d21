/-
  DERIVED. GIVEN WITH THE SEED: THE CARDS: each row of YtajhhplgcegodaaDoorRows.lean that lists a variable, with what it lists TIED to the program's text (the seventh form; the later family's looks); each row that meets fmt, with fmt's text TOLD by the authors' own Lean function (tested against real Go, not proved from fmt's source: count such statements apart). THE CARD IS WHAT COUNTS. Prove the row's statement (the work); the ties are given (YtajhhplgcegodaaDoorTie.lean); close each card by the builder's one call (the guide's Derived/Test/ToyasCard.lean, 'card_holds'). Laid BY PROGRAM, IN A SANDBOX (cutbox-door.mjs). By AI agents, Wed Nov 11 2026. No macro, syntax, notation, axiom, sorry.
-/
import Derived.Test.YtajhhplgcegodaaDoorRows
import GoSem.ClaimSeven
namespace Go.Proofs.YtajhhplgcegodaaDoor
namespace Rows

/-- THE TIED CARD OF 'sewershedlaw09.MeshChecks'. -/
def meshChecksCard : Claim7 := { stood := { row := meshChecksRow, standIns := [], harness := (true, "a5052addfc1ff235f04f7c4bc84b64b188f5c7afe41530ac50c4f853b3183a97"), looks := false }, kinds := [], alts := [], laidByText := true, laidKinds := [.data, .data, .data], laidTests := true, laidLooks := .later }
def MeshChecksCardSaid : Prop := Claim7.holds Tryd.pinned (.plain (OpenSpec.ofChange meshChecksSpec)) meshChecksCard

/-- THE TIED CARD OF 'sewershedlaw09.MeshMutual'. -/
def meshMutualCard : Claim7 := { stood := { row := meshMutualRow, standIns := [], harness := (true, "a5052addfc1ff235f04f7c4bc84b64b188f5c7afe41530ac50c4f853b3183a97"), looks := false }, kinds := [], alts := [], laidByText := true, laidKinds := [.data, .data, .data], laidTests := true, laidLooks := .later }
def MeshMutualCardSaid : Prop := Claim7.holds Tryd.pinned (.plain (OpenSpec.ofChange meshMutualSpec)) meshMutualCard

/-- THE TIED CARD OF 'sewershedlaw09.MeshSides'. -/
def meshSidesCard : Claim7 := { stood := { row := meshSidesRow, standIns := [], harness := (true, "a5052addfc1ff235f04f7c4bc84b64b188f5c7afe41530ac50c4f853b3183a97"), looks := false }, kinds := [], alts := [], laidByText := true, laidKinds := [.data, .data, .data], laidTests := true, laidLooks := .later }
def MeshSidesCardSaid : Prop := Claim7.holds Tryd.pinned (.plain (OpenSpec.ofChange meshSidesSpec)) meshSidesCard

/-- THE TIED CARD OF 'sewershedlaw09.MeshOrder'. -/
def meshOrderCard : Claim7 := { stood := { row := meshOrderRow, standIns := [], harness := (true, "a5052addfc1ff235f04f7c4bc84b64b188f5c7afe41530ac50c4f853b3183a97"), looks := false }, kinds := [], alts := [], laidByText := true, laidKinds := [.data, .data, .data], laidTests := true, laidLooks := .later }
def MeshOrderCardSaid : Prop := Claim7.holds Tryd.pinned (.plain (OpenSpec.ofChange meshOrderSpec)) meshOrderCard

/-- THE TIED CARD OF 'sewershedlaw09.MeshSizes'. -/
def meshSizesCard : Claim7 := { stood := { row := meshSizesRow, standIns := [], harness := (true, "a5052addfc1ff235f04f7c4bc84b64b188f5c7afe41530ac50c4f853b3183a97"), looks := false }, kinds := [], alts := [], laidByText := true, laidKinds := [.data, .data, .data], laidTests := true, laidLooks := .later }
def MeshSizesCardSaid : Prop := Claim7.holds Tryd.pinned (.plain (OpenSpec.ofChange meshSizesSpec)) meshSizesCard

/-- THE TIED CARD OF 'sewershedlaw09.MeshArea'. -/
def meshAreaCard : Claim7 := { stood := { row := meshAreaRow, standIns := [], harness := (true, "a5052addfc1ff235f04f7c4bc84b64b188f5c7afe41530ac50c4f853b3183a97"), looks := false }, kinds := [], alts := [], laidByText := true, laidKinds := [.data, .data, .data], laidTests := true, laidLooks := .later }
def MeshAreaCardSaid : Prop := Claim7.holds Tryd.pinned (.plain (OpenSpec.ofChange meshAreaSpec)) meshAreaCard

/-- THE TIED CARD OF 'sewershedlaw25.RunoffAreas'. -/
def runoffAreasCard : Claim7 := { stood := { row := runoffAreasRow, standIns := [], harness := (true, "a5052addfc1ff235f04f7c4bc84b64b188f5c7afe41530ac50c4f853b3183a97"), looks := false }, kinds := [], alts := [], laidByText := true, laidKinds := [.data, .data, .data], laidTests := true, laidLooks := .later }
def RunoffAreasCardSaid : Prop := Claim7.holds Tryd.pinned (.plain (OpenSpec.ofChange runoffAreasSpec)) runoffAreasCard

/-- THE SECOND FORM's CARD OF 'sewershedlaw09.MeshChecks'. -/
def meshChecksUptoCard : Claim7 := { stood := { row := meshChecksUptoRow, standIns := [], harness := (true, "a5052addfc1ff235f04f7c4bc84b64b188f5c7afe41530ac50c4f853b3183a97"), looks := false }, kinds := [], alts := [], laidByText := true, laidKinds := [.data, .data, .data], laidTests := true, laidLooks := .later }
def MeshChecksUptoCardSaid : Prop := Claim7.holds Tryd.pinned (.plain (OpenSpec.upto meshChecksSpec)) meshChecksUptoCard

/-- THE SECOND FORM's CARD OF 'sewershedlaw09.MeshMutual'. -/
def meshMutualUptoCard : Claim7 := { stood := { row := meshMutualUptoRow, standIns := [], harness := (true, "a5052addfc1ff235f04f7c4bc84b64b188f5c7afe41530ac50c4f853b3183a97"), looks := false }, kinds := [], alts := [], laidByText := true, laidKinds := [.data, .data, .data], laidTests := true, laidLooks := .later }
def MeshMutualUptoCardSaid : Prop := Claim7.holds Tryd.pinned (.plain (OpenSpec.upto meshMutualSpec)) meshMutualUptoCard

/-- THE SECOND FORM's CARD OF 'sewershedlaw09.MeshSides'. -/
def meshSidesUptoCard : Claim7 := { stood := { row := meshSidesUptoRow, standIns := [], harness := (true, "a5052addfc1ff235f04f7c4bc84b64b188f5c7afe41530ac50c4f853b3183a97"), looks := false }, kinds := [], alts := [], laidByText := true, laidKinds := [.data, .data, .data], laidTests := true, laidLooks := .later }
def MeshSidesUptoCardSaid : Prop := Claim7.holds Tryd.pinned (.plain (OpenSpec.upto meshSidesSpec)) meshSidesUptoCard

/-- THE SECOND FORM's CARD OF 'sewershedlaw09.MeshOrder'. -/
def meshOrderUptoCard : Claim7 := { stood := { row := meshOrderUptoRow, standIns := [], harness := (true, "a5052addfc1ff235f04f7c4bc84b64b188f5c7afe41530ac50c4f853b3183a97"), looks := false }, kinds := [], alts := [], laidByText := true, laidKinds := [.data, .data, .data], laidTests := true, laidLooks := .later }
def MeshOrderUptoCardSaid : Prop := Claim7.holds Tryd.pinned (.plain (OpenSpec.upto meshOrderSpec)) meshOrderUptoCard

/-- THE SECOND FORM's CARD OF 'sewershedlaw09.MeshSizes'. -/
def meshSizesUptoCard : Claim7 := { stood := { row := meshSizesUptoRow, standIns := [], harness := (true, "a5052addfc1ff235f04f7c4bc84b64b188f5c7afe41530ac50c4f853b3183a97"), looks := false }, kinds := [], alts := [], laidByText := true, laidKinds := [.data, .data, .data], laidTests := true, laidLooks := .later }
def MeshSizesUptoCardSaid : Prop := Claim7.holds Tryd.pinned (.plain (OpenSpec.upto meshSizesSpec)) meshSizesUptoCard

/-- THE SECOND FORM's CARD OF 'sewershedlaw09.MeshArea'. -/
def meshAreaUptoCard : Claim7 := { stood := { row := meshAreaUptoRow, standIns := [], harness := (true, "a5052addfc1ff235f04f7c4bc84b64b188f5c7afe41530ac50c4f853b3183a97"), looks := false }, kinds := [], alts := [], laidByText := true, laidKinds := [.data, .data, .data], laidTests := true, laidLooks := .later }
def MeshAreaUptoCardSaid : Prop := Claim7.holds Tryd.pinned (.plain (OpenSpec.upto meshAreaSpec)) meshAreaUptoCard

/-- THE SECOND FORM's CARD OF 'sewershedlaw25.RunoffAreas'. -/
def runoffAreasUptoCard : Claim7 := { stood := { row := runoffAreasUptoRow, standIns := [], harness := (true, "a5052addfc1ff235f04f7c4bc84b64b188f5c7afe41530ac50c4f853b3183a97"), looks := false }, kinds := [], alts := [], laidByText := true, laidKinds := [.data, .data, .data], laidTests := true, laidLooks := .later }
def RunoffAreasUptoCardSaid : Prop := Claim7.holds Tryd.pinned (.plain (OpenSpec.upto runoffAreasSpec)) runoffAreasUptoCard
end Rows
end Go.Proofs.YtajhhplgcegodaaDoor
