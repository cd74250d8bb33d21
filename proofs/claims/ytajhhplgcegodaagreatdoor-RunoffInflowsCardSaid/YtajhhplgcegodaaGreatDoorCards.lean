/-
  DERIVED. GIVEN WITH THE SEED: THE CARDS: each row of YtajhhplgcegodaaGreatDoorRows.lean that lists a variable, with what it lists TIED to the program's text (the seventh form; the later family's looks); each row that meets fmt, with fmt's text TOLD by the authors' own Lean function (tested against real Go, not proved from fmt's source: count such statements apart). THE CARD IS WHAT COUNTS. Prove the row's statement (the work); the ties are given (YtajhhplgcegodaaGreatDoorTie.lean); close each card by the builder's one call (the guide's Derived/Test/ToyasCard.lean, 'card_holds'). Laid BY PROGRAM, IN A SANDBOX (cutbox-door.mjs). By AI agents, Wed Nov 11 2026. No macro, syntax, notation, axiom, sorry.
-/
import Derived.Test.YtajhhplgcegodaaGreatDoorRows
import GoSem.ClaimSeven
namespace Go.Proofs.YtajhhplgcegodaaGreatDoor
namespace Rows

/-- THE TIED CARD OF 'sewershedlaw22.ArealWeights'. -/
def arealWeightsCard : Claim7 := { stood := { row := arealWeightsRow, standIns := [], harness := (true, "f8aa6bddf042d6c0d905d5d330e109cf0cfdd5bfdf9d28a7a24707cdaaea3e0e"), looks := false }, kinds := [], alts := [], laidByText := true, laidKinds := [.data, .data, .data], laidTests := true, laidLooks := .later }
def ArealWeightsCardSaid : Prop := Claim7.holds Tryz.pinned (.plain (OpenSpec.ofChange arealWeightsSpec)) arealWeightsCard

/-- THE TIED CARD OF 'sewershedlaw22.ArealAdds'. -/
def arealAddsCard : Claim7 := { stood := { row := arealAddsRow, standIns := [], harness := (true, "f8aa6bddf042d6c0d905d5d330e109cf0cfdd5bfdf9d28a7a24707cdaaea3e0e"), looks := false }, kinds := [], alts := [], laidByText := true, laidKinds := [.data, .data, .data], laidTests := true, laidLooks := .later }
def ArealAddsCardSaid : Prop := Claim7.holds Tryz.pinned (.plain (OpenSpec.ofChange arealAddsSpec)) arealAddsCard

/-- THE TIED CARD OF 'sewershedlaw25.RunoffInflows'. -/
def runoffInflowsCard : Claim7 := { stood := { row := runoffInflowsRow, standIns := [], harness := (true, "f8aa6bddf042d6c0d905d5d330e109cf0cfdd5bfdf9d28a7a24707cdaaea3e0e"), looks := false }, kinds := [], alts := [], laidByText := true, laidKinds := [.data, .data, .data], laidTests := true, laidLooks := .later }
def RunoffInflowsCardSaid : Prop := Claim7.holds Tryz.pinned (.plain (OpenSpec.ofChange runoffInflowsSpec)) runoffInflowsCard

/-- THE SECOND FORM's CARD OF 'sewershedlaw22.ArealWeights'. -/
def arealWeightsUptoCard : Claim7 := { stood := { row := arealWeightsUptoRow, standIns := [], harness := (true, "f8aa6bddf042d6c0d905d5d330e109cf0cfdd5bfdf9d28a7a24707cdaaea3e0e"), looks := false }, kinds := [], alts := [], laidByText := true, laidKinds := [.data, .data, .data], laidTests := true, laidLooks := .later }
def ArealWeightsUptoCardSaid : Prop := Claim7.holds Tryz.pinned (.plain (OpenSpec.upto arealWeightsSpec)) arealWeightsUptoCard

/-- THE SECOND FORM's CARD OF 'sewershedlaw22.ArealAdds'. -/
def arealAddsUptoCard : Claim7 := { stood := { row := arealAddsUptoRow, standIns := [], harness := (true, "f8aa6bddf042d6c0d905d5d330e109cf0cfdd5bfdf9d28a7a24707cdaaea3e0e"), looks := false }, kinds := [], alts := [], laidByText := true, laidKinds := [.data, .data, .data], laidTests := true, laidLooks := .later }
def ArealAddsUptoCardSaid : Prop := Claim7.holds Tryz.pinned (.plain (OpenSpec.upto arealAddsSpec)) arealAddsUptoCard

/-- THE SECOND FORM's CARD OF 'sewershedlaw25.RunoffInflows'. -/
def runoffInflowsUptoCard : Claim7 := { stood := { row := runoffInflowsUptoRow, standIns := [], harness := (true, "f8aa6bddf042d6c0d905d5d330e109cf0cfdd5bfdf9d28a7a24707cdaaea3e0e"), looks := false }, kinds := [], alts := [], laidByText := true, laidKinds := [.data, .data, .data], laidTests := true, laidLooks := .later }
def RunoffInflowsUptoCardSaid : Prop := Claim7.holds Tryz.pinned (.plain (OpenSpec.upto runoffInflowsSpec)) runoffInflowsUptoCard
end Rows
end Go.Proofs.YtajhhplgcegodaaGreatDoor
