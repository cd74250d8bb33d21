/-
  No cell of these rows narrows 'for every input' (looked for: loops, veiled, ifaces, maps, wideKeys, modest, calm, conditions, laid).
  DERIVED. THE GIVEN ROWS OF THIS SEAT. 5 by the template 'for every input the law returns true; each argument reads behind the call as it read before'; 0 by the template 'total and deterministic' (their statements: YtnfjebfmfjpepaaTotals.lean).
  GIVEN WITH THE SEED: the statements are not yours to turn. If you find one false, say at which input.
  Laid BY PROGRAM, IN A SANDBOX (cutbox-rows.mjs): the forced cells as the released guide's own fill.sh prints them over the translation 15ccd5b6a408cf08… (all of the seat's roots in one cut). By AI agents, Wed Nov 11 2026. No macro, syntax, notation, axiom, sorry.
-/
import Derived.Test.YtnfjebfmfjpepaaChecked
import GoSem.Claim
import GoSem.ClaimJoined
import GoSem.ClaimMapViews
import Derived.JoinedTies
import Derived.KernelRfl
namespace Go.Proofs.Ytnfjebfmfjpepaa
/- THE CELL 'sum', in the pinned program and in every row, IS THE sha256 OF THE DUMP (.gsa) THAT YtnfjebfmfjpepaaProg.lean LOADS. Nothing in Lean hashes anything: it is a label: what it is worth is what the hold of that sum in a sandbox is worth. -/
noncomputable def Try.pinned : Pinned := { name := "ytnfjebfmfjpepaa", sum := "15ccd5b6a408cf082dbe8501084e1a9e5211823c3d4a617f10e602accaaffdc6", checked := Try.checked }
namespace Rows
def none {H : Type} : Left H := { results := [], args := [] }

/-- 'sewershedlaw22.ArealNearest': WHATEVER THE INPUT: true; the input reads as it did. -/
def arealNearestSpec : ChangeSpec := { name := "arealNearest", fn := fun _ => fun
  | [d1, d2] => { results := [.lit (.bool true)], args := [d1, d2] }
  | _ => none }
def arealNearestRow : OpenClaim := { program := "ytnfjebfmfjpepaa", sum := "15ccd5b6a408cf082dbe8501084e1a9e5211823c3d4a617f10e602accaaffdc6", func := "sewershed/sewershedlaw22.ArealNearest", spec := "arealNearest", inPlace := ["math/bits.Sub64", "math/bits.Add64"], unfollowed := true, recurses := true, named := ["math/bits.divideError", "math/bits.overflowError"], apart := false }
def ArealNearestSaid : Prop := arealNearestRow.holds Try.pinned (OpenSpec.ofChange arealNearestSpec)

/-- ITS FALSE NEIGHBOUR: 'it returns false'. Refute it at one input. -/
def arealNearestWrong : ChangeSpec := { name := "arealNearest", fn := fun _ => fun
  | [d1, d2] => { results := [.lit (.bool false)], args := [d1, d2] }
  | _ => none }
def ArealNearestWrongFalsely : Prop := arealNearestRow.holds Try.pinned (OpenSpec.ofChange arealNearestWrong)

/-- 'sewershedlaw22.ArealReduces': WHATEVER THE INPUT: true; the input reads as it did. -/
def arealReducesSpec : ChangeSpec := { name := "arealReduces", fn := fun _ => fun
  | [d1, d2, d3] => { results := [.lit (.bool true)], args := [d1, d2, d3] }
  | _ => none }
def arealReducesRow : OpenClaim := { program := "ytnfjebfmfjpepaa", sum := "15ccd5b6a408cf082dbe8501084e1a9e5211823c3d4a617f10e602accaaffdc6", func := "sewershed/sewershedlaw22.ArealReduces", spec := "arealReduces", inPlace := ["math/bits.Sub64", "math/bits.Add64"], unfollowed := true, recurses := true, named := ["math/bits.divideError", "math/bits.overflowError"], apart := false }
def ArealReducesSaid : Prop := arealReducesRow.holds Try.pinned (OpenSpec.ofChange arealReducesSpec)

/-- ITS FALSE NEIGHBOUR: 'it returns false'. Refute it at one input. -/
def arealReducesWrong : ChangeSpec := { name := "arealReduces", fn := fun _ => fun
  | [d1, d2, d3] => { results := [.lit (.bool false)], args := [d1, d2, d3] }
  | _ => none }
def ArealReducesWrongFalsely : Prop := arealReducesRow.holds Try.pinned (OpenSpec.ofChange arealReducesWrong)

/-- 'sewershedlaw22.ArealMeans': WHATEVER THE INPUT: true; the input reads as it did. -/
def arealMeansSpec : ChangeSpec := { name := "arealMeans", fn := fun _ => fun
  | [d1, d2] => { results := [.lit (.bool true)], args := [d1, d2] }
  | _ => none }
def arealMeansRow : OpenClaim := { program := "ytnfjebfmfjpepaa", sum := "15ccd5b6a408cf082dbe8501084e1a9e5211823c3d4a617f10e602accaaffdc6", func := "sewershed/sewershedlaw22.ArealMeans", spec := "arealMeans", inPlace := ["math/bits.Sub64", "math/bits.Add64"], unfollowed := true, recurses := true, named := ["math/bits.divideError", "math/bits.overflowError"], apart := false }
def ArealMeansSaid : Prop := arealMeansRow.holds Try.pinned (OpenSpec.ofChange arealMeansSpec)

/-- ITS FALSE NEIGHBOUR: 'it returns false'. Refute it at one input. -/
def arealMeansWrong : ChangeSpec := { name := "arealMeans", fn := fun _ => fun
  | [d1, d2] => { results := [.lit (.bool false)], args := [d1, d2] }
  | _ => none }
def ArealMeansWrongFalsely : Prop := arealMeansRow.holds Try.pinned (OpenSpec.ofChange arealMeansWrong)

/-- 'sewershedlaw22.ArealBetween': WHATEVER THE INPUT: true; the input reads as it did. -/
def arealBetweenSpec : ChangeSpec := { name := "arealBetween", fn := fun _ => fun
  | [d1, d2, d3, d4] => { results := [.lit (.bool true)], args := [d1, d2, d3, d4] }
  | _ => none }
def arealBetweenRow : OpenClaim := { program := "ytnfjebfmfjpepaa", sum := "15ccd5b6a408cf082dbe8501084e1a9e5211823c3d4a617f10e602accaaffdc6", func := "sewershed/sewershedlaw22.ArealBetween", spec := "arealBetween", inPlace := ["math/bits.Sub64", "math/bits.Add64"], unfollowed := true, recurses := true, named := ["math/bits.divideError", "math/bits.overflowError"], apart := false }
def ArealBetweenSaid : Prop := arealBetweenRow.holds Try.pinned (OpenSpec.ofChange arealBetweenSpec)

/-- ITS FALSE NEIGHBOUR: 'it returns false'. Refute it at one input. -/
def arealBetweenWrong : ChangeSpec := { name := "arealBetween", fn := fun _ => fun
  | [d1, d2, d3, d4] => { results := [.lit (.bool false)], args := [d1, d2, d3, d4] }
  | _ => none }
def ArealBetweenWrongFalsely : Prop := arealBetweenRow.holds Try.pinned (OpenSpec.ofChange arealBetweenWrong)

/-- 'sewershedlaw22.ArealNone': WHATEVER THE INPUT: true; the input reads as it did. -/
def arealNoneSpec : ChangeSpec := { name := "arealNone", fn := fun _ => fun
  | [d1, d2, d3] => { results := [.lit (.bool true)], args := [d1, d2, d3] }
  | _ => none }
def arealNoneRow : OpenClaim := { program := "ytnfjebfmfjpepaa", sum := "15ccd5b6a408cf082dbe8501084e1a9e5211823c3d4a617f10e602accaaffdc6", func := "sewershed/sewershedlaw22.ArealNone", spec := "arealNone", inPlace := ["math/bits.Sub64", "math/bits.Add64"], unfollowed := true, recurses := true, named := ["math/bits.divideError", "math/bits.overflowError"], apart := false }
def ArealNoneSaid : Prop := arealNoneRow.holds Try.pinned (OpenSpec.ofChange arealNoneSpec)

/-- ITS FALSE NEIGHBOUR: 'it returns false'. Refute it at one input. -/
def arealNoneWrong : ChangeSpec := { name := "arealNone", fn := fun _ => fun
  | [d1, d2, d3] => { results := [.lit (.bool false)], args := [d1, d2, d3] }
  | _ => none }
def ArealNoneWrongFalsely : Prop := arealNoneRow.holds Try.pinned (OpenSpec.ofChange arealNoneWrong)

/- THE SECOND FORM. 'bulk': how many values and letters a reading holds, each counted each time it is reached (what is shared counts as often as it is met; a slice's spare places count too). A statement '..UptoSaid' is the law's where the arguments, and the package variables that the reading takes, are together of bulk at most 1048576: NARROWER than '..Said'. Prove '..Said' where nothing that the law and all that it calls make is longer than what came in: it says more and counts as full. Else prove '..UptoSaid'. A law counts once. -/
mutual
def uptoBulk {H : Type} : DataW H → Nat
  | .lit (.string bytes) => bytes.length + 1
  | .lit _ => 1
  | .nil => 1
  | .ptr d => uptoBulk d + 1
  | .slice elems spare => uptoBulkAll elems + uptoBulkAll spare + 1
  | .agg parts => uptoBulkAll parts + 1
  | .iface _ d => uptoBulk d + 1
  | .map entries => uptoBulkEntries entries + 1
  | .held _ => 1
def uptoBulkAll {H : Type} : List (DataW H) → Nat
  | [] => 0
  | d :: r => uptoBulk d + uptoBulkAll r
def uptoBulkEntries {H : Type} : List (Lit × DataW H) → Nat
  | [] => 0
  | x :: r => uptoBulkEntry x + uptoBulkEntries r
def uptoBulkEntry {H : Type} : Lit × DataW H → Nat
  | (.string bytes, d) => bytes.length + uptoBulk d + 1
  | (_, d) => uptoBulk d + 1
 end
def uptoSmall : (H : Type) → List (DataW H) → Bool := fun _ ds => decide (uptoBulkAll ds ≤ 1048576)
def OpenSpec.upto (s : _root_.Go.ChangeSpec) : _root_.Go.OpenSpec := { _root_.Go.OpenSpec.ofChange s with cond := some uptoSmall }

/-- 'sewershedlaw22.ArealNearest', WHERE WHAT IT READS IS OF BULK AT MOST 1048576: true; the input reads as it did. -/
def arealNearestUptoRow : OpenClaim := { program := "ytnfjebfmfjpepaa", sum := "15ccd5b6a408cf082dbe8501084e1a9e5211823c3d4a617f10e602accaaffdc6", func := "sewershed/sewershedlaw22.ArealNearest", spec := "arealNearest", inPlace := ["math/bits.Sub64", "math/bits.Add64"], unfollowed := true, recurses := true, named := ["math/bits.divideError", "math/bits.overflowError"], apart := false, narrowed := true }
def ArealNearestUptoSaid : Prop := arealNearestUptoRow.holds Try.pinned (OpenSpec.upto arealNearestSpec)

/-- 'sewershedlaw22.ArealReduces', WHERE WHAT IT READS IS OF BULK AT MOST 1048576: true; the input reads as it did. -/
def arealReducesUptoRow : OpenClaim := { program := "ytnfjebfmfjpepaa", sum := "15ccd5b6a408cf082dbe8501084e1a9e5211823c3d4a617f10e602accaaffdc6", func := "sewershed/sewershedlaw22.ArealReduces", spec := "arealReduces", inPlace := ["math/bits.Sub64", "math/bits.Add64"], unfollowed := true, recurses := true, named := ["math/bits.divideError", "math/bits.overflowError"], apart := false, narrowed := true }
def ArealReducesUptoSaid : Prop := arealReducesUptoRow.holds Try.pinned (OpenSpec.upto arealReducesSpec)

/-- 'sewershedlaw22.ArealMeans', WHERE WHAT IT READS IS OF BULK AT MOST 1048576: true; the input reads as it did. -/
def arealMeansUptoRow : OpenClaim := { program := "ytnfjebfmfjpepaa", sum := "15ccd5b6a408cf082dbe8501084e1a9e5211823c3d4a617f10e602accaaffdc6", func := "sewershed/sewershedlaw22.ArealMeans", spec := "arealMeans", inPlace := ["math/bits.Sub64", "math/bits.Add64"], unfollowed := true, recurses := true, named := ["math/bits.divideError", "math/bits.overflowError"], apart := false, narrowed := true }
def ArealMeansUptoSaid : Prop := arealMeansUptoRow.holds Try.pinned (OpenSpec.upto arealMeansSpec)

/-- 'sewershedlaw22.ArealBetween', WHERE WHAT IT READS IS OF BULK AT MOST 1048576: true; the input reads as it did. -/
def arealBetweenUptoRow : OpenClaim := { program := "ytnfjebfmfjpepaa", sum := "15ccd5b6a408cf082dbe8501084e1a9e5211823c3d4a617f10e602accaaffdc6", func := "sewershed/sewershedlaw22.ArealBetween", spec := "arealBetween", inPlace := ["math/bits.Sub64", "math/bits.Add64"], unfollowed := true, recurses := true, named := ["math/bits.divideError", "math/bits.overflowError"], apart := false, narrowed := true }
def ArealBetweenUptoSaid : Prop := arealBetweenUptoRow.holds Try.pinned (OpenSpec.upto arealBetweenSpec)

/-- 'sewershedlaw22.ArealNone', WHERE WHAT IT READS IS OF BULK AT MOST 1048576: true; the input reads as it did. -/
def arealNoneUptoRow : OpenClaim := { program := "ytnfjebfmfjpepaa", sum := "15ccd5b6a408cf082dbe8501084e1a9e5211823c3d4a617f10e602accaaffdc6", func := "sewershed/sewershedlaw22.ArealNone", spec := "arealNone", inPlace := ["math/bits.Sub64", "math/bits.Add64"], unfollowed := true, recurses := true, named := ["math/bits.divideError", "math/bits.overflowError"], apart := false, narrowed := true }
def ArealNoneUptoSaid : Prop := arealNoneUptoRow.holds Try.pinned (OpenSpec.upto arealNoneSpec)

end Rows
end Go.Proofs.Ytnfjebfmfjpepaa
