/-
  No cell of these rows narrows 'for every input' (looked for: loops, veiled, ifaces, maps, wideKeys, modest, calm, conditions, laid).
  DERIVED. THE GIVEN ROWS OF THIS SEAT. 7 by the template 'for every input the law returns true; each argument reads behind the call as it read before'; 0 by the template 'total and deterministic' (their statements: YtjighhphadfoiaaTotals.lean).
  GIVEN WITH THE SEED: the statements are not yours to turn. If you find one false, say at which input.
  Laid BY PROGRAM, IN A SANDBOX (cutbox-rows.mjs): the forced cells as the released guide's own fill.sh prints them over the translation d9a7a770283d8863… (all of the seat's roots in one cut). By AI agents, Wed Nov 11 2026. No macro, syntax, notation, axiom, sorry.
-/
import Derived.Test.YtjighhphadfoiaaChecked
import GoSem.Claim
import GoSem.ClaimJoined
import GoSem.ClaimMapViews
import Derived.JoinedTies
import Derived.KernelRfl
namespace Go.Proofs.Ytjighhphadfoiaa
/- THE CELL 'sum', in the pinned program and in every row, IS THE sha256 OF THE DUMP (.gsa) THAT YtjighhphadfoiaaProg.lean LOADS. Nothing in Lean hashes anything: it is a label: what it is worth is what the hold of that sum in a sandbox is worth. -/
noncomputable def Try.pinned : Pinned := { name := "ytjighhphadfoiaa", sum := "d9a7a770283d8863dfa3992a67155b5da1e568df82526193afeb0fe2c15c2402", checked := Try.checked }
namespace Rows
def none {H : Type} : Left H := { results := [], args := [] }

/-- 'sewershedlaw25.RunoffMore': WHATEVER THE INPUT: true; the input reads as it did. -/
def runoffMoreSpec : ChangeSpec := { name := "runoffMore", fn := fun _ => fun
  | [d1, d2, d3, d4, d5] => { results := [.lit (.bool true)], args := [d1, d2, d3, d4, d5] }
  | _ => none }
def runoffMoreRow : OpenClaim := { program := "ytjighhphadfoiaa", sum := "d9a7a770283d8863dfa3992a67155b5da1e568df82526193afeb0fe2c15c2402", func := "sewershed/sewershedlaw25.RunoffMore", spec := "runoffMore", unfollowed := true, recurses := true, named := ["math/bits.divideError", "math/bits.overflowError"], apart := false }
def RunoffMoreSaid : Prop := runoffMoreRow.holds Try.pinned (OpenSpec.ofChange runoffMoreSpec)

/-- ITS FALSE NEIGHBOUR: 'it returns false'. Refute it at one input. -/
def runoffMoreWrong : ChangeSpec := { name := "runoffMore", fn := fun _ => fun
  | [d1, d2, d3, d4, d5] => { results := [.lit (.bool false)], args := [d1, d2, d3, d4, d5] }
  | _ => none }
def RunoffMoreWrongFalsely : Prop := runoffMoreRow.holds Try.pinned (OpenSpec.ofChange runoffMoreWrong)

/-- 'sewershedlaw25.RunoffOf': WHATEVER THE INPUT: true; the input reads as it did. -/
def runoffOfSpec : ChangeSpec := { name := "runoffOf", fn := fun _ => fun
  | [d1, d2, d3, d4] => { results := [.lit (.bool true)], args := [d1, d2, d3, d4] }
  | _ => none }
def runoffOfRow : OpenClaim := { program := "ytjighhphadfoiaa", sum := "d9a7a770283d8863dfa3992a67155b5da1e568df82526193afeb0fe2c15c2402", func := "sewershed/sewershedlaw25.RunoffOf", spec := "runoffOf", unfollowed := true, recurses := true, named := ["math/bits.divideError", "math/bits.overflowError"], apart := false }
def RunoffOfSaid : Prop := runoffOfRow.holds Try.pinned (OpenSpec.ofChange runoffOfSpec)

/-- ITS FALSE NEIGHBOUR: 'it returns false'. Refute it at one input. -/
def runoffOfWrong : ChangeSpec := { name := "runoffOf", fn := fun _ => fun
  | [d1, d2, d3, d4] => { results := [.lit (.bool false)], args := [d1, d2, d3, d4] }
  | _ => none }
def RunoffOfWrongFalsely : Prop := runoffOfRow.holds Try.pinned (OpenSpec.ofChange runoffOfWrong)

/-- 'sewershedlaw25.RunoffSums': WHATEVER THE INPUT: true; the input reads as it did. -/
def runoffSumsSpec : ChangeSpec := { name := "runoffSums", fn := fun _ => fun
  | [d1, d2, d3, d4, d5, d6] => { results := [.lit (.bool true)], args := [d1, d2, d3, d4, d5, d6] }
  | _ => none }
def runoffSumsRow : OpenClaim := { program := "ytjighhphadfoiaa", sum := "d9a7a770283d8863dfa3992a67155b5da1e568df82526193afeb0fe2c15c2402", func := "sewershed/sewershedlaw25.RunoffSums", spec := "runoffSums", unfollowed := true, recurses := true, named := ["math/bits.divideError", "math/bits.overflowError"], apart := false }
def RunoffSumsSaid : Prop := runoffSumsRow.holds Try.pinned (OpenSpec.ofChange runoffSumsSpec)

/-- ITS FALSE NEIGHBOUR: 'it returns false'. Refute it at one input. -/
def runoffSumsWrong : ChangeSpec := { name := "runoffSums", fn := fun _ => fun
  | [d1, d2, d3, d4, d5, d6] => { results := [.lit (.bool false)], args := [d1, d2, d3, d4, d5, d6] }
  | _ => none }
def RunoffSumsWrongFalsely : Prop := runoffSumsRow.holds Try.pinned (OpenSpec.ofChange runoffSumsWrong)

/-- 'sewershedlaw25.RunoffDays': WHATEVER THE INPUT: true; the input reads as it did. -/
def runoffDaysSpec : ChangeSpec := { name := "runoffDays", fn := fun _ => fun
  | [d1, d2, d3, d4, d5] => { results := [.lit (.bool true)], args := [d1, d2, d3, d4, d5] }
  | _ => none }
def runoffDaysRow : OpenClaim := { program := "ytjighhphadfoiaa", sum := "d9a7a770283d8863dfa3992a67155b5da1e568df82526193afeb0fe2c15c2402", func := "sewershed/sewershedlaw25.RunoffDays", spec := "runoffDays", unfollowed := true, recurses := true, named := ["math/bits.divideError", "math/bits.overflowError"], apart := false }
def RunoffDaysSaid : Prop := runoffDaysRow.holds Try.pinned (OpenSpec.ofChange runoffDaysSpec)

/-- ITS FALSE NEIGHBOUR: 'it returns false'. Refute it at one input. -/
def runoffDaysWrong : ChangeSpec := { name := "runoffDays", fn := fun _ => fun
  | [d1, d2, d3, d4, d5] => { results := [.lit (.bool false)], args := [d1, d2, d3, d4, d5] }
  | _ => none }
def RunoffDaysWrongFalsely : Prop := runoffDaysRow.holds Try.pinned (OpenSpec.ofChange runoffDaysWrong)

/-- 'sewershedlaw25.RunoffWhole': WHATEVER THE INPUT: true; the input reads as it did. -/
def runoffWholeSpec : ChangeSpec := { name := "runoffWhole", fn := fun _ => fun
  | [d1, d2, d3, d4] => { results := [.lit (.bool true)], args := [d1, d2, d3, d4] }
  | _ => none }
def runoffWholeRow : OpenClaim := { program := "ytjighhphadfoiaa", sum := "d9a7a770283d8863dfa3992a67155b5da1e568df82526193afeb0fe2c15c2402", func := "sewershed/sewershedlaw25.RunoffWhole", spec := "runoffWhole", unfollowed := true, recurses := true, named := ["math/bits.divideError", "math/bits.overflowError"], apart := false }
def RunoffWholeSaid : Prop := runoffWholeRow.holds Try.pinned (OpenSpec.ofChange runoffWholeSpec)

/-- ITS FALSE NEIGHBOUR: 'it returns false'. Refute it at one input. -/
def runoffWholeWrong : ChangeSpec := { name := "runoffWhole", fn := fun _ => fun
  | [d1, d2, d3, d4] => { results := [.lit (.bool false)], args := [d1, d2, d3, d4] }
  | _ => none }
def RunoffWholeWrongFalsely : Prop := runoffWholeRow.holds Try.pinned (OpenSpec.ofChange runoffWholeWrong)

/-- 'sewershedlaw25.RunoffDepths': WHATEVER THE INPUT: true; the input reads as it did. -/
def runoffDepthsSpec : ChangeSpec := { name := "runoffDepths", fn := fun _ => fun
  | [d1, d2, d3, d4, d5] => { results := [.lit (.bool true)], args := [d1, d2, d3, d4, d5] }
  | _ => none }
def runoffDepthsRow : OpenClaim := { program := "ytjighhphadfoiaa", sum := "d9a7a770283d8863dfa3992a67155b5da1e568df82526193afeb0fe2c15c2402", func := "sewershed/sewershedlaw25.RunoffDepths", spec := "runoffDepths", inPlace := ["math/bits.Sub64"], unfollowed := true, recurses := true, named := ["math/bits.divideError", "math/bits.overflowError"], apart := false }
def RunoffDepthsSaid : Prop := runoffDepthsRow.holds Try.pinned (OpenSpec.ofChange runoffDepthsSpec)

/-- ITS FALSE NEIGHBOUR: 'it returns false'. Refute it at one input. -/
def runoffDepthsWrong : ChangeSpec := { name := "runoffDepths", fn := fun _ => fun
  | [d1, d2, d3, d4, d5] => { results := [.lit (.bool false)], args := [d1, d2, d3, d4, d5] }
  | _ => none }
def RunoffDepthsWrongFalsely : Prop := runoffDepthsRow.holds Try.pinned (OpenSpec.ofChange runoffDepthsWrong)

/-- 'sewershedlaw25.RunoffSealed': WHATEVER THE INPUT: true; the input reads as it did. -/
def runoffSealedSpec : ChangeSpec := { name := "runoffSealed", fn := fun _ => fun
  | [d1, d2, d3, d4] => { results := [.lit (.bool true)], args := [d1, d2, d3, d4] }
  | _ => none }
def runoffSealedRow : OpenClaim := { program := "ytjighhphadfoiaa", sum := "d9a7a770283d8863dfa3992a67155b5da1e568df82526193afeb0fe2c15c2402", func := "sewershed/sewershedlaw25.RunoffSealed", spec := "runoffSealed", inPlace := ["math/bits.Sub64"], unfollowed := true, recurses := true, named := ["math/bits.divideError", "math/bits.overflowError"], apart := false }
def RunoffSealedSaid : Prop := runoffSealedRow.holds Try.pinned (OpenSpec.ofChange runoffSealedSpec)

/-- ITS FALSE NEIGHBOUR: 'it returns false'. Refute it at one input. -/
def runoffSealedWrong : ChangeSpec := { name := "runoffSealed", fn := fun _ => fun
  | [d1, d2, d3, d4] => { results := [.lit (.bool false)], args := [d1, d2, d3, d4] }
  | _ => none }
def RunoffSealedWrongFalsely : Prop := runoffSealedRow.holds Try.pinned (OpenSpec.ofChange runoffSealedWrong)

/- THE SECOND FORM. 'bulk': how many values and letters a reading holds, each counted each time it is reached (what is shared counts as often as it is met; a slice's spare places count too). A statement '..UptoSaid' is the law's where the arguments, and the package variables that the reading takes, are together of bulk at most 1048576: NARROWER than '..Said'. Prove '..Said' where nothing that the law and all that it calls make is longer than what came in: it says more and counts as full. Else prove '..UptoSaid'. A law counts once. -/
mutual
def uptoBulk {H : Type} : DataW H → Nat
  | .lit (.string bytes) => bytes.length + 1
  | .lit _ => 1
  | .nil => 1
  | .ptr d => uptoBulk d + 1
  | .slice elems spare => uptoBulkAll elems + uptoBulkAll spare + 1
  | .agg parts => uptoBulkAll parts + 1
  | .iface _ d => uptoBulk d + 1
  | .map entries => uptoBulkEntries entries + 1
  | .held _ => 1
def uptoBulkAll {H : Type} : List (DataW H) → Nat
  | [] => 0
  | d :: r => uptoBulk d + uptoBulkAll r
def uptoBulkEntries {H : Type} : List (Lit × DataW H) → Nat
  | [] => 0
  | x :: r => uptoBulkEntry x + uptoBulkEntries r
def uptoBulkEntry {H : Type} : Lit × DataW H → Nat
  | (.string bytes, d) => bytes.length + uptoBulk d + 1
  | (_, d) => uptoBulk d + 1
 end
def uptoSmall : (H : Type) → List (DataW H) → Bool := fun _ ds => decide (uptoBulkAll ds ≤ 1048576)
def OpenSpec.upto (s : _root_.Go.ChangeSpec) : _root_.Go.OpenSpec := { _root_.Go.OpenSpec.ofChange s with cond := some uptoSmall }

/-- 'sewershedlaw25.RunoffMore', WHERE WHAT IT READS IS OF BULK AT MOST 1048576: true; the input reads as it did. -/
def runoffMoreUptoRow : OpenClaim := { program := "ytjighhphadfoiaa", sum := "d9a7a770283d8863dfa3992a67155b5da1e568df82526193afeb0fe2c15c2402", func := "sewershed/sewershedlaw25.RunoffMore", spec := "runoffMore", unfollowed := true, recurses := true, named := ["math/bits.divideError", "math/bits.overflowError"], apart := false, narrowed := true }
def RunoffMoreUptoSaid : Prop := runoffMoreUptoRow.holds Try.pinned (OpenSpec.upto runoffMoreSpec)

/-- 'sewershedlaw25.RunoffOf', WHERE WHAT IT READS IS OF BULK AT MOST 1048576: true; the input reads as it did. -/
def runoffOfUptoRow : OpenClaim := { program := "ytjighhphadfoiaa", sum := "d9a7a770283d8863dfa3992a67155b5da1e568df82526193afeb0fe2c15c2402", func := "sewershed/sewershedlaw25.RunoffOf", spec := "runoffOf", unfollowed := true, recurses := true, named := ["math/bits.divideError", "math/bits.overflowError"], apart := false, narrowed := true }
def RunoffOfUptoSaid : Prop := runoffOfUptoRow.holds Try.pinned (OpenSpec.upto runoffOfSpec)

/-- 'sewershedlaw25.RunoffSums', WHERE WHAT IT READS IS OF BULK AT MOST 1048576: true; the input reads as it did. -/
def runoffSumsUptoRow : OpenClaim := { program := "ytjighhphadfoiaa", sum := "d9a7a770283d8863dfa3992a67155b5da1e568df82526193afeb0fe2c15c2402", func := "sewershed/sewershedlaw25.RunoffSums", spec := "runoffSums", unfollowed := true, recurses := true, named := ["math/bits.divideError", "math/bits.overflowError"], apart := false, narrowed := true }
def RunoffSumsUptoSaid : Prop := runoffSumsUptoRow.holds Try.pinned (OpenSpec.upto runoffSumsSpec)

/-- 'sewershedlaw25.RunoffDays', WHERE WHAT IT READS IS OF BULK AT MOST 1048576: true; the input reads as it did. -/
def runoffDaysUptoRow : OpenClaim := { program := "ytjighhphadfoiaa", sum := "d9a7a770283d8863dfa3992a67155b5da1e568df82526193afeb0fe2c15c2402", func := "sewershed/sewershedlaw25.RunoffDays", spec := "runoffDays", unfollowed := true, recurses := true, named := ["math/bits.divideError", "math/bits.overflowError"], apart := false, narrowed := true }
def RunoffDaysUptoSaid : Prop := runoffDaysUptoRow.holds Try.pinned (OpenSpec.upto runoffDaysSpec)

/-- 'sewershedlaw25.RunoffWhole', WHERE WHAT IT READS IS OF BULK AT MOST 1048576: true; the input reads as it did. -/
def runoffWholeUptoRow : OpenClaim := { program := "ytjighhphadfoiaa", sum := "d9a7a770283d8863dfa3992a67155b5da1e568df82526193afeb0fe2c15c2402", func := "sewershed/sewershedlaw25.RunoffWhole", spec := "runoffWhole", unfollowed := true, recurses := true, named := ["math/bits.divideError", "math/bits.overflowError"], apart := false, narrowed := true }
def RunoffWholeUptoSaid : Prop := runoffWholeUptoRow.holds Try.pinned (OpenSpec.upto runoffWholeSpec)

/-- 'sewershedlaw25.RunoffDepths', WHERE WHAT IT READS IS OF BULK AT MOST 1048576: true; the input reads as it did. -/
def runoffDepthsUptoRow : OpenClaim := { program := "ytjighhphadfoiaa", sum := "d9a7a770283d8863dfa3992a67155b5da1e568df82526193afeb0fe2c15c2402", func := "sewershed/sewershedlaw25.RunoffDepths", spec := "runoffDepths", inPlace := ["math/bits.Sub64"], unfollowed := true, recurses := true, named := ["math/bits.divideError", "math/bits.overflowError"], apart := false, narrowed := true }
def RunoffDepthsUptoSaid : Prop := runoffDepthsUptoRow.holds Try.pinned (OpenSpec.upto runoffDepthsSpec)

/-- 'sewershedlaw25.RunoffSealed', WHERE WHAT IT READS IS OF BULK AT MOST 1048576: true; the input reads as it did. -/
def runoffSealedUptoRow : OpenClaim := { program := "ytjighhphadfoiaa", sum := "d9a7a770283d8863dfa3992a67155b5da1e568df82526193afeb0fe2c15c2402", func := "sewershed/sewershedlaw25.RunoffSealed", spec := "runoffSealed", inPlace := ["math/bits.Sub64"], unfollowed := true, recurses := true, named := ["math/bits.divideError", "math/bits.overflowError"], apart := false, narrowed := true }
def RunoffSealedUptoSaid : Prop := runoffSealedUptoRow.holds Try.pinned (OpenSpec.upto runoffSealedSpec)

end Rows
end Go.Proofs.Ytjighhphadfoiaa
