/-
  No cell of these rows narrows 'for every input' (looked for: loops, veiled, ifaces, maps, wideKeys, modest, calm, conditions, laid).
  DERIVED. THE GIVEN ROWS OF THIS SEAT. 5 by the template 'for every input the law returns true; each argument reads behind the call as it read before'; 0 by the template 'total and deterministic' (their statements: YthkmgnaeponfcaaTotals.lean).
  GIVEN WITH THE SEED: the statements are not yours to turn. If you find one false, say at which input.
  Laid BY PROGRAM, IN A SANDBOX (cutbox-rows.mjs): the forced cells as the released guide's own fill.sh prints them over the translation 309994e458a6001d… (all of the seat's roots in one cut). By AI agents, Wed Nov 11 2026. No macro, syntax, notation, axiom, sorry.
-/
import Derived.Test.YthkmgnaeponfcaaChecked
import GoSem.Claim
import GoSem.ClaimJoined
import GoSem.ClaimMapViews
import Derived.JoinedTies
import Derived.KernelRfl
namespace Go.Proofs.Ythkmgnaeponfcaa
/- THE CELL 'sum', in the pinned program and in every row, IS THE sha256 OF THE DUMP (.gsa) THAT YthkmgnaeponfcaaProg.lean LOADS. Nothing in Lean hashes anything: it is a label: what it is worth is what the hold of that sum in a sandbox is worth. -/
noncomputable def Try.pinned : Pinned := { name := "ythkmgnaeponfcaa", sum := "309994e458a6001dc3d458827b90317cc79a702a9ceecc10523651f085b36425", checked := Try.checked }
namespace Rows
def none {H : Type} : Left H := { results := [], args := [] }

/-- 'sewershedlaw36.BalanceSteps': WHATEVER THE INPUT: true; the input reads as it did. -/
def balanceStepsSpec : ChangeSpec := { name := "balanceSteps", fn := fun _ => fun
  | [d1, d2] => { results := [.lit (.bool true)], args := [d1, d2] }
  | _ => none }
def balanceStepsRow : OpenClaim := { program := "ythkmgnaeponfcaa", sum := "309994e458a6001dc3d458827b90317cc79a702a9ceecc10523651f085b36425", func := "sewershed/sewershedlaw36.BalanceSteps", spec := "balanceSteps", unfollowed := true, recurses := true, apart := false }
def BalanceStepsSaid : Prop := balanceStepsRow.holds Try.pinned (OpenSpec.ofChange balanceStepsSpec)

/-- ITS FALSE NEIGHBOUR: 'it returns false'. Refute it at one input. -/
def balanceStepsWrong : ChangeSpec := { name := "balanceSteps", fn := fun _ => fun
  | [d1, d2] => { results := [.lit (.bool false)], args := [d1, d2] }
  | _ => none }
def BalanceStepsWrongFalsely : Prop := balanceStepsRow.holds Try.pinned (OpenSpec.ofChange balanceStepsWrong)

/-- 'sewershedlaw36.BalanceCloses': WHATEVER THE INPUT: true; the input reads as it did. -/
def balanceClosesSpec : ChangeSpec := { name := "balanceCloses", fn := fun _ => fun
  | [d1, d2, d3] => { results := [.lit (.bool true)], args := [d1, d2, d3] }
  | _ => none }
def balanceClosesRow : OpenClaim := { program := "ythkmgnaeponfcaa", sum := "309994e458a6001dc3d458827b90317cc79a702a9ceecc10523651f085b36425", func := "sewershed/sewershedlaw36.BalanceCloses", spec := "balanceCloses", unfollowed := true, recurses := true, apart := false }
def BalanceClosesSaid : Prop := balanceClosesRow.holds Try.pinned (OpenSpec.ofChange balanceClosesSpec)

/-- ITS FALSE NEIGHBOUR: 'it returns false'. Refute it at one input. -/
def balanceClosesWrong : ChangeSpec := { name := "balanceCloses", fn := fun _ => fun
  | [d1, d2, d3] => { results := [.lit (.bool false)], args := [d1, d2, d3] }
  | _ => none }
def BalanceClosesWrongFalsely : Prop := balanceClosesRow.holds Try.pinned (OpenSpec.ofChange balanceClosesWrong)

/-- 'sewershedlaw36.BalanceCuts': WHATEVER THE INPUT: true; the input reads as it did. -/
def balanceCutsSpec : ChangeSpec := { name := "balanceCuts", fn := fun _ => fun
  | [d1, d2, d3] => { results := [.lit (.bool true)], args := [d1, d2, d3] }
  | _ => none }
def balanceCutsRow : OpenClaim := { program := "ythkmgnaeponfcaa", sum := "309994e458a6001dc3d458827b90317cc79a702a9ceecc10523651f085b36425", func := "sewershed/sewershedlaw36.BalanceCuts", spec := "balanceCuts", unfollowed := true, recurses := true, apart := false }
def BalanceCutsSaid : Prop := balanceCutsRow.holds Try.pinned (OpenSpec.ofChange balanceCutsSpec)

/-- ITS FALSE NEIGHBOUR: 'it returns false'. Refute it at one input. -/
def balanceCutsWrong : ChangeSpec := { name := "balanceCuts", fn := fun _ => fun
  | [d1, d2, d3] => { results := [.lit (.bool false)], args := [d1, d2, d3] }
  | _ => none }
def BalanceCutsWrongFalsely : Prop := balanceCutsRow.holds Try.pinned (OpenSpec.ofChange balanceCutsWrong)

/-- 'sewershedlaw36.BalanceAdds': WHATEVER THE INPUT: true; the input reads as it did. -/
def balanceAddsSpec : ChangeSpec := { name := "balanceAdds", fn := fun _ => fun
  | [d1, d2, d3] => { results := [.lit (.bool true)], args := [d1, d2, d3] }
  | _ => none }
def balanceAddsRow : OpenClaim := { program := "ythkmgnaeponfcaa", sum := "309994e458a6001dc3d458827b90317cc79a702a9ceecc10523651f085b36425", func := "sewershed/sewershedlaw36.BalanceAdds", spec := "balanceAdds", unfollowed := true, recurses := true, apart := false }
def BalanceAddsSaid : Prop := balanceAddsRow.holds Try.pinned (OpenSpec.ofChange balanceAddsSpec)

/-- ITS FALSE NEIGHBOUR: 'it returns false'. Refute it at one input. -/
def balanceAddsWrong : ChangeSpec := { name := "balanceAdds", fn := fun _ => fun
  | [d1, d2, d3] => { results := [.lit (.bool false)], args := [d1, d2, d3] }
  | _ => none }
def BalanceAddsWrongFalsely : Prop := balanceAddsRow.holds Try.pinned (OpenSpec.ofChange balanceAddsWrong)

/-- 'sewershedlaw36.BalanceNodes': WHATEVER THE INPUT: true; the input reads as it did. -/
def balanceNodesSpec : ChangeSpec := { name := "balanceNodes", fn := fun _ => fun
  | [d1, d2, d3, d4, d5, d6, d7, d8] => { results := [.lit (.bool true)], args := [d1, d2, d3, d4, d5, d6, d7, d8] }
  | _ => none }
def balanceNodesRow : OpenClaim := { program := "ythkmgnaeponfcaa", sum := "309994e458a6001dc3d458827b90317cc79a702a9ceecc10523651f085b36425", func := "sewershed/sewershedlaw36.BalanceNodes", spec := "balanceNodes", unfollowed := true, recurses := true, apart := false }
def BalanceNodesSaid : Prop := balanceNodesRow.holds Try.pinned (OpenSpec.ofChange balanceNodesSpec)

/-- ITS FALSE NEIGHBOUR: 'it returns false'. Refute it at one input. -/
def balanceNodesWrong : ChangeSpec := { name := "balanceNodes", fn := fun _ => fun
  | [d1, d2, d3, d4, d5, d6, d7, d8] => { results := [.lit (.bool false)], args := [d1, d2, d3, d4, d5, d6, d7, d8] }
  | _ => none }
def BalanceNodesWrongFalsely : Prop := balanceNodesRow.holds Try.pinned (OpenSpec.ofChange balanceNodesWrong)

/- THE SECOND FORM. 'bulk': how many values and letters a reading holds, each counted each time it is reached (what is shared counts as often as it is met; a slice's spare places count too). A statement '..UptoSaid' is the law's where the arguments, and the package variables that the reading takes, are together of bulk at most 1048576: NARROWER than '..Said'. Prove '..Said' where nothing that the law and all that it calls make is longer than what came in: it says more and counts as full. Else prove '..UptoSaid'. A law counts once. -/
mutual
def uptoBulk {H : Type} : DataW H → Nat
  | .lit (.string bytes) => bytes.length + 1
  | .lit _ => 1
  | .nil => 1
  | .ptr d => uptoBulk d + 1
  | .slice elems spare => uptoBulkAll elems + uptoBulkAll spare + 1
  | .agg parts => uptoBulkAll parts + 1
  | .iface _ d => uptoBulk d + 1
  | .map entries => uptoBulkEntries entries + 1
  | .held _ => 1
def uptoBulkAll {H : Type} : List (DataW H) → Nat
  | [] => 0
  | d :: r => uptoBulk d + uptoBulkAll r
def uptoBulkEntries {H : Type} : List (Lit × DataW H) → Nat
  | [] => 0
  | x :: r => uptoBulkEntry x + uptoBulkEntries r
def uptoBulkEntry {H : Type} : Lit × DataW H → Nat
  | (.string bytes, d) => bytes.length + uptoBulk d + 1
  | (_, d) => uptoBulk d + 1
 end
def uptoSmall : (H : Type) → List (DataW H) → Bool := fun _ ds => decide (uptoBulkAll ds ≤ 1048576)
def OpenSpec.upto (s : _root_.Go.ChangeSpec) : _root_.Go.OpenSpec := { _root_.Go.OpenSpec.ofChange s with cond := some uptoSmall }

/-- 'sewershedlaw36.BalanceSteps', WHERE WHAT IT READS IS OF BULK AT MOST 1048576: true; the input reads as it did. -/
def balanceStepsUptoRow : OpenClaim := { program := "ythkmgnaeponfcaa", sum := "309994e458a6001dc3d458827b90317cc79a702a9ceecc10523651f085b36425", func := "sewershed/sewershedlaw36.BalanceSteps", spec := "balanceSteps", unfollowed := true, recurses := true, apart := false, narrowed := true }
def BalanceStepsUptoSaid : Prop := balanceStepsUptoRow.holds Try.pinned (OpenSpec.upto balanceStepsSpec)

/-- 'sewershedlaw36.BalanceCloses', WHERE WHAT IT READS IS OF BULK AT MOST 1048576: true; the input reads as it did. -/
def balanceClosesUptoRow : OpenClaim := { program := "ythkmgnaeponfcaa", sum := "309994e458a6001dc3d458827b90317cc79a702a9ceecc10523651f085b36425", func := "sewershed/sewershedlaw36.BalanceCloses", spec := "balanceCloses", unfollowed := true, recurses := true, apart := false, narrowed := true }
def BalanceClosesUptoSaid : Prop := balanceClosesUptoRow.holds Try.pinned (OpenSpec.upto balanceClosesSpec)

/-- 'sewershedlaw36.BalanceCuts', WHERE WHAT IT READS IS OF BULK AT MOST 1048576: true; the input reads as it did. -/
def balanceCutsUptoRow : OpenClaim := { program := "ythkmgnaeponfcaa", sum := "309994e458a6001dc3d458827b90317cc79a702a9ceecc10523651f085b36425", func := "sewershed/sewershedlaw36.BalanceCuts", spec := "balanceCuts", unfollowed := true, recurses := true, apart := false, narrowed := true }
def BalanceCutsUptoSaid : Prop := balanceCutsUptoRow.holds Try.pinned (OpenSpec.upto balanceCutsSpec)

/-- 'sewershedlaw36.BalanceAdds', WHERE WHAT IT READS IS OF BULK AT MOST 1048576: true; the input reads as it did. -/
def balanceAddsUptoRow : OpenClaim := { program := "ythkmgnaeponfcaa", sum := "309994e458a6001dc3d458827b90317cc79a702a9ceecc10523651f085b36425", func := "sewershed/sewershedlaw36.BalanceAdds", spec := "balanceAdds", unfollowed := true, recurses := true, apart := false, narrowed := true }
def BalanceAddsUptoSaid : Prop := balanceAddsUptoRow.holds Try.pinned (OpenSpec.upto balanceAddsSpec)

/-- 'sewershedlaw36.BalanceNodes', WHERE WHAT IT READS IS OF BULK AT MOST 1048576: true; the input reads as it did. -/
def balanceNodesUptoRow : OpenClaim := { program := "ythkmgnaeponfcaa", sum := "309994e458a6001dc3d458827b90317cc79a702a9ceecc10523651f085b36425", func := "sewershed/sewershedlaw36.BalanceNodes", spec := "balanceNodes", unfollowed := true, recurses := true, apart := false, narrowed := true }
def BalanceNodesUptoSaid : Prop := balanceNodesUptoRow.holds Try.pinned (OpenSpec.upto balanceNodesSpec)

end Rows
end Go.Proofs.Ythkmgnaeponfcaa
