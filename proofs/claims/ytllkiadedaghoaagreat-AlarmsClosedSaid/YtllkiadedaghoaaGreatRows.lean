/-
  No cell of these rows narrows 'for every input' (looked for: loops, veiled, ifaces, maps, wideKeys, modest, calm, conditions, laid).
  DERIVED. THE GIVEN ROWS OF THIS SEAT. 7 by the template 'for every input the law returns true; each argument reads behind the call as it read before'; 0 by the template 'total and deterministic' (their statements: YtllkiadedaghoaaGreatTotals.lean).
  GIVEN WITH THE SEED: the statements are not yours to turn. If you find one false, say at which input.
  Laid BY PROGRAM, IN A SANDBOX (cutbox-rows.mjs): the forced cells as the released guide's own fill.sh prints them over the translation c98e184ce39349b2… (all of the seat's roots in one cut). By AI agents, Wed Nov 11 2026. No macro, syntax, notation, axiom, sorry.
-/
import Derived.Test.YtllkiadedaghoaaGreatChecked
import GoSem.Claim
import GoSem.ClaimJoined
import GoSem.ClaimMapViews
import Derived.JoinedTies
import Derived.KernelRfl
namespace Go.Proofs.YtllkiadedaghoaaGreat
/- THE CELL 'sum', in the pinned program and in every row, IS THE sha256 OF THE DUMP (.gsa) THAT YtllkiadedaghoaaGreatProg.lean LOADS. Nothing in Lean hashes anything: it is a label: what it is worth is what the hold of that sum in a sandbox is worth. -/
noncomputable def Tryz.pinned : Pinned := { name := "ytllkiadedaghoaagreat", sum := "c98e184ce39349b2418f0371f28093768936365fb8449b2e550c0bc78b3f535c", checked := Tryz.checked }
namespace Rows
def none {H : Type} : Left H := { results := [], args := [] }

/-- 'sewershedlaw53.AlarmsWider': WHATEVER THE INPUT: true; the input reads as it did. -/
def alarmsWiderSpec : ChangeSpec := { name := "alarmsWider", fn := fun _ => fun
  | [d1, d2, d3, d4, d5] => { results := [.lit (.bool true)], args := [d1, d2, d3, d4, d5] }
  | _ => none }
def alarmsWiderRow : OpenClaim := { program := "ytllkiadedaghoaagreat", sum := "c98e184ce39349b2418f0371f28093768936365fb8449b2e550c0bc78b3f535c", func := "sewershed/sewershedlaw53.AlarmsWider", spec := "alarmsWider", unfollowed := true, recurses := true, plainKeys := false, apart := false }
def AlarmsWiderSaid : Prop := alarmsWiderRow.holds Tryz.pinned (OpenSpec.ofChange alarmsWiderSpec)

/-- ITS FALSE NEIGHBOUR: 'it returns false'. Refute it at one input. -/
def alarmsWiderWrong : ChangeSpec := { name := "alarmsWider", fn := fun _ => fun
  | [d1, d2, d3, d4, d5] => { results := [.lit (.bool false)], args := [d1, d2, d3, d4, d5] }
  | _ => none }
def AlarmsWiderWrongFalsely : Prop := alarmsWiderRow.holds Tryz.pinned (OpenSpec.ofChange alarmsWiderWrong)

/-- 'sewershedlaw53.AlarmsAll': WHATEVER THE INPUT: true; the input reads as it did. -/
def alarmsAllSpec : ChangeSpec := { name := "alarmsAll", fn := fun _ => fun
  | [d1, d2, d3, d4] => { results := [.lit (.bool true)], args := [d1, d2, d3, d4] }
  | _ => none }
def alarmsAllRow : OpenClaim := { program := "ytllkiadedaghoaagreat", sum := "c98e184ce39349b2418f0371f28093768936365fb8449b2e550c0bc78b3f535c", func := "sewershed/sewershedlaw53.AlarmsAll", spec := "alarmsAll", unfollowed := true, recurses := true, plainKeys := false, apart := false }
def AlarmsAllSaid : Prop := alarmsAllRow.holds Tryz.pinned (OpenSpec.ofChange alarmsAllSpec)

/-- ITS FALSE NEIGHBOUR: 'it returns false'. Refute it at one input. -/
def alarmsAllWrong : ChangeSpec := { name := "alarmsAll", fn := fun _ => fun
  | [d1, d2, d3, d4] => { results := [.lit (.bool false)], args := [d1, d2, d3, d4] }
  | _ => none }
def AlarmsAllWrongFalsely : Prop := alarmsAllRow.holds Tryz.pinned (OpenSpec.ofChange alarmsAllWrong)

/-- 'sewershedlaw53.AlarmsKinds': WHATEVER THE INPUT: true; the input reads as it did. -/
def alarmsKindsSpec : ChangeSpec := { name := "alarmsKinds", fn := fun _ => fun
  | [d1, d2, d3, d4] => { results := [.lit (.bool true)], args := [d1, d2, d3, d4] }
  | _ => none }
def alarmsKindsRow : OpenClaim := { program := "ytllkiadedaghoaagreat", sum := "c98e184ce39349b2418f0371f28093768936365fb8449b2e550c0bc78b3f535c", func := "sewershed/sewershedlaw53.AlarmsKinds", spec := "alarmsKinds", unfollowed := true, recurses := true, plainKeys := false, apart := false }
def AlarmsKindsSaid : Prop := alarmsKindsRow.holds Tryz.pinned (OpenSpec.ofChange alarmsKindsSpec)

/-- ITS FALSE NEIGHBOUR: 'it returns false'. Refute it at one input. -/
def alarmsKindsWrong : ChangeSpec := { name := "alarmsKinds", fn := fun _ => fun
  | [d1, d2, d3, d4] => { results := [.lit (.bool false)], args := [d1, d2, d3, d4] }
  | _ => none }
def AlarmsKindsWrongFalsely : Prop := alarmsKindsRow.holds Tryz.pinned (OpenSpec.ofChange alarmsKindsWrong)

/-- 'sewershedlaw53.AlarmsDropped': WHATEVER THE INPUT: true; the input reads as it did. -/
def alarmsDroppedSpec : ChangeSpec := { name := "alarmsDropped", fn := fun _ => fun
  | [d1, d2, d3, d4] => { results := [.lit (.bool true)], args := [d1, d2, d3, d4] }
  | _ => none }
def alarmsDroppedRow : OpenClaim := { program := "ytllkiadedaghoaagreat", sum := "c98e184ce39349b2418f0371f28093768936365fb8449b2e550c0bc78b3f535c", func := "sewershed/sewershedlaw53.AlarmsDropped", spec := "alarmsDropped", unfollowed := true, recurses := true, plainKeys := false, apart := false }
def AlarmsDroppedSaid : Prop := alarmsDroppedRow.holds Tryz.pinned (OpenSpec.ofChange alarmsDroppedSpec)

/-- ITS FALSE NEIGHBOUR: 'it returns false'. Refute it at one input. -/
def alarmsDroppedWrong : ChangeSpec := { name := "alarmsDropped", fn := fun _ => fun
  | [d1, d2, d3, d4] => { results := [.lit (.bool false)], args := [d1, d2, d3, d4] }
  | _ => none }
def AlarmsDroppedWrongFalsely : Prop := alarmsDroppedRow.holds Tryz.pinned (OpenSpec.ofChange alarmsDroppedWrong)

/-- 'sewershedlaw53.AlarmsCores': WHATEVER THE INPUT: true; the input reads as it did. -/
def alarmsCoresSpec : ChangeSpec := { name := "alarmsCores", fn := fun _ => fun
  | [d1, d2, d3, d4, d5] => { results := [.lit (.bool true)], args := [d1, d2, d3, d4, d5] }
  | _ => none }
def alarmsCoresRow : OpenClaim := { program := "ytllkiadedaghoaagreat", sum := "c98e184ce39349b2418f0371f28093768936365fb8449b2e550c0bc78b3f535c", func := "sewershed/sewershedlaw53.AlarmsCores", spec := "alarmsCores", unfollowed := true, recurses := true, plainKeys := false, apart := false }
def AlarmsCoresSaid : Prop := alarmsCoresRow.holds Tryz.pinned (OpenSpec.ofChange alarmsCoresSpec)

/-- ITS FALSE NEIGHBOUR: 'it returns false'. Refute it at one input. -/
def alarmsCoresWrong : ChangeSpec := { name := "alarmsCores", fn := fun _ => fun
  | [d1, d2, d3, d4, d5] => { results := [.lit (.bool false)], args := [d1, d2, d3, d4, d5] }
  | _ => none }
def AlarmsCoresWrongFalsely : Prop := alarmsCoresRow.holds Tryz.pinned (OpenSpec.ofChange alarmsCoresWrong)

/-- 'sewershedlaw53.AlarmsBalance': WHATEVER THE INPUT: true; the input reads as it did. -/
def alarmsBalanceSpec : ChangeSpec := { name := "alarmsBalance", fn := fun _ => fun
  | [d1, d2, d3, d4, d5] => { results := [.lit (.bool true)], args := [d1, d2, d3, d4, d5] }
  | _ => none }
def alarmsBalanceRow : OpenClaim := { program := "ytllkiadedaghoaagreat", sum := "c98e184ce39349b2418f0371f28093768936365fb8449b2e550c0bc78b3f535c", func := "sewershed/sewershedlaw53.AlarmsBalance", spec := "alarmsBalance", inPlace := ["math/bits.Sub64", "math/bits.Add64"], unfollowed := true, recurses := true, named := ["math/bits.divideError", "math/bits.overflowError"], plainKeys := false, apart := false }
def AlarmsBalanceSaid : Prop := alarmsBalanceRow.holds Tryz.pinned (OpenSpec.ofChange alarmsBalanceSpec)

/-- ITS FALSE NEIGHBOUR: 'it returns false'. Refute it at one input. -/
def alarmsBalanceWrong : ChangeSpec := { name := "alarmsBalance", fn := fun _ => fun
  | [d1, d2, d3, d4, d5] => { results := [.lit (.bool false)], args := [d1, d2, d3, d4, d5] }
  | _ => none }
def AlarmsBalanceWrongFalsely : Prop := alarmsBalanceRow.holds Tryz.pinned (OpenSpec.ofChange alarmsBalanceWrong)

/-- 'sewershedlaw53.AlarmsClosed': WHATEVER THE INPUT: true; the input reads as it did. -/
def alarmsClosedSpec : ChangeSpec := { name := "alarmsClosed", fn := fun _ => fun
  | [d1, d2, d3, d4, d5, d6] => { results := [.lit (.bool true)], args := [d1, d2, d3, d4, d5, d6] }
  | _ => none }
def alarmsClosedRow : OpenClaim := { program := "ytllkiadedaghoaagreat", sum := "c98e184ce39349b2418f0371f28093768936365fb8449b2e550c0bc78b3f535c", func := "sewershed/sewershedlaw53.AlarmsClosed", spec := "alarmsClosed", inPlace := ["math/bits.Sub64", "math/bits.Add64"], unfollowed := true, recurses := true, named := ["math/bits.divideError", "math/bits.overflowError"], plainKeys := false, apart := false }
def AlarmsClosedSaid : Prop := alarmsClosedRow.holds Tryz.pinned (OpenSpec.ofChange alarmsClosedSpec)

/-- ITS FALSE NEIGHBOUR: 'it returns false'. Refute it at one input. -/
def alarmsClosedWrong : ChangeSpec := { name := "alarmsClosed", fn := fun _ => fun
  | [d1, d2, d3, d4, d5, d6] => { results := [.lit (.bool false)], args := [d1, d2, d3, d4, d5, d6] }
  | _ => none }
def AlarmsClosedWrongFalsely : Prop := alarmsClosedRow.holds Tryz.pinned (OpenSpec.ofChange alarmsClosedWrong)

/- THE SECOND FORM. 'bulk': how many values and letters a reading holds, each counted each time it is reached (what is shared counts as often as it is met; a slice's spare places count too). A statement '..UptoSaid' is the law's where the arguments, and the package variables that the reading takes, are together of bulk at most 1048576: NARROWER than '..Said'. Prove '..Said' where nothing that the law and all that it calls make is longer than what came in: it says more and counts as full. Else prove '..UptoSaid'. A law counts once. -/
mutual
def uptoBulk {H : Type} : DataW H → Nat
  | .lit (.string bytes) => bytes.length + 1
  | .lit _ => 1
  | .nil => 1
  | .ptr d => uptoBulk d + 1
  | .slice elems spare => uptoBulkAll elems + uptoBulkAll spare + 1
  | .agg parts => uptoBulkAll parts + 1
  | .iface _ d => uptoBulk d + 1
  | .map entries => uptoBulkEntries entries + 1
  | .held _ => 1
def uptoBulkAll {H : Type} : List (DataW H) → Nat
  | [] => 0
  | d :: r => uptoBulk d + uptoBulkAll r
def uptoBulkEntries {H : Type} : List (Lit × DataW H) → Nat
  | [] => 0
  | x :: r => uptoBulkEntry x + uptoBulkEntries r
def uptoBulkEntry {H : Type} : Lit × DataW H → Nat
  | (.string bytes, d) => bytes.length + uptoBulk d + 1
  | (_, d) => uptoBulk d + 1
 end
def uptoSmall : (H : Type) → List (DataW H) → Bool := fun _ ds => decide (uptoBulkAll ds ≤ 1048576)
def OpenSpec.upto (s : _root_.Go.ChangeSpec) : _root_.Go.OpenSpec := { _root_.Go.OpenSpec.ofChange s with cond := some uptoSmall }

/-- 'sewershedlaw53.AlarmsWider', WHERE WHAT IT READS IS OF BULK AT MOST 1048576: true; the input reads as it did. -/
def alarmsWiderUptoRow : OpenClaim := { program := "ytllkiadedaghoaagreat", sum := "c98e184ce39349b2418f0371f28093768936365fb8449b2e550c0bc78b3f535c", func := "sewershed/sewershedlaw53.AlarmsWider", spec := "alarmsWider", unfollowed := true, recurses := true, plainKeys := false, apart := false, narrowed := true }
def AlarmsWiderUptoSaid : Prop := alarmsWiderUptoRow.holds Tryz.pinned (OpenSpec.upto alarmsWiderSpec)

/-- 'sewershedlaw53.AlarmsAll', WHERE WHAT IT READS IS OF BULK AT MOST 1048576: true; the input reads as it did. -/
def alarmsAllUptoRow : OpenClaim := { program := "ytllkiadedaghoaagreat", sum := "c98e184ce39349b2418f0371f28093768936365fb8449b2e550c0bc78b3f535c", func := "sewershed/sewershedlaw53.AlarmsAll", spec := "alarmsAll", unfollowed := true, recurses := true, plainKeys := false, apart := false, narrowed := true }
def AlarmsAllUptoSaid : Prop := alarmsAllUptoRow.holds Tryz.pinned (OpenSpec.upto alarmsAllSpec)

/-- 'sewershedlaw53.AlarmsKinds', WHERE WHAT IT READS IS OF BULK AT MOST 1048576: true; the input reads as it did. -/
def alarmsKindsUptoRow : OpenClaim := { program := "ytllkiadedaghoaagreat", sum := "c98e184ce39349b2418f0371f28093768936365fb8449b2e550c0bc78b3f535c", func := "sewershed/sewershedlaw53.AlarmsKinds", spec := "alarmsKinds", unfollowed := true, recurses := true, plainKeys := false, apart := false, narrowed := true }
def AlarmsKindsUptoSaid : Prop := alarmsKindsUptoRow.holds Tryz.pinned (OpenSpec.upto alarmsKindsSpec)

/-- 'sewershedlaw53.AlarmsDropped', WHERE WHAT IT READS IS OF BULK AT MOST 1048576: true; the input reads as it did. -/
def alarmsDroppedUptoRow : OpenClaim := { program := "ytllkiadedaghoaagreat", sum := "c98e184ce39349b2418f0371f28093768936365fb8449b2e550c0bc78b3f535c", func := "sewershed/sewershedlaw53.AlarmsDropped", spec := "alarmsDropped", unfollowed := true, recurses := true, plainKeys := false, apart := false, narrowed := true }
def AlarmsDroppedUptoSaid : Prop := alarmsDroppedUptoRow.holds Tryz.pinned (OpenSpec.upto alarmsDroppedSpec)

/-- 'sewershedlaw53.AlarmsCores', WHERE WHAT IT READS IS OF BULK AT MOST 1048576: true; the input reads as it did. -/
def alarmsCoresUptoRow : OpenClaim := { program := "ytllkiadedaghoaagreat", sum := "c98e184ce39349b2418f0371f28093768936365fb8449b2e550c0bc78b3f535c", func := "sewershed/sewershedlaw53.AlarmsCores", spec := "alarmsCores", unfollowed := true, recurses := true, plainKeys := false, apart := false, narrowed := true }
def AlarmsCoresUptoSaid : Prop := alarmsCoresUptoRow.holds Tryz.pinned (OpenSpec.upto alarmsCoresSpec)

/-- 'sewershedlaw53.AlarmsBalance', WHERE WHAT IT READS IS OF BULK AT MOST 1048576: true; the input reads as it did. -/
def alarmsBalanceUptoRow : OpenClaim := { program := "ytllkiadedaghoaagreat", sum := "c98e184ce39349b2418f0371f28093768936365fb8449b2e550c0bc78b3f535c", func := "sewershed/sewershedlaw53.AlarmsBalance", spec := "alarmsBalance", inPlace := ["math/bits.Sub64", "math/bits.Add64"], unfollowed := true, recurses := true, named := ["math/bits.divideError", "math/bits.overflowError"], plainKeys := false, apart := false, narrowed := true }
def AlarmsBalanceUptoSaid : Prop := alarmsBalanceUptoRow.holds Tryz.pinned (OpenSpec.upto alarmsBalanceSpec)

/-- 'sewershedlaw53.AlarmsClosed', WHERE WHAT IT READS IS OF BULK AT MOST 1048576: true; the input reads as it did. -/
def alarmsClosedUptoRow : OpenClaim := { program := "ytllkiadedaghoaagreat", sum := "c98e184ce39349b2418f0371f28093768936365fb8449b2e550c0bc78b3f535c", func := "sewershed/sewershedlaw53.AlarmsClosed", spec := "alarmsClosed", inPlace := ["math/bits.Sub64", "math/bits.Add64"], unfollowed := true, recurses := true, named := ["math/bits.divideError", "math/bits.overflowError"], plainKeys := false, apart := false, narrowed := true }
def AlarmsClosedUptoSaid : Prop := alarmsClosedUptoRow.holds Tryz.pinned (OpenSpec.upto alarmsClosedSpec)

end Rows
end Go.Proofs.YtllkiadedaghoaaGreat
