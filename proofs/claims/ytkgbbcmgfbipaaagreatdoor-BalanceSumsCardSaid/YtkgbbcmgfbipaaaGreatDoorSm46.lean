/-
  Sets of nodes by their names: the plain words.
  Sets of nodes by their names: the reference's Set. (Printed by mkset.py.)
-/
import Derived.Test.YtkgbbcmgfbipaaaGreatDoorSm24
import Derived.Test.YtkgbbcmgfbipaaaGreatDoorSm11
import Derived.Test.YtkgbbcmgfbipaaaGreatDoorSm37
import Derived.Deep.RegionHeld3
import Derived.Deep.DrawnRows
set_option linter.unusedVariables false
set_option linter.unusedSimpArgs false
namespace Go.Proofs.YtkgbbcmgfbipaaaGreatDoor
open Go.RowKit
namespace Ba
/-- The nodes of the first names; is a node named twice; is a name no node's. -/
def setX (ix : Nat → Int) : Nat → Nat → Bool
  | 0, _ => false
  | k + 1, j => if ix k = (j : Int) then true else setX ix k j
def twB (ix : Nat → Int) : Nat → Bool
  | 0 => false
  | k + 1 => twB ix k || setX ix k (ix k).toNat
/-- The names' numbers. -/
def ixs (N : SlNode) (T : SlS) (k : Nat) : Int := nix N (T.X k)
/-- All names are nodes'. -/
def knoB (N : SlNode) (T : SlS) : Bool := allB (fun k => decide (0 ≤ ixs N T k)) T.n
/-- The error of a set. -/
def setE (N : SlNode) (T : SlS) : Int := if knoB N T = false then 9 else if twB (ixs N T) T.n = true then 10 else 0
theorem nix_ok {N : SlNode} {t : ByteArray} (h : 0 ≤ nix N t) : nix N t = ((nix N t).toNat : Int) ∧ (nix N t).toNat < N.n := by
  rcases nix_cases N t with e | ⟨j, hj, e, -⟩
  · omega
  · rw [e]; exact ⟨by simp, by simpa using hj⟩
end Ba
end Go.Proofs.YtkgbbcmgfbipaaaGreatDoor
set_option linter.unusedVariables false
set_option linter.unusedSimpArgs false
namespace Go.Proofs.YtkgbbcmgfbipaaaGreatDoor
open Go.RowKit
attribute [local go_sem ↓] Go.wp_at_zero Go.wp_at_succ
theorem info_bool' : (Tryz.prog.info? 4).map (fun i => (i.zero, i.size, i.bytes)) = some (some (.bool false), 1, 1) := by kernel_rfl
theorem Ba.knoB_go {ix : Nat → Int} {i : Nat} (h : Ba.allB (fun k => decide (0 ≤ ix k)) i = true) (h2 : 0 ≤ ix i) : Ba.allB (fun k => decide (0 ≤ ix k)) (i + 1) = true := Ba.allB_go h (decide_eq_true h2)
theorem Ba.knoB_no {ix : Nat → Int} {i n : Nat} (hi : i < n) (h2 : ix i < 0) : Ba.allB (fun k => decide (0 ≤ ix k)) n = false := Ba.allB_stop hi (decide_eq_false (by omega))
end Go.Proofs.YtkgbbcmgfbipaaaGreatDoor
