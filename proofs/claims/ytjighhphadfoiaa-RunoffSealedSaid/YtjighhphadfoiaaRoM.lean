/-
  Runoff: what law 25's examples answer, by reckoning.
-/
import Derived.Test.YtjighhphadfoiaaRoL
set_option linter.unusedVariables false
set_option linter.unusedSimpArgs false
namespace Go.Proofs.Ytjighhphadfoiaa
open Go.RowKit
namespace Ba
def roofD : Nat → Class := fun _ => ⟨⟨#[114, 111, 111, 102]⟩, 1000, 0, 0, 0⟩
def halfD : Nat → Class := fun _ => ⟨⟨#[104, 97, 108, 102]⟩, 500, 0, 1000000, 0⟩
def exX (l : List Int) (i : Nat) : Int := l.getD i 0
set_option maxRecDepth 100000 in
theorem wake_roof (A A2 A3 : Option Addr) (c b o c2 b2 o2 c3 b3 o3 : Nat) : depE ⟨A, 1, c, b, o, roofD⟩ ⟨A2, 1, c2, b2, o2, exX [100]⟩ ⟨0, 60, ⟨A3, 3, c3, b3, o3, exX [5, 0, 7]⟩⟩ = 0 ∧ ∀ j, j < 3 → out ⟨A, 1, c, b, o, roofD⟩ ⟨A2, 1, c2, b2, o2, exX [100]⟩ ⟨0, 60, ⟨A3, 3, c3, b3, o3, exX [5, 0, 7]⟩⟩ j = exX [500, 0, 700] j := by
  refine ⟨by kernel_rfl, fun j hj => ?_⟩
  rcases (by omega : j = 0 ∨ j = 1 ∨ j = 2) with rfl | rfl | rfl
  · kernel_rfl
  · kernel_rfl
  · kernel_rfl
set_option maxRecDepth 100000 in
theorem wake_half (A A2 A3 : Option Addr) (c b o c2 b2 o2 c3 b3 o3 : Nat) : depE ⟨A, 1, c, b, o, halfD⟩ ⟨A2, 1, c2, b2, o2, exX [1]⟩ ⟨0, 60, ⟨A3, 4, c3, b3, o3, exX [1, 1, 1, 1]⟩⟩ = 0 ∧ ∀ j, j < 4 → out ⟨A, 1, c, b, o, halfD⟩ ⟨A2, 1, c2, b2, o2, exX [1]⟩ ⟨0, 60, ⟨A3, 4, c3, b3, o3, exX [1, 1, 1, 1]⟩⟩ j = exX [0, 1, 0, 1] j := by
  refine ⟨by kernel_rfl, fun j hj => ?_⟩
  rcases (by omega : j = 0 ∨ j = 1 ∨ j = 2 ∨ j = 3) with rfl | rfl | rfl | rfl
  · kernel_rfl
  · kernel_rfl
  · kernel_rfl
  · kernel_rfl
theorem wake_dry : ∀ j, j < 5 → upI (exX [1, 3]) 100 2 (((j + 1 : Nat) : Int) * 21600) - upI (exX [1, 3]) 100 2 ((j : Int) * 21600) = exX [12, 13, 37, 38, 12] j := by
  intro j hj
  rcases (by omega : j = 0 ∨ j = 1 ∨ j = 2 ∨ j = 3 ∨ j = 4) with rfl | rfl | rfl | rfl | rfl
  · kernel_rfl
  · kernel_rfl
  · kernel_rfl
  · kernel_rfl
  · kernel_rfl
theorem wake_uni (A : Option Addr) (c b o : Nat) : uniB ⟨A, 2, c, b, o, exX [1, 3]⟩ = true := by kernel_rfl
theorem wake_name : Dc.isName (⟨#[109]⟩ : ByteArray).data.toList = true := by kernel_rfl
end Ba
end Go.Proofs.Ytjighhphadfoiaa
