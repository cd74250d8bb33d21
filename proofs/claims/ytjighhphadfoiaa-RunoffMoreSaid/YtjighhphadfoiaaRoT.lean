/-
  Law 25: RunoffMore, all ways.
-/
import Derived.Test.YtjighhphadfoiaaRoS
set_option linter.unusedVariables false
set_option linter.unusedSimpArgs false
namespace Go.Proofs.Ytjighhphadfoiaa
open Go.RowKit
theorem more_law (C : Ba.SlClass) (a : Ba.SlI) (s : Ba.Ser) (more part : Int) (w : World) (hC : C.At w) (ha : a.At w) (hs : s.Ok w) (hmo : 0 ≤ more ∧ more ≤ 65535) (hpa : 0 ≤ part ∧ part ≤ 4294967295) : Calls Try.prog 3 #[.slice C.A C.n C.c, .slice a.A a.n a.c, s.val, .int .u16 more, .int .u32 part] w fun e w' => e = .returned (.bool true) ∧ Gr w w' := by
  cases hf : Ba.fewB C a s
  · exact more_far C a s more part w hC ha hs (.inl hf)
  by_cases hq : 15 < C.n ∨ s.ds.n = 0
  · exact more_far C a s more part w hC ha hs (.inr ⟨hf, hq⟩)
  by_cases he : Ba.depE C a s = 0
  · exact more_ok C a s more part w hC ha hs hmo hpa hf (by omega) (by omega) he
  · exact more_no C a s more part w hC ha hs hf (by omega) (by omega) he
end Go.Proofs.Ytjighhphadfoiaa
