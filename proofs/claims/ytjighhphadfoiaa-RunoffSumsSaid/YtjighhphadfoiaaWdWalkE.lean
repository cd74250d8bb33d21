import Derived.Test.YtjighhphadfoiaaWdWalkD
set_option linter.unusedVariables false
set_option linter.unusedSimpArgs false
namespace Go.Proofs.Ytjighhphadfoiaa
open Go.RowKit

theorem value_v (h l : Int) (w : World) (hv : Wd.vld h l = true) :
    Calls Try.prog 116 #[.agg #[.int .i64 h, .int .i64 l]] w fun e w' => e = .returned (.agg #[.int .u64 (Wd.hi (Wd.val h l)), .int .u64 (Wd.lo (Wd.val h l)), .bool (Wd.neg (Wd.val h l))]) ∧ Gr w w' := by
  obtain ⟨v0, v1, v2, v3⟩ := Wd.vld_true hv
  exact value_any h l w v0 v1 v2 v3
end Go.Proofs.Ytjighhphadfoiaa
