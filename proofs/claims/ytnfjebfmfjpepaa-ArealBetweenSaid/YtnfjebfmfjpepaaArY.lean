/-
  Law 22: ArealBetween, all ways; slices of uint32 opened. No condition.
-/
import Derived.Test.YtnfjebfmfjpepaaArX
import Derived.Test.YtnfjebfmfjpepaaArFit
import Derived.Test.YtnfjebfmfjpepaaFitB
set_option linter.unusedVariables false
set_option linter.unusedSimpArgs false
namespace Go.Proofs.Ytnfjebfmfjpepaa
open Go.RowKit
theorem is_u32 : Is Try.prog 41 .n32 := .n32 Try.underlying41
theorem is_u32s : Is Try.prog 57 (.sl .n32) := .sl Try.underlying57 (by kernel_rfl) (by decide) is_u32
theorem Ba.slu_of {w : World} {cs : List Value} (h : Fits w (.sl .n32) cs) : ∃ s : Ba.SlU, cs = [.slice s.A s.n s.c] ∧ s.At w := by
  obtain ⟨A, n, c, rfl, h1, h2, b, o, h3, h4⟩ := h
  obtain ⟨D, hD⟩ := pick (α := Int) (P := fun i d => w.cell? ⟨b, o + i, none⟩ = some (.int .u32 d) ∧ 0 ≤ d ∧ d ≤ 4294967295) (n := n) fun i hi => by
    obtain ⟨es, -, hc, hf⟩ := h4 i hi
    simp only [Fits] at hf
    obtain ⟨x, rfl, hx1, hx2⟩ := hf
    have := hc 0 _ rfl
    simp only [Ty.size, Nat.mul_one, Nat.add_zero] at this
    exact ⟨x, this, hx1, hx2⟩
  exact ⟨⟨A, n, c, b, o, D⟩, rfl, ⟨h3, h1, h2, hD⟩⟩
theorem between_law (S : Ba.SlSer) (U : Ba.SlU) (fa oy : Int) (w : World) (hS : S.At w) (hU : U.At w) (hfa : 0 ≤ fa ∧ fa ≤ 65535) (hoy : 0 ≤ oy ∧ oy ≤ 255) : Calls Try.prog 6 #[.slice S.A S.n S.c, .slice U.A U.n U.c, .int .u16 fa, .int .u8 oy] w fun e w' => e = .returned (.bool true) ∧ Gr w w' := by
  by_cases h0 : S.n = 0
  · exact between_far S U fa oy w hS hU (.inl h0)
  by_cases h1 : 8 < S.n
  · exact between_far S U fa oy w hS hU (.inr ⟨by omega, .inl h1⟩)
  cases h2 : Ba.lonB S
  · by_cases h3 : U.n = S.n
    · by_cases h4 : Ba.giE S = 0
      · cases h5 : Ba.fitB S
        · exact between_far S U fa oy w hS hU (.inr ⟨by omega, .inr ⟨by omega, .inr ⟨h2, .inr ⟨h3, .inr ⟨h4, h5⟩⟩⟩⟩⟩)
        · exact between_main S U fa oy w hS hU hfa hoy (by omega) (by omega) h2 h3 h4 h5
      · exact between_far S U fa oy w hS hU (.inr ⟨by omega, .inr ⟨by omega, .inr ⟨h2, .inr ⟨h3, .inl h4⟩⟩⟩⟩)
    · exact between_far S U fa oy w hS hU (.inr ⟨by omega, .inr ⟨by omega, .inr ⟨h2, .inl h3⟩⟩⟩)
  · exact between_far S U fa oy w hS hU (.inr ⟨by omega, .inr ⟨by omega, .inl h2⟩⟩)
end Go.Proofs.Ytnfjebfmfjpepaa
