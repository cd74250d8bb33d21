/-
  ArealBetween returns true for all its arguments, and leaves them as they were. No condition.
-/
import Derived.Test.YtnfjebfmfjpepaaArY
import Derived.Test.YtnfjebfmfjpepaaFrame
import Derived.Test.YtnfjebfmfjpepaaFitB
set_option linter.unusedVariables false
set_option linter.unusedSimpArgs false
namespace Go.Proofs.Ytnfjebfmfjpepaa
open Go.ChangeShapes Go.WideShapes Go.ChangeAt Go.RowKit Go.Joins
set_option maxRecDepth 100000 in
theorem between_lifted (os : Os) (started : os.Started) (H : Type) (enc : TypeId × Value → H) :
    ReturnsInHanded {} Try.checked os 6 .any (Rows.arealBetweenSpec.pre6 enc Try.prog Try.f6 Rows.arealBetweenRow.domain false) (Rows.arealBetweenSpec.post enc Try.prog Try.f6 false true false false) := by
  refine returnsInHanded_of_change (C := Try.checked) fr_own started (by kernel_rfl) Try.func6
    (ChangeSpec.witness6 (enc := enc) (C := Try.checked) false ⟨#[], #[.slice none 0 0, .slice none 0 0, .int .u16 0, .int .u8 0], []⟩ 8 (by kernel_rfl) (by kernel_rfl) (by kernel_rfl) (by kernel_rfl)) ?_
  intro W base args ds gs before hval0 hW _ _
  have hval : ∀ (j : Nat) t v, Try.f6.params[j]? = some t → args[j]? = some v → Value.okWide Try.prog W .any base t v := hval0
  have hW' := hW
  obtain ⟨p, q, hA0, hV, rfl, _, _⟩ := hW
  have hA : DataW.TrodAll enc Try.prog W 0 (fun _ => true) true Try.f6.params.toList args.toList ds p := hA0
  have hall := hA
  rw [Try.params6] at hA hval
  obtain ⟨v0, v1, v2, v3, d0, d1, d2, d3, p0, p1, p2, p3, rfl, rfl, rfl, h0, h1, h2, h3⟩ := trodAll_four hA
  obtain ⟨rfl, rfl⟩ := trodVars_none hV
  have hlt := DataW.TrodAll.lt hall
  obtain ⟨A0, n0, c0, rfl, f0⟩ := fit_slice is_serieses Try.underlying43 (hval 0 43 v0 rfl rfl) h0
  obtain ⟨L0, e0, hL0⟩ := Ba.slser_of f0
  have e0' := Ba.sl_val e0
  obtain ⟨A1, n1, c1, rfl, f1⟩ := fit_slice is_u32s Try.underlying57 (hval 1 57 v1 rfl rfl) h1
  obtain ⟨U1, e1, hU1⟩ := Ba.slu_of f1
  have e1' := Ba.sl_val e1
  obtain ⟨x2, rfl, rfl, rfl, wn2⟩ := open_int Try.underlying58 (hval 2 58 v2 rfl rfl) h2
  have b2 := bounds_u16 wn2
  obtain ⟨x3, rfl, rfl, rfl, wn3⟩ := open_int Try.underlying5 (hval 3 5 v3 rfl rfl) h3
  have b3 := bounds_u8 wn3
  clear hA0 hval0
  simp only [List.append_nil, List.nil_append] at hW' hall hlt
  have key := between_law L0 U1 x2 x3 W hL0 hU1 b2 b3
  rw [← e0'] at key
  rw [← e1'] at key
  refine key.mono fun e W' ⟨he, hg⟩ => ?_
  subst he
  refine ⟨_, rfl, _, _, _, [], p0 ++ p1, [], hW', trodAll_mk1 (shut_bool Try.underlying4 _), ?_, rfl, Below.frame hg _, fun h => by cases h⟩
  exact fr_args hg _ _ _ _ (by rw [Try.params6]; intro t ht; have hm : t ∈ [43, 57, 58, 5] := (by simpa using ht); have hall : ([43, 57, 58, 5].all fun u => Try.prog.readableRec u && decide (u < Try.prog.types.size)) = true := (by kernel_rfl); have := List.all_eq_true.1 hall t hm; simpa using this) hlt hall

theorem between_holds : Rows.ArealBetweenSaid :=
  OpenClaim.holds_of_wide 6 Try.f6 rfl rfl rfl rfl rfl rfl rfl ⟨rfl, rfl, rfl, rfl, rfl⟩ rfl rfl rfl rfl rfl (by kernel_rfl) Try.func6 (by kernel_rfl)
    (of_decide_eq_true (by kernel_rfl)) (by unfold Func.isWrapper; first | (rw [if_pos (by decide +kernel)]; kernel_rfl) | (rw [if_neg (by decide +kernel)]; exact ⟨rfl, rfl⟩))
    (fun os started H enc _ => between_lifted os started H enc)
#print axioms between_holds
end Go.Proofs.Ytnfjebfmfjpepaa
