/-
  ArealMeans returns true for all its arguments, and leaves them as they were. No condition.
-/
import Derived.Test.YtnfjebfmfjpepaaArR
import Derived.Test.YtnfjebfmfjpepaaArFit
import Derived.Test.YtnfjebfmfjpepaaFitB
import Derived.Test.YtnfjebfmfjpepaaFrame
set_option linter.unusedVariables false
set_option linter.unusedSimpArgs false
namespace Go.Proofs.Ytnfjebfmfjpepaa
open Go.ChangeShapes Go.WideShapes Go.ChangeAt Go.RowKit Go.Joins
set_option maxRecDepth 100000 in
theorem means_lifted (os : Os) (started : os.Started) (H : Type) (enc : TypeId × Value → H) :
    ReturnsInHanded {} Try.checked os 5 .any (Rows.arealMeansSpec.pre6 enc Try.prog Try.f5 Rows.arealMeansRow.domain false) (Rows.arealMeansSpec.post enc Try.prog Try.f5 false true false false) := by
  refine returnsInHanded_of_change (C := Try.checked) fr_own started (by kernel_rfl) Try.func5
    (ChangeSpec.witness6 (enc := enc) (C := Try.checked) false ⟨#[], #[.slice none 0 0, .slice none 0 0], []⟩ 8 (by kernel_rfl) (by kernel_rfl) (by kernel_rfl) (by kernel_rfl)) ?_
  intro W base args ds gs before hval0 hW _ _
  have hval : ∀ (j : Nat) t v, Try.f5.params[j]? = some t → args[j]? = some v → Value.okWide Try.prog W .any base t v := hval0
  have hW' := hW
  obtain ⟨p, q, hA0, hV, rfl, _, _⟩ := hW
  have hA : DataW.TrodAll enc Try.prog W 0 (fun _ => true) true Try.f5.params.toList args.toList ds p := hA0
  have hall := hA
  rw [Try.params5] at hA hval
  obtain ⟨v0, v1, d0, d1, p0, p1, rfl, rfl, rfl, h0, h1⟩ := trodAll_two hA
  obtain ⟨rfl, rfl⟩ := trodVars_none hV
  have hlt := DataW.TrodAll.lt hall
  obtain ⟨A0, n0, c0, rfl, f0⟩ := fit_slice is_serieses Try.underlying43 (hval 0 43 v0 rfl rfl) h0
  obtain ⟨L0, e0, hL0⟩ := Ba.slser_of f0
  have e0' := Ba.sl_val e0
  obtain ⟨A1, n1, c1, rfl, f1⟩ := fit_slice is_ints Try.underlying30 (hval 1 30 v1 rfl rfl) h1
  obtain ⟨P1, e1, hP1⟩ := Ba.sli_of f1
  have e1' := Ba.sl_val e1
  clear hA0 hval0
  simp only [List.append_nil, List.nil_append] at hW' hall hlt
  have key := means_law L0 P1 W hL0 hP1
  rw [← e0'] at key
  rw [← e1'] at key
  refine key.mono fun e W' ⟨he, hg⟩ => ?_
  subst he
  refine ⟨_, rfl, _, _, _, [], p0 ++ p1, [], hW', trodAll_mk1 (shut_bool Try.underlying4 _), ?_, rfl, Below.frame hg _, fun h => by cases h⟩
  exact fr_args hg _ _ _ _ (by rw [Try.params5]; intro t ht; have hm : t ∈ [43, 30] := (by simpa using ht); have hall : ([43, 30].all fun u => Try.prog.readableRec u && decide (u < Try.prog.types.size)) = true := (by kernel_rfl); have := List.all_eq_true.1 hall t hm; simpa using this) hlt hall

theorem means_holds : Rows.ArealMeansSaid :=
  OpenClaim.holds_of_wide 5 Try.f5 rfl rfl rfl rfl rfl rfl rfl ⟨rfl, rfl, rfl, rfl, rfl⟩ rfl rfl rfl rfl rfl (by kernel_rfl) Try.func5 (by kernel_rfl)
    (of_decide_eq_true (by kernel_rfl)) (by unfold Func.isWrapper; first | (rw [if_pos (by decide +kernel)]; kernel_rfl) | (rw [if_neg (by decide +kernel)]; exact ⟨rfl, rfl⟩))
    (fun os started H enc _ => means_lifted os started H enc)
#print axioms means_holds
end Go.Proofs.Ytnfjebfmfjpepaa
