/-
  BalanceSteps returns true for all its arguments, and leaves them as they were. No condition.
-/
import Derived.Test.YthkmgnaeponfcaaBaSteps
import Derived.Test.YthkmgnaeponfcaaBaAwk
import Derived.Test.YthkmgnaeponfcaaBaKit
set_option linter.unusedVariables false
set_option linter.unusedSimpArgs false
namespace Go.Proofs.Ythkmgnaeponfcaa
open Go.ChangeShapes Go.WideShapes Go.ChangeAt Go.RowKit Go.Joins
set_option maxRecDepth 100000 in
theorem steps_lifted (os : Os) (started : os.Started) (H : Type) (enc : TypeId × Value → H) :
    ReturnsInHanded {} Try.checked os 3 .any (Rows.balanceStepsSpec.pre6 enc Try.prog Try.f3 Rows.balanceStepsRow.domain false) (Rows.balanceStepsSpec.post enc Try.prog Try.f3 false true false false) := by
  refine returnsInHanded_of_change (C := Try.checked) fr_own started (by kernel_rfl) Try.func3
    (ChangeSpec.witness6 (enc := enc) (C := Try.checked) false ⟨#[], #[.agg #[.slice none 0 0, .slice none 0 0, .slice none 0 0, .slice none 0 0, .slice none 0 0, .slice none 0 0, .slice none 0 0, .slice none 0 0, .slice none 0 0, .slice none 0 0, .slice none 0 0, .int .i64 0, .int .i64 0, .slice none 0 0], .slice none 0 0], []⟩ 8 (by kernel_rfl) (by kernel_rfl) (by kernel_rfl) (by kernel_rfl)) ?_
  intro W base args ds gs before hval0 hW _ _
  have hval : ∀ (j : Nat) t v, Try.f3.params[j]? = some t → args[j]? = some v → Value.okWide Try.prog W .any base t v := hval0
  have hW' := hW
  obtain ⟨p, q, hA0, hV, rfl, _, _⟩ := hW
  have hA : DataW.TrodAll enc Try.prog W 0 (fun _ => true) true Try.f3.params.toList args.toList ds p := hA0
  have hall := hA
  rw [Try.params3] at hA hval
  obtain ⟨v0, v1, d0, d1, p0, p1, rfl, rfl, rfl, h0, h1⟩ := trodAll_two hA
  obtain ⟨rfl, rfl⟩ := trodVars_none hV
  have hlt := DataW.TrodAll.lt hall
  obtain ⟨c0, rfl, f0⟩ := fit_struct is_case Try.underlying33 (hval 0 33 v0 rfl rfl) h0
  obtain ⟨N0, L0, s0, t0, I0, g0, e0, hN0, hL0, h10, h20, hI0, hg0⟩ := Ba.case_of f0
  obtain ⟨A1, n1, c1, rfl, f1⟩ := fit_slice is_strs Try.underlying34 (hval 1 34 v1 rfl rfl) h1
  obtain ⟨T1, e1, hT1⟩ := Ba.sls_of f1
  have e1' := Ba.sl_val e1
  clear hA0 hval0
  simp only [List.append_nil, List.nil_append] at hW' hall hlt
  have key := steps_law N0 L0 s0 t0 I0 g0 T1 W hN0 hL0 h10 h20 hI0 hg0 hT1
  rw [← e0] at key
  rw [← e1'] at key
  refine key.mono fun e W' ⟨he, hg⟩ => ?_
  subst he
  refine ⟨_, rfl, _, _, _, [], p0 ++ p1, [], hW', trodAll_mk1 (shut_bool Try.underlying4 _), ?_, rfl, Below.frame hg _, fun h => by cases h⟩
  exact fr_args hg _ _ _ _ (by rw [Try.params3]; intro t ht; have hm : t ∈ [33, 34] := (by simpa using ht); have hall : ([33, 34].all fun u => Try.prog.readableRec u && decide (u < Try.prog.types.size)) = true := (by kernel_rfl); have := List.all_eq_true.1 hall t hm; simpa using this) hlt hall

theorem steps_holds : Rows.BalanceStepsSaid :=
  OpenClaim.holds_of_wide 3 Try.f3 rfl rfl rfl rfl rfl rfl rfl ⟨rfl, rfl, rfl, rfl, rfl⟩ rfl rfl rfl rfl rfl (by kernel_rfl) Try.func3 (by kernel_rfl)
    (of_decide_eq_true (by kernel_rfl)) (by unfold Func.isWrapper; first | (rw [if_pos (by decide +kernel)]; kernel_rfl) | (rw [if_neg (by decide +kernel)]; exact ⟨rfl, rfl⟩))
    (fun os started H enc _ => steps_lifted os started H enc)
#print axioms steps_holds
end Go.Proofs.Ythkmgnaeponfcaa
