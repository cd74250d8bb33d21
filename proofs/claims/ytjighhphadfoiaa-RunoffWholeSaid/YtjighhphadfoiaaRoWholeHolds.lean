/-
  RunoffWhole returns true for all its arguments, and leaves them as they were. No condition.
-/
import Derived.Test.YtjighhphadfoiaaRoXc
import Derived.Test.YtjighhphadfoiaaRoFit
import Derived.Test.YtjighhphadfoiaaFrame
import Derived.Test.YtjighhphadfoiaaFitB
set_option linter.unusedVariables false
set_option linter.unusedSimpArgs false
namespace Go.Proofs.Ytjighhphadfoiaa
open Go.ChangeShapes Go.WideShapes Go.ChangeAt Go.RowKit Go.Joins
set_option maxRecDepth 100000 in
theorem whole_lifted (os : Os) (started : os.Started) (H : Type) (enc : TypeId × Value → H) :
    ReturnsInHanded {} Try.checked os 7 .any (Rows.runoffWholeSpec.pre6 enc Try.prog Try.f7 Rows.runoffWholeRow.domain false) (Rows.runoffWholeSpec.post enc Try.prog Try.f7 false true false false) := by
  refine returnsInHanded_of_change (C := Try.checked) fr_own started (by kernel_rfl) Try.func7
    (ChangeSpec.witness6 (enc := enc) (C := Try.checked) false ⟨#[], #[.slice none 0 0, .slice none 0 0, .slice none 0 0, .agg #[.int .i64 0, .int .i64 0, .slice none 0 0]], []⟩ 8 (by kernel_rfl) (by kernel_rfl) (by kernel_rfl) (by kernel_rfl)) ?_
  intro W base args ds gs before hval0 hW _ _
  have hval : ∀ (j : Nat) t v, Try.f7.params[j]? = some t → args[j]? = some v → Value.okWide Try.prog W .any base t v := hval0
  have hW' := hW
  obtain ⟨p, q, hA0, hV, rfl, _, _⟩ := hW
  have hA : DataW.TrodAll enc Try.prog W 0 (fun _ => true) true Try.f7.params.toList args.toList ds p := hA0
  have hall := hA
  rw [Try.params7] at hA hval
  obtain ⟨v0, v1, v2, v3, d0, d1, d2, d3, p0, p1, p2, p3, rfl, rfl, rfl, h0, h1, h2, h3⟩ := trodAll_four hA
  obtain ⟨rfl, rfl⟩ := trodVars_none hV
  have hlt := DataW.TrodAll.lt hall
  obtain ⟨A0, n0, c0, rfl, f0⟩ := fit_slice is_classes Try.underlying22 (hval 0 22 v0 rfl rfl) h0
  obtain ⟨C0, e0, hC0⟩ := Ba.slclass_of f0
  have e0' := Ba.sl_val e0
  obtain ⟨A1, n1, c1, rfl, f1⟩ := fit_slice is_ints Try.underlying23 (hval 1 23 v1 rfl rfl) h1
  obtain ⟨P1, e1, hP1⟩ := Ba.sli_of f1
  have e1' := Ba.sl_val e1
  obtain ⟨A2, n2, c2, rfl, f2⟩ := fit_slice is_ints Try.underlying23 (hval 2 23 v2 rfl rfl) h2
  obtain ⟨P2, e2, hP2⟩ := Ba.sli_of f2
  have e2' := Ba.sl_val e2
  obtain ⟨c3, rfl, f3⟩ := fit_struct is_series Try.underlying25 (hval 3 25 v3 rfl rfl) h3
  obtain ⟨S3, e3, hS3⟩ := Ba.ser_of f3
  clear hA0 hval0
  simp only [List.append_nil, List.nil_append] at hW' hall hlt
  have key := whole_law C0 P1 P2 S3 W hC0 hP1 hP2 hS3
  rw [← e0'] at key
  rw [← e1'] at key
  rw [← e2'] at key
  rw [← e3] at key
  refine key.mono fun e W' ⟨he, hg⟩ => ?_
  subst he
  refine ⟨_, rfl, _, _, _, [], p0 ++ p1 ++ p2 ++ p3, [], hW', trodAll_mk1 (shut_bool Try.underlying4 _), ?_, rfl, Below.frame hg _, fun h => by cases h⟩
  exact fr_args hg _ _ _ _ (by rw [Try.params7]; intro t ht; have hm : t ∈ [22, 23, 23, 25] := (by simpa using ht); have hall : ([22, 23, 23, 25].all fun u => Try.prog.readableRec u && decide (u < Try.prog.types.size)) = true := (by kernel_rfl); have := List.all_eq_true.1 hall t hm; simpa using this) hlt hall

theorem whole_holds : Rows.RunoffWholeSaid :=
  OpenClaim.holds_of_wide 7 Try.f7 rfl rfl rfl rfl rfl rfl rfl ⟨rfl, rfl, rfl, rfl, rfl⟩ rfl rfl rfl rfl rfl (by kernel_rfl) Try.func7 (by kernel_rfl)
    (of_decide_eq_true (by kernel_rfl)) (by unfold Func.isWrapper; first | (rw [if_pos (by decide +kernel)]; kernel_rfl) | (rw [if_neg (by decide +kernel)]; exact ⟨rfl, rfl⟩))
    (fun os started H enc _ => whole_lifted os started H enc)
#print axioms whole_holds
end Go.Proofs.Ytjighhphadfoiaa
