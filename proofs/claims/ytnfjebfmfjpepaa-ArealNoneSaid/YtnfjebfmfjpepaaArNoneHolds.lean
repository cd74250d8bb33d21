/-
  ArealNone returns true for all its arguments, and leaves them as they were. No condition.
-/
import Derived.Test.YtnfjebfmfjpepaaArT
import Derived.Test.YtnfjebfmfjpepaaArFit
import Derived.Test.YtnfjebfmfjpepaaFitB
import Derived.Test.YtnfjebfmfjpepaaFrame
set_option linter.unusedVariables false
set_option linter.unusedSimpArgs false
namespace Go.Proofs.Ytnfjebfmfjpepaa
open Go.ChangeShapes Go.WideShapes Go.ChangeAt Go.RowKit Go.Joins
set_option maxRecDepth 100000 in
theorem none_lifted (os : Os) (started : os.Started) (H : Type) (enc : TypeId × Value → H) :
    ReturnsInHanded {} Try.checked os 7 .any (Rows.arealNoneSpec.pre6 enc Try.prog Try.f7 Rows.arealNoneRow.domain false) (Rows.arealNoneSpec.post enc Try.prog Try.f7 false true false false) := by
  refine returnsInHanded_of_change (C := Try.checked) fr_own started (by kernel_rfl) Try.func7
    (ChangeSpec.witness6 (enc := enc) (C := Try.checked) false ⟨#[], #[.slice none 0 0, .agg #[.int .i64 0, .int .i64 0], .agg #[.int .i64 0, .int .i64 0]], []⟩ 8 (by kernel_rfl) (by kernel_rfl) (by kernel_rfl) (by kernel_rfl)) ?_
  intro W base args ds gs before hval0 hW _ _
  have hval : ∀ (j : Nat) t v, Try.f7.params[j]? = some t → args[j]? = some v → Value.okWide Try.prog W .any base t v := hval0
  have hW' := hW
  obtain ⟨p, q, hA0, hV, rfl, _, _⟩ := hW
  have hA : DataW.TrodAll enc Try.prog W 0 (fun _ => true) true Try.f7.params.toList args.toList ds p := hA0
  have hall := hA
  rw [Try.params7] at hA hval
  obtain ⟨v0, v1, v2, d0, d1, d2, p0, p1, p2, rfl, rfl, rfl, h0, h1, h2⟩ := trodAll_three hA
  obtain ⟨rfl, rfl⟩ := trodVars_none hV
  have hlt := DataW.TrodAll.lt hall
  obtain ⟨A0, n0, c0, rfl, f0⟩ := fit_slice is_gauges Try.underlying22 (hval 0 22 v0 rfl rfl) h0
  obtain ⟨G0, e0, hG0⟩ := Ba.slgauge_of f0
  have e0' := Ba.sl_val e0
  obtain ⟨c1, rfl, f1⟩ := fit_struct is_point Try.underlying24 (hval 1 24 v1 rfl rfl) h1
  obtain ⟨X1, Y1, e1, hX1, hY1⟩ := Ba.point_of f1
  obtain ⟨c2, rfl, f2⟩ := fit_struct is_point Try.underlying24 (hval 2 24 v2 rfl rfl) h2
  obtain ⟨X2, Y2, e2, hX2, hY2⟩ := Ba.point_of f2
  clear hA0 hval0
  simp only [List.append_nil, List.nil_append] at hW' hall hlt
  have key := none_law G0 X1 Y1 X2 Y2 W hG0 hX1 hY1 hX2 hY2
  rw [← e0'] at key
  rw [← e1] at key
  rw [← e2] at key
  refine key.mono fun e W' ⟨he, hg⟩ => ?_
  subst he
  refine ⟨_, rfl, _, _, _, [], p0 ++ p1 ++ p2, [], hW', trodAll_mk1 (shut_bool Try.underlying4 _), ?_, rfl, Below.frame hg _, fun h => by cases h⟩
  exact fr_args hg _ _ _ _ (by rw [Try.params7]; intro t ht; have hm : t ∈ [22, 24, 24] := (by simpa using ht); have hall : ([22, 24, 24].all fun u => Try.prog.readableRec u && decide (u < Try.prog.types.size)) = true := (by kernel_rfl); have := List.all_eq_true.1 hall t hm; simpa using this) hlt hall

theorem none_holds : Rows.ArealNoneSaid :=
  OpenClaim.holds_of_wide 7 Try.f7 rfl rfl rfl rfl rfl rfl rfl ⟨rfl, rfl, rfl, rfl, rfl⟩ rfl rfl rfl rfl rfl (by kernel_rfl) Try.func7 (by kernel_rfl)
    (of_decide_eq_true (by kernel_rfl)) (by unfold Func.isWrapper; first | (rw [if_pos (by decide +kernel)]; kernel_rfl) | (rw [if_neg (by decide +kernel)]; exact ⟨rfl, rfl⟩))
    (fun os started H enc _ => none_lifted os started H enc)
#print axioms none_holds
end Go.Proofs.Ytnfjebfmfjpepaa
