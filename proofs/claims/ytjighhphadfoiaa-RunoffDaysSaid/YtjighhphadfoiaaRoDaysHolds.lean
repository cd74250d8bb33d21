/-
  RunoffDays returns true for all its arguments, and leaves them as they were. No condition.
-/
import Derived.Test.YtjighhphadfoiaaRoZd
import Derived.Test.YtjighhphadfoiaaRoFit
import Derived.Test.YtjighhphadfoiaaFrame
import Derived.Test.YtjighhphadfoiaaFitB
set_option linter.unusedVariables false
set_option linter.unusedSimpArgs false
namespace Go.Proofs.Ytjighhphadfoiaa
open Go.ChangeShapes Go.WideShapes Go.ChangeAt Go.RowKit Go.Joins
theorem trodAll_five {H : Type} {enc : TypeId × Value → H} {P : Program} {w : World} {base : Nat} {spare : Nat → Bool} {held : Bool} {t0 t1 t2 t3 t4 : TypeId} {args : Array Value} {ds : List (DataW H)} {ps : List MemPlace} (h : DataW.TrodAll enc P w base spare held [t0, t1, t2, t3, t4] args.toList ds ps) :
    ∃ v0 v1 v2 v3 v4 d0 d1 d2 d3 d4 p0 p1 p2 p3 p4, args = #[v0, v1, v2, v3, v4] ∧ ds = [d0, d1, d2, d3, d4] ∧ ps = p0 ++ p1 ++ p2 ++ p3 ++ p4 ∧ DataW.Trod enc P w base spare held t0 v0 d0 p0 ∧ DataW.Trod enc P w base spare held t1 v1 d1 p1 ∧ DataW.Trod enc P w base spare held t2 v2 d2 p2 ∧ DataW.Trod enc P w base spare held t3 v3 d3 p3 ∧ DataW.Trod enc P w base spare held t4 v4 d4 p4 := by
  obtain ⟨v0, vs0, d0, ds0, p0, q0, hargs, rfl, rfl, k0, h⟩ := trodAll_cons h
  obtain ⟨v1, vs1, d1, ds1, p1, q1, rfl, rfl, rfl, k1, h⟩ := trodAll_cons h
  obtain ⟨v2, vs2, d2, ds2, p2, q2, rfl, rfl, rfl, k2, h⟩ := trodAll_cons h
  obtain ⟨v3, vs3, d3, ds3, p3, q3, rfl, rfl, rfl, k3, h⟩ := trodAll_cons h
  obtain ⟨v4, vs4, d4, ds4, p4, q4, rfl, rfl, rfl, k4, h⟩ := trodAll_cons h
  obtain ⟨rfl, rfl, rfl⟩ := trodAll_nil h
  exact ⟨v0, v1, v2, v3, v4, d0, d1, d2, d3, d4, p0, p1, p2, p3, p4, by cases args; simp_all, rfl, by simp, k0, k1, k2, k3, k4⟩
set_option maxRecDepth 100000 in
theorem days_lifted (os : Os) (started : os.Started) (H : Type) (enc : TypeId × Value → H) :
    ReturnsInHanded {} Try.checked os 6 .any (Rows.runoffDaysSpec.pre6 enc Try.prog Try.f6 Rows.runoffDaysRow.domain false) (Rows.runoffDaysSpec.post enc Try.prog Try.f6 false true false false) := by
  refine returnsInHanded_of_change (C := Try.checked) fr_own started (by kernel_rfl) Try.func6
    (ChangeSpec.witness6 (enc := enc) (C := Try.checked) false ⟨#[], #[.string ⟨#[]⟩, .int .i64 0, .slice none 0 0, .int .u8 0, .agg #[.string ⟨#[]⟩, .slice none 0 0]], []⟩ 8 (by kernel_rfl) (by kernel_rfl) (by kernel_rfl) (by kernel_rfl)) ?_
  intro W base args ds gs before hval0 hW _ _
  have hval : ∀ (j : Nat) t v, Try.f6.params[j]? = some t → args[j]? = some v → Value.okWide Try.prog W .any base t v := hval0
  have hW' := hW
  obtain ⟨p, q, hA0, hV, rfl, _, _⟩ := hW
  have hA : DataW.TrodAll enc Try.prog W 0 (fun _ => true) true Try.f6.params.toList args.toList ds p := hA0
  have hall := hA
  rw [Try.params6] at hA hval
  obtain ⟨v0, v1, v2, v3, v4, d0, d1, d2, d3, d4, p0, p1, p2, p3, p4, rfl, rfl, rfl, h0, h1, h2, h3, h4⟩ := trodAll_five hA
  obtain ⟨rfl, rfl⟩ := trodVars_none hV
  have hlt := DataW.TrodAll.lt hall
  obtain ⟨x0, rfl, rfl, rfl, ws0⟩ := Go.ChangeMaps.open_string Try.underlying9 (hval 0 9 v0 rfl rfl) h0
  have b0 : x0.size ≤ 9223372036854775807 := by have := ws0; unfold maxLen at this; omega
  obtain ⟨x1, rfl, rfl, rfl, wn1⟩ := open_int Try.underlying3 (hval 1 3 v1 rfl rfl) h1
  have b1 := bounds_i64 wn1
  obtain ⟨A2, n2, c2, rfl, f2⟩ := fit_slice is_ints Try.underlying23 (hval 2 23 v2 rfl rfl) h2
  obtain ⟨P2, e2, hP2⟩ := Ba.sli_of f2
  have e2' := Ba.sl_val e2
  obtain ⟨x3, rfl, rfl, rfl, wn3⟩ := open_int Try.underlying5 (hval 3 5 v3 rfl rfl) h3
  have b3 := bounds_u8 wn3
  obtain ⟨c4, rfl, f4⟩ := fit_struct is_inflow Try.underlying48 (hval 4 48 v4 rfl rfl) h4
  obtain ⟨F4, e4, hF4⟩ := Ba.inflowv_of f4
  clear hA0 hval0
  simp only [List.append_nil, List.nil_append] at hW' hall hlt
  have key := days_law x0 x1 P2 x3 F4 W b0 b1 hP2 b3 hF4
  rw [← e2'] at key
  rw [← e4] at key
  refine key.mono fun e W' ⟨he, hg⟩ => ?_
  subst he
  refine ⟨_, rfl, _, _, _, [], p2 ++ p4, [], hW', trodAll_mk1 (shut_bool Try.underlying4 _), ?_, rfl, Below.frame hg _, fun h => by cases h⟩
  exact fr_args hg _ _ _ _ (by rw [Try.params6]; intro t ht; have hm : t ∈ [9, 3, 23, 5, 48] := (by simpa using ht); have hall : ([9, 3, 23, 5, 48].all fun u => Try.prog.readableRec u && decide (u < Try.prog.types.size)) = true := (by kernel_rfl); have := List.all_eq_true.1 hall t hm; simpa using this) hlt hall

theorem days_holds : Rows.RunoffDaysSaid :=
  OpenClaim.holds_of_wide 6 Try.f6 rfl rfl rfl rfl rfl rfl rfl ⟨rfl, rfl, rfl, rfl, rfl⟩ rfl rfl rfl rfl rfl (by kernel_rfl) Try.func6 (by kernel_rfl)
    (of_decide_eq_true (by kernel_rfl)) (by unfold Func.isWrapper; first | (rw [if_pos (by decide +kernel)]; kernel_rfl) | (rw [if_neg (by decide +kernel)]; exact ⟨rfl, rfl⟩))
    (fun os started H enc _ => days_lifted os started H enc)
#print axioms days_holds
end Go.Proofs.Ytjighhphadfoiaa
