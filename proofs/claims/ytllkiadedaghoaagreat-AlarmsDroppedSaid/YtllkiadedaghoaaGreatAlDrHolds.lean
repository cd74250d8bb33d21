/-
  AlarmsDropped returns true for all its arguments, and leaves them as they were. No condition.
-/
import Derived.Test.YtllkiadedaghoaaGreatAnD
import Derived.Test.YtllkiadedaghoaaGreatCm46
set_option linter.unusedVariables false
set_option linter.unusedSimpArgs false
namespace Go.Proofs.YtllkiadedaghoaaGreat
open Go.ChangeShapes Go.WideShapes Go.ChangeAt Go.RowKit Go.Joins
set_option maxRecDepth 100000 in
theorem dropped_lifted (os : Os) (started : os.Started) (H : Type) (enc : TypeId × Value → H) :
    ReturnsInHanded {} Tryz.checked os 6 .any (Rows.alarmsDroppedSpec.pre6 enc Tryz.prog Tryz.f6 Rows.alarmsDroppedRow.domain false) (Rows.alarmsDroppedSpec.post enc Tryz.prog Tryz.f6 false true false false) := by
  refine returnsInHanded_of_change (C := Tryz.checked) fr_own started (by kernel_rfl) Tryz.func6
    (ChangeSpec.witness6 (enc := enc) (C := Tryz.checked) false ⟨#[], #[.agg #[.slice none 0 0, .slice none 0 0], .slice none 0 0, .agg #[.int .i64 0, .int .i64 0, .int .i64 0], .int .u8 0], []⟩ 8 (by kernel_rfl) (by kernel_rfl) (by kernel_rfl) (by kernel_rfl)) ?_
  intro W base args ds gs before hval0 hW _ _
  have hval : ∀ (j : Nat) t v, Tryz.f6.params[j]? = some t → args[j]? = some v → Value.okWide Tryz.prog W .any base t v := hval0
  have hW' := hW
  obtain ⟨p, q, hA0, hV, rfl, _, _⟩ := hW
  have hA : DataW.TrodAll enc Tryz.prog W 0 (fun _ => true) true Tryz.f6.params.toList args.toList ds p := hA0
  have hall := hA
  rw [Tryz.params6] at hA hval
  obtain ⟨v0, v1, v2, v3, d0, d1, d2, d3, p0, p1, p2, p3, rfl, rfl, rfl, h0, h1, h2, h3⟩ := trodAll_four hA
  obtain ⟨rfl, rfl⟩ := trodVars_none hV
  have hlt := DataW.TrodAll.lt hall
  obtain ⟨c0, rfl, f0⟩ := fit_struct is_net Tryz.underlying28 (hval 0 28 v0 rfl rfl) h0
  obtain ⟨N0, L0, e0, hN0, hL0⟩ := Ba.netv_of f0
  obtain ⟨A1, n1, c1, rfl, f1⟩ := fit_slice is_msgs Tryz.underlying22 (hval 1 22 v1 rfl rfl) h1
  obtain ⟨M1, e1, hM1⟩ := Al.slm_of f1
  have e1' := Ba.sl_val e1
  obtain ⟨c2, rfl, f2⟩ := fit_struct is_lims Tryz.underlying41 (hval 2 41 v2 rfl rfl) h2
  obtain ⟨J2, S2, T2, e2, hJ2, hS2, hT2⟩ := Al.lims_of f2
  obtain ⟨x3, rfl, rfl, rfl, wn3⟩ := open_int Tryz.underlying5 (hval 3 5 v3 rfl rfl) h3
  have b3 := bounds_u8 wn3
  clear hA0 hval0
  simp only [List.append_nil, List.nil_append] at hW' hall hlt
  have key := dropped_in N0 L0 M1 J2 S2 T2 x3 W hN0 hL0 hM1 hJ2 hS2 hT2 b3
  rw [← e0] at key
  rw [← e1'] at key
  rw [← e2] at key
  refine key.mono fun e W' ⟨he, hg⟩ => ?_
  subst he
  refine ⟨_, rfl, _, _, _, [], p0 ++ p1 ++ p2, [], hW', trodAll_mk1 (shut_bool Tryz.underlying4 _), ?_, rfl, Below.frame hg _, fun h => by cases h⟩
  exact fr_args hg _ _ _ _ (by rw [Tryz.params6]; intro t ht; have hm : t ∈ [28, 22, 41, 5] := (by simpa using ht); have hall : ([28, 22, 41, 5].all fun u => Tryz.prog.readableRec u && decide (u < Tryz.prog.types.size)) = true := (by kernel_rfl); have := List.all_eq_true.1 hall t hm; simpa using this) hlt hall

theorem dropped_holds : Rows.AlarmsDroppedSaid :=
  OpenClaim.holds_of_wide 6 Tryz.f6 rfl rfl rfl rfl rfl rfl rfl ⟨rfl, rfl, rfl, rfl, rfl⟩ rfl rfl rfl rfl rfl (by kernel_rfl) Tryz.func6 (by kernel_rfl)
    (of_decide_eq_true (by kernel_rfl)) (by unfold Func.isWrapper; first | (rw [if_pos (by decide +kernel)]; kernel_rfl) | (rw [if_neg (by decide +kernel)]; exact ⟨rfl, rfl⟩))
    (fun os started H enc _ => dropped_lifted os started H enc)
#print axioms dropped_holds
end Go.Proofs.YtllkiadedaghoaaGreat
