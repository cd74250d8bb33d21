/-
  BalanceNodes returns true for all its arguments, and leaves them as they were. No condition.
-/
import Derived.Test.YthkmgnaeponfcaaBaNodes
import Derived.Test.YthkmgnaeponfcaaBaAwk
import Derived.Test.YthkmgnaeponfcaaBaKit
set_option linter.unusedVariables false
set_option linter.unusedSimpArgs false
namespace Go.Proofs.Ythkmgnaeponfcaa
open Go.ChangeShapes Go.WideShapes Go.ChangeAt Go.RowKit Go.Joins
theorem nil_slice {P : Program} {W : World} {r : Reach} {b0 : Nat} {t e : TypeId} {A : Option Addr} {n c : Nat} (ht : P.underlying t = some (.slice e)) (hv : Value.okWide P W r b0 t (.slice A n c)) : A = none → c = 0 := by
  rintro rfl
  unfold Value.okWide at hv
  rw [ht] at hv
  simp only [Cell.okWide, Cell.ok, ht] at hv
  split at hv <;> simp_all
theorem trodAll_eight {H : Type} {enc : TypeId × Value → H} {P : Program} {w : World} {base : Nat} {spare : Nat → Bool} {held : Bool} {t0 t1 t2 t3 t4 t5 t6 t7 : TypeId} {args : Array Value} {ds : List (DataW H)} {ps : List MemPlace} (h : DataW.TrodAll enc P w base spare held [t0, t1, t2, t3, t4, t5, t6, t7] args.toList ds ps) :
    ∃ v0 v1 v2 v3 v4 v5 v6 v7 d0 d1 d2 d3 d4 d5 d6 d7 p0 p1 p2 p3 p4 p5 p6 p7, args = #[v0, v1, v2, v3, v4, v5, v6, v7] ∧ ds = [d0, d1, d2, d3, d4, d5, d6, d7] ∧ ps = p0 ++ p1 ++ p2 ++ p3 ++ p4 ++ p5 ++ p6 ++ p7 ∧ DataW.Trod enc P w base spare held t0 v0 d0 p0 ∧ DataW.Trod enc P w base spare held t1 v1 d1 p1 ∧ DataW.Trod enc P w base spare held t2 v2 d2 p2 ∧ DataW.Trod enc P w base spare held t3 v3 d3 p3 ∧ DataW.Trod enc P w base spare held t4 v4 d4 p4 ∧ DataW.Trod enc P w base spare held t5 v5 d5 p5 ∧ DataW.Trod enc P w base spare held t6 v6 d6 p6 ∧ DataW.Trod enc P w base spare held t7 v7 d7 p7 := by
  obtain ⟨v0, vs0, d0, ds0, p0, q0, hargs, rfl, rfl, k0, h⟩ := trodAll_cons h
  obtain ⟨v1, vs1, d1, ds1, p1, q1, rfl, rfl, rfl, k1, h⟩ := trodAll_cons h
  obtain ⟨v2, vs2, d2, ds2, p2, q2, rfl, rfl, rfl, k2, h⟩ := trodAll_cons h
  obtain ⟨v3, vs3, d3, ds3, p3, q3, rfl, rfl, rfl, k3, h⟩ := trodAll_cons h
  obtain ⟨v4, vs4, d4, ds4, p4, q4, rfl, rfl, rfl, k4, h⟩ := trodAll_cons h
  obtain ⟨v5, vs5, d5, ds5, p5, q5, rfl, rfl, rfl, k5, h⟩ := trodAll_cons h
  obtain ⟨v6, vs6, d6, ds6, p6, q6, rfl, rfl, rfl, k6, h⟩ := trodAll_cons h
  obtain ⟨v7, vs7, d7, ds7, p7, q7, rfl, rfl, rfl, k7, h⟩ := trodAll_cons h
  obtain ⟨rfl, rfl, rfl⟩ := trodAll_nil h
  exact ⟨v0, v1, v2, v3, v4, v5, v6, v7, d0, d1, d2, d3, d4, d5, d6, d7, p0, p1, p2, p3, p4, p5, p6, p7, by cases args; simp_all, rfl, by simp, k0, k1, k2, k3, k4, k5, k6, k7⟩
set_option maxRecDepth 100000 in
theorem nodes_lifted (os : Os) (started : os.Started) (H : Type) (enc : TypeId × Value → H) :
    ReturnsInHanded {} Try.checked os 7 .any (Rows.balanceNodesSpec.pre6 enc Try.prog Try.f7 Rows.balanceNodesRow.domain false) (Rows.balanceNodesSpec.post enc Try.prog Try.f7 false true false false) := by
  refine returnsInHanded_of_change (C := Try.checked) fr_own started (by kernel_rfl) Try.func7
    (ChangeSpec.witness6 (enc := enc) (C := Try.checked) false ⟨#[], #[.agg #[.slice none 0 0, .slice none 0 0], .slice none 0 0, .slice none 0 0, .string ⟨#[]⟩, .int .i64 0, .int .i64 0, .int .i64 0, .slice none 0 0], []⟩ 8 (by kernel_rfl) (by kernel_rfl) (by kernel_rfl) (by kernel_rfl)) ?_
  intro W base args ds gs before hval0 hW _ _
  have hval : ∀ (j : Nat) t v, Try.f7.params[j]? = some t → args[j]? = some v → Value.okWide Try.prog W .any base t v := hval0
  have hW' := hW
  obtain ⟨p, q, hA0, hV, rfl, _, _⟩ := hW
  have hA : DataW.TrodAll enc Try.prog W 0 (fun _ => true) true Try.f7.params.toList args.toList ds p := hA0
  have hall := hA
  rw [Try.params7] at hA hval
  obtain ⟨v0, v1, v2, v3, v4, v5, v6, v7, d0, d1, d2, d3, d4, d5, d6, d7, p0, p1, p2, p3, p4, p5, p6, p7, rfl, rfl, rfl, h0, h1, h2, h3, h4, h5, h6, h7⟩ := trodAll_eight hA
  obtain ⟨rfl, rfl⟩ := trodVars_none hV
  have hlt := DataW.TrodAll.lt hall
  obtain ⟨c0, rfl, f0⟩ := fit_struct is_net Try.underlying25 (hval 0 25 v0 rfl rfl) h0
  obtain ⟨N0, L0, e0, hN0, hL0⟩ := Ba.netv_of f0
  obtain ⟨A1, n1, c1, rfl, f1⟩ := fit_slice is_strs Try.underlying34 (hval 1 34 v1 rfl rfl) h1
  obtain ⟨T1, e1, hT1⟩ := Ba.sls_of f1
  have e1' := Ba.sl_val e1
  have z1 := nil_slice Try.underlying34 (hval 1 34 _ rfl rfl)
  have z1' : T1.A = none → T1.c = 0 := by
    simp only [Value.slice.injEq] at e1'
    rw [← e1'.1, ← e1'.2.2]; exact z1
  obtain ⟨A2, n2, c2, rfl, f2⟩ := fit_slice is_strs Try.underlying34 (hval 2 34 v2 rfl rfl) h2
  obtain ⟨T2, e2, hT2⟩ := Ba.sls_of f2
  have e2' := Ba.sl_val e2
  have z2 := nil_slice Try.underlying34 (hval 2 34 _ rfl rfl)
  have z2' : T2.A = none → T2.c = 0 := by
    simp only [Value.slice.injEq] at e2'
    rw [← e2'.1, ← e2'.2.2]; exact z2
  obtain ⟨x3, rfl, rfl, rfl, ws3⟩ := Go.ChangeMaps.open_string Try.underlying9 (hval 3 9 v3 rfl rfl) h3
  have b3 : x3.size ≤ 9223372036854775807 := by have := ws3; unfold maxLen at this; omega
  obtain ⟨x4, rfl, rfl, rfl, wn4⟩ := open_int Try.underlying3 (hval 4 3 v4 rfl rfl) h4
  have b4 := bounds_i64 wn4
  obtain ⟨x5, rfl, rfl, rfl, wn5⟩ := open_int Try.underlying3 (hval 5 3 v5 rfl rfl) h5
  have b5 := bounds_i64 wn5
  obtain ⟨x6, rfl, rfl, rfl, wn6⟩ := open_int Try.underlying3 (hval 6 3 v6 rfl rfl) h6
  have b6 := bounds_i64 wn6
  obtain ⟨A7, n7, c7, rfl, f7⟩ := fit_slice is_ints Try.underlying26 (hval 7 26 v7 rfl rfl) h7
  obtain ⟨P7, e7, hP7⟩ := Ba.sli_of f7
  have e7' := Ba.sl_val e7
  clear hA0 hval0
  simp only [List.append_nil, List.nil_append] at hW' hall hlt
  have key := nodes_law N0 L0 T1 T2 x3 x4 x5 x6 P7 W hN0 hL0 ⟨hT1, z1'⟩ ⟨hT2, z2'⟩ b3 b4 b5 b6 hP7
  rw [← e0] at key
  rw [← e1'] at key
  rw [← e2'] at key
  rw [← e7'] at key
  refine key.mono fun e W' ⟨he, hg⟩ => ?_
  subst he
  refine ⟨_, rfl, _, _, _, [], p0 ++ p1 ++ p2 ++ p7, [], hW', trodAll_mk1 (shut_bool Try.underlying4 _), ?_, rfl, Below.frame hg _, fun h => by cases h⟩
  exact fr_args hg _ _ _ _ (by rw [Try.params7]; intro t ht; have hm : t ∈ [25, 34, 34, 9, 3, 3, 3, 26] := (by simpa using ht); have hall : ([25, 34, 34, 9, 3, 3, 3, 26].all fun u => Try.prog.readableRec u && decide (u < Try.prog.types.size)) = true := (by kernel_rfl); have := List.all_eq_true.1 hall t hm; simpa using this) hlt hall

theorem nodes_holds : Rows.BalanceNodesSaid :=
  OpenClaim.holds_of_wide 7 Try.f7 rfl rfl rfl rfl rfl rfl rfl ⟨rfl, rfl, rfl, rfl, rfl⟩ rfl rfl rfl rfl rfl (by kernel_rfl) Try.func7 (by kernel_rfl)
    (of_decide_eq_true (by kernel_rfl)) (by unfold Func.isWrapper; first | (rw [if_pos (by decide +kernel)]; kernel_rfl) | (rw [if_neg (by decide +kernel)]; exact ⟨rfl, rfl⟩))
    (fun os started H enc _ => nodes_lifted os started H enc)
#print axioms nodes_holds
end Go.Proofs.Ythkmgnaeponfcaa
