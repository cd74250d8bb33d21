/-
  BalanceAdds returns true for all its arguments, and leaves them as they were. No condition.
-/
import Derived.Test.YthkmgnaeponfcaaBaAddsL
import Derived.Test.YthkmgnaeponfcaaBaAwk
import Derived.Test.YthkmgnaeponfcaaBaKit
set_option linter.unusedVariables false
set_option linter.unusedSimpArgs false
namespace Go.Proofs.Ythkmgnaeponfcaa
open Go.ChangeShapes Go.WideShapes Go.ChangeAt Go.RowKit Go.Joins
theorem nil_slice {P : Program} {W : World} {r : Reach} {b0 : Nat} {t e : TypeId} {A : Option Addr} {n c : Nat} (ht : P.underlying t = some (.slice e)) (hv : Value.okWide P W r b0 t (.slice A n c)) : A = none → c = 0 := by
  rintro rfl
  unfold Value.okWide at hv
  rw [ht] at hv
  simp only [Cell.okWide, Cell.ok, ht] at hv
  split at hv <;> simp_all
set_option maxRecDepth 100000 in
theorem adds_lifted (os : Os) (started : os.Started) (H : Type) (enc : TypeId × Value → H) :
    ReturnsInHanded {} Try.checked os 6 .any (Rows.balanceAddsSpec.pre6 enc Try.prog Try.f6 Rows.balanceAddsRow.domain false) (Rows.balanceAddsSpec.post enc Try.prog Try.f6 false true false false) := by
  refine returnsInHanded_of_change (C := Try.checked) fr_own started (by kernel_rfl) Try.func6
    (ChangeSpec.witness6 (enc := enc) (C := Try.checked) false ⟨#[], #[.agg #[.slice none 0 0, .slice none 0 0], .slice none 0 0, .int .u8 0], []⟩ 8 (by kernel_rfl) (by kernel_rfl) (by kernel_rfl) (by kernel_rfl)) ?_
  intro W base args ds gs before hval0 hW _ _
  have hval : ∀ (j : Nat) t v, Try.f6.params[j]? = some t → args[j]? = some v → Value.okWide Try.prog W .any base t v := hval0
  have hW' := hW
  obtain ⟨p, q, hA0, hV, rfl, _, _⟩ := hW
  have hA : DataW.TrodAll enc Try.prog W 0 (fun _ => true) true Try.f6.params.toList args.toList ds p := hA0
  have hall := hA
  rw [Try.params6] at hA hval
  obtain ⟨v0, v1, v2, d0, d1, d2, p0, p1, p2, rfl, rfl, rfl, h0, h1, h2⟩ := trodAll_three hA
  obtain ⟨rfl, rfl⟩ := trodVars_none hV
  have hlt := DataW.TrodAll.lt hall
  obtain ⟨c0, rfl, f0⟩ := fit_struct is_net Try.underlying25 (hval 0 25 v0 rfl rfl) h0
  obtain ⟨N0, L0, e0, hN0, hL0⟩ := Ba.netv_of f0
  obtain ⟨A1, n1, c1, rfl, f1⟩ := fit_slice is_ledgers Try.underlying64 (hval 1 64 v1 rfl rfl) h1
  obtain ⟨G1, e1, hG1⟩ := Ba.slledger_of f1
  have e1' := Ba.sl_val e1
  have z1 := nil_slice Try.underlying64 (hval 1 64 _ rfl rfl)
  have z1' : G1.A = none → G1.c = 0 := by
    simp only [Value.slice.injEq] at e1'
    rw [← e1'.1, ← e1'.2.2]; exact z1
  obtain ⟨x2, rfl, rfl, rfl, wn2⟩ := open_int Try.underlying5 (hval 2 5 v2 rfl rfl) h2
  have b2 := bounds_u8 wn2
  clear hA0 hval0
  simp only [List.append_nil, List.nil_append] at hW' hall hlt
  have key := adds_law N0 L0 G1 x2 W hN0 hL0 hG1 z1' b2
  rw [← e0] at key
  rw [← e1'] at key
  refine key.mono fun e W' ⟨he, hg⟩ => ?_
  subst he
  refine ⟨_, rfl, _, _, _, [], p0 ++ p1, [], hW', trodAll_mk1 (shut_bool Try.underlying4 _), ?_, rfl, Below.frame hg _, fun h => by cases h⟩
  exact fr_args hg _ _ _ _ (by rw [Try.params6]; intro t ht; have hm : t ∈ [25, 64, 5] := (by simpa using ht); have hall : ([25, 64, 5].all fun u => Try.prog.readableRec u && decide (u < Try.prog.types.size)) = true := (by kernel_rfl); have := List.all_eq_true.1 hall t hm; simpa using this) hlt hall

theorem adds_holds : Rows.BalanceAddsSaid :=
  OpenClaim.holds_of_wide 6 Try.f6 rfl rfl rfl rfl rfl rfl rfl ⟨rfl, rfl, rfl, rfl, rfl⟩ rfl rfl rfl rfl rfl (by kernel_rfl) Try.func6 (by kernel_rfl)
    (of_decide_eq_true (by kernel_rfl)) (by unfold Func.isWrapper; first | (rw [if_pos (by decide +kernel)]; kernel_rfl) | (rw [if_neg (by decide +kernel)]; exact ⟨rfl, rfl⟩))
    (fun os started H enc _ => adds_lifted os started H enc)
#print axioms adds_holds
end Go.Proofs.Ythkmgnaeponfcaa
