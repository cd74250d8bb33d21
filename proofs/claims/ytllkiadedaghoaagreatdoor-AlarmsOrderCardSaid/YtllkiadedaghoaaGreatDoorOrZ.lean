/-
  AlarmsOrder returns true for all its arguments, and leaves them as they were. The package-level variables that its row lists are tied to the program's text.
-/
import Derived.Test.YtllkiadedaghoaaGreatDoorOr48
import Derived.Test.YtllkiadedaghoaaGreatDoorOr49
import Derived.Test.YtllkiadedaghoaaGreatDoorCards
import Derived.Test.YtllkiadedaghoaaGreatDoorTie

set_option linter.unusedVariables false
set_option linter.unusedSimpArgs false
namespace Go.Proofs.YtllkiadedaghoaaGreatDoor
open Go.ChangeShapes Go.WideShapes Go.ChangeAt Go.RowKit Go.Joins
set_option maxRecDepth 100000 in
theorem order_lifted (os : Os) (started : os.Started) (H : Type) (enc : TypeId × Value → H) :
    ReturnsInHanded {} Tryz.checked os 4 .any (fun w args => (Rows.alarmsOrderSpec.pre enc Tryz.prog Tryz.f4 Rows.alarmsOrderRow.domain false w args ∧ laidMetH Tryz.prog Rows.alarmsOrderRow.laid w) ∧ sizedMet enc Tryz.prog Tryz.f4 (OpenSpec.ofChange Rows.alarmsOrderSpec) false w args) (Rows.alarmsOrderSpec.post enc Tryz.prog Tryz.f4 false true false false) := by
  refine returnsInHanded_of_change_and (C := Tryz.checked) (X := fun w _ => laidMetH Tryz.prog Rows.alarmsOrderRow.laid w) (fun _ _ _ hh h => h.of_heap hh) fr_own started (by kernel_rfl) Tryz.func4
    (ChangeSpec.witness_shaped (enc := enc) (C := Tryz.checked) (os := os) (X := fun w _ => laidMetH Tryz.prog Rows.alarmsOrderRow.laid w) false (World.laidAll Tryz.prog os Rows.alarmsOrderRow.laid) #[.agg #[.slice none 0 0, .slice none 0 0], .slice none 0 0, .agg #[.int .i64 0, .int .i64 0, .int .i64 0]] 8 (World.laidAll_os _ _ _)
      (World.shaped_of_ZipB (by kernel_rfl) (by kernel_rfl)) (by kernel_rfl) (by kernel_rfl) (by kernel_rfl)
      (by rw [MakeChecks.laidMetH_plain _ _ _ (by kernel_rfl)]; exact laidMet_laidAll _ (by kernel_rfl) (by kernel_rfl))) ?_
  intro W base args ds gs before hval0 hW _ _ hL _
  have hval : ∀ (j : Nat) t v, Tryz.f4.params[j]? = some t → args[j]? = some v → Value.okWide Tryz.prog W .any base t v := hval0
  have hW' := hW
  obtain ⟨p, q, hA0, hV, rfl, _, _⟩ := hW
  have hA : DataW.TrodAll enc Tryz.prog W 0 (fun _ => true) true Tryz.f4.params.toList args.toList ds p := hA0
  have hall := hA
  rw [Tryz.params4] at hA hval
  obtain ⟨v0, v1, v2, d0, d1, d2, p0, p1, p2, rfl, rfl, rfl, h0, h1, h2⟩ := trodAll_three hA
  obtain ⟨rfl, rfl⟩ := trodVars_none hV
  have hlt := DataW.TrodAll.lt hall
  obtain ⟨c0, rfl, f0⟩ := fit_struct is_net Tryz.underlying25 (hval 0 25 v0 rfl rfl) h0
  obtain ⟨N0, L0, e0, hN0, hL0⟩ := Ba.netv_of f0
  obtain ⟨A1, n1, c1, rfl, f1⟩ := fit_slice is_msgs Tryz.underlying26 (hval 1 26 v1 rfl rfl) h1
  obtain ⟨M1, e1, hM1⟩ := Al.slm_of f1
  have e1' := Ba.sl_val e1
  obtain ⟨c2, rfl, f2⟩ := fit_struct is_lims Tryz.underlying28 (hval 2 28 v2 rfl rfl) h2
  obtain ⟨J2, S2, T2, e2, hJ2, hS2, hT2⟩ := Al.lims_of f2
  have hTab : Tab W := tab_of_laid hL
  clear hA0 hval0
  simp only [List.append_nil, List.nil_append] at hW' hall hlt
  have key := order_in N0 L0 M1 J2 S2 T2 W hTab hN0 hL0 hM1 hJ2 hS2 hT2
  rw [← e0] at key
  rw [← e1'] at key
  rw [← e2] at key
  refine key.mono fun e W' ⟨he, hg⟩ => ?_
  subst he
  refine ⟨_, rfl, _, _, _, [], p0 ++ p1 ++ p2, [], hW', trodAll_mk1 (shut_bool Tryz.underlying4 _), ?_, rfl, Below.frame hg _, fun h => by cases h⟩
  exact fr_args hg _ _ _ _ (by rw [Tryz.params4]; intro t ht; have hm : t ∈ [25, 26, 28] := (by simpa using ht); have hall : ([25, 26, 28].all fun u => Tryz.prog.readableRec u && decide (u < Tryz.prog.types.size)) = true := (by kernel_rfl); have := List.all_eq_true.1 hall t hm; simpa using this) hlt hall
theorem order_holds : Rows.AlarmsOrderSaid :=
  OpenClaim.holds_of_wide 4 Tryz.f4 rfl rfl rfl rfl rfl rfl rfl ⟨rfl, rfl, rfl, rfl, rfl⟩ rfl rfl rfl rfl rfl (by kernel_rfl) Tryz.func4 (by kernel_rfl)
    (of_decide_eq_true (by kernel_rfl)) (by unfold Func.isWrapper; first | (rw [if_pos (by decide +kernel)]; kernel_rfl) | (rw [if_neg (by decide +kernel)]; exact ⟨rfl, rfl⟩))
    (fun os started H enc _ => order_lifted os started H enc)
theorem order_card : Rows.AlarmsOrderCardSaid :=
  Claim7.holds_tied_plain_at .later [] [.data, .data, .data] true (true, "2e0f6facbf2532d451680ac22ab0a3dcd3b31174f08d4a6a8bb576e9eb53945e") false order_holds (fun _ h => by cases h) (by kernel_rfl) (fun _ h => by cases h) alarmsOrder_row_tie rfl ⟨rfl, rfl⟩ (by kernel_rfl) rfl
    (fun f fn hf hfn => by
      obtain rfl : f = 4 := Option.some.inj ((show Tryz.prog.funcNamed "sewershed/sewershedlaw53.AlarmsOrder" = some 4 by kernel_rfl).symm.trans hf) |>.symm
      obtain rfl : fn = Tryz.f4 := (Option.some.inj (Tryz.func4.symm.trans hfn)).symm
      exact ⟨by kernel_rfl, fun j t ht => by
        rw [Tryz.params4] at ht
        have hm : t ∈ [25, 26, 28] := by simpa using Array.mem_of_getElem? ht
        have hall : ([25, 26, 28].all fun u => !Tryz.prog.wantsStandIn u) = true := by kernel_rfl
        exact (show Tryz.prog.wantsStandIn t = false by simpa using List.all_eq_true.1 hall t hm)⟩)
    (by kernel_rfl)
#print axioms order_holds
#print axioms order_card
end Go.Proofs.YtllkiadedaghoaaGreatDoor
