/-
  ArealAdds returns true for all its arguments, and leaves them as they were. The package-level variables that its row lists are tied to the program's text.
-/
import Derived.Test.YtajhhplgcegodaaGreatDoorZdL
import Derived.Test.YtajhhplgcegodaaGreatDoorZdFit
import Derived.Test.YtajhhplgcegodaaGreatDoorFrame
import Derived.Test.YtajhhplgcegodaaGreatDoorFitB
import Derived.Test.YtajhhplgcegodaaGreatDoorCards
import Derived.Test.YtajhhplgcegodaaGreatDoorTie
set_option linter.unusedVariables false
set_option linter.unusedSimpArgs false
namespace Go.Proofs.YtajhhplgcegodaaGreatDoor
open Go.ChangeShapes Go.WideShapes Go.ChangeAt Go.RowKit Go.Joins
set_option maxRecDepth 100000 in
theorem adds_lifted (os : Os) (started : os.Started) (H : Type) (enc : TypeId × Value → H) :
    ReturnsInHanded {} Tryz.checked os 4 .any (fun w args => (Rows.arealAddsSpec.pre enc Tryz.prog Tryz.f4 Rows.arealAddsRow.domain false w args ∧ laidMetH Tryz.prog Rows.arealAddsRow.laid w) ∧ sizedMet enc Tryz.prog Tryz.f4 (OpenSpec.ofChange Rows.arealAddsSpec) false w args) (Rows.arealAddsSpec.post enc Tryz.prog Tryz.f4 false true false false) := by
  refine returnsInHanded_of_change_and (C := Tryz.checked) (X := fun w _ => laidMetH Tryz.prog Rows.arealAddsRow.laid w) (fun _ _ _ hh h => h.of_heap hh) fr_own started (by kernel_rfl) Tryz.func4
    (ChangeSpec.witness_shaped (enc := enc) (C := Tryz.checked) (os := os) (X := fun w _ => laidMetH Tryz.prog Rows.arealAddsRow.laid w) false (World.laidAll Tryz.prog os Rows.arealAddsRow.laid) #[.agg #[.slice none 0 0, .slice none 0 0], .slice none 0 0, .slice none 0 0] 8 (World.laidAll_os _ _ _)
      (World.shaped_of_ZipB (by kernel_rfl) (by kernel_rfl)) (by kernel_rfl) (by kernel_rfl) (by kernel_rfl)
      (by rw [MakeChecks.laidMetH_plain _ _ _ (by kernel_rfl)]; exact laidMet_laidAll _ (by kernel_rfl) (by kernel_rfl))) ?_
  intro W base args ds gs before hval0 hW _ _ hL _
  have hval : ∀ (j : Nat) t v, Tryz.f4.params[j]? = some t → args[j]? = some v → Value.okWide Tryz.prog W .any base t v := hval0
  have hW' := hW
  obtain ⟨p, q, hA0, hV, rfl, _, _⟩ := hW
  have hA : DataW.TrodAll enc Tryz.prog W 0 (fun _ => true) true Tryz.f4.params.toList args.toList ds p := hA0
  have hall := hA
  rw [Tryz.params4] at hA hval
  obtain ⟨v0, v1, v2, d0, d1, d2, p0, p1, p2, rfl, rfl, rfl, h0, h1, h2⟩ := trodAll_three hA
  obtain ⟨rfl, rfl⟩ := trodVars_none hV
  have hlt := DataW.TrodAll.lt hall
  obtain ⟨c0, rfl, f0⟩ := fit_struct is_mesh Tryz.underlying25 (hval 0 25 v0 rfl rfl) h0
  obtain ⟨S0, F0, e0, hS0, hF0⟩ := Ba.meshv_of f0
  obtain ⟨A1, n1, c1, rfl, f1⟩ := fit_slice is_ints Tryz.underlying26 (hval 1 26 v1 rfl rfl) h1
  obtain ⟨P1, e1, hP1⟩ := Ba.sli_of f1
  have e1' := Ba.sl_val e1
  obtain ⟨A2, n2, c2, rfl, f2⟩ := fit_slice is_gauges Tryz.underlying27 (hval 2 27 v2 rfl rfl) h2
  obtain ⟨G2, e2, hG2⟩ := Ba.slgauge_of f2
  have e2' := Ba.sl_val e2
  clear hA0 hval0
  simp only [List.append_nil, List.nil_append] at hW' hall hlt
  have key := adds_law S0 F0 P1 G2 W hS0 hF0 hP1 hG2
  rw [← e0] at key
  rw [← e1'] at key
  rw [← e2'] at key
  refine key.mono fun e W' ⟨he, hg⟩ => ?_
  subst he
  refine ⟨_, rfl, _, _, _, [], p0 ++ p1 ++ p2, [], hW', trodAll_mk1 (shut_bool Tryz.underlying4 _), ?_, rfl, Below.frame hg _, fun h => by cases h⟩
  exact fr_args hg _ _ _ _ (by rw [Tryz.params4]; intro t ht; have hm : t ∈ [25, 26, 27] := (by simpa using ht); have hall : ([25, 26, 27].all fun u => Tryz.prog.readableRec u && decide (u < Tryz.prog.types.size)) = true := (by kernel_rfl); have := List.all_eq_true.1 hall t hm; simpa using this) hlt hall

theorem adds_holds : Rows.ArealAddsSaid :=
  OpenClaim.holds_of_wide 4 Tryz.f4 rfl rfl rfl rfl rfl rfl rfl ⟨rfl, rfl, rfl, rfl, rfl⟩ rfl rfl rfl rfl rfl (by kernel_rfl) Tryz.func4 (by kernel_rfl)
    (of_decide_eq_true (by kernel_rfl)) (by unfold Func.isWrapper; first | (rw [if_pos (by decide +kernel)]; kernel_rfl) | (rw [if_neg (by decide +kernel)]; exact ⟨rfl, rfl⟩))
    (fun os started H enc _ => adds_lifted os started H enc)
theorem adds_card : Rows.ArealAddsCardSaid :=
  Claim7.holds_tied_plain_at .later [] [.data, .data, .data] true (true, "f8aa6bddf042d6c0d905d5d330e109cf0cfdd5bfdf9d28a7a24707cdaaea3e0e") false adds_holds (fun _ h => by cases h) (by kernel_rfl) (fun _ h => by cases h) arealAdds_row_tie rfl ⟨rfl, rfl⟩ (by kernel_rfl) rfl
    (fun f fn hf hfn => by
      obtain rfl : f = 4 := Option.some.inj ((show Tryz.prog.funcNamed "sewershed/sewershedlaw22.ArealAdds" = some 4 by kernel_rfl).symm.trans hf) |>.symm
      obtain rfl : fn = Tryz.f4 := (Option.some.inj (Tryz.func4.symm.trans hfn)).symm
      exact ⟨by kernel_rfl, fun j t ht => by
        rw [Tryz.params4] at ht
        have hm : t ∈ [25, 26, 27] := by simpa using Array.mem_of_getElem? ht
        have hall : ([25, 26, 27].all fun u => !Tryz.prog.wantsStandIn u) = true := by kernel_rfl
        exact (show Tryz.prog.wantsStandIn t = false by simpa using List.all_eq_true.1 hall t hm)⟩)
    (by kernel_rfl)
#print axioms adds_holds
#print axioms adds_card
end Go.Proofs.YtajhhplgcegodaaGreatDoor
