/-
  MeshArea returns true for all its arguments, and leaves them as they were. The package-level variables that its row lists are tied to the program's text.
-/
import Derived.Test.YtajhhplgcegodaaDoorMsMa
import Derived.Test.YtajhhplgcegodaaDoorMsFit
import Derived.Test.YtajhhplgcegodaaDoorFrame
import Derived.Test.YtajhhplgcegodaaDoorFitB
import Derived.Test.YtajhhplgcegodaaDoorCards
import Derived.Test.YtajhhplgcegodaaDoorTie
set_option linter.unusedVariables false
set_option linter.unusedSimpArgs false
namespace Go.Proofs.YtajhhplgcegodaaDoor
open Go.ChangeShapes Go.WideShapes Go.ChangeAt Go.RowKit Go.Joins
set_option maxRecDepth 100000 in
theorem area_lifted (os : Os) (started : os.Started) (H : Type) (enc : TypeId × Value → H) :
    ReturnsInHanded {} Tryd.checked os 8 .any (fun w args => (Rows.meshAreaSpec.pre enc Tryd.prog Tryd.f8 Rows.meshAreaRow.domain false w args ∧ laidMetH Tryd.prog Rows.meshAreaRow.laid w) ∧ sizedMet enc Tryd.prog Tryd.f8 (OpenSpec.ofChange Rows.meshAreaSpec) false w args) (Rows.meshAreaSpec.post enc Tryd.prog Tryd.f8 false true false false) := by
  refine returnsInHanded_of_change_and (C := Tryd.checked) (X := fun w _ => laidMetH Tryd.prog Rows.meshAreaRow.laid w) (fun _ _ _ hh h => h.of_heap hh) fr_own started (by kernel_rfl) Tryd.func8
    (ChangeSpec.witness_shaped (enc := enc) (C := Tryd.checked) (os := os) (X := fun w _ => laidMetH Tryd.prog Rows.meshAreaRow.laid w) false (World.laidAll Tryd.prog os Rows.meshAreaRow.laid) #[.agg #[.slice none 0 0, .slice none 0 0], .int .i32 0, .int .i32 0, .int .i32 0] 8 (World.laidAll_os _ _ _)
      (World.shaped_of_ZipB (by kernel_rfl) (by kernel_rfl)) (by kernel_rfl) (by kernel_rfl) (by kernel_rfl)
      (by rw [MakeChecks.laidMetH_plain _ _ _ (by kernel_rfl)]; exact laidMet_laidAll _ (by kernel_rfl) (by kernel_rfl))) ?_
  intro W base args ds gs before hval0 hW _ _ hL _
  have hval : ∀ (j : Nat) t v, Tryd.f8.params[j]? = some t → args[j]? = some v → Value.okWide Tryd.prog W .any base t v := hval0
  have hW' := hW
  obtain ⟨p, q, hA0, hV, rfl, _, _⟩ := hW
  have hA : DataW.TrodAll enc Tryd.prog W 0 (fun _ => true) true Tryd.f8.params.toList args.toList ds p := hA0
  have hall := hA
  rw [Tryd.params8] at hA hval
  obtain ⟨v0, v1, v2, v3, d0, d1, d2, d3, p0, p1, p2, p3, rfl, rfl, rfl, h0, h1, h2, h3⟩ := trodAll_four hA
  obtain ⟨rfl, rfl⟩ := trodVars_none hV
  have hlt := DataW.TrodAll.lt hall
  obtain ⟨c0, rfl, f0⟩ := fit_struct is_mesh Tryd.underlying25 (hval 0 25 v0 rfl rfl) h0
  obtain ⟨S0, F0, e0, hS0, hF0⟩ := Ba.meshv_of f0
  obtain ⟨x1, rfl, rfl, rfl, wn1⟩ := open_int Tryd.underlying21 (hval 1 21 v1 rfl rfl) h1
  have b1 := bounds_i32 wn1
  obtain ⟨x2, rfl, rfl, rfl, wn2⟩ := open_int Tryd.underlying21 (hval 2 21 v2 rfl rfl) h2
  have b2 := bounds_i32 wn2
  obtain ⟨x3, rfl, rfl, rfl, wn3⟩ := open_int Tryd.underlying21 (hval 3 21 v3 rfl rfl) h3
  have b3 := bounds_i32 wn3
  clear hA0 hval0
  simp only [List.append_nil, List.nil_append] at hW' hall hlt
  have key := area_law S0 F0 x1 x2 x3 W hS0 hF0 b1 b2 b3
  rw [← e0] at key
  refine key.mono fun e W' ⟨he, hg⟩ => ?_
  subst he
  refine ⟨_, rfl, _, _, _, [], p0, [], hW', trodAll_mk1 (shut_bool Tryd.underlying4 _), ?_, rfl, Below.frame hg _, fun h => by cases h⟩
  exact fr_args hg _ _ _ _ (by rw [Tryd.params8]; intro t ht; have hm : t ∈ [25, 21, 21, 21] := (by simpa using ht); have hall : ([25, 21, 21, 21].all fun u => Tryd.prog.readableRec u && decide (u < Tryd.prog.types.size)) = true := (by kernel_rfl); have := List.all_eq_true.1 hall t hm; simpa using this) hlt hall

theorem area_holds : Rows.MeshAreaSaid :=
  OpenClaim.holds_of_wide 8 Tryd.f8 rfl rfl rfl rfl rfl rfl rfl ⟨rfl, rfl, rfl, rfl, rfl⟩ rfl rfl rfl rfl rfl (by kernel_rfl) Tryd.func8 (by kernel_rfl)
    (of_decide_eq_true (by kernel_rfl)) (by unfold Func.isWrapper; first | (rw [if_pos (by decide +kernel)]; kernel_rfl) | (rw [if_neg (by decide +kernel)]; exact ⟨rfl, rfl⟩))
    (fun os started H enc _ => area_lifted os started H enc)
theorem area_card : Rows.MeshAreaCardSaid :=
  Claim7.holds_tied_plain_at .later [] [.data, .data, .data] true (true, "a5052addfc1ff235f04f7c4bc84b64b188f5c7afe41530ac50c4f853b3183a97") false area_holds (fun _ h => by cases h) (by kernel_rfl) (fun _ h => by cases h) meshArea_row_tie rfl ⟨rfl, rfl⟩ (by kernel_rfl) rfl
    (fun f fn hf hfn => by
      obtain rfl : f = 8 := Option.some.inj ((show Tryd.prog.funcNamed "sewershed/sewershedlaw09.MeshArea" = some 8 by kernel_rfl).symm.trans hf) |>.symm
      obtain rfl : fn = Tryd.f8 := (Option.some.inj (Tryd.func8.symm.trans hfn)).symm
      exact ⟨by kernel_rfl, fun j t ht => by
        rw [Tryd.params8] at ht
        have hm : t ∈ [25, 21, 21, 21] := by simpa using Array.mem_of_getElem? ht
        have hall : ([25, 21, 21, 21].all fun u => !Tryd.prog.wantsStandIn u) = true := by kernel_rfl
        exact (show Tryd.prog.wantsStandIn t = false by simpa using List.all_eq_true.1 hall t hm)⟩)
    (by kernel_rfl)
#print axioms area_holds
#print axioms area_card
end Go.Proofs.YtajhhplgcegodaaDoor
