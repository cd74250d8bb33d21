/-
  RunoffInflows returns true for all its arguments, and leaves them as they were. The package-level variables that its row lists are tied to the program's text.
-/
import Derived.Test.YtajhhplgcegodaaGreatDoorInf51
import Derived.Test.YtajhhplgcegodaaGreatDoorInf53
import Derived.Test.YtajhhplgcegodaaGreatDoorCards
import Derived.Test.YtajhhplgcegodaaGreatDoorTie

set_option linter.unusedVariables false
set_option linter.unusedSimpArgs false
namespace Go.Proofs.YtajhhplgcegodaaGreatDoor
open Go.ChangeShapes Go.WideShapes Go.ChangeAt Go.RowKit Go.Joins
theorem trodAll_six {H : Type} {enc : TypeId × Value → H} {P : Program} {w : World} {base : Nat} {spare : Nat → Bool} {held : Bool} {t0 t1 t2 t3 t4 t5 : TypeId} {args : Array Value} {ds : List (DataW H)} {ps : List MemPlace} (h : DataW.TrodAll enc P w base spare held [t0, t1, t2, t3, t4, t5] args.toList ds ps) :
    ∃ v0 v1 v2 v3 v4 v5 d0 d1 d2 d3 d4 d5 p0 p1 p2 p3 p4 p5, args = #[v0, v1, v2, v3, v4, v5] ∧ ds = [d0, d1, d2, d3, d4, d5] ∧ ps = p0 ++ p1 ++ p2 ++ p3 ++ p4 ++ p5 ∧ DataW.Trod enc P w base spare held t0 v0 d0 p0 ∧ DataW.Trod enc P w base spare held t1 v1 d1 p1 ∧ DataW.Trod enc P w base spare held t2 v2 d2 p2 ∧ DataW.Trod enc P w base spare held t3 v3 d3 p3 ∧ DataW.Trod enc P w base spare held t4 v4 d4 p4 ∧ DataW.Trod enc P w base spare held t5 v5 d5 p5 := by
  obtain ⟨v0, vs0, d0, ds0, p0, q0, hargs, rfl, rfl, k0, h⟩ := trodAll_cons h
  obtain ⟨v1, vs1, d1, ds1, p1, q1, rfl, rfl, rfl, k1, h⟩ := trodAll_cons h
  obtain ⟨v2, vs2, d2, ds2, p2, q2, rfl, rfl, rfl, k2, h⟩ := trodAll_cons h
  obtain ⟨v3, vs3, d3, ds3, p3, q3, rfl, rfl, rfl, k3, h⟩ := trodAll_cons h
  obtain ⟨v4, vs4, d4, ds4, p4, q4, rfl, rfl, rfl, k4, h⟩ := trodAll_cons h
  obtain ⟨v5, vs5, d5, ds5, p5, q5, rfl, rfl, rfl, k5, h⟩ := trodAll_cons h
  obtain ⟨rfl, rfl, rfl⟩ := trodAll_nil h
  exact ⟨v0, v1, v2, v3, v4, v5, d0, d1, d2, d3, d4, d5, p0, p1, p2, p3, p4, p5, by cases args; simp_all, rfl, by simp, k0, k1, k2, k3, k4, k5⟩
set_option maxRecDepth 100000 in
theorem inflows_lifted (os : Os) (started : os.Started) (H : Type) (enc : TypeId × Value → H) :
    ReturnsInHanded {} Tryz.checked os 5 .any (fun w args => (Rows.runoffInflowsSpec.pre enc Tryz.prog Tryz.f5 Rows.runoffInflowsRow.domain false w args ∧ laidMetH Tryz.prog Rows.runoffInflowsRow.laid w) ∧ sizedMet enc Tryz.prog Tryz.f5 (OpenSpec.ofChange Rows.runoffInflowsSpec) false w args) (Rows.runoffInflowsSpec.post enc Tryz.prog Tryz.f5 false true false false) := by
  refine returnsInHanded_of_change_and (C := Tryz.checked) (X := fun w _ => laidMetH Tryz.prog Rows.runoffInflowsRow.laid w) (fun _ _ _ hh h => h.of_heap hh) fr_own started (by kernel_rfl) Tryz.func5
    (ChangeSpec.witness_shaped (enc := enc) (C := Tryz.checked) (os := os) (X := fun w _ => laidMetH Tryz.prog Rows.runoffInflowsRow.laid w) false (World.laidAll Tryz.prog os Rows.runoffInflowsRow.laid) #[.agg #[.slice none 0 0, .slice none 0 0], .slice none 0 0, .slice none 0 0, .slice none 0 0, .slice none 0 0, .agg #[.int .i64 0, .int .i64 0, .slice none 0 0]] 8 (World.laidAll_os _ _ _)
      (World.shaped_of_ZipB (by kernel_rfl) (by kernel_rfl)) (by kernel_rfl) (by kernel_rfl) (by kernel_rfl)
      (by rw [MakeChecks.laidMetH_plain _ _ _ (by kernel_rfl)]; exact laidMet_laidAll _ (by kernel_rfl) (by kernel_rfl))) ?_
  intro W base args ds gs before hval0 hW _ _ hL _
  have hval : ∀ (j : Nat) t v, Tryz.f5.params[j]? = some t → args[j]? = some v → Value.okWide Tryz.prog W .any base t v := hval0
  have hW' := hW
  obtain ⟨p, q, hA0, hV, rfl, _, _⟩ := hW
  have hA : DataW.TrodAll enc Tryz.prog W 0 (fun _ => true) true Tryz.f5.params.toList args.toList ds p := hA0
  have hall := hA
  rw [Tryz.params5] at hA hval
  obtain ⟨v0, v1, v2, v3, v4, v5, d0, d1, d2, d3, d4, d5, p0, p1, p2, p3, p4, p5, rfl, rfl, rfl, h0, h1, h2, h3, h4, h5⟩ := trodAll_six hA
  obtain ⟨rfl, rfl⟩ := trodVars_none hV
  have hlt := DataW.TrodAll.lt hall
  obtain ⟨c0, rfl, f0⟩ := fit_struct is_mesh Tryz.underlying25 (hval 0 25 v0 rfl rfl) h0
  obtain ⟨S0, F0, e0, hS0, hF0⟩ := Ba.meshv_of f0
  obtain ⟨A1, n1, c1, rfl, f1⟩ := fit_slice is_classes Tryz.underlying44 (hval 1 44 v1 rfl rfl) h1
  obtain ⟨C1, e1, hC1⟩ := Ba.slclass_of f1
  have e1' := Ba.sl_val e1
  obtain ⟨A2, n2, c2, rfl, f2⟩ := fit_slice is_ints Tryz.underlying26 (hval 2 26 v2 rfl rfl) h2
  obtain ⟨P2, e2, hP2⟩ := Ba.sli_of f2
  have e2' := Ba.sl_val e2
  obtain ⟨A3, n3, c3, rfl, f3⟩ := fit_slice is_strs Tryz.underlying45 (hval 3 45 v3 rfl rfl) h3
  obtain ⟨N3, e3, hN3⟩ := Ba.sls_of f3
  have e3' := Ba.sl_val e3
  obtain ⟨A4, n4, c4, rfl, f4⟩ := fit_slice is_units Tryz.underlying40 (hval 4 40 v4 rfl rfl) h4
  obtain ⟨U4, e4, hU4⟩ := Ba.slu_of f4
  have e4' := Ba.sl_val e4
  obtain ⟨c5, rfl, f5⟩ := fit_struct is_series Tryz.underlying47 (hval 5 47 v5 rfl rfl) h5
  obtain ⟨S5, e5, hS5⟩ := Ba.ser_of f5
  clear hA0 hval0
  simp only [List.append_nil, List.nil_append] at hW' hall hlt
  have key := inflows_holdlaw S0 F0 C1 P2 N3 U4 S5 W hS0 hF0 hC1 hP2 hN3 hU4 hS5
  rw [← e0] at key
  rw [← e1'] at key
  rw [← e2'] at key
  rw [← e3'] at key
  rw [← e4'] at key
  rw [← e5] at key
  refine key.mono fun e W' ⟨he, hg⟩ => ?_
  subst he
  refine ⟨_, rfl, _, _, _, [], p0 ++ p1 ++ p2 ++ p3 ++ p4 ++ p5, [], hW', trodAll_mk1 (shut_bool Tryz.underlying4 _), ?_, rfl, Below.frame hg _, fun h => by cases h⟩
  exact fr_args hg _ _ _ _ (by rw [Tryz.params5]; intro t ht; have hm : t ∈ [25, 44, 26, 45, 40, 47] := (by simpa using ht); have hall : ([25, 44, 26, 45, 40, 47].all fun u => Tryz.prog.readableRec u && decide (u < Tryz.prog.types.size)) = true := (by kernel_rfl); have := List.all_eq_true.1 hall t hm; simpa using this) hlt hall
theorem inflows_holds : Rows.RunoffInflowsSaid :=
  OpenClaim.holds_of_wide 5 Tryz.f5 rfl rfl rfl rfl rfl rfl rfl ⟨rfl, rfl, rfl, rfl, rfl⟩ rfl rfl rfl rfl rfl (by kernel_rfl) Tryz.func5 (by kernel_rfl)
    (of_decide_eq_true (by kernel_rfl)) (by unfold Func.isWrapper; first | (rw [if_pos (by decide +kernel)]; kernel_rfl) | (rw [if_neg (by decide +kernel)]; exact ⟨rfl, rfl⟩))
    (fun os started H enc _ => inflows_lifted os started H enc)
theorem inflows_card : Rows.RunoffInflowsCardSaid :=
  Claim7.holds_tied_plain_at .later [] [.data, .data, .data] true (true, "f8aa6bddf042d6c0d905d5d330e109cf0cfdd5bfdf9d28a7a24707cdaaea3e0e") false inflows_holds (fun _ h => by cases h) (by kernel_rfl) (fun _ h => by cases h) runoffInflows_row_tie rfl ⟨rfl, rfl⟩ (by kernel_rfl) rfl
    (fun f fn hf hfn => by
      obtain rfl : f = 5 := Option.some.inj ((show Tryz.prog.funcNamed "sewershed/sewershedlaw25.RunoffInflows" = some 5 by kernel_rfl).symm.trans hf) |>.symm
      obtain rfl : fn = Tryz.f5 := (Option.some.inj (Tryz.func5.symm.trans hfn)).symm
      exact ⟨by kernel_rfl, fun j t ht => by
        rw [Tryz.params5] at ht
        have hm : t ∈ [25, 44, 26, 45, 40, 47] := by simpa using Array.mem_of_getElem? ht
        have hall : ([25, 44, 26, 45, 40, 47].all fun u => !Tryz.prog.wantsStandIn u) = true := by kernel_rfl
        exact (show Tryz.prog.wantsStandIn t = false by simpa using List.all_eq_true.1 hall t hm)⟩)
    (by kernel_rfl)
#print axioms inflows_holds
#print axioms inflows_card
end Go.Proofs.YtajhhplgcegodaaGreatDoor
