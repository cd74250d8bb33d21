/-
  AlarmsClosed returns true for all its arguments, and leaves them as they were. No condition.
-/
import Derived.Test.YtllkiadedaghoaaGreatClC
import Derived.Test.YtllkiadedaghoaaGreatCb33
set_option linter.unusedVariables false
set_option linter.unusedSimpArgs false
namespace Go.Proofs.YtllkiadedaghoaaGreat
open Go.RowKit Go.Shelf Go.Sort
theorem closed_law (N : Ba.SlNode) (L : Ba.SlLink) (s : Al.SlM) (nd : ByteArray) (tol kk wr : Int) (w : World) (hN : N.At w) (hL : L.At w) (h : s.At w) (hnd : nd.size ≤ 9223372036854775807) (hk8 : 0 ≤ kk ∧ kk ≤ 255) : Calls Tryz.prog 9 #[Ba.netVal N L, .slice s.A s.n s.c, .string nd, .int .i64 tol, .int .u8 kk, .int .i64 wr] w fun e w' => e = .returned (.bool true) ∧ Gr w w' := by
  cases hf : Al.fewB N.n L.n s.n (Al.lngB s)
  · exact closed_few N L s nd tol kk wr w hN hL h hnd hk8 hf
  by_cases hl : nd.size ≤ 50
  · cases hnb : Ba.netB N L
    · exact closed_net N L s nd tol kk wr w hN hL h hnd hk8 hf hl hnb
    cases hv : s.vB
    · exact closed_msg N L s nd tol kk wr w hN hL h hnd hk8 hf hl hnb hv
    by_cases hr : tol < 0 ∨ 1099511627776 < tol ∨ wr < -1099511627776 ∨ 1099511627776 < wr
    · exact closed_rng N L s nd tol kk wr w hN hL h hnd hk8 hf hl hnb hv hr
    have r1 : 0 ≤ tol := by omega
    have r2 : tol ≤ 1099511627776 := by omega
    have r3 : -1099511627776 ≤ wr := by omega
    have r4 : wr ≤ 1099511627776 := by omega
    rcases Int.lt_or_le (Ba.nix N nd) 0 with hx | hx
    · exact closed_name N L s nd tol kk wr w hN hL h hnd hk8 hf hl hnb hv r1 r2 r3 r4 hx
    obtain ⟨k, hk⟩ : ∃ k : Nat, Ba.nix N nd = (k : Int) := ⟨(Ba.nix N nd).toNat, by omega⟩
    by_cases hkd : (N.D k).kd = 3
    · exact closed_kind N L s nd tol kk wr w hN hL h hnd hk8 hf hl hnb hv r1 r2 r3 r4 k hk hkd
    · exact closed_main N L s nd tol kk wr w hN hL h hnd hk8 hf hl hnb hv r1 r2 r3 r4 k hk hkd
  · exact closed_long N L s nd tol kk wr w hN hL h hnd hk8 hf (by omega)
theorem closed_in (N : Ba.SlNode) (L : Ba.SlLink) (s : Al.SlM) (nd : ByteArray) (tol kk wr : Int) (w : World) (hN : N.At w) (hL : L.At w) (h : s.At w) (hnd : nd.size ≤ 9223372036854775807) (_ : Ba.i64 tol) (hk8 : 0 ≤ kk ∧ kk ≤ 255) (_ : Ba.i64 wr) : Calls Tryz.prog 9 #[Ba.netVal N L, .slice s.A s.n s.c, .string nd, .int .i64 tol, .int .u8 kk, .int .i64 wr] w fun e w' => e = .returned (.bool true) ∧ Gr w w' := closed_law N L s nd tol kk wr w hN hL h hnd hk8
end Go.Proofs.YtllkiadedaghoaaGreat
namespace Go.Proofs.YtllkiadedaghoaaGreat
open Go.ChangeShapes Go.WideShapes Go.ChangeAt Go.RowKit Go.Joins
theorem trodAll_six {H : Type} {enc : TypeId × Value → H} {P : Program} {w : World} {base : Nat} {spare : Nat → Bool} {held : Bool} {t0 t1 t2 t3 t4 t5 : TypeId} {args : Array Value} {ds : List (DataW H)} {ps : List MemPlace} (h : DataW.TrodAll enc P w base spare held [t0, t1, t2, t3, t4, t5] args.toList ds ps) :
    ∃ v0 v1 v2 v3 v4 v5 d0 d1 d2 d3 d4 d5 p0 p1 p2 p3 p4 p5, args = #[v0, v1, v2, v3, v4, v5] ∧ ds = [d0, d1, d2, d3, d4, d5] ∧ ps = p0 ++ p1 ++ p2 ++ p3 ++ p4 ++ p5 ∧ DataW.Trod enc P w base spare held t0 v0 d0 p0 ∧ DataW.Trod enc P w base spare held t1 v1 d1 p1 ∧ DataW.Trod enc P w base spare held t2 v2 d2 p2 ∧ DataW.Trod enc P w base spare held t3 v3 d3 p3 ∧ DataW.Trod enc P w base spare held t4 v4 d4 p4 ∧ DataW.Trod enc P w base spare held t5 v5 d5 p5 := by
  obtain ⟨v0, vs0, d0, ds0, p0, q0, hargs, rfl, rfl, k0, h⟩ := trodAll_cons h
  obtain ⟨v1, vs1, d1, ds1, p1, q1, rfl, rfl, rfl, k1, h⟩ := trodAll_cons h
  obtain ⟨v2, vs2, d2, ds2, p2, q2, rfl, rfl, rfl, k2, h⟩ := trodAll_cons h
  obtain ⟨v3, vs3, d3, ds3, p3, q3, rfl, rfl, rfl, k3, h⟩ := trodAll_cons h
  obtain ⟨v4, vs4, d4, ds4, p4, q4, rfl, rfl, rfl, k4, h⟩ := trodAll_cons h
  obtain ⟨v5, vs5, d5, ds5, p5, q5, rfl, rfl, rfl, k5, h⟩ := trodAll_cons h
  obtain ⟨rfl, rfl, rfl⟩ := trodAll_nil h
  exact ⟨v0, v1, v2, v3, v4, v5, d0, d1, d2, d3, d4, d5, p0, p1, p2, p3, p4, p5, by cases args; simp_all, rfl, by simp, k0, k1, k2, k3, k4, k5⟩
set_option maxRecDepth 100000 in
theorem closed_lifted (os : Os) (started : os.Started) (H : Type) (enc : TypeId × Value → H) :
    ReturnsInHanded {} Tryz.checked os 9 .any (Rows.alarmsClosedSpec.pre6 enc Tryz.prog Tryz.f9 Rows.alarmsClosedRow.domain false) (Rows.alarmsClosedSpec.post enc Tryz.prog Tryz.f9 false true false false) := by
  refine returnsInHanded_of_change (C := Tryz.checked) fr_own started (by kernel_rfl) Tryz.func9
    (ChangeSpec.witness6 (enc := enc) (C := Tryz.checked) false ⟨#[], #[.agg #[.slice none 0 0, .slice none 0 0], .slice none 0 0, .string ⟨#[]⟩, .int .i64 0, .int .u8 0, .int .i64 0], []⟩ 8 (by kernel_rfl) (by kernel_rfl) (by kernel_rfl) (by kernel_rfl)) ?_
  intro W base args ds gs before hval0 hW _ _
  have hval : ∀ (j : Nat) t v, Tryz.f9.params[j]? = some t → args[j]? = some v → Value.okWide Tryz.prog W .any base t v := hval0
  have hW' := hW
  obtain ⟨p, q, hA0, hV, rfl, _, _⟩ := hW
  have hA : DataW.TrodAll enc Tryz.prog W 0 (fun _ => true) true Tryz.f9.params.toList args.toList ds p := hA0
  have hall := hA
  rw [Tryz.params9] at hA hval
  obtain ⟨v0, v1, v2, v3, v4, v5, d0, d1, d2, d3, d4, d5, p0, p1, p2, p3, p4, p5, rfl, rfl, rfl, h0, h1, h2, h3, h4, h5⟩ := trodAll_six hA
  obtain ⟨rfl, rfl⟩ := trodVars_none hV
  have hlt := DataW.TrodAll.lt hall
  obtain ⟨c0, rfl, f0⟩ := fit_struct is_net Tryz.underlying28 (hval 0 28 v0 rfl rfl) h0
  obtain ⟨N0, L0, e0, hN0, hL0⟩ := Ba.netv_of f0
  obtain ⟨A1, n1, c1, rfl, f1⟩ := fit_slice is_msgs Tryz.underlying22 (hval 1 22 v1 rfl rfl) h1
  obtain ⟨M1, e1, hM1⟩ := Al.slm_of f1
  have e1' := Ba.sl_val e1
  obtain ⟨x2, rfl, rfl, rfl, ws2⟩ := Go.ChangeMaps.open_string Tryz.underlying9 (hval 2 9 v2 rfl rfl) h2
  have b2 : x2.size ≤ 9223372036854775807 := by have := ws2; unfold maxLen at this; omega
  obtain ⟨x3, rfl, rfl, rfl, wn3⟩ := open_int Tryz.underlying3 (hval 3 3 v3 rfl rfl) h3
  have b3 := bounds_i64 wn3
  obtain ⟨x4, rfl, rfl, rfl, wn4⟩ := open_int Tryz.underlying5 (hval 4 5 v4 rfl rfl) h4
  have b4 := bounds_u8 wn4
  obtain ⟨x5, rfl, rfl, rfl, wn5⟩ := open_int Tryz.underlying3 (hval 5 3 v5 rfl rfl) h5
  have b5 := bounds_i64 wn5
  clear hA0 hval0
  simp only [List.append_nil, List.nil_append] at hW' hall hlt
  have key := closed_in N0 L0 M1 x2 x3 x4 x5 W hN0 hL0 hM1 b2 b3 b4 b5
  rw [← e0] at key
  rw [← e1'] at key
  refine key.mono fun e W' ⟨he, hg⟩ => ?_
  subst he
  refine ⟨_, rfl, _, _, _, [], p0 ++ p1, [], hW', trodAll_mk1 (shut_bool Tryz.underlying4 _), ?_, rfl, Below.frame hg _, fun h => by cases h⟩
  exact fr_args hg _ _ _ _ (by rw [Tryz.params9]; intro t ht; have hm : t ∈ [28, 22, 9, 3, 5, 3] := (by simpa using ht); have hall : ([28, 22, 9, 3, 5, 3].all fun u => Tryz.prog.readableRec u && decide (u < Tryz.prog.types.size)) = true := (by kernel_rfl); have := List.all_eq_true.1 hall t hm; simpa using this) hlt hall

theorem closed_holds : Rows.AlarmsClosedSaid :=
  OpenClaim.holds_of_wide 9 Tryz.f9 rfl rfl rfl rfl rfl rfl rfl ⟨rfl, rfl, rfl, rfl, rfl⟩ rfl rfl rfl rfl rfl (by kernel_rfl) Tryz.func9 (by kernel_rfl)
    (of_decide_eq_true (by kernel_rfl)) (by unfold Func.isWrapper; first | (rw [if_pos (by decide +kernel)]; kernel_rfl) | (rw [if_neg (by decide +kernel)]; exact ⟨rfl, rfl⟩))
    (fun os started H enc _ => closed_lifted os started H enc)
#print axioms closed_holds
end Go.Proofs.YtllkiadedaghoaaGreat
