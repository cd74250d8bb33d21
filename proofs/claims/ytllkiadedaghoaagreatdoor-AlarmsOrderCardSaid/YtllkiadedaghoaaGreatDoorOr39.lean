/-
  Alarms: slices.Grow and slices.Concat at alarms. Typed.
-/
import Derived.Test.YtllkiadedaghoaaGreatDoorOr38
import Derived.Shelf.Spec.SlicesGrow
import Derived.Laws.AppendOwnNone
set_option linter.unusedVariables false
set_option linter.unusedSimpArgs false
namespace Go.Proofs.YtllkiadedaghoaaGreatDoor
open Go.RowKit Go.Shelf Go.Sort
attribute [local go_sem ↓] Go.wp_at_zero Go.wp_at_succ
def growA_ren : Go.Shelf.Ren := ⟨fun | 4 => 108 | n => n, fun | 22 => 48 | 25 => 31 | 9 => 9 | 3 => 3 | 4 => 4 | 20 => 20 | n => n, fun | n => n⟩
theorem growA_lays : Go.Proofs.Lays8.n4 Tryz.prog growA_ren := {
  mixed := by kernel_rfl
  f4 := ⟨"slices.Grow[[]sewershed/api.Alarm,sewershed/api.Alarm]", (by kernel_rfl), Tryz.func108.trans (congrArg some (by kernel_rfl))⟩
  t0 := by kernel_rfl
  a0 := fun _ => by kernel_rfl
  z0 := fun _ => by kernel_rfl
  v0 := fun _ => by kernel_rfl
  t3 := by kernel_rfl
  a3 := fun _ => by kernel_rfl
  z3 := fun _ => by kernel_rfl
  v3 := fun _ => by kernel_rfl
  t4 := by kernel_rfl
  a4 := fun _ => by kernel_rfl
  z4 := fun _ => by kernel_rfl
  v4 := fun _ => by kernel_rfl
  t9 := by kernel_rfl
  a9 := fun _ => by kernel_rfl
  z9 := fun _ => by kernel_rfl
  v9 := fun _ => by kernel_rfl
  t20 := by kernel_rfl
  a20 := fun _ => by kernel_rfl
  z20 := fun _ => by kernel_rfl
  v20 := fun _ => by kernel_rfl
  t22 := by kernel_rfl
  a22 := fun _ => by kernel_rfl
  z22 := fun _ => by kernel_rfl
  v22 := fun _ => by kernel_rfl }
theorem grownA_row {w : World} {E cap k : Nat} {arr : Array Value} (hc : cap ≤ maxLen) (hs : arr.size = cap * k) : (w.drew.alloc (.cells arr E)).ownsRow w.heap.size E k (.slice (some ⟨w.heap.size, 0, none⟩) 0 cap) 0 [] :=
  ⟨by simp, Or.inr ⟨w.heap.size, cap, arr, rfl, Nat.le_refl _, heap_alloc_new w.drew _, Nat.zero_le _, hc, hs, by simp⟩⟩
set_option maxRecDepth 100000 in
set_option maxHeartbeats 1000000 in
theorem growA_any (n : Nat) (w : World) (hn : n ≤ 100000) : Calls Tryz.prog 108 #[.slice none 0 0, .int .i64 (n : Int)] w fun e w' => ∃ v, e = .returned v ∧ Al.OwnA w' w.heap.size v [] ∧ Gr w w' := by
  by_cases h0 : n = 0
  · subst h0
    exact (Any8.slices_Grow_room growA_lays none 0 0 0 w (Nat.le_refl _) (by omega) (by omega) (by omega)).mono fun e w' ⟨h1, h2⟩ => ⟨_, h1, Al.OwnA.nil _ _, h2 ▸ Gr.refl _⟩
  · obtain ⟨i0, hi0, hz0, hz1, hz2⟩ := info_parts infoA
    refine (Any8.slices_Grow_grow growA_lays i0 _ hi0 hz0 (by omega) none 0 0 n [] w (Nat.le_refl _) (by omega) (by rw [hz2]; omega) (by omega) (by simp) (fun _ => rfl) (fun _ h => by cases h)).mono ?_
    rintro e w' ⟨rfl, rfl⟩
    refine ⟨_, rfl, ⟨grownA_row (grownCap_le_maxLen _ _ _ _ (by unfold maxLen; omega)) ?_, fun a h => by simp at h⟩, Gr.alloc (Gr.drew (Gr.refl _)) _⟩
    have := grownCap_ge w (0 + n) 0 (growA_ren.t 25)
    rw [Nat.zero_add] at this ⊢
    simp [Builtin.zeroCells, Value.cells]
    omega
namespace Al
def catD (D : Nat → List Al.A) : Nat → List Al.A
  | 0 => []
  | k + 1 => catD D k ++ D k
theorem catD_len {D : Nat → List Al.A} {m : Nat} : ∀ {k : Nat}, (∀ i, i < k → (D i).length ≤ m) → (catD D k).length ≤ k * m
  | 0, _ => by simp [catD]
  | k + 1, h => by
    rw [catD, List.length_append, Nat.add_mul]
    have := catD_len (k := k) fun i hi => h i (by omega)
    have := h k (by omega)
    omega
/-- Alarms put behind. -/
theorem OwnA.cat {w w' : World} {base : Nat} {v v' : Value} {d e : List Al.A} (h : OwnA w base v d) (he : ∀ a ∈ e, a.Own w) (hrow : w'.ownsRow base 31 4 v' (d.length + e.length) (d.flatMap Al.A.enc ++ e.flatMap Al.A.enc)) (hg : w.grownBy w' v.ownBlock) : OwnA w' base v' (d ++ e) := by
  have keep : ∀ x : Al.A, x.Own w → x.Own w' := fun x hx => hx.keep (hg.block x.b hx.ib.lt fun e => by
    obtain ⟨hl, ⟨rfl, -⟩ | ⟨g, cap, cur, rfl, hb, hc, -⟩⟩ := h.row
    · cases e
    · simp only [Value.ownBlock, Option.some.injEq] at e
      exact hx.ne hc e)
  refine ⟨?_, fun x hx => ?_⟩
  · rw [List.length_append, List.flatMap_append]; exact hrow
  · rcases List.mem_append.1 hx with q | q
    · exact keep x (h.own x q)
    · exact keep x (he x q)
theorem enc_one (d : List Al.A) : ∀ u ∈ d.flatMap Al.A.enc, u.oneCell' = true := by
  intro u hu
  obtain ⟨a, -, hu⟩ := List.mem_flatMap.1 hu
  simp [Al.A.enc] at hu
  rcases hu with rfl | rfl | rfl | rfl <;> rfl
theorem enc_len (d : List Al.A) : (d.flatMap Al.A.enc).length = d.length * 4 := by
  induction d with
  | nil => rfl
  | cons a d ih => rw [List.flatMap_cons, List.length_append, ih, List.length_cons]; simp [Al.A.enc]; omega
end Al
set_option maxRecDepth 100000 in
set_option maxHeartbeats 4000000 in
theorem concatA_any (V : Nat → Value) (D : Nat → List Al.A) (bs : Nat → Nat) (B : Nat) (w : World) (hV : ∀ i, i < 3 → Al.OwnA w (bs i) (V i) (D i)) (hc : ∀ i, i < 3 → w.cell? ⟨B, i, none⟩ = some (V i)) (hl : ∀ i, i < 3 → (D i).length ≤ 20000) :
    Calls Tryz.prog 69 #[.slice (some ⟨B, 0, none⟩) 3 3] w fun e w' => ∃ v, e = .returned v ∧ Al.OwnA w' w.heap.size v (Al.catD D 3) ∧ Gr w w' := by
  obtain ⟨i1, k0, k1, k2, k3⟩ := info_parts infoA
  have KI := Lib.hid k0; have KZ0 := Lib.hid k1; have KZ1 := Lib.hid k2; have KZ2 := Lib.hid k3
  clear k0 k1 k2 k3
  have HV := Lib.hid hV; have HC := Lib.hid hc
  have HL := Lib.hid (fun k (hk : k ≤ 3) => Al.catD_len (D := D) (k := k) (m := 20000) fun i hi => hl i (by omega))
  have HG := Lib.hid (fun n W (hn : n ≤ 100000) => growA_any n W hn)
  clear hV hc hl
  go_enter Tryz.func69, Tryz.ntmps69
  go_wp2_with fail
  go_loop [3, 11] (fun a q => ∃ i : Nat, i ≤ 3 ∧ q = .int .i64 (i : Int) ∧ a = .int .i64 ((Al.catD D i).length : Int)) (fun _ q => 3 - (intOf q).toNat)
  case atStart => exact ⟨0, by omega, rfl, rfl⟩
  case round =>
    obtain ⟨i, hi, rfl, rfl⟩ := hrel
    by_cases hlt : i < 3
    · have hcv := HC.out i hlt
      have hb1 := HL.out i (by omega); have hb2 := HL.out (i + 1) (by omega)
      have hcat : (Al.catD D (i + 1)).length = (Al.catD D i).length + (D i).length := by rw [Al.catD, List.length_append]
      rw [hcat] at hb2
      have hbb : (Al.catD D i).length + (D i).length ≤ 100000 := by omega
      have ib0 : (0 : Int) ≤ (i : Int) := by omega
      have ib1 : (i : Int) < 3 := by omega
      have HCT := Lib.hid hcat
      have hop := (HV.out i hlt).open
      clear HV HC HL HG hcat hb1 hb2
      generalize (Al.catD D i).length = x at *
      rcases hop with ⟨hv, hd⟩ | ⟨g, cap, cur, hv, -, -, hn, hm, -⟩
      · rw [hv] at hcv
        rw [hd] at HCT
        have hx1 : (x : Int) ≤ 100000 := by omega
        have hx2 : 0 ≤ (x : Int) := by omega
        clear hv hd hbb
        go_wp2_with fail
        go_round
        case rel => exact ⟨i + 1, by omega, by go_num, by rw [HCT.out]; simp⟩
        case measure => simp [intOf]; omega
      · rw [hv] at hcv
        have hm' : cap ≤ 9223372036854775807 := by unfold maxLen at hm; exact hm
        clear hv hm
        generalize (D i).length = y at *
        have hxy : 0 ≤ (x : Int) + (y : Int) := by omega
        have hxy2 : (x : Int) + (y : Int) ≤ 100000 := by omega
        go_wp2_with fail
        go_round
        case rel => exact ⟨i + 1, by omega, by go_num, by rw [HCT.out]; simp⟩
        case measure => simp [intOf]; omega
    · obtain rfl : i = 3 := by omega
      have hb := HL.out 3 (by omega)
      have HG3 := Lib.hid (HG.out (Al.catD D 3).length w (by omega))
      clear HG
      go_wp2_with fail
      refine HG3.out.mono ?_
      rintro e w4 ⟨v0, rfl, hown, hb4⟩
      have HO4 := Lib.hid hown
      clear hown HG3
      go_wp2_with fail
      go_loopw [6, 27] (fun v q wr => ∃ i : Nat, i ≤ 3 ∧ q = .int .i64 (i : Int) ∧ Hid (Al.OwnA wr w.heap.size v (Al.catD D i)) ∧ Gr w wr) (fun _ q _ => 3 - (intOf q).toNat)
      case atStart => exact ⟨0, by omega, rfl, HO4, hb4⟩
      case round =>
        clear HO4
        obtain ⟨i, hi, rfl, HO, hg⟩ := hrel
        by_cases hlt : i < 3
        · have hcv := Gr.at hg (HC.out i hlt)
          have hb1 := HL.out i (by omega); have hb2 := HL.out (i + 1) (by omega)
          have hcat : (Al.catD D (i + 1)).length = (Al.catD D i).length + (D i).length := by rw [Al.catD, List.length_append]
          rw [hcat] at hb2
          have hbb : (Al.catD D i).length + (D i).length ≤ 100000 := by omega
          have ib0 : (0 : Int) ≤ (i : Int) := by omega
          have ib1 : (i : Int) < 3 := by omega
          have HVi := Lib.hid ((HV.out i hlt).gr hg)
          have hop := HVi.out.open
          have hz := Gr.size hg
          clear HV HC HL hcat hb1 hb2 hb
          rcases hop with ⟨hv, hd⟩ | ⟨g, cap, cur, hv, -, -, hn, hm, -⟩
          · rw [hv] at hcv
            have HO' := Lib.hid (show Al.OwnA wr w.heap.size _ (Al.catD D (i + 1)) from by rw [Al.catD, hd, List.append_nil]; exact HO.out)
            go_wp2_with ((at_builtin; refine wpList_append_own_none rfl _ _ 48 rfl w.heap.size 31 i1 4 Tryz.underlying48 KI.out _ _ _ rfl (ownsRow_gr HO.out.row (by exact gr_auto)) rfl ?_))
            go_roundw
            case rel => first | exact ⟨i + 1, by omega, by go_num, HO', gr_auto⟩ | exact ⟨_, _, _, ⟨i + 1, by omega, by go_num, HO'⟩, rfl, rfl, by go_num⟩
            case measure => simp [intOf]; omega
          · rw [hv] at hcv
            have HSr := Lib.hid (show wr.ownsRow (bs i) 31 4 (.slice (some ⟨g, 0, none⟩) (D i).length cap) (D i).length ((D i).flatMap Al.A.enc) from by rw [← hv]; exact HVi.out.row)
            have HNew := Lib.hid (fun j u (hj : ((D i).flatMap Al.A.enc)[j]? = some u) => show wr.cell? ((⟨g, 0, none⟩ : Addr).add j) = some u from by
              have hlt2 : j < ((D i).flatMap Al.A.enc).length := (List.getElem?_eq_some_iff.1 hj).1
              have := HSr.out.cellAt j (by rw [← Al.enc_len]; exact hlt2)
              rw [hj] at this
              have e : ((⟨g, 0, none⟩ : Addr).add j) = ⟨g, j, none⟩ := by
                unfold Addr.add
                split
                · rename_i h; rw [h]
                · simp
              rw [e]; exact this)
            go_wp2_with (at_builtin; refine wpList_append_own _ rfl _ _ 48 rfl w.heap.size 31 i1 (.agg #[.int .i64 0, .string ⟨#[]⟩, .int .i64 0, .slice none 0 0]) 4 56 Tryz.underlying48 KI.out KZ0.out KZ1.out KZ2.out rfl (by decide) _ _ _ rfl (ownsRow_gr HO.out.row (by exact gr_auto)) ⟨g, 0, none⟩ (D i).length cap ((D i).flatMap Al.A.enc) rfl (Al.enc_len _) HNew.out (Al.enc_one _) (by unfold maxLen; omega) (by omega) hz ?_)
            intro v' w9 hown' hgrow hnil
            have HP := Lib.hid (show Al.OwnA w9 w.heap.size v' (Al.catD D (i + 1)) from by rw [Al.catD]; exact HO.out.cat HVi.out.own hown' hgrow)
            have g9 : Gr w w9 := Gr.own hg (Nat.le_refl _) HO.out.row hgrow
            clear HO hown' hgrow hnil HSr HVi
            go_wp2_with fail
            go_roundw
            case rel => exact ⟨i + 1, by omega, by go_num, HP, g9⟩
            case measure => simp [intOf]; omega
        · obtain rfl : i = 3 := by omega
          clear HV HC HL hb
          go_wp2_with fail
          go_ret
          exact ⟨_, rfl, HO.out, hg⟩
end Go.Proofs.YtllkiadedaghoaaGreatDoor
