/-
  Alarms: the reference's Nodes, JumpRange, SameRange, Right. Typed.
-/
import Derived.Test.YtllkiadedaghoaaGreatDoorEx33

set_option linter.unusedVariables false
set_option linter.unusedSimpArgs false
namespace Go.Proofs.YtllkiadedaghoaaGreatDoor
open Go.RowKit Go.Sort Go.Shelf
attribute [local go_sem ↓] Go.wp_at_zero Go.wp_at_succ
theorem infoS : (Tryz.prog.info? 9).map (fun i => (i.zero, i.size, i.bytes)) = some (some (.string ⟨#[]⟩), 1, 16) := by kernel_rfl
/-- Ordered, of a row that a call has made. -/
theorem rordered_own (v : Value) (d : List Al.A) (w : World) (base : Nat) (h : Al.OwnA w base v d) (hsz : d.length ≤ 100000) :
    Calls Tryz.prog 91 #[v] w fun e w' => ∃ v' d', e = .returned v' ∧ Al.OwnA w' w.heap.size v' d' ∧ d'.map Al.A.con = Al.srt (d.map Al.A.con) ∧ Gr w w' := by
  obtain ⟨s, rfl, hs, hc⟩ := h.sl
  have := rordered_any s w hs (by have := congrArg List.length hc; rw [Al.SlA.con_len, List.length_map] at this; omega)
  rw [hc] at this
  exact this
namespace Al
theorem nds_snoc (l : List M) (m : M) : nds (l ++ [m]) = addS (nds l) m.nd := by unfold nds; rw [List.foldl_append]; rfl
theorem any_take {o : List ByteArray} {s : ByteArray} {k : Nat} (hk : k < o.length) : (o.take (k + 1)).any (fun x => Ba.eqS x s) = ((o.take k).any (fun x => Ba.eqS x s) || Ba.eqS o[k] s) := by
  rw [List.take_succ_eq_append_getElem hk, List.any_append]; simp
theorem addS_len (o : List ByteArray) (s : ByteArray) : (addS o s).length ≤ o.length + 1 := by
  unfold addS; split <;> simp
theorem nds_len : ∀ l : List M, (nds l).length ≤ l.length := by
  have : ∀ (l : List M) (o : List ByteArray), (l.foldl (fun o m => addS o m.nd) o).length ≤ o.length + l.length := by
    intro l
    induction l with
    | nil => intro o; simp
    | cons m l ih => intro o; rw [List.foldl_cons, List.length_cons]; have := ih (addS o m.nd); have := addS_len o m.nd; omega
  intro l
  have := this l []
  simpa [nds] using this
end Al
set_option maxRecDepth 100000 in
set_option maxHeartbeats 4000000 in
theorem rnodes_any (s : Al.SlM) (w : World) (h : s.At w) (hn : s.n ≤ 10000) : Calls Tryz.prog 120 #[.slice s.A s.n s.c] w fun e w' => ∃ v, e = .returned v ∧ w'.ownsRow w.heap.size 9 1 v (Al.nds s.lst).length ((Al.nds s.lst).map Value.string) ∧ Gr w w' := by
  obtain ⟨i1, k0, k1, k2, k3⟩ := info_parts infoS
  have KI := Lib.hid k0; have KZ0 := Lib.hid k1; have KZ1 := Lib.hid k2; have KZ2 := Lib.hid k3
  clear k0 k1 k2 k3
  have HA := Lib.hid h.hA; have HX := Lib.hid h.hD
  have hnc := h.hc; have hcb := h.hb
  have HLn := Lib.hid (Al.SlM.lst_len s)
  have HLg := Lib.hid (fun i (hi : i < s.lst.length) => Al.lst_get s i hi)
  clear h
  generalize s.lst = T at *
  cases s with | mk A n c b o D =>
  simp only [] at *
  go_enter Tryz.func120, Tryz.ntmps120
  go_wp2_with fail
  go_loopw [3, 4] (fun v x wr => ∃ i : Nat, i ≤ n ∧ x = .int .i64 (i : Int) ∧ Hid (wr.ownsRow w.heap.size 9 1 v (Al.nds (T.take i)).length ((Al.nds (T.take i)).map Value.string)) ∧ Gr w wr) (fun _ x _ => n - (intOf x).toNat)
  case atStart => exact ⟨0, Nat.zero_le _, rfl, Lib.hid (World.ownsRow_nil _ _ _ _), Gr.refl _⟩
  case round =>
    obtain ⟨i, hi, rfl, HO, hg⟩ := hrel
    by_cases hlt : i < n
    · obtain rfl := HA.out (by omega)
      obtain ⟨hcl, -⟩ := HX.out i hlt
      obtain ⟨a0, a1, a2, a3, a4⟩ := hcl.gr hg
      have ib0 : (0 : Int) ≤ (i : Int) := by omega
      have ib1 : (i : Int) < (n : Int) := by omega
      have hz := Gr.size hg
      have HN := Lib.hid (show Al.nds (T.take (i + 1)) = Al.addS (Al.nds (T.take i)) (D i).nd from by
        rw [List.take_succ_eq_append_getElem (by rw [HLn.out]; exact hlt), HLg.out i (by rw [HLn.out]; exact hlt), Al.nds_snoc])
      have hol : (Al.nds (T.take i)).length ≤ 10000 := Nat.le_trans (Al.nds_len _) (by rw [List.length_take]; omega)
      clear HX HA hcl HLg a1 a2 a3 a4
      generalize (D i).nd = t at *
      obtain ⟨O, hO⟩ : ∃ O, Al.nds (T.take i) = O := ⟨_, rfl⟩
      rw [hO] at HO HN hol
      clear hO
      obtain ⟨VA, vc, vb, rfl, v1, v2, v3, v4⟩ := ownsRow_at HO.out
      obtain ⟨m, hm⟩ : ∃ m, O.length = m := ⟨_, rfl⟩
      rw [hm] at v1 v2 v4 hol ⊢
      have HM := Lib.hid hm
      have HV1 := Lib.hid v1
      have HV4 := Lib.hid (fun j (hj : j < m) => show wr.cell? ⟨vb, j, none⟩ = some (.string (O[j]'(by rw [HM.out]; exact hj))) from by rw [v4 j hj, List.getElem?_map, List.getElem?_eq_getElem (by rw [hm]; exact hj)]; rfl)
      clear v1 v4 hm
      go_upto_block 2 with fail
      go_cut [5] (fun q wx => q = .bool (O.any fun x => Ba.eqS x t) ∧ Gr wr wx)
      case first =>
        have HE := Lib.hid (show (O.take m).any (fun x => Ba.eqS x t) = O.any (fun x => Ba.eqS x t) from by rw [← HM.out, List.take_length])
        have HG := Lib.hid (fun k (hk : k < O.length) => Al.any_take (o := O) (s := t) hk)
        clear HN HO
        go_wp2_with fail
        go_loopw [5, 6] (fun q x wr3 => ∃ k : Nat, k ≤ m ∧ x = .int .i64 (k : Int) ∧ q = .bool ((O.take k).any fun x => Ba.eqS x t) ∧ Gr wr wr3) (fun _ x _ => m - (intOf x).toNat)
        case atStart => exact ⟨0, Nat.zero_le _, rfl, rfl, Gr.refl _⟩
        case round =>
          obtain ⟨k, hk, rfl, rfl, hg7⟩ := hrel
          by_cases hlk : k < m
          · obtain rfl := HV1.out (by omega)
            have b0 := Gr.at hg7 (HV4.out k hlk)
            have c0 := Gr.at hg7 a0
            have jb0 : (0 : Int) ≤ (k : Int) := by omega
            have jb1 : (k : Int) < (m : Int) := by omega
            have hgk := HG.out k (by rw [HM.out]; exact hlk)
            have hgw := hg.trans hg7
            clear HG HV4 HV1 HE a0
            generalize O[k]'(by rw [HM.out]; exact hlk) = y at *
            cases hb : (O.take k).any fun x => Ba.eqS x t
            · rw [hb, Bool.false_or] at hgk
              cases hy : Ba.eqS y t
              · rw [hy] at hgk
                have HGk := Lib.hid hgk
                unfold Ba.eqS at hy
                clear hgk hb
                go_wp2_with fail
                (first | refine name_world ?_ | refine (show (∀ W, W = _ → Calls _ _ _ W _) → Calls _ _ _ _ _ from fun h => h _ rfl) ?_); intro W3 hW3
                have g3 : Gr w W3 := by rw [hW3]; exact gr_auto
                have gb3_wr : Gr wr W3 := by (try clear g3); rw [hW3]; exact gr_auto
                have k3_0 : W3.cell? ⟨b, o + i * 5, none⟩ = some (.string t) := by rw [hW3]; first | (simp [go_sem, *]; done) | (refine Gr.at ?_ (by assumption); exact gr_auto)
                have b3_0 : b < W3.heap.size := World.block_lt_of_cell? _ _ k3_0
                have k3_1 : W3.cell? ⟨vb, k, none⟩ = some (.string y) := by rw [hW3]; first | (simp [go_sem, *]; done) | (refine Gr.at ?_ (by assumption); exact gr_auto)
                have b3_1 : vb < W3.heap.size := World.block_lt_of_cell? _ _ k3_1
                clear hW3
                have s3_0 : ∀ gw : GW W3, gw.1.cell? ⟨b, o + i * 5, none⟩ = some (.string t) := fun gw => Gr.at gw.2 k3_0
                have s3_1 : ∀ gw : GW W3, gw.1.cell? ⟨vb, k, none⟩ = some (.string y) := fun gw => Gr.at gw.2 k3_1
                have hnn := Nat.le_refl 0
                refine wp_region_gr (by kernel_rfl) (by kernel_rfl) ?_
                repeat (go_big_quiet_step (skip))
                refine wpQuiet_nil ?_
                intro w4 hb4
                clear s3_0 s3_1
                have g4 : Gr w w4 := g3.trans hb4
                have k3_0 := Gr.at hb4 k3_0
                have k3_1 := Gr.at hb4 k3_1
                go_wp2_with fail
                go_roundw
                case rel => exact ⟨k + 1, by omega, by go_num, by rw [HGk.out], (hg7.trans gb3_wr).trans hb4⟩
                case measure => simp [intOf]; omega
              · rw [hy] at hgk
                have HGk := Lib.hid hgk
                unfold Ba.eqS at hy
                clear hgk hb
                go_wp2_with fail
                (first | refine name_world ?_ | refine (show (∀ W, W = _ → Calls _ _ _ W _) → Calls _ _ _ _ _ from fun h => h _ rfl) ?_); intro W3 hW3
                have g3 : Gr w W3 := by rw [hW3]; exact gr_auto
                have gb3_wr : Gr wr W3 := by (try clear g3); rw [hW3]; exact gr_auto
                have k3_0 : W3.cell? ⟨b, o + i * 5, none⟩ = some (.string t) := by rw [hW3]; first | (simp [go_sem, *]; done) | (refine Gr.at ?_ (by assumption); exact gr_auto)
                have b3_0 : b < W3.heap.size := World.block_lt_of_cell? _ _ k3_0
                have k3_1 : W3.cell? ⟨vb, k, none⟩ = some (.string y) := by rw [hW3]; first | (simp [go_sem, *]; done) | (refine Gr.at ?_ (by assumption); exact gr_auto)
                have b3_1 : vb < W3.heap.size := World.block_lt_of_cell? _ _ k3_1
                clear hW3
                have s3_0 : ∀ gw : GW W3, gw.1.cell? ⟨b, o + i * 5, none⟩ = some (.string t) := fun gw => Gr.at gw.2 k3_0
                have s3_1 : ∀ gw : GW W3, gw.1.cell? ⟨vb, k, none⟩ = some (.string y) := fun gw => Gr.at gw.2 k3_1
                have hnn := Nat.le_refl 0
                refine wp_region_gr (by kernel_rfl) (by kernel_rfl) ?_
                repeat (go_big_quiet_step (skip))
                refine wpQuiet_nil ?_
                intro w4 hb4
                clear s3_0 s3_1
                have g4 : Gr w w4 := g3.trans hb4
                have k3_0 := Gr.at hb4 k3_0
                have k3_1 := Gr.at hb4 k3_1
                go_wp2_with fail
                go_roundw
                case rel => exact ⟨k + 1, by omega, by go_num, by rw [HGk.out], (hg7.trans gb3_wr).trans hb4⟩
                case measure => simp [intOf]; omega
            · rw [hb, Bool.true_or] at hgk
              have HGk := Lib.hid hgk
              clear hgk hb
              go_wp2_with fail
              (first | refine name_world ?_ | refine (show (∀ W, W = _ → Calls _ _ _ W _) → Calls _ _ _ _ _ from fun h => h _ rfl) ?_); intro W3 hW3
              have g3 : Gr w W3 := by rw [hW3]; exact gr_auto
              have gb3_wr : Gr wr W3 := by (try clear g3); rw [hW3]; exact gr_auto
              have k3_0 : W3.cell? ⟨b, o + i * 5, none⟩ = some (.string t) := by rw [hW3]; first | (simp [go_sem, *]; done) | (refine Gr.at ?_ (by assumption); exact gr_auto)
              have b3_0 : b < W3.heap.size := World.block_lt_of_cell? _ _ k3_0
              have k3_1 : W3.cell? ⟨vb, k, none⟩ = some (.string y) := by rw [hW3]; first | (simp [go_sem, *]; done) | (refine Gr.at ?_ (by assumption); exact gr_auto)
              have b3_1 : vb < W3.heap.size := World.block_lt_of_cell? _ _ k3_1
              clear hW3
              have s3_0 : ∀ gw : GW W3, gw.1.cell? ⟨b, o + i * 5, none⟩ = some (.string t) := fun gw => Gr.at gw.2 k3_0
              have s3_1 : ∀ gw : GW W3, gw.1.cell? ⟨vb, k, none⟩ = some (.string y) := fun gw => Gr.at gw.2 k3_1
              have hnn := Nat.le_refl 0
              refine wp_region_gr (by kernel_rfl) (by kernel_rfl) ?_
              repeat (go_big_quiet_step (skip))
              refine wpQuiet_nil ?_
              intro w4 hb4
              clear s3_0 s3_1
              have g4 : Gr w w4 := g3.trans hb4
              have k3_0 := Gr.at hb4 k3_0
              have k3_1 := Gr.at hb4 k3_1
              go_wp2_with fail
              go_roundw
              case rel => exact ⟨k + 1, by omega, by go_num, by rw [HGk.out], (hg7.trans gb3_wr).trans hb4⟩
              case measure => simp [intOf]; omega
          · obtain rfl : m = k := by omega
            clear HG HV4 HV1
            go_wp2_with fail
            go_meet
            exact ⟨by rw [HE.out], hg7⟩
      case rest =>
        obtain ⟨rfl, hg2⟩ := hcut
        have p0 := Gr.at hg2 a0
        have gK := hg.trans hg2
        have hz2 := Gr.size gK
        have HO2 := Lib.hid (ownsRow_gr HO.out hg2)
        clear HV1 HV4 a0 HO
        cases hb : O.any fun x => Ba.eqS x t
        · have HF := Lib.hid (show Al.nds (T.take (i + 1)) = O ++ [t] from by rw [HN.out]; unfold Al.addS; rw [hb]; rfl)
          clear HN
          go_wp2_with (at_builtin; refine wpList_append_own _ rfl _ _ 58 rfl w.heap.size 9 i1 (.string ⟨#[]⟩) 1 16 Tryz.underlying58 KI.out KZ0.out KZ1.out KZ2.out rfl (by decide) _ m (O.map Value.string) rfl (by have z := HO2.out; rw [HM.out] at z; exact ownsRow_gr z (by exact gr_auto)) ⟨wc.heap.size, 0, none⟩ 1 1 [.string t] rfl rfl (by intro p u hp; rcases p with _ | p <;> simp at hp <;> (try subst hp) <;> first | (simp [Addr.add, go_sem]; done) | (simp [Addr.add]; done)) (by intro u hu; simp at hu; subst hu; rfl) (by unfold maxLen; omega) (by omega) (by simp; omega) ?_)
          intro v' w9 hown' hgrow hnil
          have HO9 := Lib.hid (show w9.ownsRow w.heap.size 9 1 v' (Al.nds (T.take (i + 1))).length ((Al.nds (T.take (i + 1))).map Value.string) from by rw [HF.out, List.length_append, HM.out, List.map_append]; exact hown')
          have g9 : Gr w w9 := Gr.own (gK.alloc (Obj.cells #[.string t] 9)) (Nat.le_refl _) (by have z := HO2.out; rw [HM.out] at z; exact ownsRow_gr z (Gr.alloc (Gr.refl wc) _)) hgrow
          clear hown' hgrow hnil HO2 HF
          go_wp2_with fail
          go_roundw
          case rel => exact ⟨i + 1, by omega, by go_num, HO9, g9⟩
          case measure => simp [intOf]; omega
        · have HF := Lib.hid (show Al.nds (T.take (i + 1)) = O from by rw [HN.out]; unfold Al.addS; rw [hb]; rfl)
          have HO9 := Lib.hid (show wc.ownsRow w.heap.size 9 1 (.slice VA m vc) (Al.nds (T.take (i + 1))).length ((Al.nds (T.take (i + 1))).map Value.string) from by rw [HF.out, HM.out]; have z := HO2.out; rw [HM.out] at z; exact z)
          clear HN HO2 HF
          go_wp2_with fail
          go_roundw
          case rel => exact ⟨i + 1, by omega, by go_num, HO9, gK⟩
          case measure => simp [intOf]; omega
    · obtain rfl : n = i := by omega
      have HF := Lib.hid (show wr.ownsRow w.heap.size 9 1 _ (Al.nds T).length ((Al.nds T).map Value.string) from by
        have := HO.out
        rw [← HLn.out, List.take_length] at this
        exact this)
      clear HX HA HLg HO
      go_wp2_with fail
      go_ret
      exact ⟨_, rfl, HF.out, hg⟩
end Go.Proofs.YtllkiadedaghoaaGreatDoor
