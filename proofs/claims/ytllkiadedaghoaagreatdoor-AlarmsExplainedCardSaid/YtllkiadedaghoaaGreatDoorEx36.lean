/-
  Alarms: the reference's Sorted and Of. Typed.
  Alarms: the reference's Jumps. (Printed by mkaml.py.)
-/
import Derived.Test.YtllkiadedaghoaaGreatDoorEx35
import Derived.Test.YtllkiadedaghoaaGreatDoorEx34
import Derived.Test.YtllkiadedaghoaaGreatDoorEx31
import Derived.Deep.RegionHeld3
set_option linter.unusedVariables false
set_option linter.unusedSimpArgs false
namespace Go.Proofs.YtllkiadedaghoaaGreatDoor
open Go.RowKit Go.Sort Go.Shelf
attribute [local go_sem ↓] Go.wp_at_zero Go.wp_at_succ
set_option maxRecDepth 100000 in
set_option maxHeartbeats 4000000 in
theorem rsorted_any (s : Al.SlM) (w : World) (h : s.At w) (hv : Al.vL s.lst) : Calls Tryz.prog 161 #[.slice s.A s.n s.c] w fun e w' => ∃ v, e = .returned v ∧ w'.ownsRow w.heap.size 53 5 v (Al.srtM s.lst).length (Al.flat (Al.srtM s.lst)) ∧ Gr w w' := by
  have HA := Lib.hid h.hA; have HX := Lib.hid h.hD
  have hnc := h.hc; have hcb := h.hb
  have hn : s.n ≤ 10000 := by have := hv.1; rw [Al.SlM.lst_len] at this; exact this
  have HLn := Lib.hid (Al.SlM.lst_len s)
  have HLg := Lib.hid (fun i (hi : i < s.lst.length) => Al.lst_get s i hi)
  have HW := Lib.hid (fun (s' : Al.SlM) m W (h' : s'.At W) hN hn' => rwith_any s' m W h' hN hn')
  have HS := Lib.hid (fun (d : List Al.M) (hp : s.lst.Perm d) hs => Al.srtM_of hv.2.2 hp hs)
  have HOk := Lib.hid (show ∀ m ∈ s.lst, m.Ok from fun m hm => by
    obtain ⟨i, hi, rfl⟩ := List.getElem_of_mem hm
    rw [Al.lst_get]; exact (h.hD i (by rw [← Al.SlM.lst_len]; exact hi)).2)
  clear h hv
  obtain ⟨R, hR⟩ : ∃ R, Al.srtM s.lst = R := ⟨_, rfl⟩
  rw [hR] at HS ⊢
  clear hR
  generalize s.lst = T at *
  cases s with | mk A n c b o D =>
  simp only [] at *
  go_enter Tryz.func161, Tryz.ntmps161
  go_wp2_with fail
  go_loopw [3, 4] (fun v x wr => ∃ (i : Nat) (L : List Al.M), i ≤ n ∧ x = .int .i64 (i : Int) ∧ Hid (wr.ownsRow w.heap.size 53 5 v L.length (Al.flat L)) ∧ Hid ((T.take i).Perm L) ∧ Hid (L.Pairwise fun a b => Al.kcmp a.key b.key ≤ 0) ∧ Gr w wr) (fun _ x _ => n - (intOf x).toNat)
  case atStart => exact ⟨0, [], Nat.zero_le _, rfl, Lib.hid (World.ownsRow_nil _ _ _ _), Lib.hid .nil, Lib.hid .nil, Gr.refl _⟩
  case round =>
    obtain ⟨i, L, hi, rfl, HO, HP, HSd, hg⟩ := hrel
    by_cases hlt : i < n
    · obtain rfl := HA.out (by omega)
      obtain ⟨hcl, -⟩ := HX.out i hlt
      obtain ⟨a0, a1, a2, a3, a4⟩ := hcl.gr hg
      have ib0 : (0 : Int) ≤ (i : Int) := by omega
      have ib1 : (i : Int) < (n : Int) := by omega
      have hTi := HLg.out i (by rw [HLn.out]; exact hlt)
      have hLl : L.length = i := by have := HP.out.length_eq; rw [List.length_take, HLn.out] at this; omega
      obtain ⟨s', rfl, hs1, hs2, -, hs4⟩ := Al.ownM_sl HO.out (fun m hm => HOk.out m (List.take_subset _ _ (HP.out.mem_iff.2 hm)))
      have hsn : s'.n ≤ 10000 := by rw [← Al.SlM.lst_len, hs2]; omega
      have HWi := Lib.hid (HW.out s' (D i) wr hs1 hs4 hsn)
      rw [hs2] at HWi
      have HP2 := Lib.hid (show (T.take (i + 1)).Perm (Al.insM L (D i)) from by
        rw [List.take_succ_eq_append_getElem (by rw [HLn.out]; exact hlt), hTi]
        refine List.perm_append_comm.trans ?_
        exact (List.Perm.cons _ HP.out).trans (Al.insM_perm L (D i)).symm)
      have HS2 := Lib.hid (Al.insM_ok (m := D i) HSd.out)
      have hz := Gr.size hg
      clear HX HA hcl hTi HW HS HLg HO HP HSd hs1 hs2 hs4 hsn hLl
      generalize D i = d at *
      unfold Al.M.enc at HWi
      go_wp2_with fail
      refine HWi.out.mono ?_
      rintro e w4 ⟨v4, rfl, ho4, hb4⟩
      have HO4 := Lib.hid (ownsRow_base ho4 hz)
      have g4 := hg.trans hb4
      clear ho4 hb4 HWi
      go_wp2_with fail
      go_roundw
      case rel => exact ⟨i + 1, _, by omega, by go_num, HO4, HP2, HS2, g4⟩
      case measure => simp [intOf]; omega
    · obtain rfl : n = i := by omega
      have hRL := HS.out L (by have := HP.out; rw [← HLn.out, List.take_length] at this; exact this) HSd.out
      have HF := Lib.hid (show wr.ownsRow w.heap.size 53 5 _ R.length (Al.flat R) from by rw [← hRL]; exact HO.out)
      clear HX HA HW HS HLg HO HP HSd hRL
      go_wp2_with fail
      go_ret
      exact ⟨_, rfl, HF.out, hg⟩
set_option maxRecDepth 100000 in
set_option maxHeartbeats 4000000 in
theorem rof_any (s : Al.SlM) (nd : ByteArray) (w : World) (h : s.At w) (hv : Al.vL s.lst) : Calls Tryz.prog 121 #[.slice s.A s.n s.c, .string nd] w fun e w' => ∃ v, e = .returned v ∧ w'.ownsRow w.heap.size 53 5 v (Al.ofN s.lst nd).length (Al.flat (Al.ofN s.lst nd)) ∧ Gr w w' := by
  obtain ⟨i1, k0, k1, k2, k3⟩ := info_parts infoM
  have KI := Lib.hid k0; have KZ0 := Lib.hid k1; have KZ1 := Lib.hid k2; have KZ2 := Lib.hid k3
  clear k0 k1 k2 k3
  have HS := Lib.hid (rsorted_any s w h hv)
  have hOk : ∀ m ∈ Al.srtM s.lst, m.Ok := fun m hm => by
    obtain ⟨i, hi, rfl⟩ := List.getElem_of_mem ((Al.srtM_perm s.lst).mem_iff.1 hm)
    rw [Al.lst_get]; exact (h.hD i (by rw [← Al.SlM.lst_len]; exact hi)).2
  have hLen : (Al.srtM s.lst).length ≤ 10000 := by rw [(Al.srtM_perm s.lst).length_eq]; exact hv.1
  have HOf := Lib.hid (show Al.ofN s.lst nd = Al.own (Al.srtM s.lst) nd from rfl)
  clear h hv
  generalize Al.ofN s.lst nd = R at *
  generalize Al.srtM s.lst = T at *
  generalize s.A = A0 at *; generalize s.n = n0 at *; generalize s.c = c0 at *
  go_enter Tryz.func121, Tryz.ntmps121
  go_wp2_with fail
  refine HS.out.mono ?_
  rintro e w1 ⟨v1, rfl, ho1, hg1⟩
  obtain ⟨s', rfl, hs1, hs2, -, -⟩ := Al.ownM_sl ho1 hOk
  clear ho1 hOk HS
  have HA := Lib.hid hs1.hA; have HX := Lib.hid hs1.hD
  have hnc := hs1.hc; have hcb := hs1.hb
  have hsl := Al.SlM.lst_len s'
  have hsg : ∀ i (hi : i < s'.lst.length), s'.lst[i] = s'.D i := fun i hi => Al.lst_get s' i hi
  rw [hs2] at hsl
  have HLg := Lib.hid (show ∀ i (hi : i < T.length), T[i] = s'.D i from by rw [← hs2]; exact hsg)
  have hn : s'.n ≤ 10000 := by omega
  have HLn := Lib.hid hsl
  clear hs1 hs2 hsl hsg hLen
  cases s' with | mk A n c b o D =>
  simp only [] at *
  have hz1 := Gr.size hg1
  go_wp2_with fail
  go_loopw [5, 7] (fun v x wr => ∃ i : Nat, i ≤ n ∧ x = .int .i64 (i : Int) ∧ Hid (wr.ownsRow w1.heap.size 53 5 v (Al.own (T.take i) nd).length (Al.flat (Al.own (T.take i) nd))) ∧ Gr w1 wr) (fun _ x _ => n - (intOf x).toNat)
  case atStart => exact ⟨0, Nat.zero_le _, rfl, Lib.hid (World.ownsRow_nil _ _ _ _), Gr.refl _⟩
  case round =>
    obtain ⟨i, hi, rfl, HO, hg⟩ := hrel
    by_cases hlt : i < n
    · obtain rfl := HA.out (by omega)
      obtain ⟨hcl, -⟩ := HX.out i hlt
      obtain ⟨a0, a1, a2, a3, a4⟩ := hcl.gr hg
      have ib0 : (0 : Int) ≤ (i : Int) := by omega
      have ib1 : (i : Int) < (n : Int) := by omega
      have hkn : (Al.own (T.take i) nd).length ≤ 10000 := by
        have := (List.filter_sublist (l := T.take i) (p := fun m => Ba.eqS m.nd nd)).length_le
        unfold Al.own
        rw [List.length_take] at this; omega
      have HN := Lib.hid (show Al.own (T.take (i + 1)) nd = Al.own (T.take i) nd ++ (if Ba.eqS (D i).nd nd = true then [D i] else []) from by
        rw [List.take_succ_eq_append_getElem (by rw [HLn.out]; exact hlt), HLg.out i (by rw [HLn.out]; exact hlt), Al.own_snoc])
      have hz := Gr.size hg
      clear HX HA hcl HLg HOf
      generalize D i = m at *
      cases t0 : Ba.eqS m.nd nd
      · rw [t0] at HN
        simp only [Bool.false_eq_true, if_false, List.append_nil] at HN
        unfold Ba.eqS at t0
        have HO2 := Lib.hid (show wr.ownsRow w1.heap.size 53 5 _ (Al.own (T.take (i + 1)) nd).length (Al.flat (Al.own (T.take (i + 1)) nd)) from by rw [HN.out]; exact HO.out)
        clear HO HN
        go_wp2_with fail
        go_roundw
        case rel => exact ⟨i + 1, by omega, by go_num, HO2, hg⟩
        case measure => simp [intOf]; omega
      · rw [t0] at HN
        simp only [if_true] at HN
        unfold Ba.eqS at t0
        go_wp2_with (at_builtin; refine wpList_append_own _ rfl _ _ 26 rfl w1.heap.size 53 i1 (.agg #[.string ⟨#[]⟩, .int .i64 0, .int .i64 0, .int .i64 0, .int .i64 0]) 5 48 Tryz.underlying26 KI.out KZ0.out KZ1.out KZ2.out rfl (by decide) _ _ _ rfl (ownsRow_gr HO.out (by exact gr_auto)) ⟨wr.heap.size, 0, none⟩ 1 1 [.string m.nd, .int .i64 m.nu, .int .i64 m.tm, .int .i64 m.ar, .int .i64 m.lv] rfl rfl (cells_new wr #[.string m.nd, .int .i64 m.nu, .int .i64 m.tm, .int .i64 m.ar, .int .i64 m.lv] 53) (by intro u hu; simp at hu; rcases hu with rfl | rfl | rfl | rfl | rfl <;> rfl) (by unfold maxLen; omega) (by omega) (by simp; omega) ?_)
        intro v' w9 hown' hgrow hnil
        have HO2 := Lib.hid (show w9.ownsRow w1.heap.size 53 5 v' (Al.own (T.take (i + 1)) nd).length (Al.flat (Al.own (T.take (i + 1)) nd)) from by rw [HN.out, List.length_append, Al.flat_snoc]; exact hown')
        have g9 : Gr w1 w9 := Gr.own (hg.alloc (Obj.cells #[.string m.nd, .int .i64 m.nu, .int .i64 m.tm, .int .i64 m.ar, .int .i64 m.lv] 53)) (Nat.le_refl _) (ownsRow_gr HO.out (Gr.alloc (Gr.refl wr) _)) hgrow
        clear HO hown' hgrow hnil HN
        go_wp2_with fail
        go_roundw
        case rel => exact ⟨i + 1, by omega, by go_num, HO2, g9⟩
        case measure => simp [intOf]; omega
    · obtain rfl : n = i := by omega
      have HF := Lib.hid (show wr.ownsRow w.heap.size 53 5 _ R.length (Al.flat R) from by
        have := HO.out
        rw [← HLn.out, List.take_length] at this
        rw [HOf.out]; exact ownsRow_base this hz1)
      clear HX HA HLg HOf HO
      go_wp2_with fail
      go_ret
      exact ⟨_, rfl, HF.out, hg1.trans hg⟩
end Go.Proofs.YtllkiadedaghoaaGreatDoor
set_option linter.unusedVariables false
set_option linter.unusedSimpArgs false
namespace Go.Proofs.YtllkiadedaghoaaGreatDoor
open Go.RowKit Go.Sort Go.Shelf
attribute [local go_sem ↓] Go.wp_at_zero Go.wp_at_succ
namespace Al
/-- An alarm whose two numbers lie in a block of their own. -/
theorem own_two {W : World} {g : Nat} {kd tm n1 n2 : Int} {nd : ByteArray} {fr : Nat × Nat} (h : W.heap[g]? = some (.cells #[.int .i64 n1, .int .i64 n2] 3 fr)) : A.Own ⟨kd, nd, tm, some ⟨g, 0, none⟩, g, 0, 2, 2, fun q => if q = 0 then n1 else n2⟩ W :=
  ⟨⟨show 2 ≤ 9223372036854775807 by decide, fun _ => rfl, fun q hq => by
    have hq' : q < 2 := hq
    rcases (by omega : q = 0 ∨ q = 1) with rfl | rfl <;> simp [World.cell?, h]⟩, ⟨_, _, h⟩, show 0 < 2 by decide⟩
theorem ofN_nd {l : List M} {s : ByteArray} {m : M} (h : m ∈ ofN l s) : m.nd = s := own_mem (L := srtM l) h
theorem ofN_mem {l : List M} {s : ByteArray} {m : M} (h : m ∈ ofN l s) : m ∈ l := (srtM_perm l).mem_iff.1 (List.mem_filter.1 h).1
theorem take_nodup {U : List ByteArray} (h : U.Nodup) (k : Nat) : (U.take k).Nodup := List.Pairwise.sublist (List.take_sublist k U) h
theorem flatMap_snoc {α β : Type} (U : List α) (F : α → List β) {i : Nat} (hi : i < U.length) : (U.take (i + 1)).flatMap F = (U.take i).flatMap F ++ F U[i] := by
  rw [List.take_succ_eq_append_getElem hi, List.flatMap_append]; simp
/-- A world that has grown, in which a row of messages stands. -/
def Kp (w1 : World) (n : Nat) (vT : Value) (T : List M) (w' : World) : Prop := Gr w1 w' ∧ w'.ownsRow 0 53 5 vT n (flat T)
theorem ownM_open {w : World} {base : Nat} {v : Value} {l : List M} (h : w.ownsRow base 53 5 v l.length (flat l)) : ∃ A c b, v = .slice A l.length c ∧ (0 < l.length → A = some ⟨b, 0, none⟩) ∧ l.length ≤ c ∧ c ≤ 9223372036854775807 := by
  obtain ⟨hl, ⟨rfl, z⟩ | ⟨g, cap, cur, rfl, hb, hc, hn, hm, hs, r⟩⟩ := h
  · exact ⟨none, 0, 0, by rw [z], fun h => by omega, by omega, by omega⟩
  · exact ⟨_, cap, g, rfl, fun _ => rfl, hn, by unfold maxLen at hm; exact hm⟩
theorem rowM_at {w : World} {base g n c : Nat} {l : List M} (h : w.ownsRow base 53 5 (.slice (some ⟨g, 0, none⟩) n c) l.length (flat l)) : ∀ j (hj : j < l.length), (l[j]).Cells w g (j * 5) := by
  intro j hj
  have hn : n = l.length := by
    obtain ⟨hl, ⟨h1, -⟩ | ⟨g', cap, cur, hv, -⟩⟩ := h
    · cases h1
    · simp only [Value.slice.injEq] at hv; exact hv.2.1
  subst hn
  have key : ∀ q, q < 5 → w.cell? ⟨g, j * 5 + q, none⟩ = some (l[j]!.enc)[q]! := fun q hq => by
    have e := flat_get M.enc 5 (fun _ => rfl) l j q hj hq
    rw [h.cellAt (j * 5 + q) (by omega)]; exact e
  rw [getElem!_pos l j hj] at key
  exact ⟨key 0 (by omega), key 1 (by omega), key 2 (by omega), key 3 (by omega), key 4 (by omega)⟩
theorem OwnA.keepM {w w' : World} {base b2 n : Nat} {v vT : Value} {d : List Al.A} {xs : List Value} (hO : OwnA w base v d) (hT : w.ownsRow b2 53 5 vT n xs) (hg : w.grownBy w' v.ownBlock) : w'.ownsRow b2 53 5 vT n xs :=
  ownsRow_keep hT fun g hgv => hg.block g (hT.lt g hgv).2 fun e => by
    obtain ⟨hl, ⟨rfl, -⟩ | ⟨g1, cap, cur, rfl, hb, hc, -⟩⟩ := hO.row
    · cases e
    · obtain ⟨hl2, ⟨rfl, -⟩ | ⟨g2, cap2, cur2, rfl, hb2, hc2, -⟩⟩ := hT
      · cases hgv
      · simp only [Value.ownBlock, Option.some.injEq] at e hgv
        rw [hgv, e, hc] at hc2
        simp only [Option.some.injEq, Obj.cells.injEq] at hc2
        exact absurd hc2.2.1 (by decide)
end Al
set_option maxRecDepth 100000 in
set_option maxHeartbeats 8000000 in
theorem rjumps_any (s : Al.SlM) (most : Int) (w : World) (h : s.At w) (hv : Al.vL s.lst) (hmo : 0 ≤ most ∧ most ≤ 8388608) : Calls Tryz.prog 90 #[.slice s.A s.n s.c, .int .i64 most] w fun e w' => ∃ v d, e = .returned v ∧ Al.OwnA w' w.heap.size v d ∧ d.map Al.A.con = Al.srt (Al.jmpC most s.lst) ∧ Gr w w' := by
  obtain ⟨i1, k0, k1, k2, k3⟩ := info_parts infoA
  have KI := Lib.hid k0; have KZ0 := Lib.hid k1; have KZ1 := Lib.hid k2; have KZ2 := Lib.hid k3
  clear k0 k1 k2 k3
  have hsn : s.n ≤ 10000 := by have := hv.1; rw [Al.SlM.lst_len] at this; exact this
  have HNo := Lib.hid (rnodes_any s w h hsn)
  have HOf := Lib.hid (fun t W (hW : Gr w W) => rof_any s t W (h.gr hW) hv)
  have HOk := Lib.hid (show ∀ m ∈ s.lst, m.Ok from fun m hm => by
    obtain ⟨i, hi, rfl⟩ := List.getElem_of_mem hm
    rw [Al.lst_get]; exact (h.hD i (by rw [← Al.SlM.lst_len]; exact hi)).2)
  have HBd := Lib.hid (show ∀ m ∈ s.lst, -4194304 ≤ m.lv ∧ m.lv ≤ 4194304 from fun m hm => by
    have z := hv.2.1 m hm
    unfold Al.mOk at z
    simp only [Bool.and_eq_true] at z
    have y := z.2.2.2.2.2
    unfold Ba.bet at y
    simp only [Bool.and_eq_true, decide_eq_true_eq] at y
    exact y)
  have HOT := Lib.hid (fun t => show (∀ m ∈ Al.ofN s.lst t, m.Ok) ∧ (∀ m ∈ Al.ofN s.lst t, -4194304 ≤ m.lv ∧ m.lv ≤ 4194304) ∧ (∀ m ∈ Al.ofN s.lst t, m.nd = t) ∧ (Al.ofN s.lst t).length ≤ 10000 from
    ⟨fun m hm => HOk.out m (Al.ofN_mem hm), fun m hm => HBd.out m (Al.ofN_mem hm), fun m hm => Al.ofN_nd hm, Nat.le_trans (List.filter_sublist (l := Al.srtM s.lst) (p := fun m => Ba.eqS m.nd t)).length_le (by rw [(Al.srtM_perm s.lst).length_eq]; exact hv.1)⟩)
  have HFl := Lib.hid (fun ss (hn : ss.Nodup) => show (ss.flatMap fun t => Al.jmp most (Al.ofN s.lst t)).length ≤ 10000 from Nat.le_trans (Al.flat_len (L := Al.srtM s.lst) (fun t => Al.jmp most (Al.own (Al.srtM s.lst) t)) (fun t => Al.jmp_len most _) ss hn) (by rw [(Al.srtM_perm s.lst).length_eq]; exact hv.1))
  have HUn := Lib.hid (Al.nds_nodup s.lst)
  have HRes := Lib.hid (show Al.jmpC most s.lst = (Al.nds s.lst).flatMap fun t => Al.jmp most (Al.ofN s.lst t) from rfl)
  clear h hv HOk HBd
  generalize Al.jmpC most s.lst = RES at *
  generalize Al.nds s.lst = U at *
  obtain ⟨OF, hOF⟩ : ∃ OF, (fun t => Al.ofN s.lst t) = OF := ⟨_, rfl⟩
  have hOF2 : ∀ t, Al.ofN s.lst t = OF t := fun t => by rw [← hOF]
  simp only [hOF2] at HOf HOT HFl HRes
  clear hOF hOF2
  generalize s.A = A0 at *; generalize s.n = n0 at *; generalize s.c = c0 at *
  go_enter Tryz.func90, Tryz.ntmps90
  go_wp2_with fail
  refine HNo.out.mono ?_
  rintro e w1 ⟨vU, rfl, hU, hg1⟩
  clear HNo
  obtain ⟨UA, uc, ub, rfl, u1, u2, u3, u4⟩ := ownsRow_at hU
  obtain ⟨un, hun⟩ : ∃ m, U.length = m := ⟨_, rfl⟩
  rw [hun] at u1 u2 u4 ⊢
  have HUN := Lib.hid hun
  clear hun hU
  have HU1 := Lib.hid u1
  have HU4 := Lib.hid (fun j (hj : j < un) => show w1.cell? ⟨ub, j, none⟩ = some (.string (U[j]'(by rw [HUN.out]; exact hj))) from by rw [u4 j hj, List.getElem?_map, List.getElem?_eq_getElem (by rw [HUN.out]; exact hj)]; rfl)
  clear u1 u4
  have hz1 := Gr.size hg1
  go_wp2_with fail
  go_loopw [5, 7] (fun v x wr => ∃ (i : Nat) (d : List Al.A), i ≤ un ∧ x = .int .i64 (i : Int) ∧ Hid (Al.OwnA wr w1.heap.size v d) ∧ Hid (d.map Al.A.con = (U.take i).flatMap fun t => Al.jmp most (OF t)) ∧ Gr w1 wr) (fun _ x _ => un - (intOf x).toNat)
  case atStart => exact ⟨0, [], Nat.zero_le _, rfl, Lib.hid (Al.OwnA.nil _ _), Lib.hid rfl, Gr.refl _⟩
  case round =>
    obtain ⟨i, ds, hi, rfl, HO, HL, hg⟩ := hrel
    by_cases hlt : i < un
    · obtain rfl := HU1.out (by omega)
      have A0c := HU4.out i hlt
      have a0 := Gr.at hg A0c
      have ib0 : (0 : Int) ≤ (i : Int) := by omega
      have ib1 : (i : Int) < (un : Int) := by omega
      have HTT := Lib.hid (show ds.map Al.A.con ++ Al.jmp most ((OF (U[i]'(by rw [HUN.out]; exact hlt))).drop 0) = (U.take (i + 1)).flatMap fun t => Al.jmp most (OF t) from by
        rw [HL.out, Al.flatMap_snoc U _ (by rw [HUN.out]; exact hlt)]; rfl)
      have HLb := Lib.hid (HFl.out (U.take (i + 1)) (Al.take_nodup HUn.out _))
      have HOi := Lib.hid (fun W hW => HOf.out (U[i]'(by rw [HUN.out]; exact hlt)) W hW)
      obtain ⟨t1, t2, t3, t4⟩ := HOT.out (U[i]'(by rw [HUN.out]; exact hlt))
      clear HU1 HU4 HL HFl HUn HOf HOT HRes
      obtain ⟨RS, hRS⟩ : ∃ z, ((U.take (i + 1)).flatMap fun t => Al.jmp most (OF t)) = z := ⟨_, rfl⟩
      rw [hRS] at HTT HLb
      have HRS := Lib.hid hRS
      clear hRS
      generalize U[i]'(by rw [HUN.out]; exact hlt) = t at *
      generalize OF t = T at *
      have gw := hg1.trans hg
      have hz := Gr.size hg
      go_wp2_with fail
      refine (HOi.out _ gw).mono ?_
      rintro e w2 ⟨vT, rfl, hT, hb2⟩
      obtain ⟨TA, c, tb, rfl, hA, hnc, hcb⟩ := Al.ownM_open hT
      obtain ⟨n, hn⟩ : ∃ n, T.length = n := ⟨_, rfl⟩
      rw [hn] at hA hnc t4
      have HTr := Lib.hid (show w2.ownsRow 0 53 5 (.slice TA n c) T.length (Al.flat T) from by rw [← hn]; exact ownsRow_base hT (Nat.zero_le _))
      clear hT
      rw [hn]
      have HN := Lib.hid hn
      have HTb := Lib.hid t2; have HTn := Lib.hid t3
      have htn : n ≤ 10000 := t4
      have g2 := hg.trans hb2
      have HO2 := Lib.hid (HO.out.gr hb2)
      replace a0 := Gr.at hb2 a0
      clear HOi t1 t2 t3 t4 HO hb2 hg gw hn
      have HA := Lib.hid hA
      clear hA
      have hzz := Gr.size g2
      go_wp2_with fail
      go_loopw [5, 9] (fun v x wr => ∃ (j : Nat) (d : List Al.A), j + 1 ≤ n + 1 ∧ (j + 1 ≤ n ∨ j = 0) ∧ x = .int .i64 ((j + 1 : Nat) : Int) ∧ Hid (Al.OwnA wr w1.heap.size v d) ∧ Hid (d.map Al.A.con ++ Al.jmp most (T.drop j) = RS) ∧ Hid (wr.ownsRow 0 53 5 (.slice TA n c) T.length (Al.flat T)) ∧ Gr w1 wr) (fun _ x _ => n - (intOf x).toNat)
      case atStart => exact ⟨0, ds, by omega, Or.inr rfl, rfl, HO2, HTT, HTr, g2⟩
      case round =>
        clear HO2 HTT HTr
        obtain ⟨j, d, hj0, hj, rfl, HO, HT, HTr, hg6⟩ := hrel
        have hgT := hg6
        by_cases hltn : j + 1 < n
        · obtain rfl := HA.out (by omega)
          have hcl := Al.rowM_at HTr.out
          obtain ⟨m0, m1, m2, m3, m4⟩ := hcl j (by rw [HN.out]; omega)
          obtain ⟨b0, b1, b2, b3, b4⟩ := hcl (j + 1) (by rw [HN.out]; exact hltn)
          have hjm := Al.jmp_at (most := most) (l := T) (i := j) (by rw [HN.out]; exact hltn)
          have hmb1 := HTb.out (T[j]'(by rw [HN.out]; omega)) (List.getElem_mem _); have hmb2 := HTb.out (T[j + 1]'(by rw [HN.out]; exact hltn)) (List.getElem_mem _)
          have hkn := HTn.out (T[j + 1]'(by rw [HN.out]; exact hltn)) (List.getElem_mem _)
          have hdl : d.length ≤ 20000 := by
            have z := congrArg List.length HT.out
            rw [List.length_append, List.length_map] at z
            have y := HLb.out
            omega
          have hz6 := Gr.size hg6
          have a1 := Gr.at hg6 A0c
          have HCl := Lib.hid (fun (w' : World) (hk : Al.Kp w1 T.length (.slice (some ⟨tb, 0, none⟩) n c) T w') => And.intro (Al.rowM_at hk.2 j (by rw [HN.out]; omega)) (Al.rowM_at hk.2 (j + 1) (by rw [HN.out]; exact hltn)))
          clear hcl
          generalize T[j]'(by rw [HN.out]; omega) = m at *
          generalize T[j + 1]'(by rw [HN.out]; exact hltn) = k at *
          have HJM := Lib.hid hjm
          have HKN := Lib.hid hkn
          clear hjm hkn
          obtain ⟨q, hq⟩ : ∃ q, q = j + 1 := ⟨_, rfl⟩
          rw [← hq] at hltn hj hj0 HJM b0 b1 b2 b3 b4 HCl ⊢
          have jb0 : (0 : Int) ≤ (q : Int) := by omega
          have jb1 : (q : Int) < (n : Int) := by omega
          have jb2 : (q : Int) - 1 = (j : Int) := by omega
          have jb3 : (0 : Int) ≤ (j : Int) := by omega
          have jb4 : (j : Int) < (n : Int) := by omega
          have jb5 : q ≤ 10000 := by omega
          have wj : IntKind.i64.wrap (j : Int) = (j : Int) := IntWalk.i64_in _ (by omega)
          replace hq := Lib.hid hq
          obtain ⟨x, hx⟩ : ∃ x, m.lv = x := ⟨_, rfl⟩; obtain ⟨y, hy⟩ : ∃ y, k.lv = y := ⟨_, rfl⟩
          rw [hx] at m4 hmb1 HJM; rw [hy] at b4 hmb2 HJM
          clear hx hy
          have HC := Lib.hid (show (most < max (y - x) (-(y - x))) ↔ (most < y - x ∨ y - x < 0 - most) from by omega)
          -- the two ways of a jump join
          by_cases qq : most < max (y - x) (-(y - x))
          · rw [if_pos qq] at HJM
            have h2 := HC.out.1 qq
            clear HC qq
            go_upto_region 11 with (first | go_quiet (fail) | fail)
            go_cut [51] (fun q wx => q = .bool true ∧ Gr wr wx)
            case first =>
              rcases (by omega : most < y - x ∨ (y - x ≤ most ∧ y - x < 0 - most)) with p1 | ⟨p1, p2⟩
              · go_wp2_with fail
                go_meet
                exact ⟨rfl, gr_auto⟩
              · have p3 : y - x < -most := by omega
                go_wp2_with fail
                go_meet
                exact ⟨rfl, gr_auto⟩
            case rest =>
              obtain ⟨rfl, gcut⟩ := hcut
              clear h2
              go_upto_region 12 with fail
              refine name_world ?_
              intro wb hwb
              have gb : Gr wr wb := by rw [hwb]; exact gcut.trans gr_auto
              clear hwb
              have HOb := Lib.hid (HO.out.gr gb); have HTb2 := Lib.hid (ownsRow_gr HTr.out gb); have HGb := Lib.hid (hg6.trans gb)
              have hzb := Gr.size HGb.out
              replace m0 := Gr.at gb m0; replace m1 := Gr.at gb m1; replace m2 := Gr.at gb m2; replace m3 := Gr.at gb m3; replace m4 := Gr.at gb m4
              replace b0 := Gr.at gb b0; replace b1 := Gr.at gb b1; replace b2 := Gr.at gb b2; replace b3 := Gr.at gb b3; replace b4 := Gr.at gb b4
              replace a1 := Gr.at gb a1
              have btb : tb < wb.heap.size := World.block_lt_of_cell? _ _ m0
              have bub : ub < wb.heap.size := World.block_lt_of_cell? _ _ a1
              clear HO HTr gb hg6 hgT gcut
              have hGb := HGb.out
              have s1 : ∀ w', Al.Kp w1 T.length (.slice (some ⟨tb, 0, none⟩) n c) T w' → w'.cell? ⟨ub, i, none⟩ = some (.string t) := fun w' h => Gr.at h.1 A0c
              have s2 : ∀ w', Al.Kp w1 T.length (.slice (some ⟨tb, 0, none⟩) n c) T w' → w'.cell? ⟨tb, q * 5 + 2, none⟩ = some (.int .i64 k.tm) := fun w' h => (HCl.out w' h).2.2.2.1
              have s3 : ∀ w', Al.Kp w1 T.length (.slice (some ⟨tb, 0, none⟩) n c) T w' → w'.cell? ⟨tb, j * 5 + 1, none⟩ = some (.int .i64 m.nu) := fun w' h => (HCl.out w' h).1.2.1
              have s4 : ∀ w', Al.Kp w1 T.length (.slice (some ⟨tb, 0, none⟩) n c) T w' → w'.cell? ⟨tb, q * 5 + 1, none⟩ = some (.int .i64 k.nu) := fun w' h => (HCl.out w' h).2.2.1
              go_region_held3 (fun w' => Al.Kp w1 T.length (.slice (some ⟨tb, 0, none⟩) n c) T w') (first | assumption | exact ⟨by exact gr_auto, ownsRow_gr HTb2.out (by exact gr_auto)⟩) ((refine step_append_own _ (by rfl) _ _ 48 (by rfl) w1.heap.size 31 i1 (.agg #[.int .i64 0, .string ⟨#[]⟩, .int .i64 0, .slice none 0 0]) 4 56 Tryz.underlying48 KI.out KZ0.out KZ1.out KZ2.out rfl (by decide) _ _ _ (by rfl) (ownsRow_gr HOb.out.row (by exact gr_auto)) ⟨wb.heap.size + 1, 0, none⟩ 1 1 [.int .i64 3, .string t, .int .i64 k.tm, .slice (some ⟨wb.heap.size, 0, none⟩) 2 2] (by rfl) rfl (World.news_of_block (by rw [show wb.heap.size + 1 = (wb.alloc (.cells #[.int .i64 m.nu, .int .i64 k.nu] 3)).heap.size by simp]; exact World.alloc_heap_new _ _)) (by intro u hu; simp at hu; rcases hu with rfl | rfl | rfl | rfl <;> rfl) (by unfold maxLen; omega) (by omega) (by first | (simp; done) | (simp; omega)) ?_; intro v9 w9 hown9 hgrow9; have hk9 : Al.Kp w1 T.length (.slice (some ⟨tb, 0, none⟩) n c) T w9 := ⟨Gr.own (HGb.out.trans (by exact gr_auto)) (Nat.le_refl _) (ownsRow_gr HOb.out.row (by exact gr_auto)) hgrow9, (HOb.out.gr (by exact gr_auto)).keepM (ownsRow_gr HTb2.out (by exact gr_auto)) hgrow9⟩))
              all_goals (
                have gA := Gr.drew (Gr.alloc (Gr.alloc (Gr.refl wb) (Obj.cells #[.int .i64 m.nu, .int .i64 k.nu] 3)) (Obj.cells #[.int .i64 3, .string t, .int .i64 k.tm, .slice (some ⟨wb.heap.size, 0, none⟩) 2 2] 31))
                have hgr : ((wb.alloc (Obj.cells #[.int .i64 m.nu, .int .i64 k.nu] 3)).alloc (Obj.cells #[.int .i64 3, .string t, .int .i64 k.tm, .slice (some ⟨wb.heap.size, 0, none⟩) 2 2] 31)).drew.grownBy w9 _ := hgrow9
                have hoA := Al.own_two (kd := 3) (nd := t) (tm := k.tm) (W := ((wb.alloc (Obj.cells #[.int .i64 m.nu, .int .i64 k.nu] 3)).alloc (Obj.cells #[.int .i64 3, .string t, .int .i64 k.tm, .slice (some ⟨wb.heap.size, 0, none⟩) 2 2] 31)).drew) ((heap_alloc_old _ _ (by simp)).trans (World.alloc_heap_new wb _))
                have HP := Lib.hid (Al.OwnA.push (HOb.out.gr gA) hoA (by exact hown9) hgr)
                have HTr9 := Lib.hid ((HOb.out.gr gA).keepM (ownsRow_gr HTb2.out gA) hgr)
                have g9 : Gr w1 w9 := Gr.own (HGb.out.trans gA) (Nat.le_refl _) (ownsRow_gr HOb.out.row gA) hgr
                have HC9 := Lib.hid (show (⟨3, t, k.tm, some ⟨wb.heap.size, 0, none⟩, wb.heap.size, 0, 2, 2, fun q => if q = 0 then m.nu else k.nu⟩ : Al.A).con = Al.alm 3 [m, k] from by unfold Al.A.con Al.alm; simp [HKN.out, Al.lst, List.range_succ])
                have HT9 := Lib.hid (show (d ++ [(⟨3, t, k.tm, some ⟨wb.heap.size, 0, none⟩, wb.heap.size, 0, 2, 2, fun q => if q = 0 then m.nu else k.nu⟩ : Al.A)]).map Al.A.con ++ Al.jmp most (T.drop q) = RS from by
                  rw [← HT.out, HJM.out, List.map_append, List.map_cons, List.map_nil, HC9.out, List.append_assoc])
                rw [hq.out] at HT9
                clear HOb HTb2 HGb HT HJM HC9 HKN hown9 hgrow9 hgr hoA gA
                go_wp2_with fail
                go_roundw
                case rel => exact ⟨j + 1, _, by have := hq.out; omega, Or.inl (by have := hq.out; omega), by have := hq.out; subst this; go_num, HP, HT9, HTr9, g9⟩
                case measure => have := hq.out; simp [intOf]; omega)
          · rw [if_neg qq, List.nil_append] at HJM
            have p1 : y - x ≤ most := by omega
            have p2 : 0 - most ≤ y - x := by omega
            have p3 : -most ≤ y - x := by omega
            have HT9 := Lib.hid (show d.map Al.A.con ++ Al.jmp most (T.drop q) = RS from by rw [← HT.out, HJM.out])
            rw [hq.out] at HT9
            clear HC qq HT HJM
            have HO9 := Lib.hid (fun k => HO.out.gr (Gr.drewN (Gr.refl wr) k)); have HTr9 := Lib.hid (fun k => ownsRow_gr HTr.out (Gr.drewN (Gr.refl wr) k)); have g9 := Lib.hid (fun k => hg6.drewN k)
            clear HO HTr
            go_wp2_with fail
            go_quiet (fail)
            go_wp2_with fail
            go_roundw
            case rel => exact ⟨j + 1, _, by have := hq.out; omega, Or.inl (by have := hq.out; omega), by have := hq.out; subst this; go_num, Lib.hid (HO9.out _), HT9, Lib.hid (HTr9.out _), g9.out _⟩
            case measure => have := hq.out; simp [intOf]; omega
        · have HTe := Lib.hid (show d.map Al.A.con = RS from by rw [← HT.out, Al.jmp_end (by rw [HN.out]; omega), List.append_nil])
          have jb1 : (n : Int) ≤ ((j + 1 : Nat) : Int) := by omega
          have HL9 := Lib.hid (show d.map Al.A.con = (U.take (i + 1)).flatMap fun t => Al.jmp most (OF t) from by rw [HTe.out, HRS.out])
          clear HT HTe HRS HTr HTb HTn HLb
          go_wp2_with fail
          go_roundw
          case rel => exact ⟨i + 1, d, by omega, by go_num, HO, HL9, hg6⟩
          case measure => simp [intOf]; omega
    · obtain rfl : un = i := by omega
      have HLf := Lib.hid (show ds.map Al.A.con = RES from by rw [HL.out, HRes.out, ← HUN.out, List.take_length])
      have hdl : ds.length ≤ 100000 := by
        have z := congrArg List.length HL.out
        rw [List.length_map] at z
        have y := HFl.out (U.take un) (Al.take_nodup HUn.out _)
        omega
      clear HU1 HU4 HL HFl HUn HOf HOT HRes
      go_wp2_with fail
      refine (rordered_own _ ds wr _ HO.out hdl).mono ?_
      rintro e w6 ⟨v6, d6, rfl, ho6, hc6, hb6⟩
      have g6 := (hg1.trans hg).trans hb6
      have HO6 := Lib.hid (ho6.base (Gr.size (hg1.trans hg)))
      have HC6 := Lib.hid (show d6.map Al.A.con = Al.srt RES from by rw [hc6, HLf.out])
      clear ho6 hc6 hb6 HO HLf
      go_wp2_with fail
      go_ret
      exact ⟨_, d6, rfl, HO6.out, HC6.out, g6⟩
end Go.Proofs.YtllkiadedaghoaaGreatDoor
