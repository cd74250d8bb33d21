/-
  Alarms: the reference's Sorted and Of. Typed.
-/
import Derived.Test.YtllkiadedaghoaaGreatCm32

set_option linter.unusedVariables false
set_option linter.unusedSimpArgs false
namespace Go.Proofs.YtllkiadedaghoaaGreat
open Go.RowKit Go.Sort Go.Shelf
attribute [local go_sem ↓] Go.wp_at_zero Go.wp_at_succ
set_option maxRecDepth 100000 in
set_option maxHeartbeats 4000000 in
theorem rsorted_any (s : Al.SlM) (w : World) (h : s.At w) (hv : Al.vL s.lst) : Calls Tryz.prog 81 #[.slice s.A s.n s.c] w fun e w' => ∃ v, e = .returned v ∧ w'.ownsRow w.heap.size 57 5 v (Al.srtM s.lst).length (Al.flat (Al.srtM s.lst)) ∧ Gr w w' := by
  have HA := Lib.hid h.hA; have HX := Lib.hid h.hD
  have hnc := h.hc; have hcb := h.hb
  have hn : s.n ≤ 10000 := by have := hv.1; rw [Al.SlM.lst_len] at this; exact this
  have HLn := Lib.hid (Al.SlM.lst_len s)
  have HLg := Lib.hid (fun i (hi : i < s.lst.length) => Al.lst_get s i hi)
  have HW := Lib.hid (fun (s' : Al.SlM) m W (h' : s'.At W) hN hn' => rwith_any s' m W h' hN hn')
  have HS := Lib.hid (fun (d : List Al.M) (hp : s.lst.Perm d) hs => Al.srtM_of hv.2.2 hp hs)
  have HOk := Lib.hid (show ∀ m ∈ s.lst, m.Ok from fun m hm => by
    obtain ⟨i, hi, rfl⟩ := List.getElem_of_mem hm
    rw [Al.lst_get]; exact (h.hD i (by rw [← Al.SlM.lst_len]; exact hi)).2)
  clear h hv
  obtain ⟨R, hR⟩ : ∃ R, Al.srtM s.lst = R := ⟨_, rfl⟩
  rw [hR] at HS ⊢
  clear hR
  generalize s.lst = T at *
  cases s with | mk A n c b o D =>
  simp only [] at *
  go_enter Tryz.func81, Tryz.ntmps81
  go_wp2_with fail
  go_loopw [3, 4] (fun v x wr => ∃ (i : Nat) (L : List Al.M), i ≤ n ∧ x = .int .i64 (i : Int) ∧ Hid (wr.ownsRow w.heap.size 57 5 v L.length (Al.flat L)) ∧ Hid ((T.take i).Perm L) ∧ Hid (L.Pairwise fun a b => Al.kcmp a.key b.key ≤ 0) ∧ Gr w wr) (fun _ x _ => n - (intOf x).toNat)
  case atStart => exact ⟨0, [], Nat.zero_le _, rfl, Lib.hid (World.ownsRow_nil _ _ _ _), Lib.hid .nil, Lib.hid .nil, Gr.refl _⟩
  case round =>
    obtain ⟨i, L, hi, rfl, HO, HP, HSd, hg⟩ := hrel
    by_cases hlt : i < n
    · obtain rfl := HA.out (by omega)
      obtain ⟨hcl, -⟩ := HX.out i hlt
      obtain ⟨a0, a1, a2, a3, a4⟩ := hcl.gr hg
      have ib0 : (0 : Int) ≤ (i : Int) := by omega
      have ib1 : (i : Int) < (n : Int) := by omega
      have hTi := HLg.out i (by rw [HLn.out]; exact hlt)
      have hLl : L.length = i := by have := HP.out.length_eq; rw [List.length_take, HLn.out] at this; omega
      obtain ⟨s', rfl, hs1, hs2, -, hs4⟩ := Al.ownM_sl HO.out (fun m hm => HOk.out m (List.take_subset _ _ (HP.out.mem_iff.2 hm)))
      have hsn : s'.n ≤ 10000 := by rw [← Al.SlM.lst_len, hs2]; omega
      have HWi := Lib.hid (HW.out s' (D i) wr hs1 hs4 hsn)
      rw [hs2] at HWi
      have HP2 := Lib.hid (show (T.take (i + 1)).Perm (Al.insM L (D i)) from by
        rw [List.take_succ_eq_append_getElem (by rw [HLn.out]; exact hlt), hTi]
        refine List.perm_append_comm.trans ?_
        exact (List.Perm.cons _ HP.out).trans (Al.insM_perm L (D i)).symm)
      have HS2 := Lib.hid (Al.insM_ok (m := D i) HSd.out)
      have hz := Gr.size hg
      clear HX HA hcl hTi HW HS HLg HO HP HSd hs1 hs2 hs4 hsn hLl
      generalize D i = d at *
      unfold Al.M.enc at HWi
      go_wp2_with fail
      refine HWi.out.mono ?_
      rintro e w4 ⟨v4, rfl, ho4, hb4⟩
      have HO4 := Lib.hid (ownsRow_base ho4 hz)
      have g4 := hg.trans hb4
      clear ho4 hb4 HWi
      go_wp2_with fail
      go_roundw
      case rel => exact ⟨i + 1, _, by omega, by go_num, HO4, HP2, HS2, g4⟩
      case measure => simp [intOf]; omega
    · obtain rfl : n = i := by omega
      have hRL := HS.out L (by have := HP.out; rw [← HLn.out, List.take_length] at this; exact this) HSd.out
      have HF := Lib.hid (show wr.ownsRow w.heap.size 57 5 _ R.length (Al.flat R) from by rw [← hRL]; exact HO.out)
      clear HX HA HW HS HLg HO HP HSd hRL
      go_wp2_with fail
      go_ret
      exact ⟨_, rfl, HF.out, hg⟩
set_option maxRecDepth 100000 in
set_option maxHeartbeats 4000000 in
theorem rof_any (s : Al.SlM) (nd : ByteArray) (w : World) (h : s.At w) (hv : Al.vL s.lst) : Calls Tryz.prog 44 #[.slice s.A s.n s.c, .string nd] w fun e w' => ∃ v, e = .returned v ∧ w'.ownsRow w.heap.size 57 5 v (Al.ofN s.lst nd).length (Al.flat (Al.ofN s.lst nd)) ∧ Gr w w' := by
  obtain ⟨i1, k0, k1, k2, k3⟩ := info_parts infoM
  have KI := Lib.hid k0; have KZ0 := Lib.hid k1; have KZ1 := Lib.hid k2; have KZ2 := Lib.hid k3
  clear k0 k1 k2 k3
  have HS := Lib.hid (rsorted_any s w h hv)
  have hOk : ∀ m ∈ Al.srtM s.lst, m.Ok := fun m hm => by
    obtain ⟨i, hi, rfl⟩ := List.getElem_of_mem ((Al.srtM_perm s.lst).mem_iff.1 hm)
    rw [Al.lst_get]; exact (h.hD i (by rw [← Al.SlM.lst_len]; exact hi)).2
  have hLen : (Al.srtM s.lst).length ≤ 10000 := by rw [(Al.srtM_perm s.lst).length_eq]; exact hv.1
  have HOf := Lib.hid (show Al.ofN s.lst nd = Al.own (Al.srtM s.lst) nd from rfl)
  clear h hv
  generalize Al.ofN s.lst nd = R at *
  generalize Al.srtM s.lst = T at *
  generalize s.A = A0 at *; generalize s.n = n0 at *; generalize s.c = c0 at *
  go_enter Tryz.func44, Tryz.ntmps44
  go_wp2_with fail
  refine HS.out.mono ?_
  rintro e w1 ⟨v1, rfl, ho1, hg1⟩
  obtain ⟨s', rfl, hs1, hs2, -, -⟩ := Al.ownM_sl ho1 hOk
  clear ho1 hOk HS
  have HA := Lib.hid hs1.hA; have HX := Lib.hid hs1.hD
  have hnc := hs1.hc; have hcb := hs1.hb
  have hsl := Al.SlM.lst_len s'
  have hsg : ∀ i (hi : i < s'.lst.length), s'.lst[i] = s'.D i := fun i hi => Al.lst_get s' i hi
  rw [hs2] at hsl
  have HLg := Lib.hid (show ∀ i (hi : i < T.length), T[i] = s'.D i from by rw [← hs2]; exact hsg)
  have hn : s'.n ≤ 10000 := by omega
  have HLn := Lib.hid hsl
  clear hs1 hs2 hsl hsg hLen
  cases s' with | mk A n c b o D =>
  simp only [] at *
  have hz1 := Gr.size hg1
  go_wp2_with fail
  go_loopw [5, 7] (fun v x wr => ∃ i : Nat, i ≤ n ∧ x = .int .i64 (i : Int) ∧ Hid (wr.ownsRow w1.heap.size 57 5 v (Al.own (T.take i) nd).length (Al.flat (Al.own (T.take i) nd))) ∧ Gr w1 wr) (fun _ x _ => n - (intOf x).toNat)
  case atStart => exact ⟨0, Nat.zero_le _, rfl, Lib.hid (World.ownsRow_nil _ _ _ _), Gr.refl _⟩
  case round =>
    obtain ⟨i, hi, rfl, HO, hg⟩ := hrel
    by_cases hlt : i < n
    · obtain rfl := HA.out (by omega)
      obtain ⟨hcl, -⟩ := HX.out i hlt
      obtain ⟨a0, a1, a2, a3, a4⟩ := hcl.gr hg
      have ib0 : (0 : Int) ≤ (i : Int) := by omega
      have ib1 : (i : Int) < (n : Int) := by omega
      have hkn : (Al.own (T.take i) nd).length ≤ 10000 := by
        have := (List.filter_sublist (l := T.take i) (p := fun m => Ba.eqS m.nd nd)).length_le
        unfold Al.own
        rw [List.length_take] at this; omega
      have HN := Lib.hid (show Al.own (T.take (i + 1)) nd = Al.own (T.take i) nd ++ (if Ba.eqS (D i).nd nd = true then [D i] else []) from by
        rw [List.take_succ_eq_append_getElem (by rw [HLn.out]; exact hlt), HLg.out i (by rw [HLn.out]; exact hlt), Al.own_snoc])
      have hz := Gr.size hg
      clear HX HA hcl HLg HOf
      generalize D i = m at *
      cases t0 : Ba.eqS m.nd nd
      · rw [t0] at HN
        simp only [Bool.false_eq_true, if_false, List.append_nil] at HN
        unfold Ba.eqS at t0
        have HO2 := Lib.hid (show wr.ownsRow w1.heap.size 57 5 _ (Al.own (T.take (i + 1)) nd).length (Al.flat (Al.own (T.take (i + 1)) nd)) from by rw [HN.out]; exact HO.out)
        clear HO HN
        go_wp2_with fail
        go_roundw
        case rel => exact ⟨i + 1, by omega, by go_num, HO2, hg⟩
        case measure => simp [intOf]; omega
      · rw [t0] at HN
        simp only [if_true] at HN
        unfold Ba.eqS at t0
        go_wp2_with (at_builtin; refine wpList_append_own _ rfl _ _ 22 rfl w1.heap.size 57 i1 (.agg #[.string ⟨#[]⟩, .int .i64 0, .int .i64 0, .int .i64 0, .int .i64 0]) 5 48 Tryz.underlying22 KI.out KZ0.out KZ1.out KZ2.out rfl (by decide) _ _ _ rfl (ownsRow_gr HO.out (by exact gr_auto)) ⟨wr.heap.size, 0, none⟩ 1 1 [.string m.nd, .int .i64 m.nu, .int .i64 m.tm, .int .i64 m.ar, .int .i64 m.lv] rfl rfl (cells_new wr #[.string m.nd, .int .i64 m.nu, .int .i64 m.tm, .int .i64 m.ar, .int .i64 m.lv] 57) (by intro u hu; simp at hu; rcases hu with rfl | rfl | rfl | rfl | rfl <;> rfl) (by unfold maxLen; omega) (by omega) (by simp; omega) ?_)
        intro v' w9 hown' hgrow hnil
        have HO2 := Lib.hid (show w9.ownsRow w1.heap.size 57 5 v' (Al.own (T.take (i + 1)) nd).length (Al.flat (Al.own (T.take (i + 1)) nd)) from by rw [HN.out, List.length_append, Al.flat_snoc]; exact hown')
        have g9 : Gr w1 w9 := Gr.own (hg.alloc (Obj.cells #[.string m.nd, .int .i64 m.nu, .int .i64 m.tm, .int .i64 m.ar, .int .i64 m.lv] 57)) (Nat.le_refl _) (ownsRow_gr HO.out (Gr.alloc (Gr.refl wr) _)) hgrow
        clear HO hown' hgrow hnil HN
        go_wp2_with fail
        go_roundw
        case rel => exact ⟨i + 1, by omega, by go_num, HO2, g9⟩
        case measure => simp [intOf]; omega
    · obtain rfl : n = i := by omega
      have HF := Lib.hid (show wr.ownsRow w.heap.size 57 5 _ R.length (Al.flat R) from by
        have := HO.out
        rw [← HLn.out, List.take_length] at this
        rw [HOf.out]; exact ownsRow_base this hz1)
      clear HX HA HLg HOf HO
      go_wp2_with fail
      go_ret
      exact ⟨_, rfl, HF.out, hg1.trans hg⟩
end Go.Proofs.YtllkiadedaghoaaGreat
