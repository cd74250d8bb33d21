/-
  Alarms: the reference's Sorted and Of. Typed.
  Alarms: the reference's Jumps. (Printed by mkaml.py.)
  Alarms: the reference's Without. (Printed by mkamo.py.)
  Alarms: slices.ContainsFunc at messages and at alarms; few. (Printed by mkamp.py.)
  Alarms: the network of the example, its messages, what All answers. Typed.
-/
import Derived.Test.YtllkiadedaghoaaGreatCb23
import Derived.Test.YtllkiadedaghoaaGreatCb22
import Derived.Test.YtllkiadedaghoaaGreatCb18
import Derived.Test.YtllkiadedaghoaaGreatCb17
import Derived.Test.YtllkiadedaghoaaGreatCm11
import Derived.Test.YtllkiadedaghoaaGreatCb19
import Derived.Test.YtllkiadedaghoaaGreatCb10
import Derived.Deep.RegionHeld3
import Derived.Deep.CutBlock
set_option linter.unusedVariables false
set_option linter.unusedSimpArgs false
namespace Go.Proofs.YtllkiadedaghoaaGreat
open Go.RowKit Go.Sort Go.Shelf
attribute [local go_sem ↓] Go.wp_at_zero Go.wp_at_succ
set_option maxRecDepth 100000 in
set_option maxHeartbeats 4000000 in
theorem rsorted_any (s : Al.SlM) (w : World) (h : s.At w) (hv : Al.vL s.lst) : Calls Tryz.prog 81 #[.slice s.A s.n s.c] w fun e w' => ∃ v, e = .returned v ∧ w'.ownsRow w.heap.size 57 5 v (Al.srtM s.lst).length (Al.flat (Al.srtM s.lst)) ∧ Gr w w' := by
  have HA := Lib.hid h.hA; have HX := Lib.hid h.hD
  have hnc := h.hc; have hcb := h.hb
  have hn : s.n ≤ 10000 := by have := hv.1; rw [Al.SlM.lst_len] at this; exact this
  have HLn := Lib.hid (Al.SlM.lst_len s)
  have HLg := Lib.hid (fun i (hi : i < s.lst.length) => Al.lst_get s i hi)
  have HW := Lib.hid (fun (s' : Al.SlM) m W (h' : s'.At W) hN hn' => rwith_any s' m W h' hN hn')
  have HS := Lib.hid (fun (d : List Al.M) (hp : s.lst.Perm d) hs => Al.srtM_of hv.2.2 hp hs)
  have HOk := Lib.hid (show ∀ m ∈ s.lst, m.Ok from fun m hm => by
    obtain ⟨i, hi, rfl⟩ := List.getElem_of_mem hm
    rw [Al.lst_get]; exact (h.hD i (by rw [← Al.SlM.lst_len]; exact hi)).2)
  clear h hv
  obtain ⟨R, hR⟩ : ∃ R, Al.srtM s.lst = R := ⟨_, rfl⟩
  rw [hR] at HS ⊢
  clear hR
  generalize s.lst = T at *
  cases s with | mk A n c b o D =>
  simp only [] at *
  go_enter Tryz.func81, Tryz.ntmps81
  go_wp2_with fail
  go_loopw [3, 4] (fun v x wr => ∃ (i : Nat) (L : List Al.M), i ≤ n ∧ x = .int .i64 (i : Int) ∧ Hid (wr.ownsRow w.heap.size 57 5 v L.length (Al.flat L)) ∧ Hid ((T.take i).Perm L) ∧ Hid (L.Pairwise fun a b => Al.kcmp a.key b.key ≤ 0) ∧ Gr w wr) (fun _ x _ => n - (intOf x).toNat)
  case atStart => exact ⟨0, [], Nat.zero_le _, rfl, Lib.hid (World.ownsRow_nil _ _ _ _), Lib.hid .nil, Lib.hid .nil, Gr.refl _⟩
  case round =>
    obtain ⟨i, L, hi, rfl, HO, HP, HSd, hg⟩ := hrel
    by_cases hlt : i < n
    · obtain rfl := HA.out (by omega)
      obtain ⟨hcl, -⟩ := HX.out i hlt
      obtain ⟨a0, a1, a2, a3, a4⟩ := hcl.gr hg
      have ib0 : (0 : Int) ≤ (i : Int) := by omega
      have ib1 : (i : Int) < (n : Int) := by omega
      have hTi := HLg.out i (by rw [HLn.out]; exact hlt)
      have hLl : L.length = i := by have := HP.out.length_eq; rw [List.length_take, HLn.out] at this; omega
      obtain ⟨s', rfl, hs1, hs2, -, hs4⟩ := Al.ownM_sl HO.out (fun m hm => HOk.out m (List.take_subset _ _ (HP.out.mem_iff.2 hm)))
      have hsn : s'.n ≤ 10000 := by rw [← Al.SlM.lst_len, hs2]; omega
      have HWi := Lib.hid (HW.out s' (D i) wr hs1 hs4 hsn)
      rw [hs2] at HWi
      have HP2 := Lib.hid (show (T.take (i + 1)).Perm (Al.insM L (D i)) from by
        rw [List.take_succ_eq_append_getElem (by rw [HLn.out]; exact hlt), hTi]
        refine List.perm_append_comm.trans ?_
        exact (List.Perm.cons _ HP.out).trans (Al.insM_perm L (D i)).symm)
      have HS2 := Lib.hid (Al.insM_ok (m := D i) HSd.out)
      have hz := Gr.size hg
      clear HX HA hcl hTi HW HS HLg HO HP HSd hs1 hs2 hs4 hsn hLl
      generalize D i = d at *
      unfold Al.M.enc at HWi
      go_wp2_with fail
      refine HWi.out.mono ?_
      rintro e w4 ⟨v4, rfl, ho4, hb4⟩
      have HO4 := Lib.hid (ownsRow_base ho4 hz)
      have g4 := hg.trans hb4
      clear ho4 hb4 HWi
      go_wp2_with fail
      go_roundw
      case rel => exact ⟨i + 1, _, by omega, by go_num, HO4, HP2, HS2, g4⟩
      case measure => simp [intOf]; omega
    · obtain rfl : n = i := by omega
      have hRL := HS.out L (by have := HP.out; rw [← HLn.out, List.take_length] at this; exact this) HSd.out
      have HF := Lib.hid (show wr.ownsRow w.heap.size 57 5 _ R.length (Al.flat R) from by rw [← hRL]; exact HO.out)
      clear HX HA HW HS HLg HO HP HSd hRL
      go_wp2_with fail
      go_ret
      exact ⟨_, rfl, HF.out, hg⟩
set_option maxRecDepth 100000 in
set_option maxHeartbeats 4000000 in
theorem rof_any (s : Al.SlM) (nd : ByteArray) (w : World) (h : s.At w) (hv : Al.vL s.lst) : Calls Tryz.prog 44 #[.slice s.A s.n s.c, .string nd] w fun e w' => ∃ v, e = .returned v ∧ w'.ownsRow w.heap.size 57 5 v (Al.ofN s.lst nd).length (Al.flat (Al.ofN s.lst nd)) ∧ Gr w w' := by
  obtain ⟨i1, k0, k1, k2, k3⟩ := info_parts infoM
  have KI := Lib.hid k0; have KZ0 := Lib.hid k1; have KZ1 := Lib.hid k2; have KZ2 := Lib.hid k3
  clear k0 k1 k2 k3
  have HS := Lib.hid (rsorted_any s w h hv)
  have hOk : ∀ m ∈ Al.srtM s.lst, m.Ok := fun m hm => by
    obtain ⟨i, hi, rfl⟩ := List.getElem_of_mem ((Al.srtM_perm s.lst).mem_iff.1 hm)
    rw [Al.lst_get]; exact (h.hD i (by rw [← Al.SlM.lst_len]; exact hi)).2
  have hLen : (Al.srtM s.lst).length ≤ 10000 := by rw [(Al.srtM_perm s.lst).length_eq]; exact hv.1
  have HOf := Lib.hid (show Al.ofN s.lst nd = Al.own (Al.srtM s.lst) nd from rfl)
  clear h hv
  generalize Al.ofN s.lst nd = R at *
  generalize Al.srtM s.lst = T at *
  generalize s.A = A0 at *; generalize s.n = n0 at *; generalize s.c = c0 at *
  go_enter Tryz.func44, Tryz.ntmps44
  go_wp2_with fail
  refine HS.out.mono ?_
  rintro e w1 ⟨v1, rfl, ho1, hg1⟩
  obtain ⟨s', rfl, hs1, hs2, -, -⟩ := Al.ownM_sl ho1 hOk
  clear ho1 hOk HS
  have HA := Lib.hid hs1.hA; have HX := Lib.hid hs1.hD
  have hnc := hs1.hc; have hcb := hs1.hb
  have hsl := Al.SlM.lst_len s'
  have hsg : ∀ i (hi : i < s'.lst.length), s'.lst[i] = s'.D i := fun i hi => Al.lst_get s' i hi
  rw [hs2] at hsl
  have HLg := Lib.hid (show ∀ i (hi : i < T.length), T[i] = s'.D i from by rw [← hs2]; exact hsg)
  have hn : s'.n ≤ 10000 := by omega
  have HLn := Lib.hid hsl
  clear hs1 hs2 hsl hsg hLen
  cases s' with | mk A n c b o D =>
  simp only [] at *
  have hz1 := Gr.size hg1
  go_wp2_with fail
  go_loopw [5, 7] (fun v x wr => ∃ i : Nat, i ≤ n ∧ x = .int .i64 (i : Int) ∧ Hid (wr.ownsRow w1.heap.size 57 5 v (Al.own (T.take i) nd).length (Al.flat (Al.own (T.take i) nd))) ∧ Gr w1 wr) (fun _ x _ => n - (intOf x).toNat)
  case atStart => exact ⟨0, Nat.zero_le _, rfl, Lib.hid (World.ownsRow_nil _ _ _ _), Gr.refl _⟩
  case round =>
    obtain ⟨i, hi, rfl, HO, hg⟩ := hrel
    by_cases hlt : i < n
    · obtain rfl := HA.out (by omega)
      obtain ⟨hcl, -⟩ := HX.out i hlt
      obtain ⟨a0, a1, a2, a3, a4⟩ := hcl.gr hg
      have ib0 : (0 : Int) ≤ (i : Int) := by omega
      have ib1 : (i : Int) < (n : Int) := by omega
      have hkn : (Al.own (T.take i) nd).length ≤ 10000 := by
        have := (List.filter_sublist (l := T.take i) (p := fun m => Ba.eqS m.nd nd)).length_le
        unfold Al.own
        rw [List.length_take] at this; omega
      have HN := Lib.hid (show Al.own (T.take (i + 1)) nd = Al.own (T.take i) nd ++ (if Ba.eqS (D i).nd nd = true then [D i] else []) from by
        rw [List.take_succ_eq_append_getElem (by rw [HLn.out]; exact hlt), HLg.out i (by rw [HLn.out]; exact hlt), Al.own_snoc])
      have hz := Gr.size hg
      clear HX HA hcl HLg HOf
      generalize D i = m at *
      cases t0 : Ba.eqS m.nd nd
      · rw [t0] at HN
        simp only [Bool.false_eq_true, if_false, List.append_nil] at HN
        unfold Ba.eqS at t0
        have HO2 := Lib.hid (show wr.ownsRow w1.heap.size 57 5 _ (Al.own (T.take (i + 1)) nd).length (Al.flat (Al.own (T.take (i + 1)) nd)) from by rw [HN.out]; exact HO.out)
        clear HO HN
        go_wp2_with fail
        go_roundw
        case rel => exact ⟨i + 1, by omega, by go_num, HO2, hg⟩
        case measure => simp [intOf]; omega
      · rw [t0] at HN
        simp only [if_true] at HN
        unfold Ba.eqS at t0
        go_wp2_with (at_builtin; refine wpList_append_own _ rfl _ _ 22 rfl w1.heap.size 57 i1 (.agg #[.string ⟨#[]⟩, .int .i64 0, .int .i64 0, .int .i64 0, .int .i64 0]) 5 48 Tryz.underlying22 KI.out KZ0.out KZ1.out KZ2.out rfl (by decide) _ _ _ rfl (ownsRow_gr HO.out (by exact gr_auto)) ⟨wr.heap.size, 0, none⟩ 1 1 [.string m.nd, .int .i64 m.nu, .int .i64 m.tm, .int .i64 m.ar, .int .i64 m.lv] rfl rfl (cells_new wr #[.string m.nd, .int .i64 m.nu, .int .i64 m.tm, .int .i64 m.ar, .int .i64 m.lv] 57) (by intro u hu; simp at hu; rcases hu with rfl | rfl | rfl | rfl | rfl <;> rfl) (by unfold maxLen; omega) (by omega) (by simp; omega) ?_)
        intro v' w9 hown' hgrow hnil
        have HO2 := Lib.hid (show w9.ownsRow w1.heap.size 57 5 v' (Al.own (T.take (i + 1)) nd).length (Al.flat (Al.own (T.take (i + 1)) nd)) from by rw [HN.out, List.length_append, Al.flat_snoc]; exact hown')
        have g9 : Gr w1 w9 := Gr.own (hg.alloc (Obj.cells #[.string m.nd, .int .i64 m.nu, .int .i64 m.tm, .int .i64 m.ar, .int .i64 m.lv] 57)) (Nat.le_refl _) (ownsRow_gr HO.out (Gr.alloc (Gr.refl wr) _)) hgrow
        clear HO hown' hgrow hnil HN
        go_wp2_with fail
        go_roundw
        case rel => exact ⟨i + 1, by omega, by go_num, HO2, g9⟩
        case measure => simp [intOf]; omega
    · obtain rfl : n = i := by omega
      have HF := Lib.hid (show wr.ownsRow w.heap.size 57 5 _ R.length (Al.flat R) from by
        have := HO.out
        rw [← HLn.out, List.take_length] at this
        rw [HOf.out]; exact ownsRow_base this hz1)
      clear HX HA HLg HOf HO
      go_wp2_with fail
      go_ret
      exact ⟨_, rfl, HF.out, hg1.trans hg⟩
end Go.Proofs.YtllkiadedaghoaaGreat
set_option linter.unusedVariables false
set_option linter.unusedSimpArgs false
namespace Go.Proofs.YtllkiadedaghoaaGreat
open Go.RowKit Go.Sort Go.Shelf
attribute [local go_sem ↓] Go.wp_at_zero Go.wp_at_succ
namespace Al
/-- An alarm whose two numbers lie in a block of their own. -/
theorem own_two {W : World} {g : Nat} {kd tm n1 n2 : Int} {nd : ByteArray} {fr : Nat × Nat} (h : W.heap[g]? = some (.cells #[.int .i64 n1, .int .i64 n2] 3 fr)) : A.Own ⟨kd, nd, tm, some ⟨g, 0, none⟩, g, 0, 2, 2, fun q => if q = 0 then n1 else n2⟩ W :=
  ⟨⟨show 2 ≤ 9223372036854775807 by decide, fun _ => rfl, fun q hq => by
    have hq' : q < 2 := hq
    rcases (by omega : q = 0 ∨ q = 1) with rfl | rfl <;> simp [World.cell?, h]⟩, ⟨_, _, h⟩, show 0 < 2 by decide⟩
theorem ofN_nd {l : List M} {s : ByteArray} {m : M} (h : m ∈ ofN l s) : m.nd = s := own_mem (L := srtM l) h
end Al
end Go.Proofs.YtllkiadedaghoaaGreat
set_option linter.unusedVariables false
set_option linter.unusedSimpArgs false
namespace Go.Proofs.YtllkiadedaghoaaGreat
open Go.RowKit Go.Shelf Go.Sort
attribute [local go_sem ↓] Go.wp_at_zero Go.wp_at_succ
def Al.SlM.nil : Al.SlM := ⟨none, 0, 0, 0, 0, fun _ => default⟩
theorem Al.SlM.nil_at (w : World) : Al.SlM.nil.At w := ⟨fun h => absurd h (Nat.lt_irrefl _), Nat.le_refl _, Nat.zero_le _, fun i hi => absurd hi (Nat.not_lt_zero _)⟩
end Go.Proofs.YtllkiadedaghoaaGreat
set_option linter.unusedVariables false
set_option linter.unusedSimpArgs false
namespace Go.Proofs.YtllkiadedaghoaaGreat
open Go.RowKit Go.Shelf Go.Sort
attribute [local go_sem ↓] Go.wp_at_zero Go.wp_at_succ
namespace Al
def M.val (m : M) : Value := .agg #[.string m.nd, .int .i64 m.nu, .int .i64 m.tm, .int .i64 m.ar, .int .i64 m.lv]
def A.val (a : A) : Value := .agg #[.int .i64 a.kd, .string a.nd, .int .i64 a.tm, .slice a.p a.n a.c]
end Al
set_option maxRecDepth 100000 in
set_option maxHeartbeats 4000000 in
theorem idx_msg (f : FuncId) (cap : Array Value) (s : Al.SlM) (p : Nat → Bool) (w : World) (h : s.At w) (hen : ∀ args w, (callFunc f args).run Tryz.prog w = .ok (.enter f args) w)
    (hp : ∀ i, i < s.n → ∀ W, Gr w W → Calls Tryz.prog f (#[(s.D i).val] ++ cap) W fun e w' => e = .returned (.bool (p i)) ∧ Gr W w') :
    Calls Tryz.prog 83 #[.slice s.A s.n s.c, .func (.func f) #[] cap] w fun e w' => e = .returned (.int .i64 (Ba.fstI p s.n)) ∧ Gr w w' := by
  have HA := Lib.hid h.hA; have HX := Lib.hid h.hD; have HP := Lib.hid hp
  have hn : s.n ≤ 9223372036854775807 := Nat.le_trans h.hc h.hb
  clear h hp
  obtain ⟨A, hAe⟩ : ∃ A, s.A = A := ⟨_, rfl⟩
  obtain ⟨n, hne⟩ : ∃ n, s.n = n := ⟨_, rfl⟩
  obtain ⟨b, hbe⟩ : ∃ b, s.b = b := ⟨_, rfl⟩
  obtain ⟨o, hoe⟩ : ∃ o, s.o = o := ⟨_, rfl⟩
  rw [hAe, hne, hbe, hoe] at HA
  rw [hne, hbe, hoe] at HX
  rw [hne] at HP hn
  rw [hAe, hne]
  clear hAe hne hbe hoe
  go_enter Tryz.func83, Tryz.ntmps83
  go_wp2_with fail
  go_loopw [8] (fun s8 wr => ∃ i : Nat, i ≤ n ∧ s8 = .int .i64 (i : Int) ∧ Gr w wr ∧ Hid (Ba.fst p i = none)) (fun s8 _ => n - (intOf s8).toNat)
  case atStart => exact ⟨0, Nat.zero_le _, rfl, Gr.refl _, rfl⟩
  case round =>
    obtain ⟨i, hi, rfl, hg, hf⟩ := hrel
    by_cases hlt : i < n
    · obtain rfl := HA.out (by omega)
      have HC := Lib.hid (HP.out i hlt)
      obtain ⟨a0, a1, a2, a3, a4⟩ := (HX.out i hlt).1.gr hg
      unfold Al.M.val at HC
      generalize s.D i = d at *
      cases hpi : p i
      · rw [hpi] at HC
        have HF := Lib.hid (Ba.fst_miss hf.out hpi)
        clear hpi hi
        go_wp2_with fail
        refine (HC.out _ gr_auto).mono ?_
        rintro e w1 ⟨rfl, hb1⟩
        go_wp2_with fail
        go_roundw
        case rel => exact ⟨i + 1, by omega, by go_num, gr_auto, HF⟩
        case measure => simp [intOf]; omega
      · rw [hpi] at HC
        have HF := Lib.hid (Ba.fstI_hit hf.out hpi hlt)
        clear hpi hi
        go_wp2_with fail
        refine (HC.out _ gr_auto).mono ?_
        rintro e w1 ⟨rfl, hb1⟩
        go_wp2_with fail
        go_ret
        exact ⟨ret_int HF.out.symm, gr_auto⟩
    · obtain rfl : i = n := by omega
      have HF := Lib.hid (Ba.fstI_none hf.out)
      go_wp2_with fail
      go_ret
      exact ⟨ret_int HF.out.symm, hg⟩
set_option maxRecDepth 100000 in
set_option maxHeartbeats 4000000 in
theorem has_msg (f : FuncId) (cap : Array Value) (s : Al.SlM) (p : Nat → Bool) (w : World) (h : s.At w) (hen : ∀ args w, (callFunc f args).run Tryz.prog w = .ok (.enter f args) w)
    (hp : ∀ i, i < s.n → ∀ W, Gr w W → Calls Tryz.prog f (#[(s.D i).val] ++ cap) W fun e w' => e = .returned (.bool (p i)) ∧ Gr W w') :
    Calls Tryz.prog 48 #[.slice s.A s.n s.c, .func (.func f) #[] cap] w fun e w' => e = .returned (.bool (Ba.any p s.n)) ∧ Gr w w' := by
  have HI := Lib.hid (idx_msg f cap s p w h hen hp)
  have HG := Lib.hid (Ba.fstI_ge p s.n)
  clear hp h
  generalize Ba.fstI p s.n = r at *
  generalize Ba.any p s.n = q at *
  generalize s.A = A at *
  generalize s.n = n at *
  generalize s.c = c at *
  go_enter Tryz.func48, Tryz.ntmps48
  go_wp2_with fail
  refine HI.out.mono ?_
  rintro e w1 ⟨rfl, hb1⟩
  go_wp2
  go_ret
  exact ⟨ret_bool HG.out, hb1⟩
set_option maxRecDepth 100000 in
set_option maxHeartbeats 4000000 in
theorem fewf_any (m : Al.M) (w : World) (hm : m.nd.size ≤ 9223372036854775807) : Calls Tryz.prog 49 #[m.val] w fun e w' => e = .returned (.bool (decide (50 < m.nd.size))) ∧ Gr w w' := by
  unfold Al.M.val
  cases m with | mk nd nu tm ar lv =>
  simp only [] at *
  go_enter Tryz.func49, Tryz.ntmps49
  go_wp2_with fail
  go_ret
  exact ⟨ret_bool (decide_eq_decide.2 (by omega)), gr_auto⟩
def Al.lngB (s : Al.SlM) : Bool := Ba.any (fun i => decide (50 < (s.D i).nd.size)) s.n
theorem fewh_any (s : Al.SlM) (w : World) (h : s.At w) : Calls Tryz.prog 48 #[.slice s.A s.n s.c, .func (.func 49) #[] #[]] w fun e w' => e = .returned (.bool (Al.lngB s)) ∧ Gr w w' :=
  has_msg 49 #[] s _ w h (enter_of Tryz.func49 (by kernel_rfl) (by kernel_rfl)) fun i hi W _ => fewf_any (s.D i) W (h.hD i hi).2.nd
def Al.fewB (x y z : Nat) (q : Bool) : Bool := decide (x ≤ 12) && (decide (y ≤ 16) && (decide (z ≤ 40) && !q))
set_option maxRecDepth 100000 in
set_option maxHeartbeats 4000000 in
theorem few_any (N : Ba.SlNode) (L : Ba.SlLink) (s : Al.SlM) (w : World) (hN : N.At w) (hL : L.At w) (h : s.At w) : Calls Tryz.prog 11 #[Ba.netVal N L, .slice s.A s.n s.c] w fun e w' => e = .returned (.bool (Al.fewB N.n L.n s.n (Al.lngB s))) ∧ Gr w w' := by
  have HF := Lib.hid (fun W (hW : Gr w W) => fewh_any s W (h.gr hW))
  have hnc := hN.hc; have hnb := hN.hb; have hlc := hL.hc; have hlb := hL.hb; have hsc := h.hc; have hsb := h.hb
  clear hN hL h
  unfold Ba.netVal Al.fewB
  generalize Al.lngB s = q at *
  generalize N.A = nA at *; generalize N.n = nn at *; generalize N.c = nc at *; generalize L.A = lA at *; generalize L.n = ln at *; generalize L.c = lc at *; generalize s.A = sA at *; generalize s.n = sn at *; generalize s.c = sc at *
  by_cases t0 : nn ≤ 12
  · by_cases t1 : ln ≤ 16
    · by_cases t2 : sn ≤ 40
      · rw [decide_eq_true t0, decide_eq_true t1, decide_eq_true t2]
        go_enter Tryz.func11, Tryz.ntmps11
        go_wp2_with fail
        refine (HF.out _ gr_auto).mono ?_
        rintro e w1 ⟨rfl, hb1⟩
        have g1 : Gr w w1 := gr_auto
        clear hb1
        cases q
        · go_wp2_with fail
          go_ret
          exact ⟨rfl, g1⟩
        · go_wp2_with fail
          go_ret
          exact ⟨rfl, g1⟩
      · rw [decide_eq_true t0, decide_eq_true t1, decide_eq_false t2]
        clear HF
        go_enter Tryz.func11, Tryz.ntmps11
        go_wp2_with fail
        go_ret
        exact ⟨rfl, gr_auto⟩
    · rw [decide_eq_true t0, decide_eq_false t1]
      clear HF
      go_enter Tryz.func11, Tryz.ntmps11
      go_wp2_with fail
      go_ret
      exact ⟨rfl, gr_auto⟩
  · rw [decide_eq_false t0]
    clear HF
    go_enter Tryz.func11, Tryz.ntmps11
    go_wp2_with fail
    go_ret
    exact ⟨rfl, gr_auto⟩
end Go.Proofs.YtllkiadedaghoaaGreat
set_option linter.unusedVariables false
set_option linter.unusedSimpArgs false
namespace Go.Proofs.YtllkiadedaghoaaGreat
open Go.RowKit Go.Shelf Go.Sort
attribute [local go_sem ↓] Go.wp_at_zero Go.wp_at_succ
namespace Al
def mN : ByteArray := ⟨#[109]⟩
def exT (b : Nat) : Ba.SlK := ⟨some ⟨b, 0, none⟩, 2, 2, b, 0, fun i => if i = 0 then 0 else 1000, fun i => if i = 0 then 0 else 1000⟩
def exD (b : Nat) : Ba.Node := ⟨mN, 1, 0, 0, 0, 1000, exT b, false, 0⟩
def exN (a b : Nat) : Ba.SlNode := ⟨some ⟨a, 0, none⟩, 1, 1, a, 0, fun _ => exD b⟩
def exLk : Ba.Link := ⟨⟨#[]⟩, ⟨#[]⟩, ⟨#[]⟩, 0, 0, 0, 0, ⟨#[]⟩, 0, 0, ⟨none, 0, 0, 0, 0, fun _ => 0, fun _ => 0⟩⟩
def exL : Ba.SlLink := ⟨none, 0, 0, 0, 0, fun _ => exLk⟩
def exM (i : Nat) : M := ⟨mN, (i : Int) + 1, 10 * ((i : Int) + 1), 10 * ((i : Int) + 1), if i = 3 then 1200 else 500⟩
def exMs : List M := (List.range 4).map exM
def exA : List C := [⟨4, mN, 30, [1, 2, 3]⟩, ⟨2, mN, 40, [4]⟩, ⟨3, mN, 40, [3, 4]⟩]
theorem exL_at (w : World) : exL.At w := ⟨fun h => absurd h (Nat.lt_irrefl _), Nat.le_refl _, Nat.zero_le _, fun i hi => absurd hi (Nat.not_lt_zero _)⟩
theorem ex_netB (a b : Nat) : Ba.netB (exN a b) exL = true := by kernel_rfl
theorem ex_dist : Dist exMs := by
  show List.Pairwise _ [exM 0, exM 1, exM 2, exM 3]
  simp only [List.pairwise_cons, List.mem_cons, List.not_mem_nil, or_false, forall_eq_or_imp, forall_eq, false_imp_iff, implies_true, List.Pairwise.nil, and_true]
  refine ⟨⟨fun h => ?_, fun h => ?_, fun h => ?_⟩, ⟨fun h => ?_, fun h => ?_⟩, fun h => ?_⟩ <;> exact absurd (kM_inj h).2 (by decide)
theorem ex_srt : srtM exMs = exMs := by
  refine (srtM_of ex_dist (List.Perm.refl _) ?_).symm
  show List.Pairwise _ [exM 0, exM 1, exM 2, exM 3]
  simp only [List.pairwise_cons, List.mem_cons, List.not_mem_nil, or_false, forall_eq_or_imp, forall_eq, false_imp_iff, implies_true, List.Pairwise.nil, and_true]
  refine ⟨⟨?_, ?_, ?_⟩, ⟨?_, ?_⟩, ?_⟩ <;> exact of_decide_eq_true (by kernel_rfl)
theorem ex_nds : nds exMs = [mN] := by kernel_rfl
theorem ex_of : ofN exMs mN = exMs := by
  unfold ofN; rw [ex_srt]; kernel_rfl
theorem ex_jmp : jmpC 300 exMs = [⟨3, mN, 40, [3, 4]⟩] := by
  unfold jmpC; rw [ex_nds, List.flatMap_cons, List.flatMap_nil, List.append_nil, ex_of]; kernel_rfl
theorem ex_run : runC 3 exMs = [⟨4, mN, 30, [1, 2, 3]⟩] := by
  unfold runC; rw [ex_nds, List.flatMap_cons, List.flatMap_nil, List.append_nil, ex_of]
  show run 3 [exM 0, exM 1, exM 2, exM 3] = _
  rw [run, show [exM 1, exM 2, exM 3].takeWhile (fun m => m.lv == (exM 0).lv) = [exM 1, exM 2] by kernel_rfl, show [exM 1, exM 2, exM 3].dropWhile (fun m => m.lv == (exM 0).lv) = [exM 3] by kernel_rfl, run]
  rw [show ([] : List M).dropWhile (fun m => m.lv == (exM 3).lv) = [] by kernel_rfl, run]
  kernel_rfl
theorem ex_lim (a b : Nat) : limC (exN a b) exMs = [⟨2, mN, 40, [4]⟩] := by kernel_rfl
theorem ex_all (a b : Nat) : allC (exN a b) exMs 300 3 = exA := by
  unfold allC
  rw [ex_lim, ex_jmp, ex_run]
  refine (srt_of ?_ ?_).symm
  · exact List.perm_append_comm (l₁ := [_, _]) (l₂ := [_])
  · show List.Pairwise _ [_, _, _]
    simp only [List.pairwise_cons, List.mem_cons, List.not_mem_nil, or_false, forall_eq_or_imp, forall_eq, false_imp_iff, implies_true, List.Pairwise.nil, and_true]
    refine ⟨⟨?_, ?_⟩, ?_⟩ <;> exact of_decide_eq_true (by kernel_rfl)
end Al
end Go.Proofs.YtllkiadedaghoaaGreat
