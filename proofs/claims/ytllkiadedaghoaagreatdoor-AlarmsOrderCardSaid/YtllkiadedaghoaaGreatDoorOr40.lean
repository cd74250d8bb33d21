/-
  Alarms: still. (Printed by mkaw.py.)
-/
import Derived.Test.YtllkiadedaghoaaGreatDoorOr38
import Derived.Deep.CutBlock
set_option linter.unusedVariables false
set_option linter.unusedSimpArgs false
namespace Go.Proofs.YtllkiadedaghoaaGreatDoor
open Go.RowKit Go.Maps Go.Sort
attribute [local go_sem ↓] Go.wp_at_zero Go.wp_at_succ
namespace Al
theorem run_len (c : Int) : ∀ l : List M, (run c l).length ≤ l.length := by
  intro l
  induction l using run.induct with
  | case1 => rw [run]; exact Nat.le_refl _
  | case2 a r ih =>
    rw [run, List.length_append, List.length_cons]
    have := (List.dropWhile_sublist (fun m : M => m.lv == a.lv) (l := r)).length_le
    split
    · rw [List.length_singleton]; omega
    · rw [List.length_nil]; omega
/-- A part of a row. -/
def SlM.part (g cap : Nat) (T : List M) (j k : Nat) : SlM := ⟨some ⟨g, j * 5, none⟩, k - j, cap - j, g, j * 5, fun i => T[j + i]!⟩
theorem SlM.part_at {w : World} {g cap : Nat} {T : List M} {j k : Nat} (hk : k ≤ T.length) (hj : j < k) (hc : T.length ≤ cap) (hm : cap ≤ 9223372036854775807) (hcl : ∀ i (hi : i < T.length), (T[i]).Cells w g (0 + i * 5)) (hok : ∀ m ∈ T, m.Ok) : (SlM.part g cap T j k).At w := by
  refine ⟨fun _ => rfl, show k - j ≤ cap - j by omega, show cap - j ≤ 9223372036854775807 by omega, fun i hi => ?_⟩
  have hi' : i < k - j := hi
  have e : T[j + i]! = T[j + i] := getElem!_pos T (j + i) (by omega)
  have h := hcl (j + i) (by omega)
  refine ⟨?_, ?_⟩
  · show (T[j + i]!).Cells w g (j * 5 + i * 5)
    rw [e, show j * 5 + i * 5 = 0 + (j + i) * 5 by omega]; exact h
  · show (T[j + i]!).Ok
    rw [e]; exact hok _ (List.getElem_mem _)
theorem SlM.part_lst (g cap : Nat) (T : List M) (j k : Nat) (hk : k ≤ T.length) : (SlM.part g cap T j k).lst = (T.drop j).take (k - j) := by
  apply List.ext_getElem
  · simp [SlM.part, SlM.lst]; omega
  · intro i h1 h2
    simp only [SlM.part, SlM.lst, List.length_map, List.length_range] at h1
    have e : j + i < T.length := by omega
    simp [SlM.part, SlM.lst, e]
end Al
set_option maxRecDepth 100000 in
set_option maxHeartbeats 4000000 in
theorem still_any (s : Al.SlM) (cnt0 : Int) (w : World) (h : s.At w) (hv : s.vB = true) (hmo : 2 ≤ cnt0 ∧ cnt0 ≤ 10000) : Calls Tryz.prog 72 #[.slice s.A s.n s.c, .int .i64 cnt0] w (Al.RetO (Al.runC cnt0 s.lst) w) := by
  have HAl := Lib.hid (fun (g cap : Nat) (T : List Al.M) (j k : Nat) (hk : k ≤ T.length) (hj : j < k) (hkn : k ≤ 1000000) (hc : T.length ≤ cap) (hm : cap ≤ 9223372036854775807) (W : World) (hcl : ∀ i (hi : i < T.length), (T[i]).Cells W g (0 + i * 5)) (hok : ∀ m ∈ T, m.Ok) => show Calls Tryz.prog 109 #[.int .i64 4, .slice (some ⟨g, j * 5, none⟩) (k - j) (cap - j)] W (fun e w' => ∃ a : Al.A, e = .returned (.agg a.enc.toArray) ∧ a.con = Al.alm 4 ((T.drop j).take (k - j)) ∧ a.Own w' ∧ Gr W w') from by
    have z := alarm_any 4 (Al.SlM.part g cap T j k) W (Al.SlM.part_at hk hj hc hm hcl hok) (show 0 < k - j by omega) (show k - j ≤ 1000000 by omega)
    rw [Al.SlM.part_lst g cap T j k hk] at z
    exact z)
  obtain ⟨i1, k0, k1, k2, k3⟩ := info_parts infoA
  have KI := Lib.hid k0; have KZ0 := Lib.hid k1; have KZ1 := Lib.hid k2; have KZ2 := Lib.hid k3
  clear k0 k1 k2 k3
  have HB := Lib.hid (bynode_any s w h hv)
  have hvl := ((Al.vB_iff s).1 hv).perm (Al.srtM_perm s.lst).symm
  have HV := Lib.hid hvl
  have HOk := Lib.hid (show ∀ m ∈ Al.srtM s.lst, m.Ok from fun m hm => by
    obtain ⟨i, hi, rfl⟩ := List.getElem_of_mem ((Al.srtM_perm s.lst).mem_iff.1 hm)
    rw [Al.lst_get]; exact (h.hD i (by rw [← Al.SlM.lst_len]; exact hi)).2)
  have HBd := Lib.hid (show ∀ m ∈ Al.srtM s.lst, -4194304 ≤ m.lv ∧ m.lv ≤ 4194304 from fun m hm => by
    have z := hvl.2.1 m hm
    unfold Al.mOk at z
    simp only [Bool.and_eq_true] at z
    have y := z.2.2.2.2.2
    unfold Ba.bet at y
    simp only [Bool.and_eq_true, decide_eq_true_eq] at y
    exact y)
  have HU := Lib.hid (fun (f : Value → Option Value) (ss : List ByteArray) hn hs hall hin => Al.come_up (l := s.lst) (f := f) (ss := ss) (fun t => Al.run cnt0 (Al.ofN s.lst t)) hn hs hall hin)
  have hLen : (Al.srtM s.lst).length ≤ 10000 := hvl.1
  clear h hv hvl
  change Calls _ _ _ _ (Al.RetO ((Al.nds s.lst).flatMap fun t => Al.run cnt0 (Al.ofN s.lst t)) w)
  have HOf := Lib.hid (show (fun t => Al.run cnt0 (Al.ofN s.lst t)) = fun t => Al.run cnt0 (Al.own (Al.srtM s.lst) t) from rfl)
  generalize ((Al.nds s.lst).flatMap fun t => Al.run cnt0 (Al.ofN s.lst t)) = RES at *
  rw [HOf.out] at HU
  clear HOf
  generalize Al.srtM s.lst = L at *
  generalize s.A = A0 at *; generalize s.n = n0 at *; generalize s.c = c0 at *
  go_enter Tryz.func72, Tryz.ntmps72
  go_wp2_with fail
  refine HB.out.mono ?_
  rintro e w1 ⟨MB, nE, f, rfl, hM, hR, hMB, hg1⟩
  clear HB
  have HR := Lib.hid hR
  have HM := Lib.hid hM
  have hMlt := hM.lt
  obtain ⟨w2, cnt, hrun, hg2, hz2, hit⟩ := ItF.start hM Tryz.underlying139
  have HIt := Lib.hid hit
  clear hM hR hit
  go_wp2_with fail
  clear hrun
  obtain ⟨R, hRR⟩ : ∃ R, R = w1.heap.size := ⟨_, rfl⟩
  rw [← hRR] at HIt ⊢
  have hMR : MB < R := by omega
  have hRz : R < w2.heap.size := by omega
  have hR1 : w1.heap.size ≤ R := by omega
  clear hRR hz2
  go_loopw [5] (fun v wr => ∃ (ss : List ByteArray) (d : List Al.A) (cnt : Nat), Hid (ItF wr MB R cnt f (ss.map Value.string)) ∧ Hid (Al.OwnA wr w2.heap.size v d) ∧ Hid (d.map Al.A.con = ss.flatMap fun t => Al.run cnt0 (Al.own L t)) ∧ Gr w1 wr ∧ w2.heap.size ≤ wr.heap.size) (fun _ wr => itLeft wr R MB)
  case atStart => exact ⟨[], [], cnt, HIt, Lib.hid (Al.OwnA.nil _ _), Lib.hid rfl, hg2, Nat.le_refl _⟩
  case round =>
    have HIt0 := HIt
    clear HIt0
    obtain ⟨ss, ds, cnt', HI, HO, HL, hg, hzw⟩ := hrel
    have hme := HI.out.left
    have hn1 := Gr.size hg
    rcases HI.out.step (P := Tryz.prog) (by omega) 0 with ⟨hall, hrun⟩ | ⟨key, v, w5, cnt5, hlt5, hfk, hnk, hrun, hit5, hen, hgx⟩
    · have hp := HU.out f ss (by have := HI.out.nodup.1; exact nodup_str this) (fun t => HR.out.isSome t) hall (fun t ht => HI.out.nodup.2 _ (List.mem_map.2 ⟨t, ht, rfl⟩))
      have hz1 := Gr.size hg1
      clear hall HU HR HI HAl HV HOk HBd HM
      go_wp2_with fail
      go_ret
      exact ⟨_, ds, rfl, HO.out.base (by omega), by rw [HL.out]; exact hp, hg1.trans hg⟩
    · obtain ⟨t, g, cap, rfl, hne, rfl, hnc, hcm, hcl⟩ := HR.out.at hfk
      have HOkT := Lib.hid (show ∀ m ∈ Al.own L t, m.Ok from fun m hm => HOk.out m (List.mem_filter.1 hm).1)
      have HBT := Lib.hid (show ∀ m ∈ Al.own L t, -4194304 ≤ m.lv ∧ m.lv ≤ 4194304 from fun m hm => HBd.out m (List.mem_filter.1 hm).1)
      have hTl : (Al.own L t).length ≤ 10000 := Nat.le_trans (List.filter_sublist (l := L) (p := fun m => Ba.eqS m.nd t)).length_le hLen
      have HFl := Lib.hid (Al.flat_len (L := L) (fun t => Al.run cnt0 (Al.own L t)) (fun t => Al.run_len cnt0 _) (ss ++ [t]) (by
        have := hit5.nodup.1
        rw [show ss.map Value.string ++ [Value.string t] = (ss ++ [t]).map Value.string by simp] at this
        exact nodup_str this))
      have g5 : Gr w1 w5 := GrX.gr hg (by omega) hgx
      have hz5 : w2.heap.size ≤ w5.heap.size := Nat.le_trans hzw hgx.size
      have HO5 := Lib.hid (HO.out.iter hgx HI.out.notcells)
      have HI5 := Lib.hid (show ItF w5 MB R cnt5 f ((ss ++ [t]).map Value.string) from by rw [List.map_append]; exact hit5)
      have HT0 := Lib.hid (show ds.map Al.A.con ++ Al.run cnt0 (Al.own L t) = (ss ++ [t]).flatMap fun t => Al.run cnt0 (Al.own L t) from by rw [HL.out]; simp)
      have hTp : 0 < (Al.own L t).length := List.length_pos_iff.2 hne
      clear hfk hnk hit5 hgx HI HO HL hne HU HR HM
      generalize hSS : (ss ++ [t]).flatMap (fun t => Al.run cnt0 (Al.own L t)) = RS at *
      obtain ⟨PR, hPR⟩ : ∃ z, ds.map Al.A.con = z := ⟨_, rfl⟩
      rw [hPR] at HT0
      have HPR := Lib.hid hPR
      clear hPR
      have HSS := Lib.hid hSS
      clear hSS
      have HTT := Lib.hid (show PR ++ Al.run cnt0 ((Al.own L t).drop 0) = RS from HT0.out)
      clear HT0
      obtain ⟨T, hT⟩ : ∃ T, Al.own L t = T := ⟨_, rfl⟩
      rw [hT] at hcl HOkT HBT hTl HTT hTp hnc hrun hen
      replace hcl := Lib.hid hcl
      clear hT
      obtain ⟨n, hn⟩ : ∃ n, T.length = n := ⟨_, rfl⟩
      rw [hn] at hTl hTp hnc hrun hen
      have HN := Lib.hid hn
      clear hn
      go_wp2_with fail
      go_loopw [5, 8] (fun v x wr => ∃ (j : Nat) (d : List Al.A), j ≤ n ∧ x = .int .i64 (j : Int) ∧ Hid (Al.OwnA wr w2.heap.size v d) ∧ Hid (d.map Al.A.con ++ Al.run cnt0 (T.drop j) = RS) ∧ Hid (ItF wr MB R cnt5 f ((ss ++ [t]).map Value.string)) ∧ Gr w1 wr ∧ w2.heap.size ≤ wr.heap.size) (fun _ x _ => n - (intOf x).toNat)
      case atStart => exact ⟨0, ds, Nat.zero_le _, rfl, HO5, Lib.hid (by rw [HPR.out]; exact HTT.out), HI5, g5, hz5⟩
      case round =>
        clear HO5 HI5 HTT
        obtain ⟨j, d, hj, rfl, HO, HT, HI, hg6, hz6⟩ := hrel
        by_cases hlt : j < n
        · have ib0 : (0 : Int) ≤ (j : Int) := by omega
          have ib1 : (j : Int) < (n : Int) := by omega
          go_upto_block 4 with fail
          go_cut [9] (fun x wx => ∃ k : Nat, j < k ∧ k ≤ n ∧ x = .int .i64 (k : Int) ∧ Hid (∀ i (hi : i < T.length), j < i → i < k → T[i].lv = (T[j]'(by rw [HN.out]; exact hlt)).lv) ∧ Hid (∀ hk : k < T.length, T[k].lv ≠ (T[j]'(by rw [HN.out]; exact hlt)).lv) ∧ Gr wr wx)
          case first =>
            obtain ⟨a0, a1, a2, a3, a4⟩ := (hcl.out j (by rw [HN.out]; exact hlt)).gr hg6
            rw [Nat.zero_add] at a4
            clear HO HT HI HAl HFl HSS HPR HOkT a0 a1 a2 a3
            have hbj := HBT.out (T[j]'(by rw [HN.out]; exact hlt)) (List.getElem_mem _)
            go_wp2_with fail
            go_loopw [9] (fun x wr3 => ∃ k : Nat, j < k ∧ k ≤ n ∧ x = .int .i64 (k : Int) ∧ Hid (∀ i (hi : i < T.length), j < i → i < k → T[i].lv = (T[j]'(by rw [HN.out]; exact hlt)).lv) ∧ Gr wr wr3) (fun x _ => n - (intOf x).toNat)
            case atStart => exact ⟨j + 1, by omega, by omega, by simp, Lib.hid (fun i hi h1 h2 => by omega), Gr.refl _⟩
            case round =>
              rename_i _ wq _
              obtain ⟨k, hk1, hk2, rfl, HE, hg7⟩ := hrel
              by_cases hlk : k < n
              · obtain ⟨b0, b1, b2, b3, b4⟩ := (hcl.out k (by rw [HN.out]; exact hlk)).gr (hg6.trans hg7)
                rw [Nat.zero_add] at b4
                have c4 := Gr.at hg7 a4
                have hbk := HBT.out (T[k]'(by rw [HN.out]; exact hlk)) (List.getElem_mem _)
                have jb0 : (0 : Int) ≤ (k : Int) := by omega
                have jb1 : (k : Int) < (n : Int) := by omega
                have jb2 : decide ((k : Int) < (n : Int)) = true := decide_eq_true jb1
                have jb3 : decide (k < n) = true := decide_eq_true hlk
                clear hcl HBT a4 b0 b1 b2 b3
                by_cases q : (T[k]'(by rw [HN.out]; exact hlk)).lv = (T[j]'(by rw [HN.out]; exact hlt)).lv
                · have HE2 := Lib.hid (fun i (hi : i < T.length) (h1 : j < i) (h2 : i < k + 1) => show T[i].lv = (T[j]'(by rw [HN.out]; exact hlt)).lv from by
                    by_cases e : i = k
                    · subst e; exact q
                    · exact HE.out i hi h1 (by omega))
                  rw [q] at b4 hbk
                  clear HE q
                  generalize (T[j]'(by rw [HN.out]; exact hlt)).lv = y at *
                  go_wp2_with fail
                  go_quiet (fail)
                  have gw9 := Lib.hid (fun k => hg7.drewN k)
                  clear hg7
                  go_wp2_with fail
                  go_roundw
                  case rel => exact ⟨k + 1, by omega, by omega, by go_num, HE2, gw9.out _⟩
                  case measure => simp [intOf]; omega
                · have HQ := Lib.hid (fun (hk : k < T.length) => q)
                  obtain ⟨z, hz⟩ : ∃ z, (T[k]'(by rw [HN.out]; exact hlk)).lv = z := ⟨_, rfl⟩; obtain ⟨y, hy⟩ : ∃ y, (T[j]'(by rw [HN.out]; exact hlt)).lv = y := ⟨_, rfl⟩
                  rw [hz] at b4 q; rw [hy] at c4 q
                  have jb4 : (z == y) = false := beq_eq_false_iff_ne.2 q
                  have gw9 := Lib.hid (fun k => hg7.drewN k)
                  clear hg7 q hbk hbj
                  replace hz := Lib.hid hz; replace hy := Lib.hid hy
                  go_wp2_with fail
                  go_quiet (fail)
                  go_wp2_with fail
                  go_meet
                  case rel => exact ⟨k, hk1, hk2, rfl, HE, HQ, gw9.out _⟩
              · obtain rfl : n = k := by omega
                have jb2 : decide ((n : Int) < (n : Int)) = false := decide_eq_false (by omega)
                have jb3 : decide (n < n) = false := decide_eq_false (by omega)
                have HQ := Lib.hid (fun (hk : n < T.length) => show T[n].lv ≠ (T[j]'(by rw [HN.out]; exact hlt)).lv from by have := HN.out; omega)
                have gw9 := Lib.hid (fun k => hg7.drewN k)
                clear hcl HBT a4 hg7 hbj
                go_wp2_with fail
                go_quiet (fail)
                go_wp2_with fail
                go_meet
                case rel => exact ⟨n, hk1, hk2, rfl, HE, HQ, gw9.out _⟩
          case rest =>
            obtain ⟨k, hk1, hk2, rfl, HE, HQ, hg7⟩ := hcut
            have hrn := Al.run_at (c := cnt0) (l := T) (i := j) (j := k) hk1 (by rw [HN.out]; exact hk2) HE.out HQ.out
            have hdl : d.length ≤ 20000 := by
              have z := congrArg List.length HT.out
              rw [List.length_append, List.length_map] at z
              have y := HFl.out
              omega
            have jb0 : (0 : Int) ≤ (k : Int) := by omega
            have jb1 : (k : Int) ≤ (n : Int) := by omega
            have jb2 : (j : Int) ≤ (k : Int) := by omega
            have jb3 : (k : Int) - (j : Int) ≤ 10000 := by omega
            have jb4 : 0 ≤ (k : Int) - (j : Int) := by omega
            clear HE HQ HFl HBT
            by_cases q : cnt0 ≤ (k : Int) - (j : Int)
            · rw [if_pos q] at hrn
              have HRN := Lib.hid hrn
              have HALL := Lib.hid (fun (W : World) (hW : Gr w1 W) => HAl.out g cap T j k (by rw [HN.out]; exact hk2) hk1 (by omega) (by rw [HN.out]; exact hnc) (by unfold maxLen at hcm; exact hcm) W (fun i hi => (hcl.out i hi).gr hW) HOkT.out)
              have jc : ¬ (j = cap) := by omega
              have jc2 : ¬ (cap = j) := by omega
              have jc3 : cap ≤ 9223372036854775807 := by unfold maxLen at hcm; exact hcm
              clear hrn HAl hcl HOkT
              go_wp2_with fail
              refine (HALL.out _ (hg6.trans hg7)).mono ?_
              rintro e w7 ⟨a, rfl, hcon, hown, hb7⟩
              have g7 : Gr wr w7 := hg7.trans hb7
              have hz7 : w2.heap.size ≤ w7.heap.size := Nat.le_trans hz6 (Gr.size g7)
              have HC7 := Lib.hid hcon
              have HA7 := Lib.hid hown
              have HO7 := Lib.hid (HO.out.gr g7)
              have HI7 := Lib.hid (HI.out.gr g7)
              have HG7 := Lib.hid (hg6.trans g7)
              have HFB := Lib.hid (own_far HO7.out.row (show MB < w2.heap.size by omega)); have HFR := Lib.hid (own_far HO7.out.row (show R < w2.heap.size by omega))
              clear hcon hown hb7 HALL HO HI hg6 hg7 g7
              unfold Al.A.enc
              obtain ⟨akd, hakd⟩ : ∃ z, a.kd = z := ⟨_, rfl⟩; obtain ⟨and_, hand⟩ : ∃ z, a.nd = z := ⟨_, rfl⟩; obtain ⟨atm, hatm⟩ : ∃ z, a.tm = z := ⟨_, rfl⟩; obtain ⟨asl, hasl⟩ : ∃ z, Value.slice a.p a.n a.c = z := ⟨_, rfl⟩
              have HE := Lib.hid (show a.enc = [.int .i64 akd, .string and_, .int .i64 atm, asl] from by unfold Al.A.enc; rw [hakd, hand, hatm, hasl])
              rw [hakd, hand, hatm, hasl]
              have HSL := Lib.hid (show asl.oneCell' = true from by rw [← hasl]; rfl)
              clear hakd hand hatm hasl
              go_wp2_with (at_builtin; refine wpList_append_own _ rfl _ _ 48 rfl w2.heap.size 31 i1 (.agg #[.int .i64 0, .string ⟨#[]⟩, .int .i64 0, .slice none 0 0]) 4 56 Tryz.underlying48 KI.out KZ0.out KZ1.out KZ2.out rfl (by decide) _ _ _ rfl (ownsRow_gr HO7.out.row (by exact gr_auto)) ⟨w7.heap.size, 0, none⟩ 1 1 [.int .i64 akd, .string and_, .int .i64 atm, asl] rfl rfl (cells_new w7 #[.int .i64 akd, .string and_, .int .i64 atm, asl] 31) (by intro u hu; simp at hu; rcases hu with rfl | rfl | rfl | rfl <;> first | rfl | exact HSL.out) (by unfold maxLen; omega) (by omega) (by simp; omega) ?_)
              intro v' w9 hown' hgrow hnil
              have HP := Lib.hid (Al.OwnA.push (HO7.out.gr (Gr.alloc (Gr.refl w7) _)) (HA7.out.gr (Gr.alloc (Gr.refl w7) _)) (by rw [HE.out]; exact hown') hgrow)
              have HI9 := Lib.hid ((HI7.out.gr (Gr.alloc (Gr.refl w7) (Obj.cells #[.int .i64 akd, .string and_, .int .i64 atm, asl] 31))).grownBy hgrow HFB.out HFR.out)
              have gw9 : Gr w1 w9 := Gr.own (HG7.out.alloc _) (show w1.heap.size ≤ w2.heap.size by omega) (ownsRow_gr HO7.out.row (Gr.alloc (Gr.refl w7) _)) hgrow
              have hz9 : w2.heap.size ≤ w9.heap.size := by have := hgrow.size; simp at this; omega
              have HT9 := Lib.hid (show (d ++ [a]).map Al.A.con ++ Al.run cnt0 (T.drop k) = RS from by
                rw [← HT.out, HRN.out, List.map_append, List.map_cons, List.map_nil, HC7.out, List.append_assoc])
              clear HO7 HA7 HC7 HE HSL hown' hgrow hnil HG7 HI7 HFB HFR HT HRN
              go_wp2_with fail
              go_roundw
              case rel => exact ⟨k, _, hk2, rfl, HP, HT9, HI9, gw9, hz9⟩
              case measure => simp [intOf]; omega
            · rw [if_neg q, List.nil_append] at hrn
              have q' : (k : Int) - (j : Int) < cnt0 := by omega
              have HP := Lib.hid (HO.out.gr hg7)
              have HI9 := Lib.hid (HI.out.gr hg7)
              have gw9 := hg6.trans hg7
              have hz9 : w2.heap.size ≤ wc.heap.size := Nat.le_trans hz6 (Gr.size hg7)
              have HT9 := Lib.hid (show d.map Al.A.con ++ Al.run cnt0 (T.drop k) = RS from by rw [← HT.out, hrn])
              clear HO HI HT hrn HAl q hcl HOkT
              go_wp2_with fail
              go_roundw
              case rel => exact ⟨k, _, hk2, rfl, HP, HT9, HI9, gw9, hz9⟩
              case measure => simp [intOf]; omega
        · obtain rfl : n = j := by omega
          have HTe := Lib.hid (show d.map Al.A.con = RS from by rw [← HT.out, List.drop_eq_nil_of_le (by rw [HN.out]; exact Nat.le_refl _), Al.run_nil, List.append_nil])
          have hme2 := HI.out.left
          clear hcl HOkT HBT HAl HFl HPR HT
          have HL9 := Lib.hid (show d.map Al.A.con = (ss ++ [t]).flatMap fun t => Al.run cnt0 (Al.own L t) from by rw [HTe.out, HSS.out])
          clear HTe HSS
          go_wp2_with fail
          go_roundw
          case rel => exact ⟨ss ++ [t], d, cnt5, HI, HO, HL9, hg6, hz6⟩
          case measure => rw [hme2, hme]; exact hlt5
end Go.Proofs.YtllkiadedaghoaaGreatDoor
