/-
  Alarms: the reference's Runs. (Printed by mkamm.py.)
-/
import Derived.Test.YtllkiadedaghoaaGreatDoorEx36
import Derived.Test.YtllkiadedaghoaaGreatDoorEx30
import Derived.Deep.CutBlock
set_option linter.unusedVariables false
set_option linter.unusedSimpArgs false
namespace Go.Proofs.YtllkiadedaghoaaGreatDoor
open Go.RowKit Go.Sort Go.Shelf
attribute [local go_sem ↓] Go.wp_at_zero Go.wp_at_succ
namespace Al
/-- The numbers of a part of the messages. -/
def nums (T : List M) (j e : Nat) : List Int := ((T.drop j).take (e - j)).map M.nu
theorem nums_len {T : List M} {j e : Nat} (h : e ≤ T.length) (hj : j ≤ e) : (nums T j e).length = e - j := by unfold nums; rw [List.length_map, List.length_take, List.length_drop]; omega
theorem nums_snoc {T : List M} {j e : Nat} (h : e < T.length) (hj : j ≤ e) : nums T j (e + 1) = nums T j e ++ [T[e].nu] := by
  unfold nums
  have h1 : e - j < (T.drop j).length := by rw [List.length_drop]; omega
  rw [show e + 1 - j = (e - j) + 1 by omega, List.take_succ_eq_append_getElem h1, List.map_append, List.getElem_drop]
  have e2 : j + (e - j) = e := by omega
  simp [e2]
/-- An alarm whose numbers a call has made. -/
theorem own_nums {W : World} {base g c n : Nat} {l : List Int} {kd tm : Int} {nd : ByteArray} (h : W.ownsRow base 3 1 (.slice (some ⟨g, 0, none⟩) n c) n (l.map fun x => .int .i64 x)) (hn : 0 < n) (hb : n ≤ 10000) : A.Own ⟨kd, nd, tm, some ⟨g, 0, none⟩, g, 0, n, c, fun q => l.getD q 0⟩ W := by
  have h' := h
  obtain ⟨hl, ⟨h1, -⟩ | ⟨g', cap, cur, hv, hb', hc, r⟩⟩ := h
  · cases h1
  · simp only [Value.slice.injEq, Option.some.injEq, Addr.mk.injEq] at hv
    obtain ⟨⟨rfl, -, -⟩, -, rfl⟩ := hv
    refine ⟨⟨show n ≤ 9223372036854775807 by omega, fun _ => rfl, fun q hq => ?_⟩, ⟨_, _, hc⟩, hn⟩
    have hq' : q < n := hq
    simp only [Nat.zero_add]
    rw [h'.cellAt q (by omega)]
    rw [List.length_map, Nat.mul_one] at hl
    simp [List.getElem?_map, List.getD_eq_getElem?_getD, show q < l.length by omega]
theorem con_nums {l : List Int} {n : Nat} (h : l.length = n) : Al.lst (fun q => l.getD q 0) n = l := by
  apply List.ext_getElem
  · rw [lst_len, h]
  · intro i h1 h2
    simp [lst, List.getD_eq_getElem?_getD, h2]
end Al
theorem infoI2 : (Tryz.prog.info? 3).map (fun i => (i.zero, i.size, i.bytes)) = some (some (.int .i64 0), 1, 8) := by kernel_rfl
set_option maxRecDepth 100000 in
set_option maxHeartbeats 8000000 in
theorem rruns_any (s : Al.SlM) (cnt0 : Int) (w : World) (h : s.At w) (hv : Al.vL s.lst) (hmo : 2 ≤ cnt0 ∧ cnt0 ≤ 10000) : Calls Tryz.prog 92 #[.slice s.A s.n s.c, .int .i64 cnt0] w fun e w' => ∃ v d, e = .returned v ∧ Al.OwnA w' w.heap.size v d ∧ d.map Al.A.con = Al.srt (Al.runC cnt0 s.lst) ∧ Gr w w' := by
  obtain ⟨i1, k0, k1, k2, k3⟩ := info_parts infoA
  have KI := Lib.hid k0; have KZ0 := Lib.hid k1; have KZ1 := Lib.hid k2; have KZ2 := Lib.hid k3
  clear k0 k1 k2 k3
  obtain ⟨i2, k0, k1, k2, k3⟩ := info_parts infoI2
  have JI := Lib.hid k0; have JZ0 := Lib.hid k1; have JZ1 := Lib.hid k2; have JZ2 := Lib.hid k3
  clear k0 k1 k2 k3
  have hsn : s.n ≤ 10000 := by have := hv.1; rw [Al.SlM.lst_len] at this; exact this
  have HNo := Lib.hid (rnodes_any s w h hsn)
  have HOf := Lib.hid (fun t W (hW : Gr w W) => rof_any s t W (h.gr hW) hv)
  have HOk := Lib.hid (show ∀ m ∈ s.lst, m.Ok from fun m hm => by
    obtain ⟨i, hi, rfl⟩ := List.getElem_of_mem hm
    rw [Al.lst_get]; exact (h.hD i (by rw [← Al.SlM.lst_len]; exact hi)).2)
  have HBd := Lib.hid (show ∀ m ∈ s.lst, -4194304 ≤ m.lv ∧ m.lv ≤ 4194304 from fun m hm => by
    have z := hv.2.1 m hm
    unfold Al.mOk at z
    simp only [Bool.and_eq_true] at z
    have y := z.2.2.2.2.2
    unfold Ba.bet at y
    simp only [Bool.and_eq_true, decide_eq_true_eq] at y
    exact y)
  have HOT := Lib.hid (fun t => show (∀ m ∈ Al.ofN s.lst t, m.Ok) ∧ (∀ m ∈ Al.ofN s.lst t, -4194304 ≤ m.lv ∧ m.lv ≤ 4194304) ∧ (∀ m ∈ Al.ofN s.lst t, m.nd = t) ∧ (Al.ofN s.lst t).length ≤ 10000 from
    ⟨fun m hm => HOk.out m (Al.ofN_mem hm), fun m hm => HBd.out m (Al.ofN_mem hm), fun m hm => Al.ofN_nd hm, Nat.le_trans (List.filter_sublist (l := Al.srtM s.lst) (p := fun m => Ba.eqS m.nd t)).length_le (by rw [(Al.srtM_perm s.lst).length_eq]; exact hv.1)⟩)
  have HFl := Lib.hid (fun ss (hn : ss.Nodup) => show (ss.flatMap fun t => Al.run cnt0 (Al.ofN s.lst t)).length ≤ 10000 from Nat.le_trans (Al.flat_len (L := Al.srtM s.lst) (fun t => Al.run cnt0 (Al.own (Al.srtM s.lst) t)) (fun t => Al.run_len cnt0 _) ss hn) (by rw [(Al.srtM_perm s.lst).length_eq]; exact hv.1))
  have HUn := Lib.hid (Al.nds_nodup s.lst)
  have HRes := Lib.hid (show Al.runC cnt0 s.lst = (Al.nds s.lst).flatMap fun t => Al.run cnt0 (Al.ofN s.lst t) from rfl)
  clear h hv HOk HBd
  generalize Al.runC cnt0 s.lst = RES at *
  generalize Al.nds s.lst = U at *
  obtain ⟨OF, hOF⟩ : ∃ OF, (fun t => Al.ofN s.lst t) = OF := ⟨_, rfl⟩
  have hOF2 : ∀ t, Al.ofN s.lst t = OF t := fun t => by rw [← hOF]
  simp only [hOF2] at HOf HOT HFl HRes
  clear hOF hOF2
  generalize s.A = A0 at *; generalize s.n = n0 at *; generalize s.c = c0 at *
  go_enter Tryz.func92, Tryz.ntmps92
  go_wp2_with fail
  refine HNo.out.mono ?_
  rintro e w1 ⟨vU, rfl, hU, hg1⟩
  clear HNo
  obtain ⟨UA, uc, ub, rfl, u1, u2, u3, u4⟩ := ownsRow_at hU
  obtain ⟨un, hun⟩ : ∃ m, U.length = m := ⟨_, rfl⟩
  rw [hun] at u1 u2 u4 ⊢
  have HUN := Lib.hid hun
  clear hun hU
  have HU1 := Lib.hid u1
  have HU4 := Lib.hid (fun j (hj : j < un) => show w1.cell? ⟨ub, j, none⟩ = some (.string (U[j]'(by rw [HUN.out]; exact hj))) from by rw [u4 j hj, List.getElem?_map, List.getElem?_eq_getElem (by rw [HUN.out]; exact hj)]; rfl)
  clear u1 u4
  have hz1 := Gr.size hg1
  go_wp2_with fail
  go_loopw [5, 7] (fun v x wr => ∃ (i : Nat) (d : List Al.A), i ≤ un ∧ x = .int .i64 (i : Int) ∧ Hid (Al.OwnA wr w1.heap.size v d) ∧ Hid (d.map Al.A.con = (U.take i).flatMap fun t => Al.run cnt0 (OF t)) ∧ Gr w1 wr) (fun _ x _ => un - (intOf x).toNat)
  case atStart => exact ⟨0, [], Nat.zero_le _, rfl, Lib.hid (Al.OwnA.nil _ _), Lib.hid rfl, Gr.refl _⟩
  case round =>
    obtain ⟨i, ds, hi, rfl, HO, HL, hg⟩ := hrel
    by_cases hlt : i < un
    · obtain rfl := HU1.out (by omega)
      have A0c := HU4.out i hlt
      have a0 := Gr.at hg A0c
      have ib0 : (0 : Int) ≤ (i : Int) := by omega
      have ib1 : (i : Int) < (un : Int) := by omega
      have HTT := Lib.hid (show ds.map Al.A.con ++ Al.run cnt0 ((OF (U[i]'(by rw [HUN.out]; exact hlt))).drop 0) = (U.take (i + 1)).flatMap fun t => Al.run cnt0 (OF t) from by
        rw [HL.out, Al.flatMap_snoc U _ (by rw [HUN.out]; exact hlt)]; rfl)
      have HLb := Lib.hid (HFl.out (U.take (i + 1)) (Al.take_nodup HUn.out _))
      have HOi := Lib.hid (fun W hW => HOf.out (U[i]'(by rw [HUN.out]; exact hlt)) W hW)
      obtain ⟨t1, t2, t3, t4⟩ := HOT.out (U[i]'(by rw [HUN.out]; exact hlt))
      clear HU1 HU4 HL HFl HUn HOf HOT HRes
      obtain ⟨RS, hRS⟩ : ∃ z, ((U.take (i + 1)).flatMap fun t => Al.run cnt0 (OF t)) = z := ⟨_, rfl⟩
      rw [hRS] at HTT HLb
      have HRS := Lib.hid hRS
      clear hRS
      generalize U[i]'(by rw [HUN.out]; exact hlt) = t at *
      generalize OF t = T at *
      have gw := hg1.trans hg
      have hz := Gr.size hg
      go_wp2_with fail
      refine (HOi.out _ gw).mono ?_
      rintro e w2 ⟨vT, rfl, hT, hb2⟩
      obtain ⟨TA, c, tb, rfl, hA, hnc, hcb⟩ := Al.ownM_open hT
      obtain ⟨n, hn⟩ : ∃ n, T.length = n := ⟨_, rfl⟩
      rw [hn] at hA hnc t4
      have HTr := Lib.hid (show w2.ownsRow 0 53 5 (.slice TA n c) T.length (Al.flat T) from by rw [← hn]; exact ownsRow_base hT (Nat.zero_le _))
      clear hT
      rw [hn]
      have HN := Lib.hid hn
      have HTb := Lib.hid t2; have HTn := Lib.hid t3
      have htn : n ≤ 10000 := t4
      have g2 := hg.trans hb2
      have HO2 := Lib.hid (HO.out.gr hb2)
      replace a0 := Gr.at hb2 a0
      clear HOi t1 t2 t3 t4 HO hb2 hg gw hn
      have HA := Lib.hid hA
      clear hA
      have hzz := Gr.size g2
      go_wp2_with fail
      go_loopw [5, 9] (fun v x wr => ∃ (j : Nat) (d : List Al.A), j ≤ n ∧ x = .int .i64 (j : Int) ∧ Hid (Al.OwnA wr w1.heap.size v d) ∧ Hid (d.map Al.A.con ++ Al.run cnt0 (T.drop j) = RS) ∧ Hid (wr.ownsRow 0 53 5 (.slice TA n c) T.length (Al.flat T)) ∧ Gr w1 wr) (fun _ x _ => n - (intOf x).toNat)
      case atStart => exact ⟨0, ds, Nat.zero_le _, rfl, HO2, HTT, HTr, g2⟩
      case round =>
        clear HO2 HTT HTr
        obtain ⟨j, d, hj, rfl, HO, HT, HTr, hg6⟩ := hrel
        by_cases hltn : j < n
        · obtain rfl := HA.out (by omega)
          have jb0 : (0 : Int) ≤ (j : Int) := by omega
          have jb1 : (j : Int) < (n : Int) := by omega
          have hz6 := Gr.size hg6
          have HCl := Lib.hid (fun (w' : World) (hk : Al.Kp w1 T.length (.slice (some ⟨tb, 0, none⟩) n c) T w') q (hq : q < n) => Al.rowM_at hk.2 q (by rw [HN.out]; exact hq))
          obtain ⟨B0, hB0⟩ : ∃ B0, B0 = wr.heap.size := ⟨_, rfl⟩
          have HB0 := Lib.hid hB0
          clear hB0
          go_upto_block 4 with fail
          go_cut [10, 11] (fun x v wx => ∃ e : Nat, j < e ∧ e ≤ n ∧ x = .int .i64 (e : Int) ∧ Hid (∀ i (hi : i < T.length), j < i → i < e → T[i].lv = (T[j]'(by rw [HN.out]; exact hltn)).lv) ∧ Hid (∀ he : e < T.length, T[e].lv ≠ (T[j]'(by rw [HN.out]; exact hltn)).lv) ∧ Hid (wx.ownsRow B0 3 1 v (e - j) ((Al.nums T j e).map fun x => .int .i64 x)) ∧ Gr wr wx)
          case first =>
            have hkr : Al.Kp w1 T.length (.slice (some ⟨tb, 0, none⟩) n c) T wr := ⟨hg6, HTr.out⟩
            obtain ⟨a0', a1', a2', a3', a4'⟩ := HCl.out wr hkr j hltn
            clear HO HT HLb HRS a0' a1' a2' a3'
            have hbj := HTb.out (T[j]'(by rw [HN.out]; exact hltn)) (List.getElem_mem _)
            have HCr := Lib.hid (fun q (hq : q < n) => HCl.out wr hkr q hq)
            clear hkr HCl HTr
            go_wp2_with fail
            go_loopw [10, 11] (fun x v wr3 => ∃ e : Nat, j ≤ e ∧ e ≤ n ∧ x = .int .i64 (e : Int) ∧ Hid (∀ i (hi : i < T.length), j < i → i < e → T[i].lv = (T[j]'(by rw [HN.out]; exact hltn)).lv) ∧ Hid (wr3.ownsRow B0 3 1 v (e - j) ((Al.nums T j e).map fun x => .int .i64 x)) ∧ Gr wr wr3) (fun x _ _ => n - (intOf x).toNat)
            case atStart => exact ⟨j, Nat.le_refl _, by omega, rfl, Lib.hid (fun i hi h1 h2 => by omega), Lib.hid (by rw [Nat.sub_self, show Al.nums T j j = [] by unfold Al.nums; rw [Nat.sub_self]; rfl]; exact World.ownsRow_nil _ _ _ _), Gr.refl _⟩
            case round =>
              obtain ⟨e, he1, he2, rfl, HE, HNu, hg7⟩ := hrel
              by_cases hle : e < n
              · obtain ⟨b0, b1, b2, b3, b4⟩ := (HCr.out e hle).gr hg7
                have c4 := Gr.at hg7 a4'
                have hbk := HTb.out (T[e]'(by rw [HN.out]; exact hle)) (List.getElem_mem _)
                have eb0 : (0 : Int) ≤ (e : Int) := by omega
                have eb1 : (e : Int) < (n : Int) := by omega
                have eb2 : decide ((e : Int) < (n : Int)) = true := decide_eq_true eb1
                have eb3 : decide (e < n) = true := decide_eq_true hle
                have HSn := Lib.hid (Al.nums_snoc (T := T) (j := j) (e := e) (by rw [HN.out]; exact hle) he1)
                have hgz : B0 ≤ wr.heap.size := by rw [HB0.out]; exact Gr.size hg7
                clear HCr HTb a4' b0 b2 b3
                by_cases qq : (T[e]'(by rw [HN.out]; exact hle)).lv = (T[j]'(by rw [HN.out]; exact hltn)).lv
                · have HE2 := Lib.hid (fun i (hi : i < T.length) (h1 : j < i) (h2 : i < e + 1) => show T[i].lv = (T[j]'(by rw [HN.out]; exact hltn)).lv from by
                    by_cases ee : i = e
                    · subst ee; exact qq
                    · exact HE.out i hi h1 (by omega))
                  rw [qq] at b4 hbk
                  obtain ⟨nu, hnu⟩ : ∃ z, (T[e]'(by rw [HN.out]; exact hle)).nu = z := ⟨_, rfl⟩
                  rw [hnu] at b1
                  have HNU := Lib.hid hnu
                  clear HE qq hnu
                  obtain ⟨y, hy⟩ : ∃ y, (T[j]'(by rw [HN.out]; exact hltn)).lv = y := ⟨_, rfl⟩
                  rw [hy] at b4 c4 hbk hbj
                  have hyh := Lib.hid hy
                  clear hy
                  go_wp2_with fail
                  go_quiet (fail)
                  go_upto_region 12 with fail
                  refine name_world ?_
                  intro wb hwb
                  have gb : Gr wr wb := by rw [hwb]; exact gr_auto
                  have b1' : wb.cell? ⟨tb, e * 5 + 1, none⟩ = some (.int .i64 nu) := by rw [hwb]; simpa using b1
                  have HNu2 := Lib.hid (show wb.ownsRow B0 3 1 _ (e - j) ((Al.nums T j e).map fun x => .int .i64 x) from by rw [hwb]; exact ownsRow_gr HNu.out (by exact gr_auto))
                  clear hwb HNu
                  have hgb := Gr.size gb
                  go_wp2_with (at_builtin; refine wpList_append_own _ rfl _ _ 29 rfl B0 3 i2 (.int .i64 0) 1 8 Tryz.underlying29 JI.out JZ0.out JZ1.out JZ2.out rfl (by decide) _ _ _ rfl (ownsRow_gr HNu2.out (by exact gr_auto)) ⟨wb.heap.size, 0, none⟩ 1 1 [.int .i64 nu] rfl rfl (by intro p u hp; rcases p with _ | p <;> simp at hp <;> (try subst hp) <;> first | (simp [Addr.add, go_sem]; done) | (simp [Addr.add]; done)) (by intro u hu; simp at hu; subst hu; rfl) (by unfold maxLen; omega) (by omega) (by simp; omega) ?_)
                  intro v' w9 hown' hgrow hnil
                  have HN9 := Lib.hid (show w9.ownsRow B0 3 1 v' (e + 1 - j) ((Al.nums T j (e + 1)).map fun x => .int .i64 x) from by
                    rw [HSn.out, HNU.out, List.map_append, show e + 1 - j = e - j + 1 by omega]; exact hown')
                  have g9 := Gr.own ((hg7.trans gb).alloc (Obj.cells #[.int .i64 nu] 3)) (Nat.le_of_eq HB0.out.symm) (ownsRow_gr HNu2.out (Gr.alloc (Gr.refl wb) _)) hgrow
                  clear hown' hgrow hnil HNu2 HSn
                  go_wp2_with fail
                  go_roundw
                  case rel => exact ⟨e + 1, by omega, by omega, by go_num, HE2, HN9, g9⟩
                  case measure => simp [intOf]; omega
                · have HQ := Lib.hid (fun (_ : e < T.length) => qq)
                  have hje : j < e := by
                    rcases Nat.lt_or_eq_of_le he1 with h | h
                    · exact h
                    · subst h; exact absurd rfl qq
                  obtain ⟨z, hz'⟩ : ∃ z, (T[e]'(by rw [HN.out]; exact hle)).lv = z := ⟨_, rfl⟩; obtain ⟨y, hy⟩ : ∃ y, (T[j]'(by rw [HN.out]; exact hltn)).lv = y := ⟨_, rfl⟩
                  rw [hz'] at b4 qq; rw [hy] at c4 qq
                  have eb4 : (z == y) = false := beq_eq_false_iff_ne.2 qq
                  have HNu9 := Lib.hid (fun k => ownsRow_gr HNu.out (Gr.drewN (Gr.refl wr) k))
                  have gw9 := Lib.hid (fun k => hg7.drewN k)
                  replace hz' := Lib.hid hz'; replace hy := Lib.hid hy
                  clear hg7 qq hbk hbj HNu HSn
                  go_wp2_with fail
                  go_quiet (fail)
                  go_wp2_with fail
                  go_meet
                  case rel => exact ⟨e, hje, he2, rfl, HE, HQ, Lib.hid (HNu9.out _), gw9.out _⟩
              · obtain rfl : n = e := by omega
                have eb2 : decide ((n : Int) < (n : Int)) = false := decide_eq_false (by omega)
                have eb3 : decide (n < n) = false := decide_eq_false (by omega)
                have HQ := Lib.hid (fun (he : n < T.length) => show T[n].lv ≠ (T[j]'(by rw [HN.out]; exact hltn)).lv from by have := HN.out; omega)
                have HNu9 := Lib.hid (fun k => ownsRow_gr HNu.out (Gr.drewN (Gr.refl wr) k))
                have gw9 := Lib.hid (fun k => hg7.drewN k)
                clear HCr HTb a4' hg7 hbj HNu
                go_wp2_with fail
                go_quiet (fail)
                go_wp2_with fail
                go_meet
                case rel => exact ⟨n, hltn, he2, rfl, HE, HQ, Lib.hid (HNu9.out _), gw9.out _⟩
          case rest =>
            obtain ⟨e, he1, he2, rfl, HE, HQ, HNu, hg7⟩ := hcut
            have hrn := Al.run_at (c := cnt0) (l := T) (i := j) (j := e) he1 (by rw [HN.out]; exact he2) HE.out HQ.out
            have hdl : d.length ≤ 20000 := by
              have z := congrArg List.length HT.out
              rw [List.length_append, List.length_map] at z
              have y := HLb.out
              omega
            have eb0 : (0 : Int) ≤ (e : Int) := by omega
            have eb1 : (e : Int) ≤ (n : Int) := by omega
            have eb2 : (j : Int) ≤ (e : Int) := by omega
            have eb3 : (e : Int) - (j : Int) ≤ 10000 := by omega
            have eb4 : 0 ≤ (e : Int) - (j : Int) := by omega
            clear HE HQ HLb HB0
            by_cases qc : cnt0 ≤ (e : Int) - (j : Int)
            · rw [if_pos qc] at hrn
              have HRN := Lib.hid hrn
              obtain ⟨NA, nc, ng, rfl, v1, v2, v3, v4⟩ := ownsRow_at HNu.out
              obtain rfl := v1 (by omega)
              have HKr := Lib.hid (show Al.Kp w1 T.length (.slice (some ⟨tb, 0, none⟩) n c) T wr from ⟨hg6, HTr.out⟩)
              obtain ⟨p, hp⟩ : ∃ p, e = p + 1 := ⟨e - 1, by omega⟩
              obtain ⟨b0, b1, b2, b3, b4⟩ := (HCl.out wr HKr.out p (by omega)).gr hg7
              have HC2 := Lib.hid (fun w' (hk : Al.Kp w1 T.length (.slice (some ⟨tb, 0, none⟩) n c) T w') => (HCl.out w' hk p (by omega)).2.2.1)
              have HLast := Lib.hid (show ((T.drop j).take (e - j)).getLast? = some (T[p]'(by rw [HN.out]; omega)) from by
                rw [List.getLast?_eq_getElem?, List.length_take, List.length_drop, List.getElem?_take_of_lt (by rw [HN.out]; omega), List.getElem?_drop, show j + (min (e - j) (T.length - j) - 1) = p by rw [HN.out]; omega, List.getElem?_eq_getElem (by rw [HN.out]; omega)])
              have hpn := HTn.out (T[p]'(by rw [HN.out]; omega)) (List.getElem_mem _)
              generalize T[p]'(by rw [HN.out]; omega) = k at *
              have HPN := Lib.hid hpn
              have HNl := Lib.hid (Al.nums_len (T := T) (j := j) (e := e) (by rw [HN.out]; exact he2) (by omega))
              have ep1 : (e : Int) - 1 = (p : Int) := by omega
              have ep2 : (0 : Int) ≤ (p : Int) := by omega
              have ep3 : (p : Int) < (n : Int) := by omega
              have wp_ : IntKind.i64.wrap (p : Int) = (p : Int) := IntWalk.i64_in _ (by omega)
              have A1c := Gr.at hg6 A0c
              replace A1c := Gr.at hg7 A1c
              clear hrn hp hpn v1 v2 v3 v4 HCl HTn b0 b1 b3 b4
              go_upto_region 15 with fail
              refine name_world ?_
              intro wb hwb
              have gb : Gr wc wb := by rw [hwb]; exact gr_auto
              clear hwb
              have HOb := Lib.hid (HO.out.gr (hg7.trans gb)); have HTb2 := Lib.hid (ownsRow_gr HTr.out (hg7.trans gb)); have HGb := Lib.hid (hg6.trans (hg7.trans gb))
              have HNb := Lib.hid (ownsRow_gr HNu.out gb)
              have hzb := Gr.size HGb.out
              replace b2 := Gr.at gb b2; replace A1c := Gr.at gb A1c
              have btb : tb < wb.heap.size := World.block_lt_of_cell? _ _ b2
              have bub : ub < wb.heap.size := World.block_lt_of_cell? _ _ A1c
              clear HO HTr gb hg6 hg7 HNu HKr
              have hGb := HGb.out
              have s1 : ∀ w', Al.Kp w1 T.length (.slice (some ⟨tb, 0, none⟩) n c) T w' → w'.cell? ⟨ub, i, none⟩ = some (.string t) := fun w' h => Gr.at h.1 A0c
              have s2 : ∀ w', Al.Kp w1 T.length (.slice (some ⟨tb, 0, none⟩) n c) T w' → w'.cell? ⟨tb, p * 5 + 2, none⟩ = some (.int .i64 k.tm) := fun w' h => HC2.out w' h
              go_region_held3 (fun w' => Al.Kp w1 T.length (.slice (some ⟨tb, 0, none⟩) n c) T w') (first | assumption | exact ⟨by exact gr_auto, ownsRow_gr HTb2.out (by exact gr_auto)⟩) ((refine step_append_own _ (by rfl) _ _ 48 (by rfl) w1.heap.size 31 i1 (.agg #[.int .i64 0, .string ⟨#[]⟩, .int .i64 0, .slice none 0 0]) 4 56 Tryz.underlying48 KI.out KZ0.out KZ1.out KZ2.out rfl (by decide) _ _ _ (by rfl) (ownsRow_gr HOb.out.row (by exact gr_auto)) ⟨wb.heap.size, 0, none⟩ 1 1 [.int .i64 4, .string t, .int .i64 k.tm, .slice (some ⟨ng, 0, none⟩) (e - j) nc] (by rfl) rfl (World.news_of_block (World.alloc_heap_new wb _)) (by intro u hu; simp at hu; rcases hu with rfl | rfl | rfl | rfl <;> rfl) (by unfold maxLen; omega) (by omega) (by first | (simp; done) | (simp; omega)) ?_; intro v9 w9 hown9 hgrow9; have hk9 : Al.Kp w1 T.length (.slice (some ⟨tb, 0, none⟩) n c) T w9 := ⟨Gr.own (HGb.out.trans (by exact gr_auto)) (Nat.le_refl _) (ownsRow_gr HOb.out.row (by exact gr_auto)) hgrow9, (HOb.out.gr (by exact gr_auto)).keepM (ownsRow_gr HTb2.out (by exact gr_auto)) hgrow9⟩))
              all_goals (
                have gA := Gr.drew (Gr.alloc (Gr.refl wb) (Obj.cells #[.int .i64 4, .string t, .int .i64 k.tm, .slice (some ⟨ng, 0, none⟩) (e - j) nc] 31))
                have hgr : (wb.alloc (Obj.cells #[.int .i64 4, .string t, .int .i64 k.tm, .slice (some ⟨ng, 0, none⟩) (e - j) nc] 31)).drew.grownBy w9 _ := hgrow9
                have hoA := Al.own_nums (kd := 4) (nd := t) (tm := k.tm) (ownsRow_gr HNb.out gA) (by omega) (by omega)
                have HP := Lib.hid (Al.OwnA.push (HOb.out.gr gA) hoA (by exact hown9) hgr)
                have HTr9 := Lib.hid hk9.2
                have g9 := hk9.1
                have HC9 := Lib.hid (show (⟨4, t, k.tm, some ⟨ng, 0, none⟩, ng, 0, e - j, nc, fun q => (Al.nums T j e).getD q 0⟩ : Al.A).con = Al.alm 4 ((T.drop j).take (e - j)) from by
                  unfold Al.A.con Al.alm
                  simp only [HLast.out, Option.getD_some, HPN.out, Al.con_nums HNl.out]
                  rfl)
                have HT9 := Lib.hid (show (d ++ [(⟨4, t, k.tm, some ⟨ng, 0, none⟩, ng, 0, e - j, nc, fun q => (Al.nums T j e).getD q 0⟩ : Al.A)]).map Al.A.con ++ Al.run cnt0 (T.drop e) = RS from by
                  rw [← HT.out, HRN.out, List.map_append, List.map_cons, List.map_nil, HC9.out, List.append_assoc])
                clear HOb HTb2 HGb HT HRN HC9 HPN hown9 hgrow9 hgr hoA gA hk9 HNb HLast HNl
                go_wp2_with fail
                go_roundw
                case rel => exact ⟨e, _, he2, rfl, HP, HT9, HTr9, g9⟩
                case measure => simp [intOf]; omega)
            · rw [if_neg qc, List.nil_append] at hrn
              have qc' : (e : Int) - (j : Int) < cnt0 := by omega
              have HP := Lib.hid (HO.out.gr hg7)
              have HTr9 := Lib.hid (ownsRow_gr HTr.out hg7)
              have g9 := hg6.trans hg7
              have HT9 := Lib.hid (show d.map Al.A.con ++ Al.run cnt0 (T.drop e) = RS from by rw [← HT.out, hrn])
              clear HO HTr HT hrn qc HNu HCl
              go_wp2_with fail
              go_roundw
              case rel => exact ⟨e, _, he2, rfl, HP, HT9, HTr9, g9⟩
              case measure => simp [intOf]; omega
        · obtain rfl : n = j := by omega
          have HTe := Lib.hid (show d.map Al.A.con = RS from by rw [← HT.out, List.drop_eq_nil_of_le (by rw [HN.out]; exact Nat.le_refl _), Al.run_nil, List.append_nil])
          have HL9 := Lib.hid (show d.map Al.A.con = (U.take (i + 1)).flatMap fun t => Al.run cnt0 (OF t) from by rw [HTe.out, HRS.out])
          clear HT HTe HRS HTr HTb HTn HLb
          go_wp2_with fail
          go_roundw
          case rel => exact ⟨i + 1, d, by omega, by go_num, HO, HL9, hg6⟩
          case measure => simp [intOf]; omega
    · obtain rfl : un = i := by omega
      have HLf := Lib.hid (show ds.map Al.A.con = RES from by rw [HL.out, HRes.out, ← HUN.out, List.take_length])
      have hdl : ds.length ≤ 100000 := by
        have z := congrArg List.length HL.out
        rw [List.length_map] at z
        have y := HFl.out (U.take un) (Al.take_nodup HUn.out _)
        omega
      clear HU1 HU4 HL HFl HUn HOf HOT HRes
      go_wp2_with fail
      refine (rordered_own _ ds wr _ HO.out hdl).mono ?_
      rintro e w6 ⟨v6, d6, rfl, ho6, hc6, hb6⟩
      have g6 := (hg1.trans hg).trans hb6
      have HO6 := Lib.hid (ho6.base (Gr.size (hg1.trans hg)))
      have HC6 := Lib.hid (show d6.map Al.A.con = Al.srt RES from by rw [hc6, HLf.out])
      clear ho6 hc6 hb6 HO HLf
      go_wp2_with fail
      go_ret
      exact ⟨_, d6, rfl, HO6.out, HC6.out, g6⟩
end Go.Proofs.YtllkiadedaghoaaGreatDoor
