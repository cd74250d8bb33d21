/-
  Alarms: all. Typed.
  Alarms: given, Limits, Jumps, Frozen, All. (Printed by mkaz.py.)
  A row of one-cell elements that a call makes and writes: what it holds.
  Alarms, plain and in memory: indices that are dropped; rows of messages as slices. Typed.
  Alarms: the reference's Before and With on messages. Typed.
-/
import Derived.Test.YtllkiadedaghoaaGreatDoorOr39
import Derived.Test.YtllkiadedaghoaaGreatDoorOr40
import Derived.Test.YtllkiadedaghoaaGreatDoorOr14
import Derived.Test.YtllkiadedaghoaaGreatDoorOr10
import Derived.Deep.CutBlock
import Derived.Laws.AppendOwnNone
set_option linter.unusedVariables false
set_option linter.unusedSimpArgs false
namespace Go.Proofs.YtllkiadedaghoaaGreatDoor
open Go.RowKit Go.Shelf Go.Sort
attribute [local go_sem ↓] Go.wp_at_zero Go.wp_at_succ
namespace Al
theorem jmpC_len {l : List M} (most : Int) : (jmpC most l).length ≤ l.length := by
  have := flat_len (L := srtM l) (fun t => jmp most (own (srtM l) t)) (fun t => jmp_len most _) (nds l) (nds_nodup l)
  rw [(srtM_perm l).length_eq] at this
  exact this
theorem runC_len {l : List M} (c : Int) : (runC c l).length ≤ l.length := by
  have := flat_len (L := srtM l) (fun t => run c (own (srtM l) t)) (fun t => run_len c _) (nds l) (nds_nodup l)
  rw [(srtM_perm l).length_eq] at this
  exact this
theorem OwnA.isSl {w : World} {base : Nat} {v : Value} {d : List Al.A} (h : OwnA w base v d) : ∃ A n c, v = .slice A n c := by
  rcases h.open with ⟨rfl, -⟩ | ⟨g, cap, cur, rfl, -⟩
  · exact ⟨_, _, _, rfl⟩
  · exact ⟨_, _, _, rfl⟩
end Al
/-- Concat of three rows that lie in a slice. -/
theorem concat3 (v3 v4 v5 : Value) (d3 d4 d5 : List Al.A) (b3 b4 b5 : Nat) (W W' : World) (t : TypeId) (h3 : Al.OwnA W b3 v3 d3) (h4 : Al.OwnA W b4 v4 d4) (h5 : Al.OwnA W b5 v5 d5) (l3 : d3.length ≤ 20000) (l4 : d4.length ≤ 20000) (l5 : d5.length ≤ 20000) (hg : Gr W W') (he : W'.heap = (W.alloc (.cells #[v3, v4, v5] t)).heap) :
    Calls Tryz.prog 69 #[.slice (some ⟨W.heap.size, 0, none⟩) 3 3] W' fun e w' => ∃ v, e = .returned v ∧ Al.OwnA w' W'.heap.size v (d3 ++ d4 ++ d5) ∧ Gr W' w' := by
  have hn : W'.heap[W.heap.size]? = some (.cells #[v3, v4, v5] t (0, 0)) := by rw [he]; exact World.alloc_heap_new W _
  refine concatA_any (fun | 0 => v3 | 1 => v4 | _ => v5) (fun | 0 => d3 | 1 => d4 | _ => d5) (fun | 0 => b3 | 1 => b4 | _ => b5) W.heap.size W' (fun i hi => ?_) (fun i hi => ?_) (fun i hi => ?_)
  · rcases (by omega : i = 0 ∨ i = 1 ∨ i = 2) with rfl | rfl | rfl
    · exact h3.gr hg
    · exact h4.gr hg
    · exact h5.gr hg
  · rcases (by omega : i = 0 ∨ i = 1 ∨ i = 2) with rfl | rfl | rfl <;> simp [World.cell?, hn]
  · rcases (by omega : i = 0 ∨ i = 1 ∨ i = 2) with rfl | rfl | rfl <;> assumption
set_option maxRecDepth 100000 in
set_option maxHeartbeats 4000000 in
theorem all_any (N : Ba.SlNode) (L : Ba.SlLink) (s : Al.SlM) (jp sm tl : Int) (w : World) (hN : N.At w) (hL : L.At w) (h : s.At w) (hnb : Ba.netB N L = true) (hv : s.vB = true) (hj : 0 ≤ jp ∧ jp ≤ 8388608) (hsm : 2 ≤ sm ∧ sm ≤ 10000) :
    Calls Tryz.prog 33 #[Ba.netVal N L, .slice s.A s.n s.c, .agg #[.int .i64 jp, .int .i64 sm, .int .i64 tl]] w (Al.RetAl (Al.allC N s.lst jp sm) w) := by
  have hsn : s.n ≤ 10000 := by have := ((Al.vB_iff s).1 hv).1; rw [Al.SlM.lst_len] at this; exact this
  have HLi := Lib.hid (fun W (hW : Gr w W) => limits_any N L s W (hN.gr hW) (hL.gr hW) (h.gr hW) hnb hsn)
  have HJu := Lib.hid (fun W (hW : Gr w W) => jumps_any s jp W (h.gr hW) hv hj)
  have HSt := Lib.hid (fun W (hW : Gr w W) => still_any s sm W (h.gr hW) hv hsm)
  have hl1 : (Al.limC N s.lst).length ≤ 10000 := Nat.le_trans (Al.limC_len N s.lst) (by rw [Al.SlM.lst_len]; exact hsn)
  have hl2 : (Al.jmpC jp s.lst).length ≤ 10000 := Nat.le_trans (Al.jmpC_len jp) (by rw [Al.SlM.lst_len]; exact hsn)
  have hl3 : (Al.runC sm s.lst).length ≤ 10000 := Nat.le_trans (Al.runC_len sm) (by rw [Al.SlM.lst_len]; exact hsn)
  clear hN hL h hnb hv hj hsm hsn
  unfold Ba.netVal at *
  unfold Al.allC
  generalize Al.limC N s.lst = X1 at *; generalize Al.jmpC jp s.lst = X2 at *; generalize Al.runC sm s.lst = X3 at *
  generalize N.A = nA at *; generalize N.n = nn at *; generalize N.c = nc at *; generalize L.A = lA at *; generalize L.n = ln at *; generalize L.c = lc at *; generalize s.A = sA at *; generalize s.n = sn at *; generalize s.c = sc at *
  go_enter Tryz.func33, Tryz.ntmps33
  go_wp2_with fail
  refine name_world ?_
  intro WK hWK
  have gK : Gr w WK := by rw [hWK]; exact gr_auto
  have p0 : WK.cell? ⟨w.heap.size, 0, none⟩ = some (.slice nA nn nc) := by rw [hWK]; simp [go_sem]
  have p1 : WK.cell? ⟨w.heap.size, 1, none⟩ = some (.slice lA ln lc) := by rw [hWK]; simp [go_sem]
  have q0 : WK.cell? ⟨w.heap.size + 1, 0, none⟩ = some (.int .i64 jp) := by rw [hWK]; simp [go_sem]
  have q1 : WK.cell? ⟨w.heap.size + 1, 1, none⟩ = some (.int .i64 sm) := by rw [hWK]; simp [go_sem]
  clear hWK
  go_region_law (first
    | (go_simp; go_at_call 70; refine (HLi.out _ (gK.trans (by exact gr_auto))).mono ?_; rintro e w3 ⟨v3, d3, rfl, ho3, hp3, hb3⟩; obtain ⟨A3, n3, c3, hv3⟩ := ho3.isSl; subst hv3; have g3 : Gr WK w3 := Gr.trans (show Gr WK _ from by exact gr_auto) hb3; have a0 := Gr.at g3 p0; have a1 := Gr.at g3 p1; have a2 := Gr.at g3 q0; have a3 := Gr.at g3 q1; have hz3 := Gr.size g3)
    | (go_simp; go_at_call 71; refine (HJu.out _ (gK.trans (g3.trans (by exact gr_auto)))).mono ?_; rintro e w4 ⟨v4, d4, rfl, ho4, hp4, hb4⟩; obtain ⟨A4, n4, c4, hv4⟩ := ho4.isSl; subst hv4; have g4 : Gr w3 w4 := Gr.trans (show Gr w3 _ from by exact gr_auto) hb4; have a4 := Gr.at g4 a0; have a5 := Gr.at g4 a1; have a6 := Gr.at g4 a2; have a7 := Gr.at g4 a3)
    | (go_simp; go_at_call 72; refine (HSt.out _ (gK.trans (g3.trans (g4.trans (by exact gr_auto))))).mono ?_; rintro e w5 ⟨v5, d5, rfl, ho5, hp5, hb5⟩; obtain ⟨A5, n5, c5, hv5⟩ := ho5.isSl; subst hv5; have g5 : Gr w4 w5 := Gr.trans (show Gr w4 _ from by exact gr_auto) hb5)
    | (go_simp; go_at_call 69; refine (concat3 _ _ _ d3 d4 d5 _ _ _ w5 _ 48 (ho3.gr (g4.trans g5)) (ho4.gr g5) ho5 (by have := hp3.length_eq; rw [List.length_map] at this; omega) (by have := hp4.length_eq; rw [List.length_map] at this; omega) (by have := hp5.length_eq; rw [List.length_map] at this; omega) (by exact gr_auto) (by rfl)).mono ?_; rintro e w6 ⟨v6, rfl, ho6, hb6⟩; have g6 : Gr w5 w6 := Gr.trans (show Gr w5 _ from by exact gr_auto) hb6)
    | (go_simp; go_at_call 68; refine (ordered_own v6 (d3 ++ d4 ++ d5) w6 _ ho6 (by have := hp3.length_eq; have := hp4.length_eq; have := hp5.length_eq; simp only [List.length_map, List.length_append] at *; omega)).mono ?_; rintro e w7 ⟨r, rfl, hr1, hr2, hr3⟩))
  all_goals (
    have HR1 := Lib.hid hr1
    have HR2 := Lib.hid (show r.con = Al.srt (X1 ++ (X2 ++ X3)) from by
      rw [hr2]
      refine Al.srt_congr ?_
      rw [List.map_append, List.map_append, List.append_assoc]
      exact hp3.append (hp4.append hp5))
    have hg7 : Gr w w7 := hr3 w (gK.trans (g3.trans (g4.trans (g5.trans g6)))) (by
      have e1 := Gr.size (gK.trans (g3.trans (g4.trans g5)))
      simp
      omega)
    clear hr1 hr2 hr3 hp3 hp4 hp5 ho3 ho4 ho5 ho6 HLi HJu HSt
    unfold Al.SlA.val
    go_wp2_with fail
    go_ret
    exact ⟨r, rfl, HR1.out, HR2.out, hg7⟩)
end Go.Proofs.YtllkiadedaghoaaGreatDoor
set_option linter.unusedVariables false
set_option linter.unusedSimpArgs false
namespace Go.Proofs.YtllkiadedaghoaaGreatDoor
open Go.RowKit Go.Shelf Go.Sort
attribute [local go_sem ↓] Go.wp_at_zero Go.wp_at_succ
namespace Al
/-- Right limits. -/
def lmO (j s t : Int) : Bool := jmO j && (stO s && Ba.bet t 0 1125899906842624)
/-- The error of a network, messages, and limits. -/
def gvE (a o : Bool) : Int := if a = true then if o = true then 0 else 2 else 1
theorem jmO_iff {x : Int} : jmO x = true ↔ 0 ≤ x ∧ x ≤ 8388608 := by unfold jmO Ba.bet; simp
theorem stO_iff {x : Int} : stO x = true ↔ 2 ≤ x ∧ x ≤ 10000 := by unfold stO Ba.bet; simp
end Al
set_option maxRecDepth 100000 in
set_option maxHeartbeats 4000000 in
theorem given_any (N : Ba.SlNode) (L : Ba.SlLink) (s : Al.SlM) (jp sm tl : Int) (w : World) (hN : N.At w) (hL : L.At w) (h : s.At w) :
    Calls Tryz.prog 31 #[Ba.netVal N L, .slice s.A s.n s.c, .agg #[.int .i64 jp, .int .i64 sm, .int .i64 tl]] w fun e w' => e = .returned (.int .i64 (Al.gvE (Ba.netB N L && s.vB) (Al.lmO jp sm tl))) ∧ Gr w w' := by
  have HR := Lib.hid (fun W (hW : Gr w W) => aright_any N L s W (hN.gr hW) (hL.gr hW) (h.gr hW))
  have HJ := Lib.hid (fun W => jumping_any jp W); have HS := Lib.hid (fun W => standing_any sm W); have HT := Lib.hid (fun W => awithin_any tl 0 1125899906842624 W)
  clear hN hL h
  unfold Ba.netVal Al.lmO at *
  generalize (Ba.netB N L && s.vB) = a at *
  generalize Al.jmO jp = b0 at *; generalize Al.stO sm = b1 at *; generalize Ba.bet tl 0 1125899906842624 = b2 at *
  generalize N.A = nA at *; generalize N.n = nn at *; generalize N.c = nc at *; generalize L.A = lA at *; generalize L.n = ln at *; generalize L.c = lc at *; generalize s.A = sA at *; generalize s.n = sn at *; generalize s.c = sc at *
  cases a
  · unfold Al.gvE
    try simp only [Bool.false_and, Bool.true_and, Bool.and_self, Bool.false_eq_true, if_true, if_false]
    go_enter Tryz.func31, Tryz.ntmps31
    go_wp2_with fail
    refine (HR.out _ gr_auto).mono ?_
    rintro e w1 ⟨rfl, hb1⟩
    have g1 : Gr w w1 := gr_auto
    clear hb1
    go_wp2_with fail
    go_ret
    exact ⟨rfl, g1⟩
  · skip
    cases b0
    · unfold Al.gvE
      try simp only [Bool.false_and, Bool.true_and, Bool.and_self, Bool.false_eq_true, if_true, if_false]
      go_enter Tryz.func31, Tryz.ntmps31
      go_wp2_with fail
      refine (HR.out _ gr_auto).mono ?_
      rintro e w1 ⟨rfl, hb1⟩
      have g1 : Gr w w1 := gr_auto
      have q0 := Gr.at (show Gr _ w1 from hb1) (show World.cell? _ ⟨w.heap.size + 1, 0, none⟩ = some (.int .i64 jp) from by simp [go_sem])
      have q1 := Gr.at (show Gr _ w1 from hb1) (show World.cell? _ ⟨w.heap.size + 1, 1, none⟩ = some (.int .i64 sm) from by simp [go_sem])
      have q2 := Gr.at (show Gr _ w1 from hb1) (show World.cell? _ ⟨w.heap.size + 1, 2, none⟩ = some (.int .i64 tl) from by simp [go_sem])
      clear hb1 HR
      go_wp2_with fail
      refine (HJ.out _).mono ?_
      rintro e w2 ⟨rfl, rfl⟩
      go_wp2_with fail
      go_ret
      exact ⟨rfl, g1⟩
    · skip
      cases b1
      · unfold Al.gvE
        try simp only [Bool.false_and, Bool.true_and, Bool.and_self, Bool.false_eq_true, if_true, if_false]
        go_enter Tryz.func31, Tryz.ntmps31
        go_wp2_with fail
        refine (HR.out _ gr_auto).mono ?_
        rintro e w1 ⟨rfl, hb1⟩
        have g1 : Gr w w1 := gr_auto
        have q0 := Gr.at (show Gr _ w1 from hb1) (show World.cell? _ ⟨w.heap.size + 1, 0, none⟩ = some (.int .i64 jp) from by simp [go_sem])
        have q1 := Gr.at (show Gr _ w1 from hb1) (show World.cell? _ ⟨w.heap.size + 1, 1, none⟩ = some (.int .i64 sm) from by simp [go_sem])
        have q2 := Gr.at (show Gr _ w1 from hb1) (show World.cell? _ ⟨w.heap.size + 1, 2, none⟩ = some (.int .i64 tl) from by simp [go_sem])
        clear hb1 HR
        go_wp2_with fail
        refine (HJ.out _).mono ?_
        rintro e w2 ⟨rfl, rfl⟩
        go_wp2_with fail
        refine (HS.out _).mono ?_
        rintro e w3 ⟨rfl, rfl⟩
        go_wp2_with fail
        go_ret
        exact ⟨rfl, g1⟩
      · skip
        cases b2
        · unfold Al.gvE
          try simp only [Bool.false_and, Bool.true_and, Bool.and_self, Bool.false_eq_true, if_true, if_false]
          go_enter Tryz.func31, Tryz.ntmps31
          go_wp2_with fail
          refine (HR.out _ gr_auto).mono ?_
          rintro e w1 ⟨rfl, hb1⟩
          have g1 : Gr w w1 := gr_auto
          have q0 := Gr.at (show Gr _ w1 from hb1) (show World.cell? _ ⟨w.heap.size + 1, 0, none⟩ = some (.int .i64 jp) from by simp [go_sem])
          have q1 := Gr.at (show Gr _ w1 from hb1) (show World.cell? _ ⟨w.heap.size + 1, 1, none⟩ = some (.int .i64 sm) from by simp [go_sem])
          have q2 := Gr.at (show Gr _ w1 from hb1) (show World.cell? _ ⟨w.heap.size + 1, 2, none⟩ = some (.int .i64 tl) from by simp [go_sem])
          clear hb1 HR
          go_wp2_with fail
          refine (HJ.out _).mono ?_
          rintro e w2 ⟨rfl, rfl⟩
          go_wp2_with fail
          refine (HS.out _).mono ?_
          rintro e w3 ⟨rfl, rfl⟩
          go_wp2_with fail
          refine (HT.out _).mono ?_
          rintro e w4 ⟨rfl, rfl⟩
          go_wp2_with fail
          go_ret
          exact ⟨rfl, g1⟩
        · unfold Al.gvE
          try simp only [Bool.false_and, Bool.true_and, Bool.and_self, Bool.false_eq_true, if_true, if_false]
          go_enter Tryz.func31, Tryz.ntmps31
          go_wp2_with fail
          refine (HR.out _ gr_auto).mono ?_
          rintro e w1 ⟨rfl, hb1⟩
          have g1 : Gr w w1 := gr_auto
          have q0 := Gr.at (show Gr _ w1 from hb1) (show World.cell? _ ⟨w.heap.size + 1, 0, none⟩ = some (.int .i64 jp) from by simp [go_sem])
          have q1 := Gr.at (show Gr _ w1 from hb1) (show World.cell? _ ⟨w.heap.size + 1, 1, none⟩ = some (.int .i64 sm) from by simp [go_sem])
          have q2 := Gr.at (show Gr _ w1 from hb1) (show World.cell? _ ⟨w.heap.size + 1, 2, none⟩ = some (.int .i64 tl) from by simp [go_sem])
          clear hb1 HR
          go_wp2_with fail
          refine (HJ.out _).mono ?_
          rintro e w2 ⟨rfl, rfl⟩
          go_wp2_with fail
          refine (HS.out _).mono ?_
          rintro e w3 ⟨rfl, rfl⟩
          go_wp2_with fail
          refine (HT.out _).mono ?_
          rintro e w4 ⟨rfl, rfl⟩
          go_wp2_with fail
          go_ret
          exact ⟨rfl, g1⟩
set_option maxRecDepth 100000 in
set_option maxHeartbeats 4000000 in
theorem All_no (N : Ba.SlNode) (L : Ba.SlLink) (s : Al.SlM) (jp sm tl : Int) (w : World) (hN : N.At w) (hL : L.At w) (h : s.At w) (k : Int) (hk : Al.gvE (Ba.netB N L && s.vB) (Al.lmO jp sm tl) = k) (hk0 : k ≠ 0) :
    Calls Tryz.prog 15 #[Ba.netVal N L, .slice s.A s.n s.c, .agg #[.int .i64 jp, .int .i64 sm, .int .i64 tl]] w (Al.RetAe [] k w) := by
  have HR := Lib.hid (fun W (hW : Gr w W) => given_any N L s jp sm tl W (hN.gr hW) (hL.gr hW) (h.gr hW))
  rw [hk] at HR
  have hb0 : (k != 0) = true := bne_iff_ne.2 hk0
  clear hN hL h hk hk0
  unfold Ba.netVal at *
  generalize N.A = nA at *; generalize N.n = nn at *; generalize N.c = nc at *; generalize L.A = lA at *; generalize L.n = ln at *; generalize L.c = lc at *; generalize s.A = sA at *; generalize s.n = sn at *; generalize s.c = sc at *
  go_enter Tryz.func15, Tryz.ntmps15
  go_wp2_with fail
  refine (HR.out _ gr_auto).mono ?_
  rintro e w1 ⟨rfl, hb1⟩
  have g1 : Gr w w1 := gr_auto
  clear hb1
  go_wp2_with fail
  go_ret2
  exact ⟨Al.SlA.nil, rfl, Al.SlA.nil_at _, by simp [Al.SlA.con, Al.SlA.nil], g1⟩
set_option maxRecDepth 100000 in
set_option maxHeartbeats 4000000 in
theorem All_ok (N : Ba.SlNode) (L : Ba.SlLink) (s : Al.SlM) (jp sm tl : Int) (w : World) (hN : N.At w) (hL : L.At w) (h : s.At w) (hk : Al.gvE (Ba.netB N L && s.vB) (Al.lmO jp sm tl) = 0) :
    Calls Tryz.prog 15 #[Ba.netVal N L, .slice s.A s.n s.c, .agg #[.int .i64 jp, .int .i64 sm, .int .i64 tl]] w (Al.RetAe (Al.allC N s.lst jp sm) 0 w) := by
  have HR := Lib.hid (fun W (hW : Gr w W) => given_any N L s jp sm tl W (hN.gr hW) (hL.gr hW) (h.gr hW))
  rw [hk] at HR
  have hok : (Ba.netB N L && s.vB) = true ∧ Al.lmO jp sm tl = true := by
    unfold Al.gvE at hk
    split at hk
    · rename_i q
      split at hk
      · rename_i r; exact ⟨q, r⟩
      · exact absurd hk (by decide)
    · exact absurd hk (by decide)
  have HL := Lib.hid (fun W (hW : Gr w W) => all_any N L s jp sm tl W (hN.gr hW) (hL.gr hW) (h.gr hW) (by have := hok.1; rw [Bool.and_eq_true] at this; exact this.1) (by have := hok.1; rw [Bool.and_eq_true] at this; exact this.2) (by have := hok.2; unfold Al.lmO at this; rw [Bool.and_eq_true] at this; exact Al.jmO_iff.1 this.1) (by have := hok.2; unfold Al.lmO at this; rw [Bool.and_eq_true, Bool.and_eq_true] at this; exact Al.stO_iff.1 this.2.1))
  clear hN hL h hk hok
  unfold Ba.netVal at *
  generalize Al.allC N s.lst jp sm = X at *
  generalize N.A = nA at *; generalize N.n = nn at *; generalize N.c = nc at *; generalize L.A = lA at *; generalize L.n = ln at *; generalize L.c = lc at *; generalize s.A = sA at *; generalize s.n = sn at *; generalize s.c = sc at *
  go_enter Tryz.func15, Tryz.ntmps15
  go_wp2_with fail
  refine (HR.out _ gr_auto).mono ?_
  rintro e w1 ⟨rfl, hb1⟩
  have g1 : Gr w w1 := gr_auto
  have q0 := Gr.at (show Gr _ w1 from hb1) (show World.cell? _ ⟨w.heap.size, 0, none⟩ = some (.slice nA nn nc) from by simp [go_sem])
  have q1 := Gr.at (show Gr _ w1 from hb1) (show World.cell? _ ⟨w.heap.size, 1, none⟩ = some (.slice lA ln lc) from by simp [go_sem])
  have q2 := Gr.at (show Gr _ w1 from hb1) (show World.cell? _ ⟨w.heap.size + 1, 0, none⟩ = some (.int .i64 jp) from by simp [go_sem])
  have q3 := Gr.at (show Gr _ w1 from hb1) (show World.cell? _ ⟨w.heap.size + 1, 1, none⟩ = some (.int .i64 sm) from by simp [go_sem])
  have q4 := Gr.at (show Gr _ w1 from hb1) (show World.cell? _ ⟨w.heap.size + 1, 2, none⟩ = some (.int .i64 tl) from by simp [go_sem])
  clear hb1 HR
  go_wp2_with fail
  refine (HL.out _ g1).mono ?_
  rintro e w3 ⟨r, rfl, hr1, hr2, hr3⟩
  have g3 := g1.trans hr3
  have HR1 := Lib.hid hr1; have HR2 := Lib.hid hr2
  clear HL hr1 hr2 hr3
  unfold Al.SlA.val
  go_wp2_with fail
  go_ret2
  exact ⟨r, rfl, HR1.out, HR2.out, g3⟩
end Go.Proofs.YtllkiadedaghoaaGreatDoor
set_option linter.unusedVariables false
set_option linter.unusedSimpArgs false
namespace Go.Proofs.YtllkiadedaghoaaGreatDoor
open Go.RowKit
/-- A row of n cells, each of which may be written. -/
def Row (w : World) (g n : Nat) (X : Nat → Value) : Prop := ∀ j, j < n → Own w g j (X j)
theorem Row.gr {w w' : World} {g n : Nat} {X : Nat → Value} (h : Row w g n X) (hg : Gr w w') : Row w' g n X := fun j hj => (h j hj).gr hg
theorem Row.set {w : World} {g n : Nat} {X Y : Nat → Value} {k : Nat} {u : Value} (h : Row w g n X) (hu : Y k = u) (ho : ∀ j, j < n → j ≠ k → Y j = X j) : Row (w.setCell ⟨g, k, none⟩ u) g n Y := fun j hj => by
  by_cases e : j = k
  · subst e; rw [hu]; exact (h j hj).set
  · rw [ho j hj e]; exact (h j hj).other (Or.inr e)
end Go.Proofs.YtllkiadedaghoaaGreatDoor
set_option linter.unusedVariables false
set_option linter.unusedSimpArgs false
namespace Go.Proofs.YtllkiadedaghoaaGreatDoor
open Go.RowKit Go.Shelf Go.Sort
namespace Al
theorem ownM_sl {w : World} {base : Nat} {v : Value} {l : List M} (h : w.ownsRow base 53 5 v l.length (flat l)) (hok : ∀ m ∈ l, m.Ok) : ∃ s : SlM, v = .slice s.A s.n s.c ∧ s.At w ∧ s.lst = l ∧ (0 < s.n → base ≤ s.b) ∧ (s.A = none → s.c = 0) := by
  have h' := h
  obtain ⟨hl, ⟨rfl, z⟩ | ⟨g, cap, cur, rfl, hb, hc, hn, hm, hs, r⟩⟩ := h
  · have z' := List.length_eq_zero_iff.1 z
    subst z'
    exact ⟨⟨none, 0, 0, 0, 0, fun _ => default⟩, rfl, ⟨fun h => absurd h (Nat.lt_irrefl _), Nat.le_refl _, Nat.zero_le _, fun i hi => absurd hi (Nat.not_lt_zero _)⟩, by simp [SlM.lst], fun h => absurd h (Nat.lt_irrefl _), fun _ => rfl⟩
  · refine ⟨⟨some ⟨g, 0, none⟩, l.length, cap, g, 0, fun i => l[i]!⟩, rfl, ⟨fun _ => rfl, hn, by unfold maxLen at hm; exact hm, fun i hi => ?_⟩, ?_, fun _ => hb, fun h => (by cases h)⟩
    · have hi' : i < l.length := hi
      have key : ∀ c, c < 5 → w.cell? ⟨g, 0 + i * 5 + c, none⟩ = some (l[i]!.enc)[c]! := fun c h => by
        rw [Nat.zero_add]
        have e := flat_get M.enc 5 (fun _ => rfl) l i c hi' h
        have := h'.cellAt (i * 5 + c) (by omega)
        rw [this]; exact e
      refine ⟨⟨key 0 (by omega), key 1 (by omega), key 2 (by omega), key 3 (by omega), key 4 (by omega)⟩, ?_⟩
      show l[i]!.Ok
      rw [getElem!_pos l i hi']; exact hok _ (List.getElem_mem _)
    · unfold SlM.lst
      apply List.ext_getElem
      · simp
      · intro i h1 h2; simp [h2]
/-- Is an index among the first ones? -/
def gonB (X : Nat → Int) : Nat → Nat → Bool
  | 0, _ => false
  | k + 1, i => gonB X k i || (X k == (i : Int))
/-- The messages that are left. -/
def leftL (D : Nat → M) (g : Nat → Bool) : Nat → List M
  | 0 => []
  | k + 1 => leftL D g k ++ (if g k = true then [] else [D k])
def SlM.left (s : SlM) (d : Ba.SlI) : List M := leftL s.D (gonB d.X d.n) s.n
end Al
end Go.Proofs.YtllkiadedaghoaaGreatDoor
set_option linter.unusedVariables false
set_option linter.unusedSimpArgs false
namespace Go.Proofs.YtllkiadedaghoaaGreatDoor
open Go.RowKit Go.Sort Go.Shelf
attribute [local go_sem ↓] Go.wp_at_zero Go.wp_at_succ
namespace Al
theorem cmp_lt {x y : Int} : Lib.compareInt x y < 0 ↔ x < y := by
  unfold Lib.compareInt
  split
  · exact ⟨fun _ => by assumption, fun _ => by omega⟩
  · split <;> exact ⟨fun h => by omega, fun h => by omega⟩
theorem bytes_lt (a b : ByteArray) : Op.bytesLess a.toList b.toList = decide (cmpS a b < 0) := by
  rw [Go.Proofs.bytesLess_eq, Bool.eq_iff_iff, decide_eq_true_eq, decide_eq_true_eq, cmpS_lt]
end Al
end Go.Proofs.YtllkiadedaghoaaGreatDoor
