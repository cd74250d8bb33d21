/-
  Alarms: given, Limits, Jumps, Frozen, All. (Printed by mkaz.py.)
-/
import Derived.Test.YtllkiadedaghoaaGreatCm26

set_option linter.unusedVariables false
set_option linter.unusedSimpArgs false
namespace Go.Proofs.YtllkiadedaghoaaGreat
open Go.RowKit Go.Shelf Go.Sort
attribute [local go_sem ↓] Go.wp_at_zero Go.wp_at_succ
namespace Al
/-- Right limits. -/
def lmO (j s t : Int) : Bool := jmO j && (stO s && Ba.bet t 0 1125899906842624)
/-- The error of a network, messages, and limits. -/
def gvE (a o : Bool) : Int := if a = true then if o = true then 0 else 2 else 1
theorem jmO_iff {x : Int} : jmO x = true ↔ 0 ≤ x ∧ x ≤ 8388608 := by unfold jmO Ba.bet; simp
theorem stO_iff {x : Int} : stO x = true ↔ 2 ≤ x ∧ x ≤ 10000 := by unfold stO Ba.bet; simp
theorem vB_len {s : SlM} (hv : s.vB = true) : s.n ≤ 10000 := by have := ((vB_iff s).1 hv).1; rw [SlM.lst_len] at this; exact this
end Al
set_option maxRecDepth 100000 in
set_option maxHeartbeats 4000000 in
theorem given_any (N : Ba.SlNode) (L : Ba.SlLink) (s : Al.SlM) (jp sm tl : Int) (w : World) (hN : N.At w) (hL : L.At w) (h : s.At w) :
    Calls Tryz.prog 58 #[Ba.netVal N L, .slice s.A s.n s.c, .agg #[.int .i64 jp, .int .i64 sm, .int .i64 tl]] w fun e w' => e = .returned (.int .i64 (Al.gvE (Ba.netB N L && s.vB) (Al.lmO jp sm tl))) ∧ Gr w w' := by
  have HR := Lib.hid (fun W (hW : Gr w W) => aright_any N L s W (hN.gr hW) (hL.gr hW) (h.gr hW))
  have HJ := Lib.hid (fun W => jumping_any jp W); have HS := Lib.hid (fun W => standing_any sm W); have HT := Lib.hid (fun W => awithin_any tl 0 1125899906842624 W)
  clear hN hL h
  unfold Ba.netVal Al.lmO at *
  generalize (Ba.netB N L && s.vB) = a at *
  generalize Al.jmO jp = b0 at *; generalize Al.stO sm = b1 at *; generalize Ba.bet tl 0 1125899906842624 = b2 at *
  generalize N.A = nA at *; generalize N.n = nn at *; generalize N.c = nc at *; generalize L.A = lA at *; generalize L.n = ln at *; generalize L.c = lc at *; generalize s.A = sA at *; generalize s.n = sn at *; generalize s.c = sc at *
  cases a
  · unfold Al.gvE
    try simp only [Bool.false_and, Bool.true_and, Bool.and_self, Bool.false_eq_true, if_true, if_false]
    go_enter Tryz.func58, Tryz.ntmps58
    go_wp2_with fail
    refine (HR.out _ gr_auto).mono ?_
    rintro e w1 ⟨rfl, hb1⟩
    have g1 : Gr w w1 := gr_auto
    clear hb1
    go_wp2_with fail
    go_ret
    exact ⟨rfl, g1⟩
  · skip
    cases b0
    · unfold Al.gvE
      try simp only [Bool.false_and, Bool.true_and, Bool.and_self, Bool.false_eq_true, if_true, if_false]
      go_enter Tryz.func58, Tryz.ntmps58
      go_wp2_with fail
      refine (HR.out _ gr_auto).mono ?_
      rintro e w1 ⟨rfl, hb1⟩
      have g1 : Gr w w1 := gr_auto
      have q0 := Gr.at (show Gr _ w1 from hb1) (show World.cell? _ ⟨w.heap.size + 1, 0, none⟩ = some (.int .i64 jp) from by simp [go_sem])
      have q1 := Gr.at (show Gr _ w1 from hb1) (show World.cell? _ ⟨w.heap.size + 1, 1, none⟩ = some (.int .i64 sm) from by simp [go_sem])
      have q2 := Gr.at (show Gr _ w1 from hb1) (show World.cell? _ ⟨w.heap.size + 1, 2, none⟩ = some (.int .i64 tl) from by simp [go_sem])
      clear hb1 HR
      go_wp2_with fail
      refine (HJ.out _).mono ?_
      rintro e w2 ⟨rfl, rfl⟩
      go_wp2_with fail
      go_ret
      exact ⟨rfl, g1⟩
    · skip
      cases b1
      · unfold Al.gvE
        try simp only [Bool.false_and, Bool.true_and, Bool.and_self, Bool.false_eq_true, if_true, if_false]
        go_enter Tryz.func58, Tryz.ntmps58
        go_wp2_with fail
        refine (HR.out _ gr_auto).mono ?_
        rintro e w1 ⟨rfl, hb1⟩
        have g1 : Gr w w1 := gr_auto
        have q0 := Gr.at (show Gr _ w1 from hb1) (show World.cell? _ ⟨w.heap.size + 1, 0, none⟩ = some (.int .i64 jp) from by simp [go_sem])
        have q1 := Gr.at (show Gr _ w1 from hb1) (show World.cell? _ ⟨w.heap.size + 1, 1, none⟩ = some (.int .i64 sm) from by simp [go_sem])
        have q2 := Gr.at (show Gr _ w1 from hb1) (show World.cell? _ ⟨w.heap.size + 1, 2, none⟩ = some (.int .i64 tl) from by simp [go_sem])
        clear hb1 HR
        go_wp2_with fail
        refine (HJ.out _).mono ?_
        rintro e w2 ⟨rfl, rfl⟩
        go_wp2_with fail
        refine (HS.out _).mono ?_
        rintro e w3 ⟨rfl, rfl⟩
        go_wp2_with fail
        go_ret
        exact ⟨rfl, g1⟩
      · skip
        cases b2
        · unfold Al.gvE
          try simp only [Bool.false_and, Bool.true_and, Bool.and_self, Bool.false_eq_true, if_true, if_false]
          go_enter Tryz.func58, Tryz.ntmps58
          go_wp2_with fail
          refine (HR.out _ gr_auto).mono ?_
          rintro e w1 ⟨rfl, hb1⟩
          have g1 : Gr w w1 := gr_auto
          have q0 := Gr.at (show Gr _ w1 from hb1) (show World.cell? _ ⟨w.heap.size + 1, 0, none⟩ = some (.int .i64 jp) from by simp [go_sem])
          have q1 := Gr.at (show Gr _ w1 from hb1) (show World.cell? _ ⟨w.heap.size + 1, 1, none⟩ = some (.int .i64 sm) from by simp [go_sem])
          have q2 := Gr.at (show Gr _ w1 from hb1) (show World.cell? _ ⟨w.heap.size + 1, 2, none⟩ = some (.int .i64 tl) from by simp [go_sem])
          clear hb1 HR
          go_wp2_with fail
          refine (HJ.out _).mono ?_
          rintro e w2 ⟨rfl, rfl⟩
          go_wp2_with fail
          refine (HS.out _).mono ?_
          rintro e w3 ⟨rfl, rfl⟩
          go_wp2_with fail
          refine (HT.out _).mono ?_
          rintro e w4 ⟨rfl, rfl⟩
          go_wp2_with fail
          go_ret
          exact ⟨rfl, g1⟩
        · unfold Al.gvE
          try simp only [Bool.false_and, Bool.true_and, Bool.and_self, Bool.false_eq_true, if_true, if_false]
          go_enter Tryz.func58, Tryz.ntmps58
          go_wp2_with fail
          refine (HR.out _ gr_auto).mono ?_
          rintro e w1 ⟨rfl, hb1⟩
          have g1 : Gr w w1 := gr_auto
          have q0 := Gr.at (show Gr _ w1 from hb1) (show World.cell? _ ⟨w.heap.size + 1, 0, none⟩ = some (.int .i64 jp) from by simp [go_sem])
          have q1 := Gr.at (show Gr _ w1 from hb1) (show World.cell? _ ⟨w.heap.size + 1, 1, none⟩ = some (.int .i64 sm) from by simp [go_sem])
          have q2 := Gr.at (show Gr _ w1 from hb1) (show World.cell? _ ⟨w.heap.size + 1, 2, none⟩ = some (.int .i64 tl) from by simp [go_sem])
          clear hb1 HR
          go_wp2_with fail
          refine (HJ.out _).mono ?_
          rintro e w2 ⟨rfl, rfl⟩
          go_wp2_with fail
          refine (HS.out _).mono ?_
          rintro e w3 ⟨rfl, rfl⟩
          go_wp2_with fail
          refine (HT.out _).mono ?_
          rintro e w4 ⟨rfl, rfl⟩
          go_wp2_with fail
          go_ret
          exact ⟨rfl, g1⟩
set_option maxRecDepth 100000 in
set_option maxHeartbeats 4000000 in
theorem Limits_no (N : Ba.SlNode) (L : Ba.SlLink) (s : Al.SlM) (w : World) (hN : N.At w) (hL : L.At w) (h : s.At w) (hr : (Ba.netB N L && s.vB) = false) :
    Calls Tryz.prog 25 #[Ba.netVal N L, .slice s.A s.n s.c] w (Al.RetAe [] 1 w) := by
  have HR := Lib.hid (fun W (hW : Gr w W) => aright_any N L s W (hN.gr hW) (hL.gr hW) (h.gr hW))
  rw [hr] at HR
  clear hN hL h hr
  unfold Ba.netVal at *
  generalize N.A = nA at *; generalize N.n = nn at *; generalize N.c = nc at *; generalize L.A = lA at *; generalize L.n = ln at *; generalize L.c = lc at *; generalize s.A = sA at *; generalize s.n = sn at *; generalize s.c = sc at *
  go_enter Tryz.func25, Tryz.ntmps25
  go_wp2_with fail
  refine (HR.out _ gr_auto).mono ?_
  rintro e w1 ⟨rfl, hb1⟩
  have g1 : Gr w w1 := gr_auto
  clear hb1
  go_wp2_with fail
  go_ret2
  exact ⟨Al.SlA.nil, rfl, Al.SlA.nil_at _, by simp [Al.SlA.con, Al.SlA.nil], g1⟩
set_option maxRecDepth 100000 in
set_option maxHeartbeats 4000000 in
theorem Limits_ok (N : Ba.SlNode) (L : Ba.SlLink) (s : Al.SlM) (w : World) (hN : N.At w) (hL : L.At w) (h : s.At w) (hr : (Ba.netB N L && s.vB) = true) :
    Calls Tryz.prog 25 #[Ba.netVal N L, .slice s.A s.n s.c] w (Al.RetAe (Al.srt (Al.limC N s.lst)) 0 w) := by
  have hr' := hr
  rw [Bool.and_eq_true] at hr'
  have hsn := Al.vB_len hr'.2
  have HR := Lib.hid (fun W (hW : Gr w W) => aright_any N L s W (hN.gr hW) (hL.gr hW) (h.gr hW))
  have HL := Lib.hid (fun W (hW : Gr w W) => limits_any N L s W (hN.gr hW) (hL.gr hW) (h.gr hW) hr'.1 hsn)
  have hxl : (Al.limC N s.lst).length ≤ 10000 := Nat.le_trans (Al.limC_len N s.lst) (by rw [Al.SlM.lst_len]; exact hsn)
  rw [hr] at HR
  clear hN hL h hr hr' hsn
  unfold Ba.netVal at *
  generalize Al.limC N s.lst = X at *
  generalize N.A = nA at *; generalize N.n = nn at *; generalize N.c = nc at *; generalize L.A = lA at *; generalize L.n = ln at *; generalize L.c = lc at *; generalize s.A = sA at *; generalize s.n = sn at *; generalize s.c = sc at *
  go_enter Tryz.func25, Tryz.ntmps25
  go_wp2_with fail
  refine (HR.out _ gr_auto).mono ?_
  rintro e w1 ⟨rfl, hb1⟩
  have g1 : Gr w w1 := gr_auto
  have q0 := Gr.at (show Gr _ w1 from hb1) (show World.cell? _ ⟨w.heap.size, 0, none⟩ = some (.slice nA nn nc) from by simp [go_sem])
  have q1 := Gr.at (show Gr _ w1 from hb1) (show World.cell? _ ⟨w.heap.size, 1, none⟩ = some (.slice lA ln lc) from by simp [go_sem])
  clear hb1 HR
  go_wp2_with fail
  refine (HL.out _ g1).mono ?_
  rintro e w3 ⟨v, d, rfl, ho, hp, hb3⟩
  clear HL
  go_wp2_with fail
  obtain ⟨w2, hw2⟩ : ∃ w2, w2 = w1 := ⟨_, rfl⟩
  rw [← hw2] at ho hb3 g1
  have g2 := g1
  clear hw2
  refine (ordered_own v d w3 w2.heap.size ho (by have := hp.length_eq; rw [List.length_map] at this; omega)).mono ?_
  rintro e w4 ⟨r, rfl, hr1, hr2, hr3⟩
  have HR1 := Lib.hid hr1
  have HR2 := Lib.hid (show r.con = Al.srt X from by rw [hr2]; exact Al.srt_congr hp)
  have hg4 : Gr w w4 := hr3 w (g2.trans hb3) (Gr.size g2)
  clear hr1 hr2 hr3 ho hp hb3
  unfold Al.SlA.val
  go_wp2_with fail
  go_ret2
  exact ⟨r, rfl, HR1.out, HR2.out, hg4⟩
set_option maxRecDepth 100000 in
set_option maxHeartbeats 4000000 in
theorem Jumps_no (s : Al.SlM) (most : Int) (w : World) (h : s.At w) (hr : s.vB = false) :
    Calls Tryz.prog 12 #[.slice s.A s.n s.c, .int .i64 most] w (Al.RetAe [] 1 w) := by
  have HR := Lib.hid (fun W (hW : Gr w W) => tvalid_any s W (h.gr hW))
  rw [hr] at HR
  clear h hr
  generalize s.A = sA at *; generalize s.n = sn at *; generalize s.c = sc at *
  go_enter Tryz.func12, Tryz.ntmps12
  go_wp2_with fail
  refine (HR.out _ gr_auto).mono ?_
  rintro e w1 ⟨rfl, hb1⟩
  have g1 : Gr w w1 := gr_auto
  clear hb1
  go_wp2_with fail
  go_ret2
  exact ⟨Al.SlA.nil, rfl, Al.SlA.nil_at _, by simp [Al.SlA.con, Al.SlA.nil], g1⟩
set_option maxRecDepth 100000 in
set_option maxHeartbeats 4000000 in
theorem Jumps_range (s : Al.SlM) (most : Int) (w : World) (h : s.At w) (hr : s.vB = true) (hq : Al.jmO most = false) :
    Calls Tryz.prog 12 #[.slice s.A s.n s.c, .int .i64 most] w (Al.RetAe [] 2 w) := by
  have HR := Lib.hid (fun W (hW : Gr w W) => tvalid_any s W (h.gr hW))
  have HJ := Lib.hid (fun W => jumping_any most W)
  rw [hr] at HR
  rw [hq] at HJ
  clear h hr hq
  generalize s.A = sA at *; generalize s.n = sn at *; generalize s.c = sc at *
  go_enter Tryz.func12, Tryz.ntmps12
  go_wp2_with fail
  refine (HR.out _ gr_auto).mono ?_
  rintro e w1 ⟨rfl, hb1⟩
  have g1 : Gr w w1 := gr_auto
  clear hb1
  go_wp2_with fail
  refine (HJ.out _).mono ?_
  rintro e w2 ⟨rfl, rfl⟩
  go_wp2_with fail
  go_ret2
  exact ⟨Al.SlA.nil, rfl, Al.SlA.nil_at _, by simp [Al.SlA.con, Al.SlA.nil], g1⟩
set_option maxRecDepth 100000 in
set_option maxHeartbeats 4000000 in
theorem Jumps_ok (s : Al.SlM) (most : Int) (w : World) (h : s.At w) (hr : s.vB = true) (hq : Al.jmO most = true) :
    Calls Tryz.prog 12 #[.slice s.A s.n s.c, .int .i64 most] w (Al.RetAe (Al.srt (Al.jmpC most s.lst)) 0 w) := by
  have hsn := Al.vB_len hr
  have HR := Lib.hid (fun W (hW : Gr w W) => tvalid_any s W (h.gr hW))
  have HJ := Lib.hid (fun W => jumping_any most W)
  have HL := Lib.hid (fun W (hW : Gr w W) => jumps_any s most W (h.gr hW) hr (Al.jmO_iff.1 hq))
  have hxl : (Al.jmpC most s.lst).length ≤ 10000 := Nat.le_trans (Al.jmpC_len most) (by rw [Al.SlM.lst_len]; exact hsn)
  rw [hr] at HR
  rw [hq] at HJ
  clear h hr hq hsn
  generalize Al.jmpC most s.lst = X at *
  generalize s.A = sA at *; generalize s.n = sn at *; generalize s.c = sc at *
  go_enter Tryz.func12, Tryz.ntmps12
  go_wp2_with fail
  refine (HR.out _ gr_auto).mono ?_
  rintro e w1 ⟨rfl, hb1⟩
  have g1 : Gr w w1 := gr_auto
  clear hb1 HR
  go_wp2_with fail
  refine (HJ.out _).mono ?_
  rintro e w2 ⟨rfl, rfl⟩
  go_wp2_with fail
  refine (HL.out _ g1).mono ?_
  rintro e w3 ⟨v, d, rfl, ho, hp, hb3⟩
  clear HL
  go_wp2_with fail
  obtain ⟨w2, hw2⟩ : ∃ w2, w2 = w1 := ⟨_, rfl⟩
  rw [← hw2] at ho hb3 g1
  have g2 := g1
  clear hw2
  refine (ordered_own v d w3 w2.heap.size ho (by have := hp.length_eq; rw [List.length_map] at this; omega)).mono ?_
  rintro e w4 ⟨r, rfl, hr1, hr2, hr3⟩
  have HR1 := Lib.hid hr1
  have HR2 := Lib.hid (show r.con = Al.srt X from by rw [hr2]; exact Al.srt_congr hp)
  have hg4 : Gr w w4 := hr3 w (g2.trans hb3) (Gr.size g2)
  clear hr1 hr2 hr3 ho hp hb3
  unfold Al.SlA.val
  go_wp2_with fail
  go_ret2
  exact ⟨r, rfl, HR1.out, HR2.out, hg4⟩
set_option maxRecDepth 100000 in
set_option maxHeartbeats 4000000 in
theorem Frozen_no (s : Al.SlM) (count : Int) (w : World) (h : s.At w) (hr : s.vB = false) :
    Calls Tryz.prog 16 #[.slice s.A s.n s.c, .int .i64 count] w (Al.RetAe [] 1 w) := by
  have HR := Lib.hid (fun W (hW : Gr w W) => tvalid_any s W (h.gr hW))
  rw [hr] at HR
  clear h hr
  generalize s.A = sA at *; generalize s.n = sn at *; generalize s.c = sc at *
  go_enter Tryz.func16, Tryz.ntmps16
  go_wp2_with fail
  refine (HR.out _ gr_auto).mono ?_
  rintro e w1 ⟨rfl, hb1⟩
  have g1 : Gr w w1 := gr_auto
  clear hb1
  go_wp2_with fail
  go_ret2
  exact ⟨Al.SlA.nil, rfl, Al.SlA.nil_at _, by simp [Al.SlA.con, Al.SlA.nil], g1⟩
set_option maxRecDepth 100000 in
set_option maxHeartbeats 4000000 in
theorem Frozen_range (s : Al.SlM) (count : Int) (w : World) (h : s.At w) (hr : s.vB = true) (hq : Al.stO count = false) :
    Calls Tryz.prog 16 #[.slice s.A s.n s.c, .int .i64 count] w (Al.RetAe [] 2 w) := by
  have HR := Lib.hid (fun W (hW : Gr w W) => tvalid_any s W (h.gr hW))
  have HJ := Lib.hid (fun W => standing_any count W)
  rw [hr] at HR
  rw [hq] at HJ
  clear h hr hq
  generalize s.A = sA at *; generalize s.n = sn at *; generalize s.c = sc at *
  go_enter Tryz.func16, Tryz.ntmps16
  go_wp2_with fail
  refine (HR.out _ gr_auto).mono ?_
  rintro e w1 ⟨rfl, hb1⟩
  have g1 : Gr w w1 := gr_auto
  clear hb1
  go_wp2_with fail
  refine (HJ.out _).mono ?_
  rintro e w2 ⟨rfl, rfl⟩
  go_wp2_with fail
  go_ret2
  exact ⟨Al.SlA.nil, rfl, Al.SlA.nil_at _, by simp [Al.SlA.con, Al.SlA.nil], g1⟩
set_option maxRecDepth 100000 in
set_option maxHeartbeats 4000000 in
theorem Frozen_ok (s : Al.SlM) (count : Int) (w : World) (h : s.At w) (hr : s.vB = true) (hq : Al.stO count = true) :
    Calls Tryz.prog 16 #[.slice s.A s.n s.c, .int .i64 count] w (Al.RetAe (Al.srt (Al.runC count s.lst)) 0 w) := by
  have hsn := Al.vB_len hr
  have HR := Lib.hid (fun W (hW : Gr w W) => tvalid_any s W (h.gr hW))
  have HJ := Lib.hid (fun W => standing_any count W)
  have HL := Lib.hid (fun W (hW : Gr w W) => still_any s count W (h.gr hW) hr (Al.stO_iff.1 hq))
  have hxl : (Al.runC count s.lst).length ≤ 10000 := Nat.le_trans (Al.runC_len count) (by rw [Al.SlM.lst_len]; exact hsn)
  rw [hr] at HR
  rw [hq] at HJ
  clear h hr hq hsn
  generalize Al.runC count s.lst = X at *
  generalize s.A = sA at *; generalize s.n = sn at *; generalize s.c = sc at *
  go_enter Tryz.func16, Tryz.ntmps16
  go_wp2_with fail
  refine (HR.out _ gr_auto).mono ?_
  rintro e w1 ⟨rfl, hb1⟩
  have g1 : Gr w w1 := gr_auto
  clear hb1 HR
  go_wp2_with fail
  refine (HJ.out _).mono ?_
  rintro e w2 ⟨rfl, rfl⟩
  go_wp2_with fail
  refine (HL.out _ g1).mono ?_
  rintro e w3 ⟨v, d, rfl, ho, hp, hb3⟩
  clear HL
  go_wp2_with fail
  obtain ⟨w2, hw2⟩ : ∃ w2, w2 = w1 := ⟨_, rfl⟩
  rw [← hw2] at ho hb3 g1
  have g2 := g1
  clear hw2
  refine (ordered_own v d w3 w2.heap.size ho (by have := hp.length_eq; rw [List.length_map] at this; omega)).mono ?_
  rintro e w4 ⟨r, rfl, hr1, hr2, hr3⟩
  have HR1 := Lib.hid hr1
  have HR2 := Lib.hid (show r.con = Al.srt X from by rw [hr2]; exact Al.srt_congr hp)
  have hg4 : Gr w w4 := hr3 w (g2.trans hb3) (Gr.size g2)
  clear hr1 hr2 hr3 ho hp hb3
  unfold Al.SlA.val
  go_wp2_with fail
  go_ret2
  exact ⟨r, rfl, HR1.out, HR2.out, hg4⟩
set_option maxRecDepth 100000 in
set_option maxHeartbeats 4000000 in
theorem All_no (N : Ba.SlNode) (L : Ba.SlLink) (s : Al.SlM) (jp sm tl : Int) (w : World) (hN : N.At w) (hL : L.At w) (h : s.At w) (k : Int) (hk : Al.gvE (Ba.netB N L && s.vB) (Al.lmO jp sm tl) = k) (hk0 : k ≠ 0) :
    Calls Tryz.prog 18 #[Ba.netVal N L, .slice s.A s.n s.c, .agg #[.int .i64 jp, .int .i64 sm, .int .i64 tl]] w (Al.RetAe [] k w) := by
  have HR := Lib.hid (fun W (hW : Gr w W) => given_any N L s jp sm tl W (hN.gr hW) (hL.gr hW) (h.gr hW))
  rw [hk] at HR
  have hb0 : (k != 0) = true := bne_iff_ne.2 hk0
  clear hN hL h hk hk0
  unfold Ba.netVal at *
  generalize N.A = nA at *; generalize N.n = nn at *; generalize N.c = nc at *; generalize L.A = lA at *; generalize L.n = ln at *; generalize L.c = lc at *; generalize s.A = sA at *; generalize s.n = sn at *; generalize s.c = sc at *
  go_enter Tryz.func18, Tryz.ntmps18
  go_wp2_with fail
  refine (HR.out _ gr_auto).mono ?_
  rintro e w1 ⟨rfl, hb1⟩
  have g1 : Gr w w1 := gr_auto
  clear hb1
  go_wp2_with fail
  go_ret2
  exact ⟨Al.SlA.nil, rfl, Al.SlA.nil_at _, by simp [Al.SlA.con, Al.SlA.nil], g1⟩
set_option maxRecDepth 100000 in
set_option maxHeartbeats 4000000 in
theorem All_ok (N : Ba.SlNode) (L : Ba.SlLink) (s : Al.SlM) (jp sm tl : Int) (w : World) (hN : N.At w) (hL : L.At w) (h : s.At w) (hk : Al.gvE (Ba.netB N L && s.vB) (Al.lmO jp sm tl) = 0) :
    Calls Tryz.prog 18 #[Ba.netVal N L, .slice s.A s.n s.c, .agg #[.int .i64 jp, .int .i64 sm, .int .i64 tl]] w (Al.RetAe (Al.allC N s.lst jp sm) 0 w) := by
  have HR := Lib.hid (fun W (hW : Gr w W) => given_any N L s jp sm tl W (hN.gr hW) (hL.gr hW) (h.gr hW))
  rw [hk] at HR
  have hok : (Ba.netB N L && s.vB) = true ∧ Al.lmO jp sm tl = true := by
    unfold Al.gvE at hk
    split at hk
    · rename_i q
      split at hk
      · rename_i r; exact ⟨q, r⟩
      · exact absurd hk (by decide)
    · exact absurd hk (by decide)
  have HL := Lib.hid (fun W (hW : Gr w W) => all_any N L s jp sm tl W (hN.gr hW) (hL.gr hW) (h.gr hW) (by have := hok.1; rw [Bool.and_eq_true] at this; exact this.1) (by have := hok.1; rw [Bool.and_eq_true] at this; exact this.2) (by have := hok.2; unfold Al.lmO at this; rw [Bool.and_eq_true] at this; exact Al.jmO_iff.1 this.1) (by have := hok.2; unfold Al.lmO at this; rw [Bool.and_eq_true, Bool.and_eq_true] at this; exact Al.stO_iff.1 this.2.1))
  clear hN hL h hk hok
  unfold Ba.netVal at *
  generalize Al.allC N s.lst jp sm = X at *
  generalize N.A = nA at *; generalize N.n = nn at *; generalize N.c = nc at *; generalize L.A = lA at *; generalize L.n = ln at *; generalize L.c = lc at *; generalize s.A = sA at *; generalize s.n = sn at *; generalize s.c = sc at *
  go_enter Tryz.func18, Tryz.ntmps18
  go_wp2_with fail
  refine (HR.out _ gr_auto).mono ?_
  rintro e w1 ⟨rfl, hb1⟩
  have g1 : Gr w w1 := gr_auto
  have q0 := Gr.at (show Gr _ w1 from hb1) (show World.cell? _ ⟨w.heap.size, 0, none⟩ = some (.slice nA nn nc) from by simp [go_sem])
  have q1 := Gr.at (show Gr _ w1 from hb1) (show World.cell? _ ⟨w.heap.size, 1, none⟩ = some (.slice lA ln lc) from by simp [go_sem])
  have q2 := Gr.at (show Gr _ w1 from hb1) (show World.cell? _ ⟨w.heap.size + 1, 0, none⟩ = some (.int .i64 jp) from by simp [go_sem])
  have q3 := Gr.at (show Gr _ w1 from hb1) (show World.cell? _ ⟨w.heap.size + 1, 1, none⟩ = some (.int .i64 sm) from by simp [go_sem])
  have q4 := Gr.at (show Gr _ w1 from hb1) (show World.cell? _ ⟨w.heap.size + 1, 2, none⟩ = some (.int .i64 tl) from by simp [go_sem])
  clear hb1 HR
  go_wp2_with fail
  refine (HL.out _ g1).mono ?_
  rintro e w3 ⟨r, rfl, hr1, hr2, hr3⟩
  have g3 := g1.trans hr3
  have HR1 := Lib.hid hr1; have HR2 := Lib.hid hr2
  clear HL hr1 hr2 hr3
  unfold Al.SlA.val
  go_wp2_with fail
  go_ret2
  exact ⟨r, rfl, HR1.out, HR2.out, g3⟩
end Go.Proofs.YtllkiadedaghoaaGreat
