/-
  Runoff: what is given: the program's sum and given. (Printed by mkc.py.)
-/
import Derived.Test.YtajhhplgcegodaaGreatDoorInf11

set_option linter.unusedVariables false
set_option linter.unusedSimpArgs false
namespace Go.Proofs.YtajhhplgcegodaaGreatDoor
open Go.RowKit
namespace Ba
/-- The sum of the numbers that are not negative. -/
def sumP (X : Nat → Int) (n : Nat) : Int := sumI (fun i => max 0 (X i)) n
theorem sumP_le {X : Nat → Int} {hi : Int} {n : Nat} (h0 : 0 ≤ hi) (h : ∀ i, i < n → X i ≤ hi) : 0 ≤ sumP X n ∧ sumP X n ≤ hi * n := by
  have := sumI_le (X := fun i => max 0 (X i)) (lo := 0) (hi := hi) (n := n) fun i hi => by have := h i hi; omega
  unfold sumP; omega
def mtr (x : Int) : Bool := bet x 0 1073741824
/-- What is wrong with classes, areas, and a record. -/
def givR (C : SlClass) (a : SlI) (s : Ser) : Int := if clsB C = true then if serB s = true then if a.n = C.n then if allB (fun i => mtr (a.X i)) a.n = true then if 1073741824 < sumP a.X a.n then 5 else if 1073741824 < sumP s.ds.X s.ds.n then 5 else 0 else 2 else 3 else 1 else 1
end Ba
set_option maxRecDepth 100000 in
set_option maxHeartbeats 4000000 in
theorem psum_any (s : Ba.SlI) (w : World) (h : s.At w) (hn : s.n ≤ 100000) (hb : ∀ i, i < s.n → s.X i ≤ 1073741824) : Calls Tryz.prog 98 #[.slice s.A s.n s.c] w fun e w' => e = .returned (.int .i64 (Ba.sumP s.X s.n)) ∧ Gr w w' := by
  have HA := Lib.hid h.hA; have HX := Lib.hid h.hX; have HB := Lib.hid (fun i (hi : i ≤ s.n) => Ba.sumP_le (X := s.X) (n := i) (hi := 1073741824) (by omega) fun j hj => hb j (by omega)); have HB1 := Lib.hid hb
  clear h hb
  obtain ⟨A, n, c, b, o, X⟩ := s
  simp only at *
  have hr0 : Ba.sumP X 0 = 0 := rfl
  have HR := Lib.hid (fun i => show Ba.sumP X (i + 1) = Ba.sumP X i + max 0 (X i) from rfl)
  have HR0 := Lib.hid hr0
  clear hr0
  go_enter Tryz.func98, Tryz.ntmps98
  go_wp2_with fail
  go_loopw [3, 8] (fun v x wr => ∃ i : Nat, i ≤ n ∧ x = .int .i64 (i : Int) ∧ v = .int .i64 (Ba.sumP X i) ∧ Gr w wr) (fun _ x _ => n - (intOf x).toNat)
  case atStart => exact ⟨0, Nat.zero_le _, rfl, by rw [HR0.out], Gr.refl _⟩
  case round =>
    obtain ⟨i, hi, rfl, rfl, hg⟩ := hrel
    have t := HB.out i hi
    by_cases hlt : i < n
    · obtain rfl := HA.out (by omega)
      have a0 := Gr.at hg (HX.out i hlt).1
      have a1 := (HX.out i hlt).2
      have a2 := HB1.out i hlt
      have ib0 : (0 : Int) ≤ (i : Int) := by omega
      have ib1 : (i : Int) < (n : Int) := by omega
      have T := Lib.hid (HR.out i)
      have hrng : 0 ≤ Ba.sumP X i + max 0 (X i) ∧ Ba.sumP X i + max 0 (X i) ≤ 9223372036854775807 := by omega
      clear HX HB HB1 HR
      unfold Ba.i64 at a1
      generalize Ba.sumP X i = s0 at *
      obtain ⟨x, hx⟩ : ∃ x, X i = x := ⟨_, rfl⟩
      rw [hx] at a0 a1 a2 T hrng
      obtain ⟨m, hm⟩ : ∃ m, max 0 x = m := ⟨_, rfl⟩
      rw [hm] at T hrng
      rcases (by omega : (0 < x ∧ m = x) ∨ (x ≤ 0 ∧ m = 0)) with ⟨q, rfl⟩ | ⟨q, rfl⟩
      · go_wp2_with fail
        go_roundw
        case rel => exact ⟨i + 1, by omega, by go_num, by rw [T.out], gr_auto⟩
        case measure => simp [intOf]; omega
      · go_wp2_with fail
        go_roundw
        case rel => exact ⟨i + 1, by omega, by go_num, by rw [T.out, Int.add_zero], gr_auto⟩
        case measure => simp [intOf]; omega
    · obtain rfl : n = i := by omega
      clear HX HB HB1 HR
      go_wp2_with fail
      go_ret
      exact ⟨rfl, hg⟩
set_option maxRecDepth 100000 in
set_option maxHeartbeats 4000000 in
theorem gvr_any (x : Int) (w : World) : Calls Tryz.prog 145 #[.int .i64 x] w fun e w' => e = .returned (.bool (!Ba.mtr x)) ∧ w = w' := by
  have H := Lib.hid (fun W => rwithin_any_ x 1073741824 W)
  unfold Ba.mtr
  generalize Ba.bet x 0 1073741824 = q at *
  go_enter Tryz.func145, Tryz.ntmps145
  go_wp2_with fail
  refine (H.out _).mono ?_
  rintro e w1 ⟨rfl, rfl⟩
  go_wp2_with fail
  go_ret
  exact ⟨rfl, rfl⟩
set_option maxRecDepth 100000 in
set_option maxHeartbeats 4000000 in
theorem giv_1 (A A2 DA : Option Addr) (n c an ac dn dc : Nat) (fr st : Int) (w : World) (HV : Hid (∀ W, Gr w W → Calls Tryz.prog 102 #[.slice A n c] W fun e w' => e = .returned (.bool false) ∧ Gr W w')) : Calls Tryz.prog 92 #[.slice A n c, .slice A2 an ac, .agg #[.int .i64 fr, .int .i64 st, .slice DA dn dc]] w (fun e w' => e = .returned (.int .i64 1) ∧ Gr w w') := by
  go_enter Tryz.func92, Tryz.ntmps92
  go_wp2_with fail
  (first | refine name_world ?_ | refine (show (∀ W, W = _ → Calls _ _ _ W _) → Calls _ _ _ _ _ from fun h => h _ rfl) ?_); intro W1 hW1
  have g1 : Gr w W1 := by rw [hW1]; exact gr_auto
  have k1_0 : W1.cell? ⟨w.heap.size, 0, none⟩ = some (.int .i64 fr) := by rw [hW1]; first | (simp [go_sem, *]; done) | (refine Gr.at ?_ (by assumption); exact gr_auto)
  have b1_0 : w.heap.size < W1.heap.size := World.block_lt_of_cell? _ _ k1_0
  have k1_1 : W1.cell? ⟨w.heap.size, 1, none⟩ = some (.int .i64 st) := by rw [hW1]; first | (simp [go_sem, *]; done) | (refine Gr.at ?_ (by assumption); exact gr_auto)
  have k1_2 : W1.cell? ⟨w.heap.size, 2, none⟩ = some (.slice DA dn dc) := by rw [hW1]; first | (simp [go_sem, *]; done) | (refine Gr.at ?_ (by assumption); exact gr_auto)
  clear hW1
  refine (HV.out _ g1).mono ?_
  rintro e w2 ⟨rfl, hb2⟩
  have g2 := g1.trans hb2
  have k1_0 := Gr.at (w1 := w2) gr_auto k1_0; have k1_1 := Gr.at (w1 := w2) gr_auto k1_1; have k1_2 := Gr.at (w1 := w2) gr_auto k1_2
  go_wp2_with fail
  go_ret
  exact ⟨rfl, gr_auto⟩
set_option maxRecDepth 100000 in
set_option maxHeartbeats 4000000 in
theorem giv_2 (A A2 DA : Option Addr) (n c an ac dn dc : Nat) (fr st : Int) (w : World) (HV : Hid (∀ W, Gr w W → Calls Tryz.prog 102 #[.slice A n c] W fun e w' => e = .returned (.bool true) ∧ Gr W w')) (HS : Hid (∀ W, Gr w W → Calls Tryz.prog 72 #[.agg #[.int .i64 fr, .int .i64 st, .slice DA dn dc]] W fun e w' => e = .returned (.bool false) ∧ Gr W w')) : Calls Tryz.prog 92 #[.slice A n c, .slice A2 an ac, .agg #[.int .i64 fr, .int .i64 st, .slice DA dn dc]] w (fun e w' => e = .returned (.int .i64 1) ∧ Gr w w') := by
  go_enter Tryz.func92, Tryz.ntmps92
  go_wp2_with fail
  (first | refine name_world ?_ | refine (show (∀ W, W = _ → Calls _ _ _ W _) → Calls _ _ _ _ _ from fun h => h _ rfl) ?_); intro W1 hW1
  have g1 : Gr w W1 := by rw [hW1]; exact gr_auto
  have k1_0 : W1.cell? ⟨w.heap.size, 0, none⟩ = some (.int .i64 fr) := by rw [hW1]; first | (simp [go_sem, *]; done) | (refine Gr.at ?_ (by assumption); exact gr_auto)
  have b1_0 : w.heap.size < W1.heap.size := World.block_lt_of_cell? _ _ k1_0
  have k1_1 : W1.cell? ⟨w.heap.size, 1, none⟩ = some (.int .i64 st) := by rw [hW1]; first | (simp [go_sem, *]; done) | (refine Gr.at ?_ (by assumption); exact gr_auto)
  have k1_2 : W1.cell? ⟨w.heap.size, 2, none⟩ = some (.slice DA dn dc) := by rw [hW1]; first | (simp [go_sem, *]; done) | (refine Gr.at ?_ (by assumption); exact gr_auto)
  clear hW1
  refine (HV.out _ g1).mono ?_
  rintro e w2 ⟨rfl, hb2⟩
  have g2 := g1.trans hb2
  have k1_0 := Gr.at (w1 := w2) gr_auto k1_0; have k1_1 := Gr.at (w1 := w2) gr_auto k1_1; have k1_2 := Gr.at (w1 := w2) gr_auto k1_2
  go_wp2_with fail
  refine (HS.out _ g2).mono ?_
  rintro e w3 ⟨rfl, hb3⟩
  have g3 := g2.trans hb3
  have k1_0 := Gr.at (w1 := w3) gr_auto k1_0; have k1_1 := Gr.at (w1 := w3) gr_auto k1_1; have k1_2 := Gr.at (w1 := w3) gr_auto k1_2
  go_wp2_with fail
  go_ret
  exact ⟨rfl, gr_auto⟩
set_option maxRecDepth 100000 in
set_option maxHeartbeats 4000000 in
theorem giv_3 (A A2 DA : Option Addr) (n c an ac dn dc : Nat) (fr st : Int) (w : World) (HV : Hid (∀ W, Gr w W → Calls Tryz.prog 102 #[.slice A n c] W fun e w' => e = .returned (.bool true) ∧ Gr W w')) (HS : Hid (∀ W, Gr w W → Calls Tryz.prog 72 #[.agg #[.int .i64 fr, .int .i64 st, .slice DA dn dc]] W fun e w' => e = .returned (.bool true) ∧ Gr W w')) (hm : n ≤ 9223372036854775807) (hm2 : an ≤ 9223372036854775807) (t3 : ((an : Int) != (n : Int)) = true) : Calls Tryz.prog 92 #[.slice A n c, .slice A2 an ac, .agg #[.int .i64 fr, .int .i64 st, .slice DA dn dc]] w (fun e w' => e = .returned (.int .i64 3) ∧ Gr w w') := by
  go_enter Tryz.func92, Tryz.ntmps92
  go_wp2_with fail
  (first | refine name_world ?_ | refine (show (∀ W, W = _ → Calls _ _ _ W _) → Calls _ _ _ _ _ from fun h => h _ rfl) ?_); intro W1 hW1
  have g1 : Gr w W1 := by rw [hW1]; exact gr_auto
  have k1_0 : W1.cell? ⟨w.heap.size, 0, none⟩ = some (.int .i64 fr) := by rw [hW1]; first | (simp [go_sem, *]; done) | (refine Gr.at ?_ (by assumption); exact gr_auto)
  have b1_0 : w.heap.size < W1.heap.size := World.block_lt_of_cell? _ _ k1_0
  have k1_1 : W1.cell? ⟨w.heap.size, 1, none⟩ = some (.int .i64 st) := by rw [hW1]; first | (simp [go_sem, *]; done) | (refine Gr.at ?_ (by assumption); exact gr_auto)
  have k1_2 : W1.cell? ⟨w.heap.size, 2, none⟩ = some (.slice DA dn dc) := by rw [hW1]; first | (simp [go_sem, *]; done) | (refine Gr.at ?_ (by assumption); exact gr_auto)
  clear hW1
  refine (HV.out _ g1).mono ?_
  rintro e w2 ⟨rfl, hb2⟩
  have g2 := g1.trans hb2
  have k1_0 := Gr.at (w1 := w2) gr_auto k1_0; have k1_1 := Gr.at (w1 := w2) gr_auto k1_1; have k1_2 := Gr.at (w1 := w2) gr_auto k1_2
  go_wp2_with fail
  refine (HS.out _ g2).mono ?_
  rintro e w3 ⟨rfl, hb3⟩
  have g3 := g2.trans hb3
  have k1_0 := Gr.at (w1 := w3) gr_auto k1_0; have k1_1 := Gr.at (w1 := w3) gr_auto k1_1; have k1_2 := Gr.at (w1 := w3) gr_auto k1_2
  go_wp2_with fail
  go_ret
  exact ⟨rfl, gr_auto⟩
set_option maxRecDepth 100000 in
set_option maxHeartbeats 4000000 in
theorem giv_4 (A A2 DA : Option Addr) (n c an ac dn dc : Nat) (fr st : Int) (w : World) (HV : Hid (∀ W, Gr w W → Calls Tryz.prog 102 #[.slice A n c] W fun e w' => e = .returned (.bool true) ∧ Gr W w')) (HS : Hid (∀ W, Gr w W → Calls Tryz.prog 72 #[.agg #[.int .i64 fr, .int .i64 st, .slice DA dn dc]] W fun e w' => e = .returned (.bool true) ∧ Gr W w')) (hm : n ≤ 9223372036854775807) (hm2 : an ≤ 9223372036854775807) (t3 : ((an : Int) != (n : Int)) = false) (HC : Hid (∀ W, Gr w W → Calls Tryz.prog 14 #[.slice A2 an ac, .func (.func 145) #[] #[]] W fun e w' => e = .returned (.bool true) ∧ Gr W w')) : Calls Tryz.prog 92 #[.slice A n c, .slice A2 an ac, .agg #[.int .i64 fr, .int .i64 st, .slice DA dn dc]] w (fun e w' => e = .returned (.int .i64 2) ∧ Gr w w') := by
  go_enter Tryz.func92, Tryz.ntmps92
  go_wp2_with fail
  (first | refine name_world ?_ | refine (show (∀ W, W = _ → Calls _ _ _ W _) → Calls _ _ _ _ _ from fun h => h _ rfl) ?_); intro W1 hW1
  have g1 : Gr w W1 := by rw [hW1]; exact gr_auto
  have k1_0 : W1.cell? ⟨w.heap.size, 0, none⟩ = some (.int .i64 fr) := by rw [hW1]; first | (simp [go_sem, *]; done) | (refine Gr.at ?_ (by assumption); exact gr_auto)
  have b1_0 : w.heap.size < W1.heap.size := World.block_lt_of_cell? _ _ k1_0
  have k1_1 : W1.cell? ⟨w.heap.size, 1, none⟩ = some (.int .i64 st) := by rw [hW1]; first | (simp [go_sem, *]; done) | (refine Gr.at ?_ (by assumption); exact gr_auto)
  have k1_2 : W1.cell? ⟨w.heap.size, 2, none⟩ = some (.slice DA dn dc) := by rw [hW1]; first | (simp [go_sem, *]; done) | (refine Gr.at ?_ (by assumption); exact gr_auto)
  clear hW1
  refine (HV.out _ g1).mono ?_
  rintro e w2 ⟨rfl, hb2⟩
  have g2 := g1.trans hb2
  have k1_0 := Gr.at (w1 := w2) gr_auto k1_0; have k1_1 := Gr.at (w1 := w2) gr_auto k1_1; have k1_2 := Gr.at (w1 := w2) gr_auto k1_2
  go_wp2_with fail
  refine (HS.out _ g2).mono ?_
  rintro e w3 ⟨rfl, hb3⟩
  have g3 := g2.trans hb3
  have k1_0 := Gr.at (w1 := w3) gr_auto k1_0; have k1_1 := Gr.at (w1 := w3) gr_auto k1_1; have k1_2 := Gr.at (w1 := w3) gr_auto k1_2
  go_wp2_with fail
  refine (HC.out _ g3).mono ?_
  rintro e w4 ⟨rfl, hb4⟩
  have g4 := g3.trans hb4
  have k1_0 := Gr.at (w1 := w4) gr_auto k1_0; have k1_1 := Gr.at (w1 := w4) gr_auto k1_1; have k1_2 := Gr.at (w1 := w4) gr_auto k1_2
  go_wp2_with fail
  go_ret
  exact ⟨rfl, gr_auto⟩
set_option maxRecDepth 100000 in
set_option maxHeartbeats 4000000 in
theorem giv_5 (A A2 DA : Option Addr) (n c an ac dn dc : Nat) (fr st : Int) (w : World) (HV : Hid (∀ W, Gr w W → Calls Tryz.prog 102 #[.slice A n c] W fun e w' => e = .returned (.bool true) ∧ Gr W w')) (HS : Hid (∀ W, Gr w W → Calls Tryz.prog 72 #[.agg #[.int .i64 fr, .int .i64 st, .slice DA dn dc]] W fun e w' => e = .returned (.bool true) ∧ Gr W w')) (hm : n ≤ 9223372036854775807) (hm2 : an ≤ 9223372036854775807) (t3 : ((an : Int) != (n : Int)) = false) (HC : Hid (∀ W, Gr w W → Calls Tryz.prog 14 #[.slice A2 an ac, .func (.func 145) #[] #[]] W fun e w' => e = .returned (.bool false) ∧ Gr W w')) (u1 u2 : Int) (H1 : Hid (∀ W, Gr w W → Calls Tryz.prog 98 #[.slice A2 an ac] W fun e w' => e = .returned (.int .i64 u1) ∧ Gr W w')) (t4 : decide (1073741824 < u1) = true) : Calls Tryz.prog 92 #[.slice A n c, .slice A2 an ac, .agg #[.int .i64 fr, .int .i64 st, .slice DA dn dc]] w (fun e w' => e = .returned (.int .i64 5) ∧ Gr w w') := by
  go_enter Tryz.func92, Tryz.ntmps92
  go_wp2_with fail
  (first | refine name_world ?_ | refine (show (∀ W, W = _ → Calls _ _ _ W _) → Calls _ _ _ _ _ from fun h => h _ rfl) ?_); intro W1 hW1
  have g1 : Gr w W1 := by rw [hW1]; exact gr_auto
  have k1_0 : W1.cell? ⟨w.heap.size, 0, none⟩ = some (.int .i64 fr) := by rw [hW1]; first | (simp [go_sem, *]; done) | (refine Gr.at ?_ (by assumption); exact gr_auto)
  have b1_0 : w.heap.size < W1.heap.size := World.block_lt_of_cell? _ _ k1_0
  have k1_1 : W1.cell? ⟨w.heap.size, 1, none⟩ = some (.int .i64 st) := by rw [hW1]; first | (simp [go_sem, *]; done) | (refine Gr.at ?_ (by assumption); exact gr_auto)
  have k1_2 : W1.cell? ⟨w.heap.size, 2, none⟩ = some (.slice DA dn dc) := by rw [hW1]; first | (simp [go_sem, *]; done) | (refine Gr.at ?_ (by assumption); exact gr_auto)
  clear hW1
  refine (HV.out _ g1).mono ?_
  rintro e w2 ⟨rfl, hb2⟩
  have g2 := g1.trans hb2
  have k1_0 := Gr.at (w1 := w2) gr_auto k1_0; have k1_1 := Gr.at (w1 := w2) gr_auto k1_1; have k1_2 := Gr.at (w1 := w2) gr_auto k1_2
  go_wp2_with fail
  refine (HS.out _ g2).mono ?_
  rintro e w3 ⟨rfl, hb3⟩
  have g3 := g2.trans hb3
  have k1_0 := Gr.at (w1 := w3) gr_auto k1_0; have k1_1 := Gr.at (w1 := w3) gr_auto k1_1; have k1_2 := Gr.at (w1 := w3) gr_auto k1_2
  go_wp2_with fail
  refine (HC.out _ g3).mono ?_
  rintro e w4 ⟨rfl, hb4⟩
  have g4 := g3.trans hb4
  have k1_0 := Gr.at (w1 := w4) gr_auto k1_0; have k1_1 := Gr.at (w1 := w4) gr_auto k1_1; have k1_2 := Gr.at (w1 := w4) gr_auto k1_2
  go_wp2_with fail
  refine (H1.out _ g4).mono ?_
  rintro e w5 ⟨rfl, hb5⟩
  have g5 := g4.trans hb5
  have k1_0 := Gr.at (w1 := w5) gr_auto k1_0; have k1_1 := Gr.at (w1 := w5) gr_auto k1_1; have k1_2 := Gr.at (w1 := w5) gr_auto k1_2
  go_wp2_with fail
  go_ret
  exact ⟨rfl, gr_auto⟩
set_option maxRecDepth 100000 in
set_option maxHeartbeats 4000000 in
theorem giv_6 (A A2 DA : Option Addr) (n c an ac dn dc : Nat) (fr st : Int) (w : World) (HV : Hid (∀ W, Gr w W → Calls Tryz.prog 102 #[.slice A n c] W fun e w' => e = .returned (.bool true) ∧ Gr W w')) (HS : Hid (∀ W, Gr w W → Calls Tryz.prog 72 #[.agg #[.int .i64 fr, .int .i64 st, .slice DA dn dc]] W fun e w' => e = .returned (.bool true) ∧ Gr W w')) (hm : n ≤ 9223372036854775807) (hm2 : an ≤ 9223372036854775807) (t3 : ((an : Int) != (n : Int)) = false) (HC : Hid (∀ W, Gr w W → Calls Tryz.prog 14 #[.slice A2 an ac, .func (.func 145) #[] #[]] W fun e w' => e = .returned (.bool false) ∧ Gr W w')) (u1 u2 : Int) (H1 : Hid (∀ W, Gr w W → Calls Tryz.prog 98 #[.slice A2 an ac] W fun e w' => e = .returned (.int .i64 u1) ∧ Gr W w')) (t4 : decide (1073741824 < u1) = false) (H2 : Hid (∀ W, Gr w W → Calls Tryz.prog 98 #[.slice DA dn dc] W fun e w' => e = .returned (.int .i64 u2) ∧ Gr W w')) (t5 : decide (1073741824 < u2) = true) : Calls Tryz.prog 92 #[.slice A n c, .slice A2 an ac, .agg #[.int .i64 fr, .int .i64 st, .slice DA dn dc]] w (fun e w' => e = .returned (.int .i64 5) ∧ Gr w w') := by
  go_enter Tryz.func92, Tryz.ntmps92
  go_wp2_with fail
  (first | refine name_world ?_ | refine (show (∀ W, W = _ → Calls _ _ _ W _) → Calls _ _ _ _ _ from fun h => h _ rfl) ?_); intro W1 hW1
  have g1 : Gr w W1 := by rw [hW1]; exact gr_auto
  have k1_0 : W1.cell? ⟨w.heap.size, 0, none⟩ = some (.int .i64 fr) := by rw [hW1]; first | (simp [go_sem, *]; done) | (refine Gr.at ?_ (by assumption); exact gr_auto)
  have b1_0 : w.heap.size < W1.heap.size := World.block_lt_of_cell? _ _ k1_0
  have k1_1 : W1.cell? ⟨w.heap.size, 1, none⟩ = some (.int .i64 st) := by rw [hW1]; first | (simp [go_sem, *]; done) | (refine Gr.at ?_ (by assumption); exact gr_auto)
  have k1_2 : W1.cell? ⟨w.heap.size, 2, none⟩ = some (.slice DA dn dc) := by rw [hW1]; first | (simp [go_sem, *]; done) | (refine Gr.at ?_ (by assumption); exact gr_auto)
  clear hW1
  refine (HV.out _ g1).mono ?_
  rintro e w2 ⟨rfl, hb2⟩
  have g2 := g1.trans hb2
  have k1_0 := Gr.at (w1 := w2) gr_auto k1_0; have k1_1 := Gr.at (w1 := w2) gr_auto k1_1; have k1_2 := Gr.at (w1 := w2) gr_auto k1_2
  go_wp2_with fail
  refine (HS.out _ g2).mono ?_
  rintro e w3 ⟨rfl, hb3⟩
  have g3 := g2.trans hb3
  have k1_0 := Gr.at (w1 := w3) gr_auto k1_0; have k1_1 := Gr.at (w1 := w3) gr_auto k1_1; have k1_2 := Gr.at (w1 := w3) gr_auto k1_2
  go_wp2_with fail
  refine (HC.out _ g3).mono ?_
  rintro e w4 ⟨rfl, hb4⟩
  have g4 := g3.trans hb4
  have k1_0 := Gr.at (w1 := w4) gr_auto k1_0; have k1_1 := Gr.at (w1 := w4) gr_auto k1_1; have k1_2 := Gr.at (w1 := w4) gr_auto k1_2
  go_wp2_with fail
  refine (H1.out _ g4).mono ?_
  rintro e w5 ⟨rfl, hb5⟩
  have g5 := g4.trans hb5
  have k1_0 := Gr.at (w1 := w5) gr_auto k1_0; have k1_1 := Gr.at (w1 := w5) gr_auto k1_1; have k1_2 := Gr.at (w1 := w5) gr_auto k1_2
  go_wp2_with fail
  refine (H2.out _ g5).mono ?_
  rintro e w6 ⟨rfl, hb6⟩
  have g6 := g5.trans hb6
  have k1_0 := Gr.at (w1 := w6) gr_auto k1_0; have k1_1 := Gr.at (w1 := w6) gr_auto k1_1; have k1_2 := Gr.at (w1 := w6) gr_auto k1_2
  go_wp2_with fail
  go_ret
  exact ⟨rfl, gr_auto⟩
set_option maxRecDepth 100000 in
set_option maxHeartbeats 4000000 in
theorem giv_7 (A A2 DA : Option Addr) (n c an ac dn dc : Nat) (fr st : Int) (w : World) (HV : Hid (∀ W, Gr w W → Calls Tryz.prog 102 #[.slice A n c] W fun e w' => e = .returned (.bool true) ∧ Gr W w')) (HS : Hid (∀ W, Gr w W → Calls Tryz.prog 72 #[.agg #[.int .i64 fr, .int .i64 st, .slice DA dn dc]] W fun e w' => e = .returned (.bool true) ∧ Gr W w')) (hm : n ≤ 9223372036854775807) (hm2 : an ≤ 9223372036854775807) (t3 : ((an : Int) != (n : Int)) = false) (HC : Hid (∀ W, Gr w W → Calls Tryz.prog 14 #[.slice A2 an ac, .func (.func 145) #[] #[]] W fun e w' => e = .returned (.bool false) ∧ Gr W w')) (u1 u2 : Int) (H1 : Hid (∀ W, Gr w W → Calls Tryz.prog 98 #[.slice A2 an ac] W fun e w' => e = .returned (.int .i64 u1) ∧ Gr W w')) (t4 : decide (1073741824 < u1) = false) (H2 : Hid (∀ W, Gr w W → Calls Tryz.prog 98 #[.slice DA dn dc] W fun e w' => e = .returned (.int .i64 u2) ∧ Gr W w')) (t5 : decide (1073741824 < u2) = false) : Calls Tryz.prog 92 #[.slice A n c, .slice A2 an ac, .agg #[.int .i64 fr, .int .i64 st, .slice DA dn dc]] w (fun e w' => e = .returned (.int .i64 0) ∧ Gr w w') := by
  go_enter Tryz.func92, Tryz.ntmps92
  go_wp2_with fail
  (first | refine name_world ?_ | refine (show (∀ W, W = _ → Calls _ _ _ W _) → Calls _ _ _ _ _ from fun h => h _ rfl) ?_); intro W1 hW1
  have g1 : Gr w W1 := by rw [hW1]; exact gr_auto
  have k1_0 : W1.cell? ⟨w.heap.size, 0, none⟩ = some (.int .i64 fr) := by rw [hW1]; first | (simp [go_sem, *]; done) | (refine Gr.at ?_ (by assumption); exact gr_auto)
  have b1_0 : w.heap.size < W1.heap.size := World.block_lt_of_cell? _ _ k1_0
  have k1_1 : W1.cell? ⟨w.heap.size, 1, none⟩ = some (.int .i64 st) := by rw [hW1]; first | (simp [go_sem, *]; done) | (refine Gr.at ?_ (by assumption); exact gr_auto)
  have k1_2 : W1.cell? ⟨w.heap.size, 2, none⟩ = some (.slice DA dn dc) := by rw [hW1]; first | (simp [go_sem, *]; done) | (refine Gr.at ?_ (by assumption); exact gr_auto)
  clear hW1
  refine (HV.out _ g1).mono ?_
  rintro e w2 ⟨rfl, hb2⟩
  have g2 := g1.trans hb2
  have k1_0 := Gr.at (w1 := w2) gr_auto k1_0; have k1_1 := Gr.at (w1 := w2) gr_auto k1_1; have k1_2 := Gr.at (w1 := w2) gr_auto k1_2
  go_wp2_with fail
  refine (HS.out _ g2).mono ?_
  rintro e w3 ⟨rfl, hb3⟩
  have g3 := g2.trans hb3
  have k1_0 := Gr.at (w1 := w3) gr_auto k1_0; have k1_1 := Gr.at (w1 := w3) gr_auto k1_1; have k1_2 := Gr.at (w1 := w3) gr_auto k1_2
  go_wp2_with fail
  refine (HC.out _ g3).mono ?_
  rintro e w4 ⟨rfl, hb4⟩
  have g4 := g3.trans hb4
  have k1_0 := Gr.at (w1 := w4) gr_auto k1_0; have k1_1 := Gr.at (w1 := w4) gr_auto k1_1; have k1_2 := Gr.at (w1 := w4) gr_auto k1_2
  go_wp2_with fail
  refine (H1.out _ g4).mono ?_
  rintro e w5 ⟨rfl, hb5⟩
  have g5 := g4.trans hb5
  have k1_0 := Gr.at (w1 := w5) gr_auto k1_0; have k1_1 := Gr.at (w1 := w5) gr_auto k1_1; have k1_2 := Gr.at (w1 := w5) gr_auto k1_2
  go_wp2_with fail
  refine (H2.out _ g5).mono ?_
  rintro e w6 ⟨rfl, hb6⟩
  have g6 := g5.trans hb6
  have k1_0 := Gr.at (w1 := w6) gr_auto k1_0; have k1_1 := Gr.at (w1 := w6) gr_auto k1_1; have k1_2 := Gr.at (w1 := w6) gr_auto k1_2
  go_wp2_with fail
  go_ret
  exact ⟨rfl, gr_auto⟩
theorem Ba.ser_parts {s : Ba.Ser} (h : Ba.serB s = true) : (-68719476736 ≤ s.fr ∧ s.fr ≤ 68719476736) ∧ (1 ≤ s.st ∧ s.st ≤ 86400) ∧ s.ds.n ≤ 10000 ∧ ∀ i, i < s.ds.n → -1 ≤ s.ds.X i ∧ s.ds.X i ≤ 4194304 := by
  unfold Ba.serB at h
  simp only [Bool.and_eq_true, Ba.bet_iff, decide_eq_true_eq, Ba.allB_iff] at h
  obtain ⟨a, b, c, -, e⟩ := h
  refine ⟨a, b, c, fun i hi => ?_⟩
  have := e i hi
  unfold Ba.dep at this
  rw [Ba.bet_iff] at this
  exact this
theorem pgiven_any (C : Ba.SlClass) (a : Ba.SlI) (s : Ba.Ser) (w : World) (hC : C.At w) (ha : a.At w) (hs : s.Ok w) : Calls Tryz.prog 92 #[.slice C.A C.n C.c, .slice a.A a.n a.c, s.val] w fun e w' => e = .returned (.int .i64 (Ba.givR C a s)) ∧ Gr w w' := by
  have HV := Lib.hid (fun W (hh : Gr w W) => uvalid_any C W (hC.gr hh))
  have HS := Lib.hid (fun W (hh : Gr w W) => gvalid_any s W (hs.gr hh))
  have HC := Lib.hid (fun W (hh : Gr w W) => has_int 145 #[] a (fun i => !Ba.mtr (a.X i)) W (ha.gr hh) (enter_of Tryz.func145 (by kernel_rfl) (by kernel_rfl)) fun i _ W' _ => gr_of (gvr_any (a.X i) W'))
  have e : Ba.any (fun i => !Ba.mtr (a.X i)) a.n = !Ba.allB (fun i => Ba.mtr (a.X i)) a.n := by rw [← Ba.any_not, Bool.not_not]
  rw [e] at HC
  have hm := Nat.le_trans hC.hc hC.hb; have hm2 := Nat.le_trans ha.hc ha.hb
  unfold Ba.givR
  cases c1 : Ba.clsB C
  · rw [c1] at HV
    rw [if_neg (by decide)]
    exact giv_1 C.A a.A s.ds.A C.n C.c a.n a.c s.ds.n s.ds.c s.fr s.st w HV
  rw [c1] at HV
  rw [if_pos rfl]
  cases c2 : Ba.serB s
  · rw [c2] at HS
    rw [if_neg (by decide)]
    exact giv_2 C.A a.A s.ds.A C.n C.c a.n a.c s.ds.n s.ds.c s.fr s.st w HV HS
  rw [c2] at HS
  rw [if_pos rfl]
  by_cases c3 : a.n = C.n
  rotate_left
  · rw [if_neg c3]
    exact giv_3 C.A a.A s.ds.A C.n C.c a.n a.c s.ds.n s.ds.c s.fr s.st w HV HS hm hm2 (by rw [bne_iff_ne]; omega)
  rw [if_pos c3]
  have t3 : ((a.n : Int) != (C.n : Int)) = false := by rw [c3]; simp
  cases c4 : Ba.allB (fun i => Ba.mtr (a.X i)) a.n
  · rw [c4] at HC
    rw [if_neg (by decide)]
    exact giv_4 C.A a.A s.ds.A C.n C.c a.n a.c s.ds.n s.ds.c s.fr s.st w HV HS hm hm2 t3 HC
  rw [c4] at HC
  rw [if_pos rfl]
  have hn16 : C.n ≤ 16 := by unfold Ba.clsB at c1; simp only [Bool.and_eq_true, decide_eq_true_eq] at c1; exact c1.2.1
  have H1 := Lib.hid (fun W (hh : Gr w W) => psum_any a W (ha.gr hh) (by omega) fun i hi => by
    have := Ba.allB_at c4 hi
    unfold Ba.mtr at this
    rw [Ba.bet_iff] at this
    exact this.2)
  by_cases c5 : 1073741824 < Ba.sumP a.X a.n
  · rw [if_pos c5]
    exact giv_5 C.A a.A s.ds.A C.n C.c a.n a.c s.ds.n s.ds.c s.fr s.st w HV HS hm hm2 t3 HC _ 0 H1 (decide_eq_true c5)
  rw [if_neg c5]
  obtain ⟨-, -, p3, p4⟩ := Ba.ser_parts c2
  have H2 := Lib.hid (fun W (hh : Gr w W) => psum_any s.ds W (hs.2.2.gr hh) (by omega) fun i hi => by have := p4 i hi; omega)
  by_cases c6 : 1073741824 < Ba.sumP s.ds.X s.ds.n
  · rw [if_pos c6]
    exact giv_6 C.A a.A s.ds.A C.n C.c a.n a.c s.ds.n s.ds.c s.fr s.st w HV HS hm hm2 t3 HC _ _ H1 (decide_eq_false c5) H2 (decide_eq_true c6)
  · rw [if_neg c6]
    exact giv_7 C.A a.A s.ds.A C.n C.c a.n a.c s.ds.n s.ds.c s.fr s.st w HV HS hm hm2 t3 HC _ _ H1 (decide_eq_false c5) H2 (decide_eq_false c6)
end Go.Proofs.YtajhhplgcegodaaGreatDoor
