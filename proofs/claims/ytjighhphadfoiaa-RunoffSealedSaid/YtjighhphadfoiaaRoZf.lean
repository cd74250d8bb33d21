/-
  Law 25: RunoffSealed, the ways. (Printed by mkzf.py.)
-/
import Derived.Test.YtjighhphadfoiaaRoZe
import Derived.Test.YtjighhphadfoiaaRoZg
set_option linter.unusedVariables false
set_option linter.unusedSimpArgs false
namespace Go.Proofs.Ytjighhphadfoiaa
open Go.RowKit
attribute [local go_sem ↓] Go.wp_at_zero Go.wp_at_succ
theorem few_roC (b : Nat) (k : Int) (s : Ba.Ser) : Ba.fewB (Ba.roC b k) ⟨none, 0, 0, 0, 0, fun _ => 0⟩ s = decide ((s.ds.n : Int) ≤ 100) := by
  have h : Ba.any (fun i => decide ((100 : Int) < (((Ba.roC b k).D i).nm.size : Int))) (Ba.roC b k).n = false := by rfl
  unfold Ba.fewB
  rw [h]
  show (decide (((1 : Nat) : Int) ≤ 20) && (decide (((0 : Nat) : Int) ≤ 30) && (decide ((s.ds.n : Int) ≤ 100) && !false))) = _
  simp
theorem set_other {w : World} {b o i : Nat} {u v : Value} (h : w.cell? ⟨b, o, none⟩ = some u) (ho : o ≠ i) : (w.setCell ⟨b, i, none⟩ v).cell? ⟨b, o, none⟩ = some u := by
  simp [go_sem, h, ho]
theorem set_same {w : World} {b i : Nat} {u v : Value} (h : w.cell? ⟨b, i, none⟩ = some u) (hf : w.frozen? ⟨b, i, none⟩ = false) : (w.setCell ⟨b, i, none⟩ v).cell? ⟨b, i, none⟩ = some v := by
  simp [go_sem, h, hf]
theorem roD_ok {k : Int} (h : 0 ≤ k ∧ k ≤ 100000) {w : World} : (Ba.roD k).Ok w := ⟨by show Ba.i64 1000; unfold Ba.i64; omega, by show Ba.i64 k; unfold Ba.i64; omega, by show Ba.i64 0; unfold Ba.i64; omega, by show Ba.i64 0; unfold Ba.i64; omega, by show 4 ≤ 9223372036854775807; omega⟩
theorem roD_ok0 {w : World} : (Ba.roD 0).Ok w := roD_ok (by omega)

set_option maxRecDepth 100000 in
set_option maxHeartbeats 4000000 in
theorem sealed_far (ar k : Int) (s : Ba.Ser) (wg : Int) (w : World) (hs : s.Ok w) (h : (100 : Int) < s.ds.n ∨ ((s.ds.n : Int) ≤ 100 ∧ (ar < 0 ∨ (0 ≤ ar ∧ 1048576 < ar) ∨ ((0 ≤ ar ∧ ar ≤ 1048576) ∧ (k < 0 ∨ (0 ≤ k ∧ 100000 < k) ∨ ((0 ≤ k ∧ k ≤ 100000) ∧ (wg < 1 ∨ (1 ≤ wg ∧ 1073741824 < wg)))))))) : Calls Try.prog 9 #[.int .i64 ar, .int .i64 k, s.val, .int .i64 wg] w fun e w' => e = .returned (.bool true) ∧ Gr w w' := by
  have ms := Nat.le_trans hs.2.2.hc hs.2.2.hb
  have HSK := Lib.hid hs
  clear hs
  unfold Ba.Ser.val
  obtain ⟨fr, st, ⟨sA, sn, sc, sb, so, sX⟩⟩ := s
  simp only at *
  rcases h with h | ⟨h, a | a | ⟨a, a2 | a2 | ⟨a2, a3 | a3⟩⟩⟩
  all_goals
    go_enter Try.func9, Try.ntmps9
    go_wp2_with fail
    refine (show (∀ W, W = _ → Calls _ _ _ W _) → Calls _ _ _ _ _ from fun h => h _ rfl) ?_
    intro W1 hW1
    have g1 : Gr w W1 := by rw [hW1]; exact gr_auto
    have k1_0 : W1.cell? ⟨w.heap.size, 0, none⟩ = some (.int .i64 fr) := by rw [hW1]; first | (simp [go_sem, *]; done) | (refine Gr.at ?_ (by assumption); exact gr_auto)
    have k1_1 : W1.cell? ⟨w.heap.size, 1, none⟩ = some (.int .i64 st) := by rw [hW1]; first | (simp [go_sem, *]; done) | (refine Gr.at ?_ (by assumption); exact gr_auto)
    have k1_2 : W1.cell? ⟨w.heap.size, 2, none⟩ = some (.slice sA sn sc) := by rw [hW1]; first | (simp [go_sem, *]; done) | (refine Gr.at ?_ (by assumption); exact gr_auto)
    clear hW1
    refine (awake_any _).mono ?_
    rintro e w2 ⟨rfl, hb2⟩
    have g2 := g1.trans hb2
    have c0 := Gr.at hb2 k1_0
    have c1 := Gr.at hb2 k1_1
    have c2 := Gr.at hb2 k1_2
    have hne : w.heap.size < w2.heap.size := World.block_lt_of_cell? _ _ c0
    clear k1_0 k1_1 k1_2
    go_wp2_with fail
    refine (show (∀ W, W = _ → Calls _ _ _ W _) → Calls _ _ _ _ _ from fun h => h _ rfl) ?_
    intro W3 hW3
    have g3 : Gr w W3 := by rw [hW3]; exact gr_auto
    have gb3_w2 : Gr w2 W3 := by (try clear g3); rw [hW3]; exact gr_auto
    have k3_0 : W3.cell? ⟨w.heap.size, 0, none⟩ = some (.int .i64 fr) := by rw [hW3]; first | (simp [go_sem, *]; done) | (refine Gr.at ?_ (by assumption); exact gr_auto)
    have k3_1 : W3.cell? ⟨w.heap.size, 1, none⟩ = some (.int .i64 st) := by rw [hW3]; first | (simp [go_sem, *]; done) | (refine Gr.at ?_ (by assumption); exact gr_auto)
    have k3_2 : W3.cell? ⟨w.heap.size, 2, none⟩ = some (.slice sA sn sc) := by rw [hW3]; first | (simp [go_sem, *]; done) | (refine Gr.at ?_ (by assumption); exact gr_auto)
    have k3_3 : W3.cell? ⟨w2.heap.size, 0, none⟩ = some (.string ⟨#[114, 111, 111, 102]⟩) := by rw [hW3]; first | (simp [go_sem, *]; done) | (refine Gr.at ?_ (by assumption); exact gr_auto)
    have k3_4 : W3.cell? ⟨w2.heap.size, 1, none⟩ = some (.int .i64 1000) := by rw [hW3]; first | (simp [go_sem, *]; done) | (refine Gr.at ?_ (by assumption); exact gr_auto)
    have k3_5 : W3.cell? ⟨w2.heap.size, 2, none⟩ = some (.int .i64 0) := by rw [hW3]; first | (simp [go_sem, *]; done) | (refine Gr.at ?_ (by assumption); exact gr_auto)
    have k3_6 : W3.cell? ⟨w2.heap.size, 3, none⟩ = some (.int .i64 0) := by rw [hW3]; first | (simp [go_sem, *]; done) | (refine Gr.at ?_ (by assumption); exact gr_auto)
    have k3_7 : W3.cell? ⟨w2.heap.size, 4, none⟩ = some (.int .i64 0) := by rw [hW3]; first | (simp [go_sem, *]; done) | (refine Gr.at ?_ (by assumption); exact gr_auto)
    have z3 : W3.frozen? ⟨w2.heap.size, 2, none⟩ = false := by rw [hW3]; simp [go_sem]
    clear hW3
    clear c0 c1 c2
    have c0 := k3_0
    have c1 := k3_1
    have c2 := k3_2
    have q0 := k3_3
    have q1 := k3_4
    have q2 := k3_5
    have q3 := k3_6
    have q4 := k3_7
    clear k3_0 k3_1 k3_2 k3_3 k3_4 k3_5 k3_6 k3_7
    have HF := few_any (Ba.roC w2.heap.size 0) ⟨none, 0, 0, 0, 0, fun _ => 0⟩ ⟨fr, st, ⟨sA, sn, sc, sb, so, sX⟩⟩ W3 (cls_at ⟨q0, q1, q2, q3, q4⟩ roD_ok0) nil_at (HSK.out.gr g3)
    rw [few_roC] at HF
    refine HF.mono ?_
    clear HF
    rintro e w4 ⟨rfl, hb4⟩
    have g4 := g3.trans hb4
    have hy4 : w.heap.size < w4.heap.size := by have := World.block_lt_of_cell? _ _ (Gr.at hb4 c0); exact this
    have hx4 : w2.heap.size < w4.heap.size := by have := World.block_lt_of_cell? _ _ (Gr.at hb4 q0); exact this
    replace z3 := Gr.free hb4 q2 z3
    replace c0 := Gr.at hb4 c0; replace c1 := Gr.at hb4 c1; replace c2 := Gr.at hb4 c2; replace q0 := Gr.at hb4 q0; replace q1 := Gr.at hb4 q1; replace q2 := Gr.at hb4 q2; replace q3 := Gr.at hb4 q3; replace q4 := Gr.at hb4 q4
    go_wp2_with fail
    go_ret
    exact ⟨rfl, gr_auto⟩

set_option maxRecDepth 100000 in
set_option maxHeartbeats 4000000 in
theorem sealed_err (ar k : Int) (s : Ba.Ser) (wg : Int) (w : World) (hs : s.Ok w) (a0 : (s.ds.n : Int) ≤ 100) (a1 : 0 ≤ ar ∧ ar ≤ 1048576) (a2 : 0 ≤ k ∧ k ≤ 100000) (a3 : 1 ≤ wg ∧ wg ≤ 1073741824) (he : ∀ b b2, Ba.depE (Ba.roC b 0) (Ba.oneI b2 ar) s ≠ 0) : Calls Try.prog 9 #[.int .i64 ar, .int .i64 k, s.val, .int .i64 wg] w fun e w' => e = .returned (.bool true) ∧ Gr w w' := by
  have ms := Nat.le_trans hs.2.2.hc hs.2.2.hb
  have HSK := Lib.hid hs
  clear hs
  unfold Ba.Ser.val
  obtain ⟨fr, st, ⟨sA, sn, sc, sb, so, sX⟩⟩ := s
  simp only at *
  go_enter Try.func9, Try.ntmps9
  go_wp2_with fail
  refine (show (∀ W, W = _ → Calls _ _ _ W _) → Calls _ _ _ _ _ from fun h => h _ rfl) ?_
  intro W1 hW1
  have g1 : Gr w W1 := by rw [hW1]; exact gr_auto
  have k1_0 : W1.cell? ⟨w.heap.size, 0, none⟩ = some (.int .i64 fr) := by rw [hW1]; first | (simp [go_sem, *]; done) | (refine Gr.at ?_ (by assumption); exact gr_auto)
  have k1_1 : W1.cell? ⟨w.heap.size, 1, none⟩ = some (.int .i64 st) := by rw [hW1]; first | (simp [go_sem, *]; done) | (refine Gr.at ?_ (by assumption); exact gr_auto)
  have k1_2 : W1.cell? ⟨w.heap.size, 2, none⟩ = some (.slice sA sn sc) := by rw [hW1]; first | (simp [go_sem, *]; done) | (refine Gr.at ?_ (by assumption); exact gr_auto)
  clear hW1
  refine (awake_any _).mono ?_
  rintro e w2 ⟨rfl, hb2⟩
  have g2 := g1.trans hb2
  have c0 := Gr.at hb2 k1_0
  have c1 := Gr.at hb2 k1_1
  have c2 := Gr.at hb2 k1_2
  have hne : w.heap.size < w2.heap.size := World.block_lt_of_cell? _ _ c0
  clear k1_0 k1_1 k1_2
  go_wp2_with fail
  refine (show (∀ W, W = _ → Calls _ _ _ W _) → Calls _ _ _ _ _ from fun h => h _ rfl) ?_
  intro W3 hW3
  have g3 : Gr w W3 := by rw [hW3]; exact gr_auto
  have gb3_w2 : Gr w2 W3 := by (try clear g3); rw [hW3]; exact gr_auto
  have k3_0 : W3.cell? ⟨w.heap.size, 0, none⟩ = some (.int .i64 fr) := by rw [hW3]; first | (simp [go_sem, *]; done) | (refine Gr.at ?_ (by assumption); exact gr_auto)
  have k3_1 : W3.cell? ⟨w.heap.size, 1, none⟩ = some (.int .i64 st) := by rw [hW3]; first | (simp [go_sem, *]; done) | (refine Gr.at ?_ (by assumption); exact gr_auto)
  have k3_2 : W3.cell? ⟨w.heap.size, 2, none⟩ = some (.slice sA sn sc) := by rw [hW3]; first | (simp [go_sem, *]; done) | (refine Gr.at ?_ (by assumption); exact gr_auto)
  have k3_3 : W3.cell? ⟨w2.heap.size, 0, none⟩ = some (.string ⟨#[114, 111, 111, 102]⟩) := by rw [hW3]; first | (simp [go_sem, *]; done) | (refine Gr.at ?_ (by assumption); exact gr_auto)
  have k3_4 : W3.cell? ⟨w2.heap.size, 1, none⟩ = some (.int .i64 1000) := by rw [hW3]; first | (simp [go_sem, *]; done) | (refine Gr.at ?_ (by assumption); exact gr_auto)
  have k3_5 : W3.cell? ⟨w2.heap.size, 2, none⟩ = some (.int .i64 0) := by rw [hW3]; first | (simp [go_sem, *]; done) | (refine Gr.at ?_ (by assumption); exact gr_auto)
  have k3_6 : W3.cell? ⟨w2.heap.size, 3, none⟩ = some (.int .i64 0) := by rw [hW3]; first | (simp [go_sem, *]; done) | (refine Gr.at ?_ (by assumption); exact gr_auto)
  have k3_7 : W3.cell? ⟨w2.heap.size, 4, none⟩ = some (.int .i64 0) := by rw [hW3]; first | (simp [go_sem, *]; done) | (refine Gr.at ?_ (by assumption); exact gr_auto)
  have z3 : W3.frozen? ⟨w2.heap.size, 2, none⟩ = false := by rw [hW3]; simp [go_sem]
  clear hW3
  clear c0 c1 c2
  have c0 := k3_0
  have c1 := k3_1
  have c2 := k3_2
  have q0 := k3_3
  have q1 := k3_4
  have q2 := k3_5
  have q3 := k3_6
  have q4 := k3_7
  clear k3_0 k3_1 k3_2 k3_3 k3_4 k3_5 k3_6 k3_7
  have HF := few_any (Ba.roC w2.heap.size 0) ⟨none, 0, 0, 0, 0, fun _ => 0⟩ ⟨fr, st, ⟨sA, sn, sc, sb, so, sX⟩⟩ W3 (cls_at ⟨q0, q1, q2, q3, q4⟩ roD_ok0) nil_at (HSK.out.gr g3)
  rw [few_roC] at HF
  refine HF.mono ?_
  clear HF
  rintro e w4 ⟨rfl, hb4⟩
  have g4 := g3.trans hb4
  have hy4 : w.heap.size < w4.heap.size := by have := World.block_lt_of_cell? _ _ (Gr.at hb4 c0); exact this
  have hx4 : w2.heap.size < w4.heap.size := by have := World.block_lt_of_cell? _ _ (Gr.at hb4 q0); exact this
  replace z3 := Gr.free hb4 q2 z3
  replace c0 := Gr.at hb4 c0; replace c1 := Gr.at hb4 c1; replace c2 := Gr.at hb4 c2; replace q0 := Gr.at hb4 q0; replace q1 := Gr.at hb4 q1; replace q2 := Gr.at hb4 q2; replace q3 := Gr.at hb4 q3; replace q4 := Gr.at hb4 q4
  clear hb4
  go_wp2_with fail
  refine (show (∀ W, W = _ → Calls _ _ _ W _) → Calls _ _ _ _ _ from fun h => h _ rfl) ?_
  intro W5 hW5
  have g5 : Gr w W5 := by rw [hW5]; exact gr_auto
  have gb5_w4 : Gr w4 W5 := by (try clear g5); rw [hW5]; exact gr_auto
  have k5_0 : W5.cell? ⟨w.heap.size, 0, none⟩ = some (.int .i64 fr) := by rw [hW5]; first | (simp [go_sem, *]; done) | (refine Gr.at ?_ (by assumption); exact gr_auto)
  have k5_1 : W5.cell? ⟨w.heap.size, 1, none⟩ = some (.int .i64 st) := by rw [hW5]; first | (simp [go_sem, *]; done) | (refine Gr.at ?_ (by assumption); exact gr_auto)
  have k5_2 : W5.cell? ⟨w.heap.size, 2, none⟩ = some (.slice sA sn sc) := by rw [hW5]; first | (simp [go_sem, *]; done) | (refine Gr.at ?_ (by assumption); exact gr_auto)
  have k5_3 : W5.cell? ⟨w2.heap.size, 0, none⟩ = some (.string ⟨#[114, 111, 111, 102]⟩) := by rw [hW5]; first | (simp [go_sem, *]; done) | (refine Gr.at ?_ (by assumption); exact gr_auto)
  have k5_4 : W5.cell? ⟨w2.heap.size, 1, none⟩ = some (.int .i64 1000) := by rw [hW5]; first | (simp [go_sem, *]; done) | (refine Gr.at ?_ (by assumption); exact gr_auto)
  have k5_5 : W5.cell? ⟨w2.heap.size, 2, none⟩ = some (.int .i64 0) := by rw [hW5]; first | (simp [go_sem, *]; done) | (refine Gr.at ?_ (by assumption); exact gr_auto)
  have k5_6 : W5.cell? ⟨w2.heap.size, 3, none⟩ = some (.int .i64 0) := by rw [hW5]; first | (simp [go_sem, *]; done) | (refine Gr.at ?_ (by assumption); exact gr_auto)
  have k5_7 : W5.cell? ⟨w2.heap.size, 4, none⟩ = some (.int .i64 0) := by rw [hW5]; first | (simp [go_sem, *]; done) | (refine Gr.at ?_ (by assumption); exact gr_auto)
  have k5_8 : W5.cell? ⟨w4.heap.size, 0, none⟩ = some (.int .i64 ar) := by rw [hW5]; first | (simp [go_sem, *]; done) | (refine Gr.at ?_ (by assumption); exact gr_auto)
  clear hW5
  replace z3 := Gr.free gb5_w4 q2 z3
  clear c0 c1 c2 q0 q1 q2 q3 q4
  have c0 := k5_0
  have c1 := k5_1
  have c2 := k5_2
  have q0 := k5_3
  have q1 := k5_4
  have q2 := k5_5
  have q3 := k5_6
  have q4 := k5_7
  have HD := depn_any (Ba.roC w2.heap.size 0) (Ba.oneI w4.heap.size ar) ⟨fr, st, ⟨sA, sn, sc, sb, so, sX⟩⟩ W5 (cls_at ⟨q0, q1, q2, q3, q4⟩ roD_ok0) (Ba.one_at k5_8 (by unfold Ba.i64; omega)) (HSK.out.gr g5)
  clear k5_0 k5_1 k5_2 k5_3 k5_4 k5_5 k5_6 k5_7 k5_8
  unfold RetDepN at HD
  have hE := he w2.heap.size w4.heap.size
  clear he
  generalize Ba.depE (Ba.roC w2.heap.size 0) (Ba.oneI w4.heap.size ar) ⟨fr, st, ⟨sA, sn, sc, sb, so, sX⟩⟩ = E at *
  have t0 : (E != 0) = true := bne_iff_ne.2 hE
  refine HD.mono ?_
  rintro e w6 ⟨r, rfl, -, -, r3, -, hb6⟩
  have g6 := g5.trans hb6
  have rn := r3 hE
  rw [rn]
  clear HD r3 rn hE
  go_wp2_with fail
  go_ret
  exact ⟨rfl, gr_auto⟩


set_option maxRecDepth 100000 in
set_option maxHeartbeats 4000000 in
theorem sealed_main (ar k : Int) (s : Ba.Ser) (wg : Int) (w : World) (hs : s.Ok w) (a0 : (s.ds.n : Int) ≤ 100) (a1 : 0 ≤ ar ∧ ar ≤ 1048576) (a2 : 0 ≤ k ∧ k ≤ 100000) (a3 : 1 ≤ wg ∧ wg ≤ 1073741824) (he : ∀ b b2, Ba.depE (Ba.roC b 0) (Ba.oneI b2 ar) s = 0) : Calls Try.prog 9 #[.int .i64 ar, .int .i64 k, s.val, .int .i64 wg] w fun e w' => e = .returned (.bool true) ∧ Gr w w' := by
  have ms := Nat.le_trans hs.2.2.hc hs.2.2.hb
  have HSK := Lib.hid hs
  clear hs
  unfold Ba.Ser.val
  obtain ⟨fr, st, ⟨sA, sn, sc, sb, so, sX⟩⟩ := s
  simp only at *
  have hse := Lib.hid he
  clear he
  go_enter Try.func9, Try.ntmps9
  go_wp2_with fail
  refine (show (∀ W, W = _ → Calls _ _ _ W _) → Calls _ _ _ _ _ from fun h => h _ rfl) ?_
  intro W1 hW1
  have g1 : Gr w W1 := by rw [hW1]; exact gr_auto
  have k1_0 : W1.cell? ⟨w.heap.size, 0, none⟩ = some (.int .i64 fr) := by rw [hW1]; first | (simp [go_sem, *]; done) | (refine Gr.at ?_ (by assumption); exact gr_auto)
  have k1_1 : W1.cell? ⟨w.heap.size, 1, none⟩ = some (.int .i64 st) := by rw [hW1]; first | (simp [go_sem, *]; done) | (refine Gr.at ?_ (by assumption); exact gr_auto)
  have k1_2 : W1.cell? ⟨w.heap.size, 2, none⟩ = some (.slice sA sn sc) := by rw [hW1]; first | (simp [go_sem, *]; done) | (refine Gr.at ?_ (by assumption); exact gr_auto)
  clear hW1
  refine (awake_any _).mono ?_
  rintro e w2 ⟨rfl, hb2⟩
  have g2 := g1.trans hb2
  have c0 := Gr.at hb2 k1_0
  have c1 := Gr.at hb2 k1_1
  have c2 := Gr.at hb2 k1_2
  have hne : w.heap.size < w2.heap.size := World.block_lt_of_cell? _ _ c0
  clear k1_0 k1_1 k1_2
  go_wp2_with fail
  refine (show (∀ W, W = _ → Calls _ _ _ W _) → Calls _ _ _ _ _ from fun h => h _ rfl) ?_
  intro W3 hW3
  have g3 : Gr w W3 := by rw [hW3]; exact gr_auto
  have gb3_w2 : Gr w2 W3 := by (try clear g3); rw [hW3]; exact gr_auto
  have k3_0 : W3.cell? ⟨w.heap.size, 0, none⟩ = some (.int .i64 fr) := by rw [hW3]; first | (simp [go_sem, *]; done) | (refine Gr.at ?_ (by assumption); exact gr_auto)
  have k3_1 : W3.cell? ⟨w.heap.size, 1, none⟩ = some (.int .i64 st) := by rw [hW3]; first | (simp [go_sem, *]; done) | (refine Gr.at ?_ (by assumption); exact gr_auto)
  have k3_2 : W3.cell? ⟨w.heap.size, 2, none⟩ = some (.slice sA sn sc) := by rw [hW3]; first | (simp [go_sem, *]; done) | (refine Gr.at ?_ (by assumption); exact gr_auto)
  have k3_3 : W3.cell? ⟨w2.heap.size, 0, none⟩ = some (.string ⟨#[114, 111, 111, 102]⟩) := by rw [hW3]; first | (simp [go_sem, *]; done) | (refine Gr.at ?_ (by assumption); exact gr_auto)
  have k3_4 : W3.cell? ⟨w2.heap.size, 1, none⟩ = some (.int .i64 1000) := by rw [hW3]; first | (simp [go_sem, *]; done) | (refine Gr.at ?_ (by assumption); exact gr_auto)
  have k3_5 : W3.cell? ⟨w2.heap.size, 2, none⟩ = some (.int .i64 0) := by rw [hW3]; first | (simp [go_sem, *]; done) | (refine Gr.at ?_ (by assumption); exact gr_auto)
  have k3_6 : W3.cell? ⟨w2.heap.size, 3, none⟩ = some (.int .i64 0) := by rw [hW3]; first | (simp [go_sem, *]; done) | (refine Gr.at ?_ (by assumption); exact gr_auto)
  have k3_7 : W3.cell? ⟨w2.heap.size, 4, none⟩ = some (.int .i64 0) := by rw [hW3]; first | (simp [go_sem, *]; done) | (refine Gr.at ?_ (by assumption); exact gr_auto)
  have z3 : W3.frozen? ⟨w2.heap.size, 2, none⟩ = false := by rw [hW3]; simp [go_sem]
  clear hW3
  clear c0 c1 c2
  have c0 := k3_0
  have c1 := k3_1
  have c2 := k3_2
  have q0 := k3_3
  have q1 := k3_4
  have q2 := k3_5
  have q3 := k3_6
  have q4 := k3_7
  clear k3_0 k3_1 k3_2 k3_3 k3_4 k3_5 k3_6 k3_7
  have HF := few_any (Ba.roC w2.heap.size 0) ⟨none, 0, 0, 0, 0, fun _ => 0⟩ ⟨fr, st, ⟨sA, sn, sc, sb, so, sX⟩⟩ W3 (cls_at ⟨q0, q1, q2, q3, q4⟩ roD_ok0) nil_at (HSK.out.gr g3)
  rw [few_roC] at HF
  refine HF.mono ?_
  clear HF
  rintro e w4 ⟨rfl, hb4⟩
  have g4 := g3.trans hb4
  have hy4 : w.heap.size < w4.heap.size := by have := World.block_lt_of_cell? _ _ (Gr.at hb4 c0); exact this
  have hx4 : w2.heap.size < w4.heap.size := by have := World.block_lt_of_cell? _ _ (Gr.at hb4 q0); exact this
  replace z3 := Gr.free hb4 q2 z3
  replace c0 := Gr.at hb4 c0; replace c1 := Gr.at hb4 c1; replace c2 := Gr.at hb4 c2; replace q0 := Gr.at hb4 q0; replace q1 := Gr.at hb4 q1; replace q2 := Gr.at hb4 q2; replace q3 := Gr.at hb4 q3; replace q4 := Gr.at hb4 q4
  go_wp2_with fail
  refine (show (∀ W, W = _ → Calls _ _ _ W _) → Calls _ _ _ _ _ from fun h => h _ rfl) ?_
  intro W5 hW5
  have g5 : Gr w W5 := by rw [hW5]; exact gr_auto
  have gb5_w4 : Gr w4 W5 := by (try clear g5); rw [hW5]; exact gr_auto
  have k5_0 : W5.cell? ⟨w.heap.size, 0, none⟩ = some (.int .i64 fr) := by rw [hW5]; first | (simp [go_sem, *]; done) | (refine Gr.at ?_ (by assumption); exact gr_auto)
  have k5_1 : W5.cell? ⟨w.heap.size, 1, none⟩ = some (.int .i64 st) := by rw [hW5]; first | (simp [go_sem, *]; done) | (refine Gr.at ?_ (by assumption); exact gr_auto)
  have k5_2 : W5.cell? ⟨w.heap.size, 2, none⟩ = some (.slice sA sn sc) := by rw [hW5]; first | (simp [go_sem, *]; done) | (refine Gr.at ?_ (by assumption); exact gr_auto)
  have k5_3 : W5.cell? ⟨w2.heap.size, 0, none⟩ = some (.string ⟨#[114, 111, 111, 102]⟩) := by rw [hW5]; first | (simp [go_sem, *]; done) | (refine Gr.at ?_ (by assumption); exact gr_auto)
  have k5_4 : W5.cell? ⟨w2.heap.size, 1, none⟩ = some (.int .i64 1000) := by rw [hW5]; first | (simp [go_sem, *]; done) | (refine Gr.at ?_ (by assumption); exact gr_auto)
  have k5_5 : W5.cell? ⟨w2.heap.size, 2, none⟩ = some (.int .i64 0) := by rw [hW5]; first | (simp [go_sem, *]; done) | (refine Gr.at ?_ (by assumption); exact gr_auto)
  have k5_6 : W5.cell? ⟨w2.heap.size, 3, none⟩ = some (.int .i64 0) := by rw [hW5]; first | (simp [go_sem, *]; done) | (refine Gr.at ?_ (by assumption); exact gr_auto)
  have k5_7 : W5.cell? ⟨w2.heap.size, 4, none⟩ = some (.int .i64 0) := by rw [hW5]; first | (simp [go_sem, *]; done) | (refine Gr.at ?_ (by assumption); exact gr_auto)
  have k5_8 : W5.cell? ⟨w4.heap.size, 0, none⟩ = some (.int .i64 ar) := by rw [hW5]; first | (simp [go_sem, *]; done) | (refine Gr.at ?_ (by assumption); exact gr_auto)
  clear hW5
  replace z3 := Gr.free gb5_w4 q2 z3
  clear c0 c1 c2 q0 q1 q2 q3 q4
  have c0 := k5_0
  have c1 := k5_1
  have c2 := k5_2
  have q0 := k5_3
  have q1 := k5_4
  have q2 := k5_5
  have q3 := k5_6
  have q4 := k5_7
  have HD := depn_any (Ba.roC w2.heap.size 0) (Ba.oneI w4.heap.size ar) ⟨fr, st, ⟨sA, sn, sc, sb, so, sX⟩⟩ W5 (cls_at ⟨q0, q1, q2, q3, q4⟩ roD_ok0) (Ba.one_at k5_8 (by unfold Ba.i64; omega)) (HSK.out.gr g5)
  clear k5_0 k5_1 k5_2 k5_3 k5_4 k5_5 k5_6 k5_7 k5_8
  unfold RetDepN at HD
  have hE : Ba.depE (Ba.roC w2.heap.size 0) (Ba.oneI w4.heap.size ar) ⟨fr, st, ⟨sA, sn, sc, sb, so, sX⟩⟩ = 0 := hse.out _ _
  have HR := Lib.hid (Ba.dep_right hE).1
  rw [hE] at HD
  refine HD.mono ?_
  rintro e w6 ⟨r, rfl, r1, r2, -, r4, hb6⟩
  clear HD
  have rr := r2 (by trivial)
  clear r2
  obtain ⟨r2, r3⟩ := rr
  simp only at r2 r3
  have g6 := g5.trans hb6
  have hy6 : w.heap.size < w6.heap.size := by have := World.block_lt_of_cell? _ _ (Gr.at hb6 c0); exact this
  have hx6 : w2.heap.size < w6.heap.size := by have := World.block_lt_of_cell? _ _ (Gr.at hb6 q0); exact this
  have hy6b : w.heap.size < w6.heap.size + 1 := by omega
  replace z3 := Gr.free hb6 q2 z3
  replace c0 := Gr.at hb6 c0; replace c1 := Gr.at hb6 c1; replace c2 := Gr.at hb6 c2; replace q0 := Gr.at hb6 q0; replace q1 := Gr.at hb6 q1; replace q2 := Gr.at hb6 q2; replace q3 := Gr.at hb6 q3; replace q4 := Gr.at hb6 q4
  obtain ⟨rA, rn, rc, rb, ro, rX⟩ := r
  simp only at r2 r3 r4
  subst r2
  have rX2 : ∀ j, j < rn → rX j = ar * max 0 (sX j) := fun j hj => (r3 j hj).trans (Ba.roC_out HR.out hj)
  have rc1 := r1.hc; have rc2 := r1.hb
  simp only at rc1 rc2
  replace r1 := Lib.hid r1; replace r3 := Lib.hid r3; replace rX2 := Lib.hid rX2
  have hrb : w2.heap.size < rb := by have := Gr.size gb5_w4; omega
  go_wp2_with fail
  -- @a
  refine (show (∀ W, W = _ → Calls _ _ _ W _) → Calls _ _ _ _ _ from fun h => h _ rfl) ?_
  intro W7 hW7
  have g7 : Gr w W7 := by rw [hW7]; exact gr_auto
  have gb7_w6 : Gr w6 W7 := by (try clear g7); rw [hW7]; exact gr_auto
  have k7_0 : W7.cell? ⟨w.heap.size, 0, none⟩ = some (.int .i64 fr) := by rw [hW7]; first | (simp [go_sem, *]; done) | (refine Gr.at ?_ (by assumption); exact gr_auto)
  have k7_1 : W7.cell? ⟨w.heap.size, 1, none⟩ = some (.int .i64 st) := by rw [hW7]; first | (simp [go_sem, *]; done) | (refine Gr.at ?_ (by assumption); exact gr_auto)
  have k7_2 : W7.cell? ⟨w.heap.size, 2, none⟩ = some (.slice sA rn sc) := by rw [hW7]; first | (simp [go_sem, *]; done) | (refine Gr.at ?_ (by assumption); exact gr_auto)
  have k7_3 : W7.cell? ⟨w2.heap.size, 0, none⟩ = some (.string ⟨#[114, 111, 111, 102]⟩) := by rw [hW7]; first | (simp [go_sem, *]; done) | (refine Gr.at ?_ (by assumption); exact gr_auto)
  have k7_4 : W7.cell? ⟨w2.heap.size, 1, none⟩ = some (.int .i64 1000) := by rw [hW7]; first | (simp [go_sem, *]; done) | (refine Gr.at ?_ (by assumption); exact gr_auto)
  have k7_5 : W7.cell? ⟨w2.heap.size, 2, none⟩ = some (.int .i64 0) := by rw [hW7]; first | (simp [go_sem, *]; done) | (refine Gr.at ?_ (by assumption); exact gr_auto)
  have k7_6 : W7.cell? ⟨w2.heap.size, 3, none⟩ = some (.int .i64 0) := by rw [hW7]; first | (simp [go_sem, *]; done) | (refine Gr.at ?_ (by assumption); exact gr_auto)
  have k7_7 : W7.cell? ⟨w2.heap.size, 4, none⟩ = some (.int .i64 0) := by rw [hW7]; first | (simp [go_sem, *]; done) | (refine Gr.at ?_ (by assumption); exact gr_auto)
  have k7_8 : W7.cell? ⟨w6.heap.size, 0, none⟩ = some (.int .i64 ar) := by rw [hW7]; first | (simp [go_sem, *]; done) | (refine Gr.at ?_ (by assumption); exact gr_auto)
  have k7_9 : W7.cell? ⟨w6.heap.size + 1, 0, none⟩ = some (.int .i64 wg) := by rw [hW7]; first | (simp [go_sem, *]; done) | (refine Gr.at ?_ (by assumption); exact gr_auto)
  clear hW7
  replace z3 := Gr.free gb7_w6 q2 z3
  clear c0 c1 c2 q0 q1 q2 q3 q4
  have c0 := k7_0
  have c1 := k7_1
  have c2 := k7_2
  have q0 := k7_3
  have q1 := k7_4
  have q2 := k7_5
  have q3 := k7_6
  have q4 := k7_7
  have HO := of_any (Ba.roC w2.heap.size 0) (Ba.oneI w6.heap.size ar) (Ba.oneI (w6.heap.size + 1) wg) ⟨fr, st, ⟨sA, rn, sc, sb, so, sX⟩⟩ W7 (cls_at ⟨q0, q1, q2, q3, q4⟩ roD_ok0) (Ba.one_at k7_8 (by unfold Ba.i64; omega)) (Ba.one_at k7_9 (by unfold Ba.i64; omega)) (HSK.out.gr g7) (by show rn ≤ 1000; omega)
  clear k7_0 k7_1 k7_2 k7_3 k7_4 k7_5 k7_6 k7_7 k7_8 k7_9
  unfold RetOf at HO
  have hE7 : Ba.depE (Ba.roC w2.heap.size 0) (Ba.oneI w6.heap.size ar) ⟨fr, st, ⟨sA, rn, sc, sb, so, sX⟩⟩ = 0 := hse.out _ _
  obtain ⟨o1, o2, o3⟩ := Ba.roC_of (b3 := w6.heap.size + 1) hE7 (by show rn ≤ 100; omega) a3
  rw [o1] at HO
  refine HO.mono ?_
  rintro e w8 ⟨q, rfl, p1, p2, -, hb8⟩
  clear HO
  have pp := p2 (by trivial)
  clear p2
  obtain ⟨p2, p3⟩ := pp
  rw [o2] at p2
  simp only at p2 o3
  have pX : ∀ j, j < q.n → q.X j = rX j := fun j hj => by rw [p3 j hj, rX2.out j (by omega)]; exact (o3 j (by omega)).trans (Ba.roC_out (Ba.dep_right hE7).1 (show j < rn by omega))
  clear o1 o2 o3 p3 hE7
  have g8 := g7.trans hb8
  replace z3 := Gr.free hb8 q2 z3
  replace c0 := Gr.at hb8 c0; replace c1 := Gr.at hb8 c1; replace c2 := Gr.at hb8 c2; replace q0 := Gr.at hb8 q0; replace q1 := Gr.at hb8 q1; replace q2 := Gr.at hb8 q2; replace q3 := Gr.at hb8 q3; replace q4 := Gr.at hb8 q4
  have gr8 : Gr w6 w8 := gb7_w6.trans hb8
  have HEQ := equal_any q ⟨rA, rn, rc, rb, ro, rX⟩ w8 p1 (r1.out.gr gr8)
  rw [Ba.eqI_of (a := q) (b := ⟨rA, rn, rc, rb, ro, rX⟩) p2 pX] at HEQ
  simp only at HEQ
  replace HEQ := Lib.hid HEQ
  have qc1 := p1.hc; have qc2 := p1.hb
  clear p1 p2 pX
  go_wp2_with fail
  -- @b
  refine HEQ.out.mono ?_
  rintro e w9 ⟨rfl, hb9⟩
  clear HEQ
  have g9 := g8.trans hb9
  replace z3 := Gr.free hb9 q2 z3
  replace c0 := Gr.at hb9 c0; replace c1 := Gr.at hb9 c1; replace c2 := Gr.at hb9 c2; replace q0 := Gr.at hb9 q0; replace q1 := Gr.at hb9 q1; replace q2 := Gr.at hb9 q2; replace q3 := Gr.at hb9 q3; replace q4 := Gr.at hb9 q4
  have gr9 : Gr w6 w9 := gr8.trans hb9
  have HRA := Lib.hid (fun W (hh : Gr w9 W) => r1.out.gr (gr9.trans hh))
  have HSX := Lib.hid (fun i (hi : i < rn) => (HSK.out.2.2.hX i hi).1)
  have hsA := Lib.hid (HSK.out.2.2.hA)
  have HPS := Lib.hid (fun i (hi : i ≤ rn) => show 0 ≤ Ba.sumP sX i ∧ Ba.sumP sX i ≤ 1073741824 from by have h := (Ba.sum_all (X := fun i => max 0 (sX i)) (n := rn) fun i _ => by omega).2 i hi; have h2 := HR.out.rain; unfold Ba.sumP at h2 ⊢; simp only at h2; omega)
  have HPN := Lib.hid (fun i => show Ba.sumP sX (i + 1) = Ba.sumP sX i + max 0 (sX i) from rfl)
  have HDP := Lib.hid (fun i (hi : i < rn) => show 0 ≤ max 0 (sX i) ∧ max 0 (sX i) ≤ 4194304 from HR.out.dep hi)
  simp only at hsA HSX
  replace hrb := Lib.hid hrb
  replace q0 := Lib.hid q0; replace q1 := Lib.hid q1; replace q2 := Lib.hid q2; replace q3 := Lib.hid q3; replace q4 := Lib.hid q4; replace z3 := Lib.hid z3
  clear hb4 hb6 hb8 hb2
  go_wp2_with fail
  -- @c
  go_loopw [14, 96] (fun v x wr => ∃ i : Nat, i ≤ rn ∧ x = .int .i64 (i : Int) ∧ v = .int .i64 (Ba.sumP sX i) ∧ Gr w9 wr) (fun _ x _ => rn - (intOf x).toNat)
  case atStart => exact ⟨0, Nat.zero_le _, rfl, rfl, Gr.refl _⟩
  case round =>
    obtain ⟨i, hi, rfl, rfl, hg⟩ := hrel
    replace c0 := Gr.at hg c0; replace c1 := Gr.at hg c1; replace c2 := Gr.at hg c2
    by_cases hlt : i < rn
    · obtain rfl := hsA.out (by omega)
      have a0 := Gr.at (g9.trans hg) (HSX.out i hlt)
      have rA1 := (HRA.out _ hg).hA (by show 0 < rn; omega)
      simp only at rA1
      subst rA1
      have b0 := ((HRA.out _ hg).hX i hlt).1
      simp only at b0
      have hm := HDP.out i hlt
      have HV := Lib.hid (fun W => vol_ok ar (max 0 (sX i)) W (by omega) hm)
      have e1 := rX2.out i hlt
      rw [e1] at b0
      have ps := HPS.out i hi; have pn := HPS.out (i + 1) hlt; have T := Lib.hid (HPN.out i)
      rw [T.out] at pn
      have ib0 : (0 : Int) ≤ (i : Int) := by omega
      have ib1 : (i : Int) < (rn : Int) := by omega
      clear e1 HRA HSX HPS HPN HDP hsA rX2 r3 hse HR HSK r1
      generalize Ba.sumP sX i = s0 at *
      obtain ⟨x, hx⟩ : ∃ z, sX i = z := ⟨_, rfl⟩
      rw [hx] at a0 hm HV b0 pn T
      clear hx
      go_wp2_with fail
      -- @d
      refine (HV.out _).mono ?_
      rintro e w10 ⟨rfl, hb10⟩
      replace b0 := Gr.at hb10 b0; replace a0 := Gr.at hb10 a0; replace c0 := Gr.at hb10 c0; replace c1 := Gr.at hb10 c1; replace c2 := Gr.at hb10 c2
      clear HV
      go_wp2_with fail
      -- @e
      go_roundw
      case rel => exact ⟨i + 1, by omega, by go_num, by rw [T.out], hg.trans hb10⟩
      case measure => simp [intOf]; omega
    · obtain rfl : rn = i := by omega
      have gw : Gr w wr := g9.trans hg
      have y0 := Gr.at hg q0.out; have y1 := Gr.at hg q1.out; have y2 := Gr.at hg q2.out; have y3 := Gr.at hg q3.out; have y4 := Gr.at hg q4.out; have yz := Gr.free hg q2.out z3.out
      have hRW := Lib.hid (HRA.out _ hg)
      have rps := HPS.out rn (Nat.le_refl _)
      have HPR := Lib.hid rps
      have HSW := Lib.hid (Ba.roC_sum HR.out)
      simp only at HSW
      have gs : ∀ o, GrX w2.heap.size wr ((wr.setCell ⟨w2.heap.size, 2, none⟩ (.int .i64 k)).alloc o) := fun o => GrX.alloc (GrX.setCell (R := w2.heap.size) (p := ⟨w2.heap.size, 2, none⟩) (GrX.refl _ _) rfl _) o
      have m0 := fun o => GrX.at (gs o) (Nat.ne_of_lt hne) c0; have m1 := fun o => GrX.at (gs o) (Nat.ne_of_lt hne) c1; have m2 := fun o => GrX.at (gs o) (Nat.ne_of_lt hne) c2
      replace gs := Lib.hid gs
      clear HRA HSX HPS HPN HDP hsA rX2 q0 q1 q2 q3 q4 z3
      -- @f
      go_wp2_with fail
      -- @g
      refine (show (∀ W, W = _ → Calls _ _ _ W _) → Calls _ _ _ _ _ from fun h => h _ rfl) ?_
      intro WA hWA
      have gx : GrX w2.heap.size wr WA := by rw [hWA]; exact (by repeat' (first | (with_reducible assumption) | (with_reducible exact GrX.refl _ _) | (with_reducible refine GrX.drew ?_) | (with_reducible refine GrX.drewN ?_ _) | (with_reducible refine GrX.setCell ?_ ?_ _) | (rfl; done) | (with_reducible refine GrX.alloc ?_ _) | (with_reducible refine GrX.grown ?_ (by with_reducible assumption))))
      have gA : Gr w WA := GrX.gr gw (by omega) gx
      have t0 : WA.cell? ⟨w2.heap.size, 0, none⟩ = some (.string ⟨#[114, 111, 111, 102]⟩) := by rw [hWA]; exact Gr.at (Gr.alloc (Gr.refl _) _) (set_other y0 (by decide))
      have t1 : WA.cell? ⟨w2.heap.size, 1, none⟩ = some (.int .i64 1000) := by rw [hWA]; exact Gr.at (Gr.alloc (Gr.refl _) _) (set_other y1 (by decide))
      have t2 : WA.cell? ⟨w2.heap.size, 2, none⟩ = some (.int .i64 k) := by rw [hWA]; exact Gr.at (Gr.alloc (Gr.refl _) _) (set_same y2 yz)
      have t3 : WA.cell? ⟨w2.heap.size, 3, none⟩ = some (.int .i64 0) := by rw [hWA]; exact Gr.at (Gr.alloc (Gr.refl _) _) (set_other y3 (by decide))
      have t4 : WA.cell? ⟨w2.heap.size, 4, none⟩ = some (.int .i64 0) := by rw [hWA]; exact Gr.at (Gr.alloc (Gr.refl _) _) (set_other y4 (by decide))
      have tn : ∃ B, WA.cell? ⟨B, 0, none⟩ = some (.int .i64 ar) ∧ B = wr.heap.size := ⟨_, by rw [hWA]; simp [go_sem, *], rfl⟩
      obtain ⟨B, tB, hB⟩ := tn
      subst hB
      replace c0 := GrX.at gx (by omega) c0; replace c1 := GrX.at gx (by omega) c1; replace c2 := GrX.at gx (by omega) c2
      have hRA := Lib.hid (show Ba.SlI.At WA ⟨rA, rn, rc, rb, ro, rX⟩ from ⟨hRW.out.hA, hRW.out.hc, hRW.out.hb, fun i hi => ⟨GrX.at gx (by have := hrb.out; show rb ≠ w2.heap.size; omega) (hRW.out.hX i hi).1, (hRW.out.hX i hi).2⟩⟩)
      clear hWA gx m0 m1 m2 gs y0 y1 y2 y3 y4 yz hRW
      have HD := dep_any (Ba.roC w2.heap.size k) (Ba.oneI wr.heap.size ar) ⟨fr, st, ⟨sA, rn, sc, sb, so, sX⟩⟩ WA (cls_at ⟨t0, t1, t2, t3, t4⟩ (roD_ok a2)) (Ba.one_at tB (by unfold Ba.i64; omega)) (HSK.out.gr gA)
      unfold RetDep at HD
      have hEk : Ba.depE (Ba.roC w2.heap.size k) (Ba.oneI wr.heap.size ar) ⟨fr, st, ⟨sA, rn, sc, sb, so, sX⟩⟩ = 0 := Ba.roC_dep (hse.out w2.heap.size wr.heap.size) a1 a2
      have HL := Lib.hid (Ba.roC_low hEk)
      simp only at HL
      rw [hEk] at HD
      refine HD.mono ?_
      rintro e w11 ⟨p, rfl, p1, p2, -, hb11⟩
      clear HD
      have pp := p2 (by trivial)
      clear p2
      obtain ⟨p2, p3⟩ := pp
      simp only at p2 p3
      have g11 := gA.trans hb11
      replace c0 := Gr.at hb11 c0; replace c1 := Gr.at hb11 c1; replace c2 := Gr.at hb11 c2; replace t0 := Gr.at hb11 t0; replace t1 := Gr.at hb11 t1; replace t2 := Gr.at hb11 t2; replace t3 := Gr.at hb11 t3; replace t4 := Gr.at hb11 t4
      obtain ⟨SW, hSW⟩ : ∃ z, Ba.sumI (Ba.out (Ba.roC w2.heap.size k) (Ba.oneI wr.heap.size ar) ⟨fr, st, ⟨sA, rn, sc, sb, so, sX⟩⟩) rn = z := ⟨_, rfl⟩
      obtain ⟨RN, hRN⟩ : ∃ z, Ba.sumP sX rn = z := ⟨_, rfl⟩
      obtain ⟨h1, h2⟩ := HL.out
      rw [hSW, hRN] at h2
      have h0 := (h1 rn (Nat.le_refl _)).1
      rw [hSW] at h0
      have hm := Ba.mul_bd (a := ar) (A := 1048576) (b := RN) (B := 1073741824) a1 (by rw [← hRN]; exact rps)
      have HS1 := Lib.hid (fun W (hh : Gr w11 W) => lsum_any p W (p1.gr hh) (fun i hi => by have := h1 i (by omega); rw [Ba.sumI_congr (X := p.X) (Y := Ba.out (Ba.roC w2.heap.size k) (Ba.oneI wr.heap.size ar) ⟨fr, st, ⟨sA, rn, sc, sb, so, sX⟩⟩) (fun j hj => p3 j (by omega))]; rw [hSW] at this; unfold Ba.i64; omega))
      rw [show Ba.sumI p.X p.n = SW by rw [p2, ← hSW]; exact Ba.sumI_congr p3] at HS1
      have hSD : Ba.sumI rX rn = ar * RN := by rw [← hRN, ← HSW.out]; exact Ba.sumI_congr r3.out
      have rnn : ∀ i, i < rn → 0 ≤ rX i := fun i hi => by rw [r3.out i hi]; exact ((Ba.dep_right (hse.out w2.heap.size w4.heap.size)).2 i hi).1
      have HS2 := Lib.hid (fun W (hh : Gr w11 W) => lsum_any ⟨rA, rn, rc, rb, ro, rX⟩ W (hRA.out.gr (hb11.trans hh)) (fun i hi => by have h := (Ba.sum_all (X := rX) (n := rn) rnn).2 i hi; rw [hSD] at h; simp only; unfold Ba.i64; omega))
      simp only at HS2
      rw [hSD] at HS2
      have pc1 := p1.hc; have pc2 := p1.hb
      have hcf := Lib.hid (fun b2 => Ba.roC_cof (b := w2.heap.size) (b2 := b2) (k := k) (ar := ar) (s := ⟨fr, st, ⟨sA, rn, sc, sb, so, sX⟩⟩) (Ba.roC_dep (hse.out w2.heap.size wr.heap.size) a1 a2) a1.1)
      simp only at hcf
      have hSE := Lib.hid (fun b2 => show Ba.sumI (Ba.out (Ba.roC w2.heap.size k) (Ba.oneI b2 ar) ⟨fr, st, ⟨sA, rn, sc, sb, so, sX⟩⟩) rn = SW from by rw [Ba.out_one b2 wr.heap.size]; exact hSW)
      have hk0 := Lib.hid (fun (hk : k = 0) => show SW = ar * RN from by rw [← hSW, ← hRN]; subst hk; exact Ba.roC_sum (Ba.dep_right hEk).1)
      clear h1 HL hEk p1 p2 p3 hSD rnn hRA HSW r3 r1 HR rps
      obtain ⟨T, hT⟩ : ∃ z, ar * RN = z := ⟨_, rfl⟩
      rw [hT] at h2 hm HS2 hk0
      rw [hRN]
      clear hSW
      replace hRN := Lib.hid hRN
      have rn0 : 0 ≤ RN ∧ RN ≤ 1073741824 := by have := HPR.out; rw [hRN.out] at this; exact this
      have htb : -9223372036854775808 ≤ ar * RN ∧ ar * RN ≤ 9223372036854775807 := by rw [hT]; omega
      have hsl : decide (T < SW) = false := decide_eq_false (by omega)
      have hsl2 : ¬ T < SW := by omega
      clear HPR
      -- @h
      by_cases hr : 0 < RN
      · go_wp2_with fail
        refine (HS1.out _ (Gr.refl _)).mono ?_
        rintro e w12 ⟨rfl, hb12⟩
        replace c0 := Gr.at hb12 c0; replace c1 := Gr.at hb12 c1; replace c2 := Gr.at hb12 c2; replace t0 := Gr.at hb12 t0; replace t1 := Gr.at hb12 t1; replace t2 := Gr.at hb12 t2; replace t3 := Gr.at hb12 t3; replace t4 := Gr.at hb12 t4
        go_wp2_with fail
        refine (HS2.out _ hb12).mono ?_
        rintro e w13 ⟨rfl, hb13⟩
        replace c0 := Gr.at hb13 c0; replace c1 := Gr.at hb13 c1; replace c2 := Gr.at hb13 c2; replace t0 := Gr.at hb13 t0; replace t1 := Gr.at hb13 t1; replace t2 := Gr.at hb13 t2; replace t3 := Gr.at hb13 t3; replace t4 := Gr.at hb13 t4
        have g13 := g11.trans (hb12.trans hb13)
        go_wp2_with fail
        refine (HS1.out _ (hb12.trans hb13)).mono ?_
        rintro e w14 ⟨rfl, hb14⟩
        replace c0 := Gr.at hb14 c0; replace c1 := Gr.at hb14 c1; replace c2 := Gr.at hb14 c2; replace t0 := Gr.at hb14 t0; replace t1 := Gr.at hb14 t1; replace t2 := Gr.at hb14 t2; replace t3 := Gr.at hb14 t3; replace t4 := Gr.at hb14 t4
        have g14 := g13.trans hb14
        have hyw14 : w.heap.size < w14.heap.size := World.block_lt_of_cell? _ _ c0
        have hxw14 : w2.heap.size < w14.heap.size := World.block_lt_of_cell? _ _ t0
        go_wp2_with fail
        -- @iw14
        refine (show (∀ W, W = _ → Calls _ _ _ W _) → Calls _ _ _ _ _ from fun h => h _ rfl) ?_
        intro WCw14 hWCw14
        have gCw14 : Gr w WCw14 := by rw [hWCw14]; exact gr_auto
        have gbCw14_w14 : Gr w14 WCw14 := by (try clear gCw14); rw [hWCw14]; exact gr_auto
        have kCw14_0 : WCw14.cell? ⟨w.heap.size, 0, none⟩ = some (.int .i64 fr) := by rw [hWCw14]; first | (simp [go_sem, *]; done) | (refine Gr.at ?_ (by assumption); exact gr_auto)
        have kCw14_1 : WCw14.cell? ⟨w.heap.size, 1, none⟩ = some (.int .i64 st) := by rw [hWCw14]; first | (simp [go_sem, *]; done) | (refine Gr.at ?_ (by assumption); exact gr_auto)
        have kCw14_2 : WCw14.cell? ⟨w.heap.size, 2, none⟩ = some (.slice sA rn sc) := by rw [hWCw14]; first | (simp [go_sem, *]; done) | (refine Gr.at ?_ (by assumption); exact gr_auto)
        have kCw14_3 : WCw14.cell? ⟨w2.heap.size, 0, none⟩ = some (.string ⟨#[114, 111, 111, 102]⟩) := by rw [hWCw14]; first | (simp [go_sem, *]; done) | (refine Gr.at ?_ (by assumption); exact gr_auto)
        have kCw14_4 : WCw14.cell? ⟨w2.heap.size, 1, none⟩ = some (.int .i64 1000) := by rw [hWCw14]; first | (simp [go_sem, *]; done) | (refine Gr.at ?_ (by assumption); exact gr_auto)
        have kCw14_5 : WCw14.cell? ⟨w2.heap.size, 2, none⟩ = some (.int .i64 k) := by rw [hWCw14]; first | (simp [go_sem, *]; done) | (refine Gr.at ?_ (by assumption); exact gr_auto)
        have kCw14_6 : WCw14.cell? ⟨w2.heap.size, 3, none⟩ = some (.int .i64 0) := by rw [hWCw14]; first | (simp [go_sem, *]; done) | (refine Gr.at ?_ (by assumption); exact gr_auto)
        have kCw14_7 : WCw14.cell? ⟨w2.heap.size, 4, none⟩ = some (.int .i64 0) := by rw [hWCw14]; first | (simp [go_sem, *]; done) | (refine Gr.at ?_ (by assumption); exact gr_auto)
        have kCw14_8 : WCw14.cell? ⟨w14.heap.size, 0, none⟩ = some (.int .i64 ar) := by rw [hWCw14]; first | (simp [go_sem, *]; done) | (refine Gr.at ?_ (by assumption); exact gr_auto)
        clear hWCw14
        have HK := coef_any (Ba.roC w2.heap.size k) (Ba.oneI w14.heap.size ar) ⟨fr, st, ⟨sA, rn, sc, sb, so, sX⟩⟩ WCw14 (cls_at ⟨kCw14_3, kCw14_4, kCw14_5, kCw14_6, kCw14_7⟩ (roD_ok a2)) (Ba.one_at kCw14_8 (by unfold Ba.i64; omega)) (HSK.out.gr gCw14)
        obtain ⟨f1, f2⟩ := hcf.out w14.heap.size
        rw [hRN.out, hT] at f1 f2
        rw [hSE.out w14.heap.size] at f2
        replace HK := Lib.hid HK
        clear kCw14_0 kCw14_1 kCw14_2 kCw14_3 kCw14_4 kCw14_5 kCw14_6 kCw14_7 kCw14_8 c0 c1 c2 t0 t1 t2 t3 t4 HS1 HS2 hcf hSE hse
        by_cases hT0 : T = 0
        · obtain ⟨e1, e2⟩ := f1 hT0
          rw [e1, e2] at HK
          have ht : (ar * RN == 0) = true := by rw [hT, hT0]; rfl
          clear f1 f2 e1 e2
          refine HK.out.mono ?_
          rintro e w15 ⟨rfl, hb15⟩
          clear HK
          go_wp2_with fail
          go_ret
          exact ⟨rfl, gCw14.trans hb15⟩
        · obtain ⟨e1, e2⟩ := f2 hT0
          rw [e1, e2] at HK
          have ht : (ar * RN == 0) = false := by rw [hT]; exact beq_eq_false_iff_ne.2 hT0
          have hv := Ba.quot_in h0 h2 hT0
          have hv1 := Lib.hid (fun hk => show 1000 * SW / T = 1000 from by rw [hk0.out hk]; exact Ba.quot_one hT0)
          clear f1 f2 e1 e2 hk0
          generalize 1000 * SW / T = V at *
          refine HK.out.mono ?_
          rintro e w15 ⟨rfl, hb15⟩
          clear HK
          by_cases hk1 : 0 < k
          · go_wp2_with fail
            go_ret
            exact ⟨rfl, gCw14.trans hb15⟩
          · obtain rfl := hv1.out (by omega)
            go_wp2_with fail
            go_ret
            exact ⟨rfl, gCw14.trans hb15⟩
      · go_wp2_with fail
        refine (HS1.out _ (Gr.refl _)).mono ?_
        rintro e w12 ⟨rfl, hb12⟩
        replace c0 := Gr.at hb12 c0; replace c1 := Gr.at hb12 c1; replace c2 := Gr.at hb12 c2; replace t0 := Gr.at hb12 t0; replace t1 := Gr.at hb12 t1; replace t2 := Gr.at hb12 t2; replace t3 := Gr.at hb12 t3; replace t4 := Gr.at hb12 t4
        go_wp2_with fail
        refine (HS2.out _ hb12).mono ?_
        rintro e w13 ⟨rfl, hb13⟩
        replace c0 := Gr.at hb13 c0; replace c1 := Gr.at hb13 c1; replace c2 := Gr.at hb13 c2; replace t0 := Gr.at hb13 t0; replace t1 := Gr.at hb13 t1; replace t2 := Gr.at hb13 t2; replace t3 := Gr.at hb13 t3; replace t4 := Gr.at hb13 t4
        have g13 := g11.trans (hb12.trans hb13)
        have hyw13 : w.heap.size < w13.heap.size := World.block_lt_of_cell? _ _ c0
        have hxw13 : w2.heap.size < w13.heap.size := World.block_lt_of_cell? _ _ t0
        go_wp2_with fail
        -- @iw13
        refine (show (∀ W, W = _ → Calls _ _ _ W _) → Calls _ _ _ _ _ from fun h => h _ rfl) ?_
        intro WCw13 hWCw13
        have gCw13 : Gr w WCw13 := by rw [hWCw13]; exact gr_auto
        have gbCw13_w13 : Gr w13 WCw13 := by (try clear gCw13); rw [hWCw13]; exact gr_auto
        have kCw13_0 : WCw13.cell? ⟨w.heap.size, 0, none⟩ = some (.int .i64 fr) := by rw [hWCw13]; first | (simp [go_sem, *]; done) | (refine Gr.at ?_ (by assumption); exact gr_auto)
        have kCw13_1 : WCw13.cell? ⟨w.heap.size, 1, none⟩ = some (.int .i64 st) := by rw [hWCw13]; first | (simp [go_sem, *]; done) | (refine Gr.at ?_ (by assumption); exact gr_auto)
        have kCw13_2 : WCw13.cell? ⟨w.heap.size, 2, none⟩ = some (.slice sA rn sc) := by rw [hWCw13]; first | (simp [go_sem, *]; done) | (refine Gr.at ?_ (by assumption); exact gr_auto)
        have kCw13_3 : WCw13.cell? ⟨w2.heap.size, 0, none⟩ = some (.string ⟨#[114, 111, 111, 102]⟩) := by rw [hWCw13]; first | (simp [go_sem, *]; done) | (refine Gr.at ?_ (by assumption); exact gr_auto)
        have kCw13_4 : WCw13.cell? ⟨w2.heap.size, 1, none⟩ = some (.int .i64 1000) := by rw [hWCw13]; first | (simp [go_sem, *]; done) | (refine Gr.at ?_ (by assumption); exact gr_auto)
        have kCw13_5 : WCw13.cell? ⟨w2.heap.size, 2, none⟩ = some (.int .i64 k) := by rw [hWCw13]; first | (simp [go_sem, *]; done) | (refine Gr.at ?_ (by assumption); exact gr_auto)
        have kCw13_6 : WCw13.cell? ⟨w2.heap.size, 3, none⟩ = some (.int .i64 0) := by rw [hWCw13]; first | (simp [go_sem, *]; done) | (refine Gr.at ?_ (by assumption); exact gr_auto)
        have kCw13_7 : WCw13.cell? ⟨w2.heap.size, 4, none⟩ = some (.int .i64 0) := by rw [hWCw13]; first | (simp [go_sem, *]; done) | (refine Gr.at ?_ (by assumption); exact gr_auto)
        have kCw13_8 : WCw13.cell? ⟨w13.heap.size, 0, none⟩ = some (.int .i64 ar) := by rw [hWCw13]; first | (simp [go_sem, *]; done) | (refine Gr.at ?_ (by assumption); exact gr_auto)
        clear hWCw13
        have HK := coef_any (Ba.roC w2.heap.size k) (Ba.oneI w13.heap.size ar) ⟨fr, st, ⟨sA, rn, sc, sb, so, sX⟩⟩ WCw13 (cls_at ⟨kCw13_3, kCw13_4, kCw13_5, kCw13_6, kCw13_7⟩ (roD_ok a2)) (Ba.one_at kCw13_8 (by unfold Ba.i64; omega)) (HSK.out.gr gCw13)
        obtain ⟨f1, f2⟩ := hcf.out w13.heap.size
        rw [hRN.out, hT] at f1 f2
        rw [hSE.out w13.heap.size] at f2
        replace HK := Lib.hid HK
        clear kCw13_0 kCw13_1 kCw13_2 kCw13_3 kCw13_4 kCw13_5 kCw13_6 kCw13_7 kCw13_8 c0 c1 c2 t0 t1 t2 t3 t4 HS1 HS2 hcf hSE hse
        by_cases hT0 : T = 0
        · obtain ⟨e1, e2⟩ := f1 hT0
          rw [e1, e2] at HK
          have ht : (ar * RN == 0) = true := by rw [hT, hT0]; rfl
          clear f1 f2 e1 e2
          refine HK.out.mono ?_
          rintro e w15 ⟨rfl, hb15⟩
          clear HK
          go_wp2_with fail
          go_ret
          exact ⟨rfl, gCw13.trans hb15⟩
        · obtain ⟨e1, e2⟩ := f2 hT0
          rw [e1, e2] at HK
          have ht : (ar * RN == 0) = false := by rw [hT]; exact beq_eq_false_iff_ne.2 hT0
          have hv := Ba.quot_in h0 h2 hT0
          have hv1 := Lib.hid (fun hk => show 1000 * SW / T = 1000 from by rw [hk0.out hk]; exact Ba.quot_one hT0)
          clear f1 f2 e1 e2 hk0
          generalize 1000 * SW / T = V at *
          refine HK.out.mono ?_
          rintro e w15 ⟨rfl, hb15⟩
          clear HK
          by_cases hk1 : 0 < k
          · go_wp2_with fail
            go_ret
            exact ⟨rfl, gCw13.trans hb15⟩
          · obtain rfl := hv1.out (by omega)
            go_wp2_with fail
            go_ret
            exact ⟨rfl, gCw13.trans hb15⟩

theorem sealed_law (ar k : Int) (s : Ba.Ser) (wg : Int) (w : World) (_ : -9223372036854775808 ≤ ar ∧ ar ≤ 9223372036854775807) (_ : -9223372036854775808 ≤ k ∧ k ≤ 9223372036854775807) (hs : s.Ok w) (_ : -9223372036854775808 ≤ wg ∧ wg ≤ 9223372036854775807) : Calls Try.prog 9 #[.int .i64 ar, .int .i64 k, s.val, .int .i64 wg] w fun e w' => e = .returned (.bool true) ∧ Gr w w' := by
  by_cases a0 : (s.ds.n : Int) ≤ 100
  rotate_left
  · exact sealed_far ar k s wg w hs (.inl (by omega))
  by_cases a1 : 0 ≤ ar ∧ ar ≤ 1048576
  rotate_left
  · exact sealed_far ar k s wg w hs (.inr ⟨a0, by omega⟩)
  by_cases a2 : 0 ≤ k ∧ k ≤ 100000
  rotate_left
  · exact sealed_far ar k s wg w hs (.inr ⟨a0, by omega⟩)
  by_cases a3 : 1 ≤ wg ∧ wg ≤ 1073741824
  rotate_left
  · exact sealed_far ar k s wg w hs (.inr ⟨a0, by omega⟩)
  by_cases he : Ba.depE (Ba.roC 0 0) (Ba.oneI 0 ar) s = 0
  · exact sealed_main ar k s wg w hs a0 a1 a2 a3 fun b b2 => Ba.roC_dep he a1 (by omega)
  · exact sealed_err ar k s wg w hs a0 a1 a2 a3 fun b b2 h => he (Ba.roC_dep h a1 (by omega))
end Go.Proofs.Ytjighhphadfoiaa
