/-
  Law 22: awake. (Printed by mki.py.)
-/
import Derived.Test.YtajhhplgcegodaaGreatDoorArD
import Derived.Test.YtajhhplgcegodaaGreatDoorArH
set_option linter.unusedVariables false
set_option linter.unusedSimpArgs false
namespace Go.Proofs.YtajhhplgcegodaaGreatDoor
open Go.RowKit
attribute [local go_sem ↓] Go.wp_at_zero Go.wp_at_succ
namespace Ba
def exX (l : List Int) (i : Nat) : Int := l.getD i 0
/-- The examples: gauges, records, weights. -/
def exL (b n : Nat) (l : List Int) : SlI := ⟨some ⟨b, 0, none⟩, n, n, b, 0, exX l⟩
def exG (b : Nat) : SlGauge := ⟨some ⟨b, 0, none⟩, 2, 2, b, 0, fun i => match i with | 0 => ⟨⟨#[97]⟩, 0, 0⟩ | _ + 1 => ⟨⟨#[98]⟩, 100, 0⟩⟩
def exR (b n : Nat) (l : List Int) : Ser := ⟨0, 60, exL b n l⟩
def exS (b b1 b2 : Nat) : SlSer := ⟨some ⟨b, 0, none⟩, 2, 2, b, 0, fun i => match i with | 0 => exR b1 1 [10] | _ + 1 => exR b2 1 [20]⟩
end Ba
theorem exL_at {w : World} {b n : Nat} {l : List Int} (hn : n ≤ 100) (h : ∀ i, i < n → w.cell? ⟨b, i, none⟩ = some (.int .i64 (Ba.exX l i)) ∧ Ba.i64 (Ba.exX l i)) : (Ba.exL b n l).At w := ⟨fun _ => rfl, Nat.le_refl _, by show n ≤ _; omega, fun i hi => by
  have := h i hi
  simp only [Ba.exL, Nat.zero_add]
  exact this⟩
theorem exG_at {w : World} {b : Nat} (h0 : w.cell? ⟨b, 0, none⟩ = some (.string ⟨#[97]⟩)) (h1 : w.cell? ⟨b, 1, none⟩ = some (.int .i64 0)) (h2 : w.cell? ⟨b, 2, none⟩ = some (.int .i64 0)) (h3 : w.cell? ⟨b, 3, none⟩ = some (.string ⟨#[98]⟩)) (h4 : w.cell? ⟨b, 4, none⟩ = some (.int .i64 100)) (h5 : w.cell? ⟨b, 5, none⟩ = some (.int .i64 0)) : (Ba.exG b).At w := ⟨fun _ => rfl, Nat.le_refl _, by show 2 ≤ _; omega, fun i hi => by
  rcases (by simp only [Ba.exG] at hi; omega : i = 0 ∨ i = 1) with rfl | rfl
  · exact ⟨⟨h0, h1, h2⟩, by show Ba.i64 0; unfold Ba.i64; omega, by show Ba.i64 0; unfold Ba.i64; omega, by show 1 ≤ _; omega⟩
  · exact ⟨⟨h3, h4, h5⟩, by show Ba.i64 100; unfold Ba.i64; omega, by show Ba.i64 0; unfold Ba.i64; omega, by show 1 ≤ _; omega⟩⟩
theorem exR_ok {w : World} {b n : Nat} {l : List Int} (h : (Ba.exL b n l).At w) : (Ba.exR b n l).Ok w := ⟨by show Ba.i64 0; unfold Ba.i64; omega, by show Ba.i64 60; unfold Ba.i64; omega, h⟩
theorem exS_at {w : World} {b b1 b2 : Nat} (h0 : w.cell? ⟨b, 0, none⟩ = some (.int .i64 0)) (h1 : w.cell? ⟨b, 1, none⟩ = some (.int .i64 60)) (h2 : w.cell? ⟨b, 2, none⟩ = some (.slice (some ⟨b1, 0, none⟩) 1 1)) (h3 : w.cell? ⟨b, 3, none⟩ = some (.int .i64 0)) (h4 : w.cell? ⟨b, 4, none⟩ = some (.int .i64 60)) (h5 : w.cell? ⟨b, 5, none⟩ = some (.slice (some ⟨b2, 0, none⟩) 1 1)) (k1 : (Ba.exL b1 1 [10]).At w) (k2 : (Ba.exL b2 1 [20]).At w) : (Ba.exS b b1 b2).At w := ⟨fun _ => rfl, Nat.le_refl _, by show 2 ≤ _; omega, fun i hi => by
  rcases (by simp only [Ba.exS] at hi; omega : i = 0 ∨ i = 1) with rfl | rfl
  · exact ⟨⟨h0, h1, h2⟩, exR_ok k1⟩
  · exact ⟨⟨h3, h4, h5⟩, exR_ok k2⟩⟩
namespace Ba
set_option maxRecDepth 100000 in
theorem ex_near (b : Nat) : gasB (exG b) = true ∧ nst (exG b) 50 7 2 = 0 ∧ nst (exG b) 51 7 2 = 1 ∧ ivX (exG b) 25 0 0 = 1073741824 ∧ ivX (exG b) 25 0 1 = 119304647 := by
  refine ⟨by kernel_rfl, by kernel_rfl, by kernel_rfl, by kernel_rfl, by kernel_rfl⟩
set_option maxRecDepth 100000 in
theorem ex_mean (b b1 b2 b3 : Nat) : giE (exS b b1 b2) = 0 ∧ fitB (exS b b1 b2) = true ∧ wtB (exL b3 2 [1, 2]) = true ∧ cmN (exS b b1 b2) = 1 ∧ frI (exS b b1 b2) 2 = 0 ∧ mnV (exS b b1 b2) (exL b3 2 [1, 2]) 0 = 16 := by
  refine ⟨by kernel_rfl, by kernel_rfl, by kernel_rfl, by kernel_rfl, by kernel_rfl, by kernel_rfl⟩
set_option maxRecDepth 100000 in
theorem ex_red (b : Nat) : serB (exR b 2 [1000, -1]) = true ∧ rdX (rdF 10000000) 1000 = 850 ∧ rdX (rdF 10000000) (-1) = -1 := by
  refine ⟨by kernel_rfl, by kernel_rfl, by kernel_rfl⟩
end Ba
theorem near_call (b : Nat) (W : World) (h : (Ba.exG b).At W) : (∀ W', Gr W W' → Calls Tryz.prog 26 #[.slice (some ⟨b, 0, none⟩) 2 2, .agg #[.int .i64 50, .int .i64 7]] W' fun e w' => e = .returned (.tuple #[.int .i64 0, .int .i64 0]) ∧ Gr W' w') ∧ (∀ W', Gr W W' → Calls Tryz.prog 26 #[.slice (some ⟨b, 0, none⟩) 2 2, .agg #[.int .i64 51, .int .i64 7]] W' fun e w' => e = .returned (.tuple #[.int .i64 1, .int .i64 0]) ∧ Gr W' w') ∧ (∀ W', Gr W W' → Calls Tryz.prog 27 #[.slice (some ⟨b, 0, none⟩) 2 2, .agg #[.int .i64 25, .int .i64 0]] W' fun e w' => ∃ r : Ba.SlI, e = .returned (.tuple #[.slice r.A r.n r.c, .int .i64 0]) ∧ r.At w' ∧ r.n = 2 ∧ (∀ i, i < 2 → r.X i = Ba.exX [1073741824, 119304647] i) ∧ Gr W' w') := by
  obtain ⟨e1, e2, e3, e4, e5⟩ := Ba.ex_near b
  refine ⟨fun W' hW => ?_, fun W' hW => ?_, fun W' hW => ?_⟩
  · have z := ne_ok (Ba.exG b) 50 7 W' (h.gr hW) e1 (by decide)
    rw [show (Ba.exG b).n = 2 from rfl, e2] at z
    exact z
  · have z := ne_ok (Ba.exG b) 51 7 W' (h.gr hW) e1 (by decide)
    rw [show (Ba.exG b).n = 2 from rfl, e3] at z
    exact z
  · have z := inv_any (Ba.exG b) 25 0 W' (h.gr hW) e1 (by decide)
    refine z.mono fun e w' ⟨r, h1, h2, h3, h4, h5⟩ => ⟨r, h1, h2, h3, fun i hi => ?_, h5⟩
    rw [h4 i hi]
    rcases (by omega : i = 0 ∨ i = 1) with rfl | rfl
    · exact e4
    · exact e5
theorem mean_call (b b1 b2 b3 : Nat) (W : World) (h : (Ba.exS b b1 b2).At W) (hu : (Ba.exL b3 2 [1, 2]).At W) : Calls Tryz.prog 28 #[.slice (some ⟨b, 0, none⟩) 2 2, .slice (some ⟨b3, 0, none⟩) 2 2] W fun e w' => ∃ r : Ba.SlI, e = .returned (.tuple #[.agg #[.int .i64 0, .int .i64 60, .slice r.A r.n r.c], .int .i64 0]) ∧ r.At w' ∧ r.n = 1 ∧ (∀ i, i < 1 → r.X i = Ba.exX [16] i) ∧ Gr W w' := by
  obtain ⟨e1, e2, e3, e4, e5, e6⟩ := Ba.ex_mean b b1 b2 b3
  have z := mn_ok (Ba.exS b b1 b2) (Ba.exL b3 2 [1, 2]) W h hu e1 rfl e3 e2
  rw [show (Ba.exS b b1 b2).n = 2 from rfl, e5] at z
  refine z.mono fun e w' ⟨r, h1, h2, h3, h4, h5⟩ => ⟨r, h1, h2, by rw [e4] at h3; omega, fun i hi => ?_, h5⟩
  obtain rfl : i = 0 := by omega
  rw [h4 0 (by rw [e4]; omega)]
  rw [show (0 : Int) + ((0 : Nat) : Int) * ((Ba.exS b b1 b2).D 0).st = 0 by simp]
  exact e6
theorem red_call (b : Nat) (W : World) (h : (Ba.exL b 2 [1000, -1]).At W) : Calls Tryz.prog 29 #[.agg #[.int .i64 0, .int .i64 60, .slice (some ⟨b, 0, none⟩) 2 2], .int .i64 10000000] W fun e w' => ∃ r : Ba.SlI, e = .returned (.tuple #[.agg #[.int .i64 0, .int .i64 60, .slice r.A r.n r.c], .int .i64 0]) ∧ r.At w' ∧ r.n = 2 ∧ (∀ i, i < 2 → r.X i = Ba.exX [850, -1] i) ∧ Gr W w' := by
  obtain ⟨e1, e2, e3⟩ := Ba.ex_red b
  have z := red_ok (Ba.exR b 2 [1000, -1]) 10000000 W (exR_ok h) e1 (by omega)
  refine z.mono fun e w' ⟨r, h1, h2, h3, h4, h5⟩ => ⟨r, h1, h2, h3, fun i hi => ?_, h5⟩
  rw [h4 i hi]
  rcases (by omega : i = 0 ∨ i = 1) with rfl | rfl
  · exact e2
  · exact e3
theorem eq_call (r : Ba.SlI) (B n : Nat) (l : List Int) (W : World) (hr : r.At W) (rn : r.n = n) (rX : ∀ j, j < n → r.X j = Ba.exX l j) (h : (Ba.exL B n l).At W) :
    Calls Tryz.prog 11 #[.slice r.A r.n r.c, .slice (some ⟨B, 0, none⟩) n n] W fun e w' => e = .returned (.bool true) ∧ Gr W w' := by
  have q := equal_any r (Ba.exL B n l) W hr h
  rw [Ba.eqI_of (b := Ba.exL B n l) rn (by intro i hi; exact rX i (by omega))] at q
  exact q

set_option maxRecDepth 100000 in
set_option maxHeartbeats 4000000 in
theorem awake_any (w : World) : Calls Tryz.prog 6 #[] w fun e w' => e = .returned (.bool true) ∧ Gr w w' := by
  go_enter Tryz.func6, Tryz.ntmps6
  go_wp2_with fail
  (first | refine name_world ?_ | refine (show (∀ W, W = _ → Calls _ _ _ W _) → Calls _ _ _ _ _ from fun h => h _ rfl) ?_); intro W1 hW1
  have g1 : Gr w W1 := by rw [hW1]; exact gr_auto
  have k1_0 : W1.cell? ⟨w.heap.size, 0, none⟩ = some (.string ⟨#[97]⟩) := by rw [hW1]; first | (simp [go_sem, *]; done) | (refine Gr.at ?_ (by assumption); exact gr_auto)
  have b1_0 : w.heap.size < W1.heap.size := World.block_lt_of_cell? _ _ k1_0
  have k1_1 : W1.cell? ⟨w.heap.size, 1, none⟩ = some (.int .i64 0) := by rw [hW1]; first | (simp [go_sem, *]; done) | (refine Gr.at ?_ (by assumption); exact gr_auto)
  have k1_2 : W1.cell? ⟨w.heap.size, 2, none⟩ = some (.int .i64 0) := by rw [hW1]; first | (simp [go_sem, *]; done) | (refine Gr.at ?_ (by assumption); exact gr_auto)
  have k1_3 : W1.cell? ⟨w.heap.size, 3, none⟩ = some (.string ⟨#[98]⟩) := by rw [hW1]; first | (simp [go_sem, *]; done) | (refine Gr.at ?_ (by assumption); exact gr_auto)
  have k1_4 : W1.cell? ⟨w.heap.size, 4, none⟩ = some (.int .i64 100) := by rw [hW1]; first | (simp [go_sem, *]; done) | (refine Gr.at ?_ (by assumption); exact gr_auto)
  have k1_5 : W1.cell? ⟨w.heap.size, 5, none⟩ = some (.int .i64 0) := by rw [hW1]; first | (simp [go_sem, *]; done) | (refine Gr.at ?_ (by assumption); exact gr_auto)
  clear hW1
  obtain ⟨N1, N2, N3⟩ := near_call w.heap.size W1 (exG_at k1_0 k1_1 k1_2 k1_3 k1_4 k1_5)
  replace N1 := Lib.hid N1; replace N2 := Lib.hid N2; replace N3 := Lib.hid N3
  clear k1_0 k1_1 k1_2 k1_3 k1_4 k1_5
  refine (N1.out _ (Gr.refl _)).mono ?_
  rintro e w2 ⟨rfl, hb2⟩
  have g2 := g1.trans hb2
  clear N1
  go_wp2_with fail
  refine (N2.out _ hb2).mono ?_
  rintro e w3 ⟨rfl, hb3⟩
  have g3 := g2.trans hb3
  clear N2
  go_wp2_with fail
  refine (N3.out _ (hb2.trans hb3)).mono ?_
  rintro e w5 ⟨r, rfl, hr, rn, rX, hb5⟩
  have g5 := g3.trans hb5
  clear N3
  replace rn := Lib.hid rn; replace rX := Lib.hid rX; replace hr := Lib.hid hr
  go_wp2_with fail
  -- @a
  (first | refine name_world ?_ | refine (show (∀ W, W = _ → Calls _ _ _ W _) → Calls _ _ _ _ _ from fun h => h _ rfl) ?_); intro W6 hW6
  have g6 : Gr w W6 := by rw [hW6]; exact gr_auto
  have gb6_w5 : Gr w5 W6 := by (try clear g6); rw [hW6]; exact gr_auto
  have k6_0 : W6.cell? ⟨w5.heap.size, 0, none⟩ = some (.int .i64 10) := by rw [hW6]; first | (simp [go_sem, *]; done) | (refine Gr.at ?_ (by assumption); exact gr_auto)
  have b6_0 : w5.heap.size < W6.heap.size := World.block_lt_of_cell? _ _ k6_0
  have k6_1 : W6.cell? ⟨w5.heap.size + 1, 0, none⟩ = some (.int .i64 20) := by rw [hW6]; first | (simp [go_sem, *]; done) | (refine Gr.at ?_ (by assumption); exact gr_auto)
  have b6_1 : w5.heap.size + 1 < W6.heap.size := World.block_lt_of_cell? _ _ k6_1
  have k6_2 : W6.cell? ⟨w5.heap.size + 1 + 1, 0, none⟩ = some (.int .i64 0) := by rw [hW6]; first | (simp [go_sem, *]; done) | (refine Gr.at ?_ (by assumption); exact gr_auto)
  have b6_2 : w5.heap.size + 1 + 1 < W6.heap.size := World.block_lt_of_cell? _ _ k6_2
  have k6_3 : W6.cell? ⟨w5.heap.size + 1 + 1, 1, none⟩ = some (.int .i64 60) := by rw [hW6]; first | (simp [go_sem, *]; done) | (refine Gr.at ?_ (by assumption); exact gr_auto)
  have k6_4 : W6.cell? ⟨w5.heap.size + 1 + 1, 2, none⟩ = some (.slice (some ⟨w5.heap.size, 0, none⟩) 1 1) := by rw [hW6]; first | (simp [go_sem, *]; done) | (refine Gr.at ?_ (by assumption); exact gr_auto)
  have k6_5 : W6.cell? ⟨w5.heap.size + 1 + 1, 3, none⟩ = some (.int .i64 0) := by rw [hW6]; first | (simp [go_sem, *]; done) | (refine Gr.at ?_ (by assumption); exact gr_auto)
  have k6_6 : W6.cell? ⟨w5.heap.size + 1 + 1, 4, none⟩ = some (.int .i64 60) := by rw [hW6]; first | (simp [go_sem, *]; done) | (refine Gr.at ?_ (by assumption); exact gr_auto)
  have k6_7 : W6.cell? ⟨w5.heap.size + 1 + 1, 5, none⟩ = some (.slice (some ⟨w5.heap.size + 1, 0, none⟩) 1 1) := by rw [hW6]; first | (simp [go_sem, *]; done) | (refine Gr.at ?_ (by assumption); exact gr_auto)
  have k6_8 : W6.cell? ⟨w5.heap.size + 1 + 1 + 1, 0, none⟩ = some (.int .i64 1) := by rw [hW6]; first | (simp [go_sem, *]; done) | (refine Gr.at ?_ (by assumption); exact gr_auto)
  have b6_8 : w5.heap.size + 1 + 1 + 1 < W6.heap.size := World.block_lt_of_cell? _ _ k6_8
  have k6_9 : W6.cell? ⟨w5.heap.size + 1 + 1 + 1, 1, none⟩ = some (.int .i64 2) := by rw [hW6]; first | (simp [go_sem, *]; done) | (refine Gr.at ?_ (by assumption); exact gr_auto)
  clear hW6
  have HC := mean_call (w5.heap.size + 1 + 1) w5.heap.size (w5.heap.size + 1) (w5.heap.size + 1 + 1 + 1) W6 (exS_at k6_2 k6_3 k6_4 k6_5 k6_6 k6_7 (exL_at (b := w5.heap.size) (n := 1) (l := [10]) (by omega) (by intro i hi; obtain rfl : i = 0 := (by omega); exact ⟨k6_0, by unfold Ba.i64; decide⟩)) (exL_at (b := w5.heap.size + 1) (n := 1) (l := [20]) (by omega) (by intro i hi; obtain rfl : i = 0 := (by omega); exact ⟨k6_1, by unfold Ba.i64; decide⟩))) (exL_at (b := w5.heap.size + 1 + 1 + 1) (n := 2) (l := [1, 2]) (by omega) (by intro i hi; rcases (by omega : i = 0 ∨ i = 1) with rfl | rfl; (exact ⟨k6_8, by unfold Ba.i64; decide⟩); (exact ⟨k6_9, by unfold Ba.i64; decide⟩)))
  replace HC := Lib.hid HC
  clear k6_0 k6_1 k6_2 k6_3 k6_4 k6_5 k6_6 k6_7 k6_8 k6_9
  refine HC.out.mono ?_
  clear HC
  rintro e w7 ⟨q, rfl, hq, qn, qX, hb7⟩
  have g7 := g6.trans hb7
  have gr7 : Gr w5 w7 := gb6_w5.trans hb7
  replace qn := Lib.hid qn; replace qX := Lib.hid qX; replace hq := Lib.hid hq
  go_wp2_with fail
  -- @b
  (first | refine name_world ?_ | refine (show (∀ W, W = _ → Calls _ _ _ W _) → Calls _ _ _ _ _ from fun h => h _ rfl) ?_); intro W8 hW8
  have g8 : Gr w W8 := by rw [hW8]; exact gr_auto
  have gb8_w7 : Gr w7 W8 := by (try clear g8); rw [hW8]; exact gr_auto
  have k8_0 : W8.cell? ⟨w7.heap.size, 0, none⟩ = some (.int .i64 0) := by rw [hW8]; first | (simp [go_sem, *]; done) | (refine Gr.at ?_ (by assumption); exact gr_auto)
  have b8_0 : w7.heap.size < W8.heap.size := World.block_lt_of_cell? _ _ k8_0
  have k8_1 : W8.cell? ⟨w7.heap.size, 1, none⟩ = some (.int .i64 60) := by rw [hW8]; first | (simp [go_sem, *]; done) | (refine Gr.at ?_ (by assumption); exact gr_auto)
  have k8_2 : W8.cell? ⟨w7.heap.size, 2, none⟩ = some (.slice q.A q.n q.c) := by rw [hW8]; first | (simp [go_sem, *]; done) | (refine Gr.at ?_ (by assumption); exact gr_auto)
  have k8_3 : W8.cell? ⟨w7.heap.size + 1, 0, none⟩ = some (.int .i64 1000) := by rw [hW8]; first | (simp [go_sem, *]; done) | (refine Gr.at ?_ (by assumption); exact gr_auto)
  have b8_3 : w7.heap.size + 1 < W8.heap.size := World.block_lt_of_cell? _ _ k8_3
  have k8_4 : W8.cell? ⟨w7.heap.size + 1, 1, none⟩ = some (.int .i64 (-1)) := by rw [hW8]; first | (simp [go_sem, *]; done) | (refine Gr.at ?_ (by assumption); exact gr_auto)
  clear hW8
  have HC := Lib.hid (red_call (w7.heap.size + 1) W8 (exL_at (b := w7.heap.size + 1) (n := 2) (l := [1000, -1]) (by omega) (by intro i hi; rcases (by omega : i = 0 ∨ i = 1) with rfl | rfl; (exact ⟨k8_3, by unfold Ba.i64; decide⟩); (exact ⟨k8_4, by unfold Ba.i64; decide⟩))))
  refine HC.out.mono ?_
  clear HC
  rintro e w9 ⟨y, rfl, hy, yn, yX, hb9⟩
  have g9 := g8.trans hb9
  have gr9 : Gr w7 w9 := gb8_w7.trans hb9
  replace yn := Lib.hid yn; replace yX := Lib.hid yX; replace hy := Lib.hid hy
  have c0 := Gr.at hb9 k8_0; have c1 := Gr.at hb9 k8_1; have c2 := Gr.at hb9 k8_2
  clear k8_0 k8_1 k8_2 k8_3 k8_4
  go_wp2_with fail
  -- @c
  (first | refine name_world ?_ | refine (show (∀ W, W = _ → Calls _ _ _ W _) → Calls _ _ _ _ _ from fun h => h _ rfl) ?_); intro W10 hW10
  have g10 : Gr w W10 := by rw [hW10]; exact gr_auto
  have gb10_w9 : Gr w9 W10 := by (try clear g10); rw [hW10]; exact gr_auto
  have k10_0 : W10.cell? ⟨w7.heap.size, 0, none⟩ = some (.int .i64 0) := by rw [hW10]; first | (simp [go_sem, *]; done) | (refine Gr.at ?_ (by assumption); exact gr_auto)
  have b10_0 : w7.heap.size < W10.heap.size := World.block_lt_of_cell? _ _ k10_0
  have k10_1 : W10.cell? ⟨w7.heap.size, 1, none⟩ = some (.int .i64 60) := by rw [hW10]; first | (simp [go_sem, *]; done) | (refine Gr.at ?_ (by assumption); exact gr_auto)
  have k10_2 : W10.cell? ⟨w7.heap.size, 2, none⟩ = some (.slice q.A q.n q.c) := by rw [hW10]; first | (simp [go_sem, *]; done) | (refine Gr.at ?_ (by assumption); exact gr_auto)
  have k10_3 : W10.cell? ⟨w9.heap.size, 0, none⟩ = some (.int .i64 0) := by rw [hW10]; first | (simp [go_sem, *]; done) | (refine Gr.at ?_ (by assumption); exact gr_auto)
  have b10_3 : w9.heap.size < W10.heap.size := World.block_lt_of_cell? _ _ k10_3
  have k10_4 : W10.cell? ⟨w9.heap.size, 1, none⟩ = some (.int .i64 60) := by rw [hW10]; first | (simp [go_sem, *]; done) | (refine Gr.at ?_ (by assumption); exact gr_auto)
  have k10_5 : W10.cell? ⟨w9.heap.size, 2, none⟩ = some (.slice y.A y.n y.c) := by rw [hW10]; first | (simp [go_sem, *]; done) | (refine Gr.at ?_ (by assumption); exact gr_auto)
  have k10_6 : W10.cell? ⟨w9.heap.size + 1, 0, none⟩ = some (.int .i64 1073741824) := by rw [hW10]; first | (simp [go_sem, *]; done) | (refine Gr.at ?_ (by assumption); exact gr_auto)
  have b10_6 : w9.heap.size + 1 < W10.heap.size := World.block_lt_of_cell? _ _ k10_6
  have k10_7 : W10.cell? ⟨w9.heap.size + 1, 1, none⟩ = some (.int .i64 119304647) := by rw [hW10]; first | (simp [go_sem, *]; done) | (refine Gr.at ?_ (by assumption); exact gr_auto)
  clear hW10
  have HC := Lib.hid (eq_call r (w9.heap.size + 1) 2 [1073741824, 119304647] W10 (hr.out.gr (gr7.trans (gr9.trans gb10_w9))) rn.out rX.out (exL_at (b := w9.heap.size + 1) (n := 2) (l := [1073741824, 119304647]) (by omega) (by intro i hi; rcases (by omega : i = 0 ∨ i = 1) with rfl | rfl; (exact ⟨k10_6, by unfold Ba.i64; decide⟩); (exact ⟨k10_7, by unfold Ba.i64; decide⟩))))
  refine HC.out.mono ?_
  clear HC
  rintro e w11 ⟨rfl, hb11⟩
  have g11 := g10.trans hb11
  clear c0 c1 c2
  have c0 := Gr.at hb11 k10_0
  have c1 := Gr.at hb11 k10_1
  have c2 := Gr.at hb11 k10_2
  have c3 := Gr.at hb11 k10_3
  have c4 := Gr.at hb11 k10_4
  have c5 := Gr.at hb11 k10_5
  clear k10_0 k10_1 k10_2 k10_3 k10_4 k10_5 k10_6 k10_7
  go_wp2_with fail
  -- @d
  (first | refine name_world ?_ | refine (show (∀ W, W = _ → Calls _ _ _ W _) → Calls _ _ _ _ _ from fun h => h _ rfl) ?_); intro W12 hW12
  have g12 : Gr w W12 := by rw [hW12]; exact gr_auto
  have gb12_w11 : Gr w11 W12 := by (try clear g12); rw [hW12]; exact gr_auto
  have k12_0 : W12.cell? ⟨w7.heap.size, 0, none⟩ = some (.int .i64 0) := by rw [hW12]; first | (simp [go_sem, *]; done) | (refine Gr.at ?_ (by assumption); exact gr_auto)
  have b12_0 : w7.heap.size < W12.heap.size := World.block_lt_of_cell? _ _ k12_0
  have k12_1 : W12.cell? ⟨w7.heap.size, 1, none⟩ = some (.int .i64 60) := by rw [hW12]; first | (simp [go_sem, *]; done) | (refine Gr.at ?_ (by assumption); exact gr_auto)
  have k12_2 : W12.cell? ⟨w7.heap.size, 2, none⟩ = some (.slice q.A q.n q.c) := by rw [hW12]; first | (simp [go_sem, *]; done) | (refine Gr.at ?_ (by assumption); exact gr_auto)
  have k12_3 : W12.cell? ⟨w9.heap.size, 0, none⟩ = some (.int .i64 0) := by rw [hW12]; first | (simp [go_sem, *]; done) | (refine Gr.at ?_ (by assumption); exact gr_auto)
  have b12_3 : w9.heap.size < W12.heap.size := World.block_lt_of_cell? _ _ k12_3
  have k12_4 : W12.cell? ⟨w9.heap.size, 1, none⟩ = some (.int .i64 60) := by rw [hW12]; first | (simp [go_sem, *]; done) | (refine Gr.at ?_ (by assumption); exact gr_auto)
  have k12_5 : W12.cell? ⟨w9.heap.size, 2, none⟩ = some (.slice y.A y.n y.c) := by rw [hW12]; first | (simp [go_sem, *]; done) | (refine Gr.at ?_ (by assumption); exact gr_auto)
  have k12_6 : W12.cell? ⟨w11.heap.size, 0, none⟩ = some (.int .i64 16) := by rw [hW12]; first | (simp [go_sem, *]; done) | (refine Gr.at ?_ (by assumption); exact gr_auto)
  have b12_6 : w11.heap.size < W12.heap.size := World.block_lt_of_cell? _ _ k12_6
  clear hW12
  have HC := Lib.hid (eq_call q w11.heap.size 1 [16] W12 (hq.out.gr (gr9.trans (gb10_w9.trans (hb11.trans gb12_w11)))) qn.out qX.out (exL_at (b := w11.heap.size) (n := 1) (l := [16]) (by omega) (by intro i hi; obtain rfl : i = 0 := (by omega); exact ⟨k12_6, by unfold Ba.i64; decide⟩)))
  refine HC.out.mono ?_
  clear HC
  rintro e w13 ⟨rfl, hb13⟩
  have g13 := g12.trans hb13
  clear c0 c1 c2 c3 c4 c5
  have c0 := Gr.at hb13 k12_0
  have c1 := Gr.at hb13 k12_1
  have c2 := Gr.at hb13 k12_2
  have c3 := Gr.at hb13 k12_3
  have c4 := Gr.at hb13 k12_4
  have c5 := Gr.at hb13 k12_5
  clear k12_0 k12_1 k12_2 k12_3 k12_4 k12_5 k12_6
  go_wp2_with fail
  -- @e
  (first | refine name_world ?_ | refine (show (∀ W, W = _ → Calls _ _ _ W _) → Calls _ _ _ _ _ from fun h => h _ rfl) ?_); intro W14 hW14
  have g14 : Gr w W14 := by rw [hW14]; exact gr_auto
  have gb14_w13 : Gr w13 W14 := by (try clear g14); rw [hW14]; exact gr_auto
  have k14_0 : W14.cell? ⟨w9.heap.size, 0, none⟩ = some (.int .i64 0) := by rw [hW14]; first | (simp [go_sem, *]; done) | (refine Gr.at ?_ (by assumption); exact gr_auto)
  have b14_0 : w9.heap.size < W14.heap.size := World.block_lt_of_cell? _ _ k14_0
  have k14_1 : W14.cell? ⟨w9.heap.size, 1, none⟩ = some (.int .i64 60) := by rw [hW14]; first | (simp [go_sem, *]; done) | (refine Gr.at ?_ (by assumption); exact gr_auto)
  have k14_2 : W14.cell? ⟨w9.heap.size, 2, none⟩ = some (.slice y.A y.n y.c) := by rw [hW14]; first | (simp [go_sem, *]; done) | (refine Gr.at ?_ (by assumption); exact gr_auto)
  have k14_3 : W14.cell? ⟨w13.heap.size, 0, none⟩ = some (.int .i64 850) := by rw [hW14]; first | (simp [go_sem, *]; done) | (refine Gr.at ?_ (by assumption); exact gr_auto)
  have b14_3 : w13.heap.size < W14.heap.size := World.block_lt_of_cell? _ _ k14_3
  have k14_4 : W14.cell? ⟨w13.heap.size, 1, none⟩ = some (.int .i64 (-1)) := by rw [hW14]; first | (simp [go_sem, *]; done) | (refine Gr.at ?_ (by assumption); exact gr_auto)
  clear hW14
  have HC := Lib.hid (eq_call y w13.heap.size 2 [850, -1] W14 (hy.out.gr (gb10_w9.trans (hb11.trans (gb12_w11.trans (hb13.trans gb14_w13))))) yn.out yX.out (exL_at (b := w13.heap.size) (n := 2) (l := [850, -1]) (by omega) (by intro i hi; rcases (by omega : i = 0 ∨ i = 1) with rfl | rfl; (exact ⟨k14_3, by unfold Ba.i64; decide⟩); (exact ⟨k14_4, by unfold Ba.i64; decide⟩))))
  refine HC.out.mono ?_
  clear HC
  rintro e w15 ⟨rfl, hb15⟩
  clear c0 c1 c2 c3 c4 c5
  clear k14_0 k14_1 k14_2 k14_3 k14_4
  go_wp2_with fail
  go_ret
  exact ⟨rfl, g14.trans hb15⟩
end Go.Proofs.YtajhhplgcegodaaGreatDoor
