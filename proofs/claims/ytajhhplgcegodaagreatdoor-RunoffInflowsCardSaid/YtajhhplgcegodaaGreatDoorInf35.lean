/-
  Law 25: awake. (Printed by mko.py.)
-/
import Derived.Test.YtajhhplgcegodaaGreatDoorInf34

set_option linter.unusedVariables false
set_option linter.unusedSimpArgs false
namespace Go.Proofs.YtajhhplgcegodaaGreatDoor
open Go.RowKit
namespace Ba
theorem eqI_of {a b : SlI} (h : a.n = b.n) (hx : ∀ i, i < a.n → a.X i = b.X i) : eqI a b = true := by
  unfold eqI
  rw [decide_eq_true h, Bool.true_and, allB_iff]
  intro k hk
  simp only [beq_iff_eq]
  exact hx k hk
end Ba
theorem eq_call (r : Ba.SlI) (B n : Nat) (l : List Int) (W : World) (hr : r.At W) (rn : r.n = n) (hn : n ≤ 100) (rX : ∀ j, j < n → r.X j = Ba.exX l j) (h : ∀ i, i < n → W.cell? ⟨B, i, none⟩ = some (.int .i64 (Ba.exX l i)) ∧ Ba.i64 (Ba.exX l i)) :
    Calls Tryz.prog 11 #[.slice r.A r.n r.c, .slice (some ⟨B, 0, none⟩) n n] W fun e w' => e = .returned (.bool true) ∧ Gr W w' := by
  have q := equal_any r ⟨some ⟨B, 0, none⟩, n, n, B, 0, Ba.exX l⟩ W hr (ex_at hn h)
  rw [Ba.eqI_of rn (by intro i hi; exact rX i (by omega))] at q
  exact q
set_option maxRecDepth 100000 in
set_option maxHeartbeats 4000000 in
theorem awake_any (w : World) : Calls Tryz.prog 17 #[] w fun e w' => e = .returned (.bool true) ∧ Gr w w' := by
  go_enter Tryz.func17, Tryz.ntmps17
  go_wp2_with fail
  (first | refine name_world ?_ | refine (show (∀ W, W = _ → Calls _ _ _ W _) → Calls _ _ _ _ _ from fun h => h _ rfl) ?_); intro W2 hW2
  have g2 : Gr w W2 := by rw [hW2]; exact gr_auto
  have k2_0 : W2.cell? ⟨w.heap.size + 1, 0, none⟩ = some (.string ⟨#[104, 97, 108, 102]⟩) := by rw [hW2]; first | (simp [go_sem, *]; done) | (refine Gr.at ?_ (by assumption); exact gr_auto)
  have b2_0 : w.heap.size + 1 < W2.heap.size := World.block_lt_of_cell? _ _ k2_0
  have k2_1 : W2.cell? ⟨w.heap.size + 1, 1, none⟩ = some (.int .i64 500) := by rw [hW2]; first | (simp [go_sem, *]; done) | (refine Gr.at ?_ (by assumption); exact gr_auto)
  have k2_2 : W2.cell? ⟨w.heap.size + 1, 2, none⟩ = some (.int .i64 0) := by rw [hW2]; first | (simp [go_sem, *]; done) | (refine Gr.at ?_ (by assumption); exact gr_auto)
  have k2_3 : W2.cell? ⟨w.heap.size + 1, 3, none⟩ = some (.int .i64 1000000) := by rw [hW2]; first | (simp [go_sem, *]; done) | (refine Gr.at ?_ (by assumption); exact gr_auto)
  have k2_4 : W2.cell? ⟨w.heap.size + 1, 4, none⟩ = some (.int .i64 0) := by rw [hW2]; first | (simp [go_sem, *]; done) | (refine Gr.at ?_ (by assumption); exact gr_auto)
  have k2_5 : W2.cell? ⟨w.heap.size, 0, none⟩ = some (.string ⟨#[114, 111, 111, 102]⟩) := by rw [hW2]; first | (simp [go_sem, *]; done) | (refine Gr.at ?_ (by assumption); exact gr_auto)
  have b2_5 : w.heap.size < W2.heap.size := World.block_lt_of_cell? _ _ k2_5
  have k2_6 : W2.cell? ⟨w.heap.size, 1, none⟩ = some (.int .i64 1000) := by rw [hW2]; first | (simp [go_sem, *]; done) | (refine Gr.at ?_ (by assumption); exact gr_auto)
  have k2_7 : W2.cell? ⟨w.heap.size, 2, none⟩ = some (.int .i64 0) := by rw [hW2]; first | (simp [go_sem, *]; done) | (refine Gr.at ?_ (by assumption); exact gr_auto)
  have k2_8 : W2.cell? ⟨w.heap.size, 3, none⟩ = some (.int .i64 0) := by rw [hW2]; first | (simp [go_sem, *]; done) | (refine Gr.at ?_ (by assumption); exact gr_auto)
  have k2_9 : W2.cell? ⟨w.heap.size, 4, none⟩ = some (.int .i64 0) := by rw [hW2]; first | (simp [go_sem, *]; done) | (refine Gr.at ?_ (by assumption); exact gr_auto)
  have k2_10 : W2.cell? ⟨w.heap.size + 1 + 1, 0, none⟩ = some (.int .i64 100) := by rw [hW2]; first | (simp [go_sem, *]; done) | (refine Gr.at ?_ (by assumption); exact gr_auto)
  have b2_10 : w.heap.size + 1 + 1 < W2.heap.size := World.block_lt_of_cell? _ _ k2_10
  have k2_11 : W2.cell? ⟨w.heap.size + 1 + 1 + 1, 0, none⟩ = some (.int .i64 5) := by rw [hW2]; first | (simp [go_sem, *]; done) | (refine Gr.at ?_ (by assumption); exact gr_auto)
  have b2_11 : w.heap.size + 1 + 1 + 1 < W2.heap.size := World.block_lt_of_cell? _ _ k2_11
  have k2_12 : W2.cell? ⟨w.heap.size + 1 + 1 + 1, 1, none⟩ = some (.int .i64 0) := by rw [hW2]; first | (simp [go_sem, *]; done) | (refine Gr.at ?_ (by assumption); exact gr_auto)
  have k2_13 : W2.cell? ⟨w.heap.size + 1 + 1 + 1, 2, none⟩ = some (.int .i64 7) := by rw [hW2]; first | (simp [go_sem, *]; done) | (refine Gr.at ?_ (by assumption); exact gr_auto)
  clear hW2
  have HC := Lib.hid (roof_call w.heap.size (w.heap.size + 1 + 1) (w.heap.size + 1 + 1 + 1) W2 ⟨k2_5, k2_6, k2_7, k2_8, k2_9⟩ k2_10 k2_11 k2_12 k2_13)
  clear k2_5 k2_6 k2_7 k2_8 k2_9 k2_10 k2_11 k2_12 k2_13
  refine HC.out.mono ?_
  clear HC
  rintro e w3 ⟨r, rfl, hr, rn, rX, hb3⟩
  replace rn := Lib.hid rn; replace rX := Lib.hid rX
  have g3 := g2.trans hb3
  have c0 := Gr.at hb3 k2_0
  have c1 := Gr.at hb3 k2_1
  have c2 := Gr.at hb3 k2_2
  have c3 := Gr.at hb3 k2_3
  have c4 := Gr.at hb3 k2_4
  clear k2_0 k2_1 k2_2 k2_3 k2_4
  go_wp2_with fail
  (first | refine name_world ?_ | refine (show (∀ W, W = _ → Calls _ _ _ W _) → Calls _ _ _ _ _ from fun h => h _ rfl) ?_); intro W4 hW4
  have g4 : Gr w W4 := by rw [hW4]; exact gr_auto
  have gb4_w3 : Gr w3 W4 := by (try clear g4); rw [hW4]; exact gr_auto
  have k4_0 : W4.cell? ⟨w.heap.size + 1, 0, none⟩ = some (.string ⟨#[104, 97, 108, 102]⟩) := by rw [hW4]; first | (simp [go_sem, *]; done) | (refine Gr.at ?_ (by assumption); exact gr_auto)
  have b4_0 : w.heap.size + 1 < W4.heap.size := World.block_lt_of_cell? _ _ k4_0
  have k4_1 : W4.cell? ⟨w.heap.size + 1, 1, none⟩ = some (.int .i64 500) := by rw [hW4]; first | (simp [go_sem, *]; done) | (refine Gr.at ?_ (by assumption); exact gr_auto)
  have k4_2 : W4.cell? ⟨w.heap.size + 1, 2, none⟩ = some (.int .i64 0) := by rw [hW4]; first | (simp [go_sem, *]; done) | (refine Gr.at ?_ (by assumption); exact gr_auto)
  have k4_3 : W4.cell? ⟨w.heap.size + 1, 3, none⟩ = some (.int .i64 1000000) := by rw [hW4]; first | (simp [go_sem, *]; done) | (refine Gr.at ?_ (by assumption); exact gr_auto)
  have k4_4 : W4.cell? ⟨w.heap.size + 1, 4, none⟩ = some (.int .i64 0) := by rw [hW4]; first | (simp [go_sem, *]; done) | (refine Gr.at ?_ (by assumption); exact gr_auto)
  have k4_5 : W4.cell? ⟨w3.heap.size, 0, none⟩ = some (.int .i64 1) := by rw [hW4]; first | (simp [go_sem, *]; done) | (refine Gr.at ?_ (by assumption); exact gr_auto)
  have b4_5 : w3.heap.size < W4.heap.size := World.block_lt_of_cell? _ _ k4_5
  have k4_6 : W4.cell? ⟨w3.heap.size + 1, 0, none⟩ = some (.int .i64 1) := by rw [hW4]; first | (simp [go_sem, *]; done) | (refine Gr.at ?_ (by assumption); exact gr_auto)
  have b4_6 : w3.heap.size + 1 < W4.heap.size := World.block_lt_of_cell? _ _ k4_6
  have k4_7 : W4.cell? ⟨w3.heap.size + 1, 1, none⟩ = some (.int .i64 1) := by rw [hW4]; first | (simp [go_sem, *]; done) | (refine Gr.at ?_ (by assumption); exact gr_auto)
  have k4_8 : W4.cell? ⟨w3.heap.size + 1, 2, none⟩ = some (.int .i64 1) := by rw [hW4]; first | (simp [go_sem, *]; done) | (refine Gr.at ?_ (by assumption); exact gr_auto)
  have k4_9 : W4.cell? ⟨w3.heap.size + 1, 3, none⟩ = some (.int .i64 1) := by rw [hW4]; first | (simp [go_sem, *]; done) | (refine Gr.at ?_ (by assumption); exact gr_auto)
  clear hW4
  have HC := Lib.hid (half_call (w.heap.size + 1) w3.heap.size (w3.heap.size + 1) W4 ⟨k4_0, k4_1, k4_2, k4_3, k4_4⟩ k4_5 k4_6 k4_7 k4_8 k4_9)
  clear k4_0 k4_1 k4_2 k4_3 k4_4 k4_5 k4_6 k4_7 k4_8 k4_9 c0 c1 c2 c3 c4
  refine HC.out.mono ?_
  clear HC
  rintro e w5 ⟨q, rfl, hq, qn, qX, hb5⟩
  replace qn := Lib.hid qn; replace qX := Lib.hid qX
  have g5 := g4.trans hb5
  have gr5 := gb4_w3.trans hb5
  have hr5 := hr.gr gr5
  clear hr
  go_wp2_with fail
  (first | refine name_world ?_ | refine (show (∀ W, W = _ → Calls _ _ _ W _) → Calls _ _ _ _ _ from fun h => h _ rfl) ?_); intro W6 hW6
  have g6 : Gr w W6 := by rw [hW6]; exact gr_auto
  have gb6_w5 : Gr w5 W6 := by (try clear g6); rw [hW6]; exact gr_auto
  have k6_0 : W6.cell? ⟨w5.heap.size, 0, none⟩ = some (.int .i64 1) := by rw [hW6]; first | (simp [go_sem, *]; done) | (refine Gr.at ?_ (by assumption); exact gr_auto)
  have b6_0 : w5.heap.size < W6.heap.size := World.block_lt_of_cell? _ _ k6_0
  have k6_1 : W6.cell? ⟨w5.heap.size, 1, none⟩ = some (.int .i64 3) := by rw [hW6]; first | (simp [go_sem, *]; done) | (refine Gr.at ?_ (by assumption); exact gr_auto)
  clear hW6
  have HC := Lib.hid (dry_call w5.heap.size W6 k6_0 k6_1)
  clear k6_0 k6_1
  refine HC.out.mono ?_
  clear HC
  rintro e w7 ⟨y, rfl, hy, yn, yX, hb7⟩
  replace yn := Lib.hid yn; replace yX := Lib.hid yX
  have g7 := g6.trans hb7
  have gr7 := gb6_w5.trans hb7
  have hr7 := hr5.gr gr7
  have hq7 := hq.gr gr7
  clear hr5 hq
  go_wp2_with fail
  (first | refine name_world ?_ | refine (show (∀ W, W = _ → Calls _ _ _ W _) → Calls _ _ _ _ _ from fun h => h _ rfl) ?_); intro W8 hW8
  have g8 : Gr w W8 := by rw [hW8]; exact gr_auto
  have gb8_w7 : Gr w7 W8 := by (try clear g8); rw [hW8]; exact gr_auto
  have k8_0 : W8.cell? ⟨w7.heap.size, 0, none⟩ = some (.string ⟨#[109]⟩) := by rw [hW8]; first | (simp [go_sem, *]; done) | (refine Gr.at ?_ (by assumption); exact gr_auto)
  have b8_0 : w7.heap.size < W8.heap.size := World.block_lt_of_cell? _ _ k8_0
  have k8_1 : W8.cell? ⟨w7.heap.size, 1, none⟩ = some (.slice y.A y.n y.c) := by rw [hW8]; first | (simp [go_sem, *]; done) | (refine Gr.at ?_ (by assumption); exact gr_auto)
  have k8_2 : W8.cell? ⟨w7.heap.size + 1, 0, none⟩ = some (.int .i64 500) := by rw [hW8]; first | (simp [go_sem, *]; done) | (refine Gr.at ?_ (by assumption); exact gr_auto)
  have b8_2 : w7.heap.size + 1 < W8.heap.size := World.block_lt_of_cell? _ _ k8_2
  have k8_3 : W8.cell? ⟨w7.heap.size + 1, 1, none⟩ = some (.int .i64 0) := by rw [hW8]; first | (simp [go_sem, *]; done) | (refine Gr.at ?_ (by assumption); exact gr_auto)
  have k8_4 : W8.cell? ⟨w7.heap.size + 1, 2, none⟩ = some (.int .i64 700) := by rw [hW8]; first | (simp [go_sem, *]; done) | (refine Gr.at ?_ (by assumption); exact gr_auto)
  clear hW8
  have HC := Lib.hid (eq_call r (w7.heap.size + 1) 3 [500, 0, 700] W8 (hr7.gr gb8_w7) rn.out (by omega) rX.out (by
    intro i hi
    rcases (by omega : i = 0 ∨ i = 1 ∨ i = 2) with rfl | rfl | rfl
    · exact ⟨k8_2, by decide⟩
    · exact ⟨k8_3, by decide⟩
    · exact ⟨k8_4, by decide⟩))
  have HD := HC.out
  clear HC
  refine HD.mono ?_
  clear HD
  rintro e w9 ⟨rfl, hb9⟩
  have g9 := g8.trans hb9
  have gr9 := gb8_w7.trans hb9
  have d0 := Gr.at hb9 k8_0
  have d1 := Gr.at hb9 k8_1
  clear k8_0 k8_1 k8_2 k8_3 k8_4
  go_wp2_with fail
  (first | refine name_world ?_ | refine (show (∀ W, W = _ → Calls _ _ _ W _) → Calls _ _ _ _ _ from fun h => h _ rfl) ?_); intro W10 hW10
  have g10 : Gr w W10 := by rw [hW10]; exact gr_auto
  have gb10_w9 : Gr w9 W10 := by (try clear g10); rw [hW10]; exact gr_auto
  have k10_0 : W10.cell? ⟨w7.heap.size, 0, none⟩ = some (.string ⟨#[109]⟩) := by rw [hW10]; first | (simp [go_sem, *]; done) | (refine Gr.at ?_ (by assumption); exact gr_auto)
  have b10_0 : w7.heap.size < W10.heap.size := World.block_lt_of_cell? _ _ k10_0
  have k10_1 : W10.cell? ⟨w7.heap.size, 1, none⟩ = some (.slice y.A y.n y.c) := by rw [hW10]; first | (simp [go_sem, *]; done) | (refine Gr.at ?_ (by assumption); exact gr_auto)
  have k10_2 : W10.cell? ⟨w9.heap.size, 0, none⟩ = some (.int .i64 0) := by rw [hW10]; first | (simp [go_sem, *]; done) | (refine Gr.at ?_ (by assumption); exact gr_auto)
  have b10_2 : w9.heap.size < W10.heap.size := World.block_lt_of_cell? _ _ k10_2
  have k10_3 : W10.cell? ⟨w9.heap.size, 1, none⟩ = some (.int .i64 1) := by rw [hW10]; first | (simp [go_sem, *]; done) | (refine Gr.at ?_ (by assumption); exact gr_auto)
  have k10_4 : W10.cell? ⟨w9.heap.size, 2, none⟩ = some (.int .i64 0) := by rw [hW10]; first | (simp [go_sem, *]; done) | (refine Gr.at ?_ (by assumption); exact gr_auto)
  have k10_5 : W10.cell? ⟨w9.heap.size, 3, none⟩ = some (.int .i64 1) := by rw [hW10]; first | (simp [go_sem, *]; done) | (refine Gr.at ?_ (by assumption); exact gr_auto)
  clear hW10
  have gw10 := gr9.trans gb10_w9
  have HC := Lib.hid (eq_call q (w9.heap.size) 4 [0, 1, 0, 1] W10 (hq7.gr gw10) qn.out (by omega) qX.out (by
    intro i hi
    rcases (by omega : i = 0 ∨ i = 1 ∨ i = 2 ∨ i = 3) with rfl | rfl | rfl | rfl
    · exact ⟨k10_2, by decide⟩
    · exact ⟨k10_3, by decide⟩
    · exact ⟨k10_4, by decide⟩
    · exact ⟨k10_5, by decide⟩))
  have HD := HC.out
  clear HC
  refine HD.mono ?_
  clear HD d0 d1
  rintro e w11 ⟨rfl, hb11⟩
  have g11 := g10.trans hb11
  have gr11 := gw10.trans hb11
  have d0 := Gr.at hb11 k10_0
  have d1 := Gr.at hb11 k10_1
  clear k10_0 k10_1 k10_2 k10_3 k10_4 k10_5
  have hy7 := hy
  go_wp2_with fail
  (first | refine name_world ?_ | refine (show (∀ W, W = _ → Calls _ _ _ W _) → Calls _ _ _ _ _ from fun h => h _ rfl) ?_); intro W12 hW12
  have g12 : Gr w W12 := by rw [hW12]; exact gr_auto
  have gb12_w11 : Gr w11 W12 := by (try clear g12); rw [hW12]; exact gr_auto
  have k12_0 : W12.cell? ⟨w7.heap.size, 0, none⟩ = some (.string ⟨#[109]⟩) := by rw [hW12]; first | (simp [go_sem, *]; done) | (refine Gr.at ?_ (by assumption); exact gr_auto)
  have b12_0 : w7.heap.size < W12.heap.size := World.block_lt_of_cell? _ _ k12_0
  have k12_1 : W12.cell? ⟨w7.heap.size, 1, none⟩ = some (.slice y.A y.n y.c) := by rw [hW12]; first | (simp [go_sem, *]; done) | (refine Gr.at ?_ (by assumption); exact gr_auto)
  have k12_2 : W12.cell? ⟨w11.heap.size, 0, none⟩ = some (.int .i64 12) := by rw [hW12]; first | (simp [go_sem, *]; done) | (refine Gr.at ?_ (by assumption); exact gr_auto)
  have b12_2 : w11.heap.size < W12.heap.size := World.block_lt_of_cell? _ _ k12_2
  have k12_3 : W12.cell? ⟨w11.heap.size, 1, none⟩ = some (.int .i64 13) := by rw [hW12]; first | (simp [go_sem, *]; done) | (refine Gr.at ?_ (by assumption); exact gr_auto)
  have k12_4 : W12.cell? ⟨w11.heap.size, 2, none⟩ = some (.int .i64 37) := by rw [hW12]; first | (simp [go_sem, *]; done) | (refine Gr.at ?_ (by assumption); exact gr_auto)
  have k12_5 : W12.cell? ⟨w11.heap.size, 3, none⟩ = some (.int .i64 38) := by rw [hW12]; first | (simp [go_sem, *]; done) | (refine Gr.at ?_ (by assumption); exact gr_auto)
  have k12_6 : W12.cell? ⟨w11.heap.size, 4, none⟩ = some (.int .i64 12) := by rw [hW12]; first | (simp [go_sem, *]; done) | (refine Gr.at ?_ (by assumption); exact gr_auto)
  clear hW12
  have gw12 := gr11.trans gb12_w11
  have HC := Lib.hid (eq_call y (w11.heap.size) 5 [12, 13, 37, 38, 12] W12 (hy7.gr gw12) yn.out (by omega) yX.out (by
    intro i hi
    rcases (by omega : i = 0 ∨ i = 1 ∨ i = 2 ∨ i = 3 ∨ i = 4) with rfl | rfl | rfl | rfl | rfl
    · exact ⟨k12_2, by decide⟩
    · exact ⟨k12_3, by decide⟩
    · exact ⟨k12_4, by decide⟩
    · exact ⟨k12_5, by decide⟩
    · exact ⟨k12_6, by decide⟩))
  have HD := HC.out
  clear HC
  refine HD.mono ?_
  clear HD d0 d1
  rintro e w13 ⟨rfl, hb13⟩
  have g13 := g12.trans hb13
  have gr13 := gw12.trans hb13
  have d0 := Gr.at hb13 k12_0
  have d1 := Gr.at hb13 k12_1
  clear k12_0 k12_1 k12_2 k12_3 k12_4 k12_5 k12_6
  go_wp2_with fail
  go_ret
  exact ⟨rfl, gr_auto⟩
end Go.Proofs.YtajhhplgcegodaaGreatDoor
