/-
  Law 22: ArealReduces. (Printed by mkk.py.)
-/
import Derived.Test.YtnfjebfmfjpepaaArI
import Derived.Test.YtnfjebfmfjpepaaArJ
set_option linter.unusedVariables false
set_option linter.unusedSimpArgs false
namespace Go.Proofs.Ytnfjebfmfjpepaa
open Go.RowKit
attribute [local go_sem ↓] Go.wp_at_zero Go.wp_at_succ
namespace Ba
theorem rdF_mono {a b : Int} (h : 0 ≤ a ∧ a ≤ b) (hb : b ≤ 1073741824) : rdF b ≤ rdF a := by
  obtain ⟨q, hq⟩ : ∃ z, 300 * a / (a + 10000000) = z := ⟨_, rfl⟩
  have q0 : 0 ≤ q := by rw [← hq]; exact Int.ediv_nonneg (by omega) (by omega)
  have q1 : q ≤ 300 := by rw [← hq]; exact Int.ediv_le_of_le_mul (by omega) (by omega)
  have m : q * (a + 10000000) ≤ 300 * a := by rw [← hq]; exact Int.ediv_mul_le _ (by omega)
  have n : q * (b - a) ≤ 300 * (b - a) := Int.mul_le_mul_of_nonneg_right q1 (by omega)
  have e : q * (b + 10000000) = q * (a + 10000000) + q * (b - a) := by rw [← Int.mul_add]; congr 1; omega
  have r : q ≤ 300 * b / (b + 10000000) := Int.le_ediv_of_mul_le (by omega) (by rw [e]; omega)
  unfold rdF
  rw [hq]
  omega
/-- What a reduced depth is like. -/
theorem rd_facts {f g x : Int} (hf : 700 ≤ f ∧ f ≤ 1000) (hg : 700 ≤ g ∧ g ≤ f) (hx : 0 ≤ x) : rdX f x ≤ x ∧ rdX g x ≤ rdX f x ∧ x * 7 / 10 ≤ rdX g x := by
  unfold rdX
  by_cases c : 0 < x
  · rw [if_pos c, if_pos c]
    have a : x * f ≤ x * 1000 := Int.mul_le_mul_of_nonneg_left hf.2 hx
    have b : x * g ≤ x * f := Int.mul_le_mul_of_nonneg_left hg.2 hx
    have d : x * 700 ≤ x * g := Int.mul_le_mul_of_nonneg_left hg.1 hx
    omega
  · rw [if_neg c, if_neg c]; omega
theorem rd_neg {f x : Int} (hx : x < 0) : rdX f x = x := by unfold rdX; rw [if_neg (by omega)]
theorem rdE_ok {s : Ser} {ar : Int} (h : rdE s ar = 0) : serB s = true ∧ 0 ≤ ar ∧ ar ≤ 1073741824 := by
  unfold rdE at h
  by_cases a : serB s = true
  · rw [if_pos a] at h
    by_cases b : 0 ≤ ar ∧ ar ≤ 1073741824
    · exact ⟨a, b.1, b.2⟩
    · rw [if_neg b] at h; omega
  · rw [if_neg a] at h; omega
end Ba

set_option maxRecDepth 100000 in
set_option maxHeartbeats 4000000 in
theorem reduces_far (s : Ba.Ser) (ar mo : Int) (w : World) (hs : s.Ok w) (hmo : 0 ≤ mo ∧ mo ≤ 4294967295) (hl : Ba.loB s = true) : Calls Try.prog 4 #[s.val, .int .i64 ar, .int .u32 mo] w fun e w' => e = .returned (.bool true) ∧ Gr w w' := by
  have HL := Lib.hid (fun B W (hW : Gr w W) c0 c1 c2 => long_one s B W (hs.gr hW) c0 c1 c2)
  have hm := Nat.le_trans hs.2.2.hc hs.2.2.hb
  rw [hl] at HL
  clear hl
  have HS := Lib.hid hs
  clear hs
  unfold Ba.Ser.val
  obtain ⟨fr, st, ⟨A, n, c, b, o, X⟩⟩ := s
  simp only at *
  go_enter Try.func4, Try.ntmps4
  go_wp2_with fail
  (first | refine name_world ?_ | refine (show (∀ W, W = _ → Calls _ _ _ W _) → Calls _ _ _ _ _ from fun h => h _ rfl) ?_); intro W1 hW1
  have g1 : Gr w W1 := by rw [hW1]; exact gr_auto
  have k1_0 : W1.cell? ⟨w.heap.size, 0, none⟩ = some (.int .i64 fr) := by rw [hW1]; first | (simp [go_sem, *]; done) | (refine Gr.at ?_ (by assumption); exact gr_auto)
  have b1_0 : w.heap.size < W1.heap.size := World.block_lt_of_cell? _ _ k1_0
  have k1_1 : W1.cell? ⟨w.heap.size, 1, none⟩ = some (.int .i64 st) := by rw [hW1]; first | (simp [go_sem, *]; done) | (refine Gr.at ?_ (by assumption); exact gr_auto)
  have k1_2 : W1.cell? ⟨w.heap.size, 2, none⟩ = some (.slice A n c) := by rw [hW1]; first | (simp [go_sem, *]; done) | (refine Gr.at ?_ (by assumption); exact gr_auto)
  clear hW1
  refine (awake_any _).mono ?_
  rintro e w2 ⟨rfl, hb2⟩
  have g2 := g1.trans hb2
  have c0 := Gr.at hb2 k1_0; have c1 := Gr.at hb2 k1_1; have c2 := Gr.at hb2 k1_2
  clear k1_0 k1_1 k1_2
  go_wp2_with fail
  (first | refine name_world ?_ | refine (show (∀ W, W = _ → Calls _ _ _ W _) → Calls _ _ _ _ _ from fun h => h _ rfl) ?_); intro W3 hW3
  have g3 : Gr w W3 := by rw [hW3]; exact gr_auto
  have gb3_w2 : Gr w2 W3 := by (try clear g3); rw [hW3]; exact gr_auto
  have k3_0 : W3.cell? ⟨w.heap.size, 0, none⟩ = some (.int .i64 fr) := by rw [hW3]; first | (simp [go_sem, *]; done) | (refine Gr.at ?_ (by assumption); exact gr_auto)
  have b3_0 : w.heap.size < W3.heap.size := World.block_lt_of_cell? _ _ k3_0
  have k3_1 : W3.cell? ⟨w.heap.size, 1, none⟩ = some (.int .i64 st) := by rw [hW3]; first | (simp [go_sem, *]; done) | (refine Gr.at ?_ (by assumption); exact gr_auto)
  have k3_2 : W3.cell? ⟨w.heap.size, 2, none⟩ = some (.slice A n c) := by rw [hW3]; first | (simp [go_sem, *]; done) | (refine Gr.at ?_ (by assumption); exact gr_auto)
  have k3_3 : W3.cell? ⟨w2.heap.size, 0, none⟩ = some (.int .i64 fr) := by rw [hW3]; first | (simp [go_sem, *]; done) | (refine Gr.at ?_ (by assumption); exact gr_auto)
  have b3_3 : w2.heap.size < W3.heap.size := World.block_lt_of_cell? _ _ k3_3
  have k3_4 : W3.cell? ⟨w2.heap.size, 1, none⟩ = some (.int .i64 st) := by rw [hW3]; first | (simp [go_sem, *]; done) | (refine Gr.at ?_ (by assumption); exact gr_auto)
  have k3_5 : W3.cell? ⟨w2.heap.size, 2, none⟩ = some (.slice A n c) := by rw [hW3]; first | (simp [go_sem, *]; done) | (refine Gr.at ?_ (by assumption); exact gr_auto)
  clear hW3
  clear c0 c1 c2
  refine (HL.out w2.heap.size _ g3 k3_3 k3_4 k3_5).mono ?_
  rintro e w4 ⟨rfl, hb4⟩
  have g4 := g3.trans hb4
  have c0 := Gr.at hb4 k3_0; have c1 := Gr.at hb4 k3_1; have c2 := Gr.at hb4 k3_2
  clear HL k3_0 k3_1 k3_2 k3_3 k3_4 k3_5
  go_wp2_with fail
  go_ret
  exact ⟨rfl, g4⟩

set_option maxRecDepth 100000 in
set_option maxHeartbeats 4000000 in
theorem reduces_no (s : Ba.Ser) (ar mo : Int) (w : World) (hs : s.Ok w) (hmo : 0 ≤ mo ∧ mo ≤ 4294967295) (hl : Ba.loB s = false) (he : Ba.rdE s ar ≠ 0) : Calls Try.prog 4 #[s.val, .int .i64 ar, .int .u32 mo] w fun e w' => e = .returned (.bool true) ∧ Gr w w' := by
  have HL := Lib.hid (fun B W (hW : Gr w W) c0 c1 c2 => long_one s B W (hs.gr hW) c0 c1 c2)
  have hm := Nat.le_trans hs.2.2.hc hs.2.2.hb
  rw [hl] at HL
  clear hl
  have HS := Lib.hid hs
  clear hs
  unfold Ba.Ser.val
  obtain ⟨fr, st, ⟨A, n, c, b, o, X⟩⟩ := s
  simp only at *
  obtain ⟨E, hEE⟩ : ∃ z, Ba.rdE ⟨fr, st, ⟨A, n, c, b, o, X⟩⟩ ar = z := ⟨_, rfl⟩
  rw [hEE] at he
  replace hEE := Lib.hid hEE
  have hE := he
  have ht : (E != 0) = true := bne_iff_ne.2 he
  clear he
  go_enter Try.func4, Try.ntmps4
  go_wp2_with fail
  (first | refine name_world ?_ | refine (show (∀ W, W = _ → Calls _ _ _ W _) → Calls _ _ _ _ _ from fun h => h _ rfl) ?_); intro W1 hW1
  have g1 : Gr w W1 := by rw [hW1]; exact gr_auto
  have k1_0 : W1.cell? ⟨w.heap.size, 0, none⟩ = some (.int .i64 fr) := by rw [hW1]; first | (simp [go_sem, *]; done) | (refine Gr.at ?_ (by assumption); exact gr_auto)
  have b1_0 : w.heap.size < W1.heap.size := World.block_lt_of_cell? _ _ k1_0
  have k1_1 : W1.cell? ⟨w.heap.size, 1, none⟩ = some (.int .i64 st) := by rw [hW1]; first | (simp [go_sem, *]; done) | (refine Gr.at ?_ (by assumption); exact gr_auto)
  have k1_2 : W1.cell? ⟨w.heap.size, 2, none⟩ = some (.slice A n c) := by rw [hW1]; first | (simp [go_sem, *]; done) | (refine Gr.at ?_ (by assumption); exact gr_auto)
  clear hW1
  refine (awake_any _).mono ?_
  rintro e w2 ⟨rfl, hb2⟩
  have g2 := g1.trans hb2
  have c0 := Gr.at hb2 k1_0; have c1 := Gr.at hb2 k1_1; have c2 := Gr.at hb2 k1_2
  clear k1_0 k1_1 k1_2
  go_wp2_with fail
  (first | refine name_world ?_ | refine (show (∀ W, W = _ → Calls _ _ _ W _) → Calls _ _ _ _ _ from fun h => h _ rfl) ?_); intro W3 hW3
  have g3 : Gr w W3 := by rw [hW3]; exact gr_auto
  have gb3_w2 : Gr w2 W3 := by (try clear g3); rw [hW3]; exact gr_auto
  have k3_0 : W3.cell? ⟨w.heap.size, 0, none⟩ = some (.int .i64 fr) := by rw [hW3]; first | (simp [go_sem, *]; done) | (refine Gr.at ?_ (by assumption); exact gr_auto)
  have b3_0 : w.heap.size < W3.heap.size := World.block_lt_of_cell? _ _ k3_0
  have k3_1 : W3.cell? ⟨w.heap.size, 1, none⟩ = some (.int .i64 st) := by rw [hW3]; first | (simp [go_sem, *]; done) | (refine Gr.at ?_ (by assumption); exact gr_auto)
  have k3_2 : W3.cell? ⟨w.heap.size, 2, none⟩ = some (.slice A n c) := by rw [hW3]; first | (simp [go_sem, *]; done) | (refine Gr.at ?_ (by assumption); exact gr_auto)
  have k3_3 : W3.cell? ⟨w2.heap.size, 0, none⟩ = some (.int .i64 fr) := by rw [hW3]; first | (simp [go_sem, *]; done) | (refine Gr.at ?_ (by assumption); exact gr_auto)
  have b3_3 : w2.heap.size < W3.heap.size := World.block_lt_of_cell? _ _ k3_3
  have k3_4 : W3.cell? ⟨w2.heap.size, 1, none⟩ = some (.int .i64 st) := by rw [hW3]; first | (simp [go_sem, *]; done) | (refine Gr.at ?_ (by assumption); exact gr_auto)
  have k3_5 : W3.cell? ⟨w2.heap.size, 2, none⟩ = some (.slice A n c) := by rw [hW3]; first | (simp [go_sem, *]; done) | (refine Gr.at ?_ (by assumption); exact gr_auto)
  clear hW3
  clear c0 c1 c2
  refine (HL.out w2.heap.size _ g3 k3_3 k3_4 k3_5).mono ?_
  rintro e w4 ⟨rfl, hb4⟩
  have g4 := g3.trans hb4
  have c0 := Gr.at hb4 k3_0; have c1 := Gr.at hb4 k3_1; have c2 := Gr.at hb4 k3_2
  clear HL k3_0 k3_1 k3_2 k3_3 k3_4 k3_5
  have H1 := red_any ⟨fr, st, ⟨A, n, c, b, o, X⟩⟩ ar w4 (HS.out.gr g4)
  unfold RetRd at H1
  rw [hEE.out] at H1
  replace H1 := Lib.hid H1
  go_wp2_with fail
  -- @a
  refine H1.out.mono ?_
  clear H1
  rintro e w5 ⟨t, rfl, t1, t2, t3, hb5⟩
  have g5 := g4.trans hb5
  replace c0 := Gr.at hb5 c0; replace c1 := Gr.at hb5 c1; replace c2 := Gr.at hb5 c2
  have hz5 : w.heap.size < w5.heap.size := World.block_lt_of_cell? _ _ c0
  replace t1 := Lib.hid t1; replace t2 := Lib.hid t2; replace t3 := Lib.hid t3
  obtain ⟨tf, ts, ⟨tA, tn, tc, tb, to_, tX⟩⟩ := t
  unfold Ba.Ser.val
  simp only
  go_wp2_with fail
  -- @b
  (first | refine name_world ?_ | refine (show (∀ W, W = _ → Calls _ _ _ W _) → Calls _ _ _ _ _ from fun h => h _ rfl) ?_); intro W6 hW6
  have g6 : Gr w W6 := by rw [hW6]; exact gr_auto
  have gb6_w5 : Gr w5 W6 := by (try clear g6); rw [hW6]; exact gr_auto
  have k6_0 : W6.cell? ⟨w.heap.size, 0, none⟩ = some (.int .i64 fr) := by rw [hW6]; first | (simp [go_sem, *]; done) | (refine Gr.at ?_ (by assumption); exact gr_auto)
  have b6_0 : w.heap.size < W6.heap.size := World.block_lt_of_cell? _ _ k6_0
  have k6_1 : W6.cell? ⟨w.heap.size, 1, none⟩ = some (.int .i64 st) := by rw [hW6]; first | (simp [go_sem, *]; done) | (refine Gr.at ?_ (by assumption); exact gr_auto)
  have k6_2 : W6.cell? ⟨w.heap.size, 2, none⟩ = some (.slice A n c) := by rw [hW6]; first | (simp [go_sem, *]; done) | (refine Gr.at ?_ (by assumption); exact gr_auto)
  have k6_3 : W6.cell? ⟨w5.heap.size, 0, none⟩ = some (.int .i64 tf) := by rw [hW6]; first | (simp [go_sem, *]; done) | (refine Gr.at ?_ (by assumption); exact gr_auto)
  have b6_3 : w5.heap.size < W6.heap.size := World.block_lt_of_cell? _ _ k6_3
  have k6_4 : W6.cell? ⟨w5.heap.size, 1, none⟩ = some (.int .i64 ts) := by rw [hW6]; first | (simp [go_sem, *]; done) | (refine Gr.at ?_ (by assumption); exact gr_auto)
  have k6_5 : W6.cell? ⟨w5.heap.size, 2, none⟩ = some (.slice tA tn tc) := by rw [hW6]; first | (simp [go_sem, *]; done) | (refine Gr.at ?_ (by assumption); exact gr_auto)
  clear hW6
  have H2 := rred_any ⟨fr, st, ⟨A, n, c, b, o, X⟩⟩ ar W6 (HS.out.gr g6)
  unfold RetRd at H2
  rw [hEE.out] at H2
  refine H2.mono ?_
  clear H2
  rintro e w7 ⟨q, rfl, q1, q2, q3, hb7⟩
  have g7 := g6.trans hb7
  clear c0 c1 c2
  have c0 := Gr.at hb7 k6_0; have c1 := Gr.at hb7 k6_1; have c2 := Gr.at hb7 k6_2; have d0 := Gr.at hb7 k6_3; have d1 := Gr.at hb7 k6_4; have d2 := Gr.at hb7 k6_5
  clear k6_0 k6_1 k6_2 k6_3 k6_4 k6_5
  have hz7 : w.heap.size < w7.heap.size := World.block_lt_of_cell? _ _ c0
  have hz7b : w5.heap.size < w7.heap.size := World.block_lt_of_cell? _ _ d0
  replace q1 := Lib.hid q1; replace q2 := Lib.hid q2; replace q3 := Lib.hid q3
  obtain ⟨qf, qs, ⟨qA, qn, qc, qb, qo, qX⟩⟩ := q
  unfold Ba.Ser.val
  simp only
  go_wp2_with fail
  -- @c
  (first | refine name_world ?_ | refine (show (∀ W, W = _ → Calls _ _ _ W _) → Calls _ _ _ _ _ from fun h => h _ rfl) ?_); intro W8 hW8
  have g8 : Gr w W8 := by rw [hW8]; exact gr_auto
  have gb8_w7 : Gr w7 W8 := by (try clear g8); rw [hW8]; exact gr_auto
  have k8_0 : W8.cell? ⟨w.heap.size, 0, none⟩ = some (.int .i64 fr) := by rw [hW8]; first | (simp [go_sem, *]; done) | (refine Gr.at ?_ (by assumption); exact gr_auto)
  have b8_0 : w.heap.size < W8.heap.size := World.block_lt_of_cell? _ _ k8_0
  have k8_1 : W8.cell? ⟨w.heap.size, 1, none⟩ = some (.int .i64 st) := by rw [hW8]; first | (simp [go_sem, *]; done) | (refine Gr.at ?_ (by assumption); exact gr_auto)
  have k8_2 : W8.cell? ⟨w.heap.size, 2, none⟩ = some (.slice A n c) := by rw [hW8]; first | (simp [go_sem, *]; done) | (refine Gr.at ?_ (by assumption); exact gr_auto)
  have k8_3 : W8.cell? ⟨w5.heap.size, 0, none⟩ = some (.int .i64 tf) := by rw [hW8]; first | (simp [go_sem, *]; done) | (refine Gr.at ?_ (by assumption); exact gr_auto)
  have b8_3 : w5.heap.size < W8.heap.size := World.block_lt_of_cell? _ _ k8_3
  have k8_4 : W8.cell? ⟨w5.heap.size, 1, none⟩ = some (.int .i64 ts) := by rw [hW8]; first | (simp [go_sem, *]; done) | (refine Gr.at ?_ (by assumption); exact gr_auto)
  have k8_5 : W8.cell? ⟨w5.heap.size, 2, none⟩ = some (.slice tA tn tc) := by rw [hW8]; first | (simp [go_sem, *]; done) | (refine Gr.at ?_ (by assumption); exact gr_auto)
  have k8_6 : W8.cell? ⟨w7.heap.size, 0, none⟩ = some (.int .i64 qf) := by rw [hW8]; first | (simp [go_sem, *]; done) | (refine Gr.at ?_ (by assumption); exact gr_auto)
  have b8_6 : w7.heap.size < W8.heap.size := World.block_lt_of_cell? _ _ k8_6
  have k8_7 : W8.cell? ⟨w7.heap.size, 1, none⟩ = some (.int .i64 qs) := by rw [hW8]; first | (simp [go_sem, *]; done) | (refine Gr.at ?_ (by assumption); exact gr_auto)
  have k8_8 : W8.cell? ⟨w7.heap.size, 2, none⟩ = some (.slice qA qn qc) := by rw [hW8]; first | (simp [go_sem, *]; done) | (refine Gr.at ?_ (by assumption); exact gr_auto)
  clear hW8
  have HQ := Lib.hid (same_eq ⟨tf, ts, ⟨tA, tn, tc, tb, to_, tX⟩⟩ ⟨qf, qs, ⟨qA, qn, qc, qb, qo, qX⟩⟩ W8 (t1.out.gr (gb6_w5.trans (hb7.trans gb8_w7))) (q1.out.gr gb8_w7) ((t3.out hE).1.trans (q3.out hE).1.symm) ((t3.out hE).2.1.trans (q3.out hE).2.1.symm) ((t3.out hE).2.2.trans (q3.out hE).2.2.symm) (fun i hi => by have := (t3.out hE).2.2; simp only at this hi; omega))
  refine HQ.out.mono ?_
  clear HQ
  rintro e w9 ⟨rfl, hb9⟩
  have g9 := g8.trans hb9
  clear c0 c1 c2 d0 d1 d2
  have c0 := Gr.at hb9 k8_0; have c1 := Gr.at hb9 k8_1; have c2 := Gr.at hb9 k8_2; have d0 := Gr.at hb9 k8_3; have d1 := Gr.at hb9 k8_4; have d2 := Gr.at hb9 k8_5
  clear k8_0 k8_1 k8_2 k8_3 k8_4 k8_5 k8_6 k8_7 k8_8
  clear t1 t2 t3 q1 q2 q3 hE
  go_wp2_with fail
  go_ret
  exact ⟨rfl, g9⟩

set_option maxRecDepth 100000 in
set_option maxHeartbeats 4000000 in
theorem reduces_big (s : Ba.Ser) (ar mo : Int) (w : World) (hs : s.Ok w) (hmo : 0 ≤ mo ∧ mo ≤ 4294967295) (hl : Ba.loB s = false) (he : Ba.rdE s ar = 0) (hb : 1073741824 - ar < mo) : Calls Try.prog 4 #[s.val, .int .i64 ar, .int .u32 mo] w fun e w' => e = .returned (.bool true) ∧ Gr w w' := by
  have hb2 := Ba.rdE_ok he
  obtain ⟨-, ha1, ha2⟩ := hb2
  have HL := Lib.hid (fun B W (hW : Gr w W) c0 c1 c2 => long_one s B W (hs.gr hW) c0 c1 c2)
  have hm := Nat.le_trans hs.2.2.hc hs.2.2.hb
  rw [hl] at HL
  clear hl
  have HS := Lib.hid hs
  clear hs
  unfold Ba.Ser.val
  obtain ⟨fr, st, ⟨A, n, c, b, o, X⟩⟩ := s
  simp only at *
  have hEE := Lib.hid he
  have hE : (0 : Int) = 0 := rfl
  clear he
  go_enter Try.func4, Try.ntmps4
  go_wp2_with fail
  (first | refine name_world ?_ | refine (show (∀ W, W = _ → Calls _ _ _ W _) → Calls _ _ _ _ _ from fun h => h _ rfl) ?_); intro W1 hW1
  have g1 : Gr w W1 := by rw [hW1]; exact gr_auto
  have k1_0 : W1.cell? ⟨w.heap.size, 0, none⟩ = some (.int .i64 fr) := by rw [hW1]; first | (simp [go_sem, *]; done) | (refine Gr.at ?_ (by assumption); exact gr_auto)
  have b1_0 : w.heap.size < W1.heap.size := World.block_lt_of_cell? _ _ k1_0
  have k1_1 : W1.cell? ⟨w.heap.size, 1, none⟩ = some (.int .i64 st) := by rw [hW1]; first | (simp [go_sem, *]; done) | (refine Gr.at ?_ (by assumption); exact gr_auto)
  have k1_2 : W1.cell? ⟨w.heap.size, 2, none⟩ = some (.slice A n c) := by rw [hW1]; first | (simp [go_sem, *]; done) | (refine Gr.at ?_ (by assumption); exact gr_auto)
  clear hW1
  refine (awake_any _).mono ?_
  rintro e w2 ⟨rfl, hb2⟩
  have g2 := g1.trans hb2
  have c0 := Gr.at hb2 k1_0; have c1 := Gr.at hb2 k1_1; have c2 := Gr.at hb2 k1_2
  clear k1_0 k1_1 k1_2
  go_wp2_with fail
  (first | refine name_world ?_ | refine (show (∀ W, W = _ → Calls _ _ _ W _) → Calls _ _ _ _ _ from fun h => h _ rfl) ?_); intro W3 hW3
  have g3 : Gr w W3 := by rw [hW3]; exact gr_auto
  have gb3_w2 : Gr w2 W3 := by (try clear g3); rw [hW3]; exact gr_auto
  have k3_0 : W3.cell? ⟨w.heap.size, 0, none⟩ = some (.int .i64 fr) := by rw [hW3]; first | (simp [go_sem, *]; done) | (refine Gr.at ?_ (by assumption); exact gr_auto)
  have b3_0 : w.heap.size < W3.heap.size := World.block_lt_of_cell? _ _ k3_0
  have k3_1 : W3.cell? ⟨w.heap.size, 1, none⟩ = some (.int .i64 st) := by rw [hW3]; first | (simp [go_sem, *]; done) | (refine Gr.at ?_ (by assumption); exact gr_auto)
  have k3_2 : W3.cell? ⟨w.heap.size, 2, none⟩ = some (.slice A n c) := by rw [hW3]; first | (simp [go_sem, *]; done) | (refine Gr.at ?_ (by assumption); exact gr_auto)
  have k3_3 : W3.cell? ⟨w2.heap.size, 0, none⟩ = some (.int .i64 fr) := by rw [hW3]; first | (simp [go_sem, *]; done) | (refine Gr.at ?_ (by assumption); exact gr_auto)
  have b3_3 : w2.heap.size < W3.heap.size := World.block_lt_of_cell? _ _ k3_3
  have k3_4 : W3.cell? ⟨w2.heap.size, 1, none⟩ = some (.int .i64 st) := by rw [hW3]; first | (simp [go_sem, *]; done) | (refine Gr.at ?_ (by assumption); exact gr_auto)
  have k3_5 : W3.cell? ⟨w2.heap.size, 2, none⟩ = some (.slice A n c) := by rw [hW3]; first | (simp [go_sem, *]; done) | (refine Gr.at ?_ (by assumption); exact gr_auto)
  clear hW3
  clear c0 c1 c2
  refine (HL.out w2.heap.size _ g3 k3_3 k3_4 k3_5).mono ?_
  rintro e w4 ⟨rfl, hb4⟩
  have g4 := g3.trans hb4
  have c0 := Gr.at hb4 k3_0; have c1 := Gr.at hb4 k3_1; have c2 := Gr.at hb4 k3_2
  clear HL k3_0 k3_1 k3_2 k3_3 k3_4 k3_5
  have H1 := red_any ⟨fr, st, ⟨A, n, c, b, o, X⟩⟩ ar w4 (HS.out.gr g4)
  unfold RetRd at H1
  rw [hEE.out] at H1
  replace H1 := Lib.hid H1
  go_wp2_with fail
  -- @a
  refine H1.out.mono ?_
  clear H1
  rintro e w5 ⟨t, rfl, t1, t2, t3, hb5⟩
  have g5 := g4.trans hb5
  replace c0 := Gr.at hb5 c0; replace c1 := Gr.at hb5 c1; replace c2 := Gr.at hb5 c2
  have hz5 : w.heap.size < w5.heap.size := World.block_lt_of_cell? _ _ c0
  replace t1 := Lib.hid t1; replace t2 := Lib.hid t2; replace t3 := Lib.hid t3
  obtain ⟨tf, ts, ⟨tA, tn, tc, tb, to_, tX⟩⟩ := t
  unfold Ba.Ser.val
  simp only
  go_wp2_with fail
  -- @b
  (first | refine name_world ?_ | refine (show (∀ W, W = _ → Calls _ _ _ W _) → Calls _ _ _ _ _ from fun h => h _ rfl) ?_); intro W6 hW6
  have g6 : Gr w W6 := by rw [hW6]; exact gr_auto
  have gb6_w5 : Gr w5 W6 := by (try clear g6); rw [hW6]; exact gr_auto
  have k6_0 : W6.cell? ⟨w.heap.size, 0, none⟩ = some (.int .i64 fr) := by rw [hW6]; first | (simp [go_sem, *]; done) | (refine Gr.at ?_ (by assumption); exact gr_auto)
  have b6_0 : w.heap.size < W6.heap.size := World.block_lt_of_cell? _ _ k6_0
  have k6_1 : W6.cell? ⟨w.heap.size, 1, none⟩ = some (.int .i64 st) := by rw [hW6]; first | (simp [go_sem, *]; done) | (refine Gr.at ?_ (by assumption); exact gr_auto)
  have k6_2 : W6.cell? ⟨w.heap.size, 2, none⟩ = some (.slice A n c) := by rw [hW6]; first | (simp [go_sem, *]; done) | (refine Gr.at ?_ (by assumption); exact gr_auto)
  have k6_3 : W6.cell? ⟨w5.heap.size, 0, none⟩ = some (.int .i64 tf) := by rw [hW6]; first | (simp [go_sem, *]; done) | (refine Gr.at ?_ (by assumption); exact gr_auto)
  have b6_3 : w5.heap.size < W6.heap.size := World.block_lt_of_cell? _ _ k6_3
  have k6_4 : W6.cell? ⟨w5.heap.size, 1, none⟩ = some (.int .i64 ts) := by rw [hW6]; first | (simp [go_sem, *]; done) | (refine Gr.at ?_ (by assumption); exact gr_auto)
  have k6_5 : W6.cell? ⟨w5.heap.size, 2, none⟩ = some (.slice tA tn tc) := by rw [hW6]; first | (simp [go_sem, *]; done) | (refine Gr.at ?_ (by assumption); exact gr_auto)
  clear hW6
  have H2 := rred_any ⟨fr, st, ⟨A, n, c, b, o, X⟩⟩ ar W6 (HS.out.gr g6)
  unfold RetRd at H2
  rw [hEE.out] at H2
  refine H2.mono ?_
  clear H2
  rintro e w7 ⟨q, rfl, q1, q2, q3, hb7⟩
  have g7 := g6.trans hb7
  clear c0 c1 c2
  have c0 := Gr.at hb7 k6_0; have c1 := Gr.at hb7 k6_1; have c2 := Gr.at hb7 k6_2; have d0 := Gr.at hb7 k6_3; have d1 := Gr.at hb7 k6_4; have d2 := Gr.at hb7 k6_5
  clear k6_0 k6_1 k6_2 k6_3 k6_4 k6_5
  have hz7 : w.heap.size < w7.heap.size := World.block_lt_of_cell? _ _ c0
  have hz7b : w5.heap.size < w7.heap.size := World.block_lt_of_cell? _ _ d0
  replace q1 := Lib.hid q1; replace q2 := Lib.hid q2; replace q3 := Lib.hid q3
  obtain ⟨qf, qs, ⟨qA, qn, qc, qb, qo, qX⟩⟩ := q
  unfold Ba.Ser.val
  simp only
  go_wp2_with fail
  -- @c
  (first | refine name_world ?_ | refine (show (∀ W, W = _ → Calls _ _ _ W _) → Calls _ _ _ _ _ from fun h => h _ rfl) ?_); intro W8 hW8
  have g8 : Gr w W8 := by rw [hW8]; exact gr_auto
  have gb8_w7 : Gr w7 W8 := by (try clear g8); rw [hW8]; exact gr_auto
  have k8_0 : W8.cell? ⟨w.heap.size, 0, none⟩ = some (.int .i64 fr) := by rw [hW8]; first | (simp [go_sem, *]; done) | (refine Gr.at ?_ (by assumption); exact gr_auto)
  have b8_0 : w.heap.size < W8.heap.size := World.block_lt_of_cell? _ _ k8_0
  have k8_1 : W8.cell? ⟨w.heap.size, 1, none⟩ = some (.int .i64 st) := by rw [hW8]; first | (simp [go_sem, *]; done) | (refine Gr.at ?_ (by assumption); exact gr_auto)
  have k8_2 : W8.cell? ⟨w.heap.size, 2, none⟩ = some (.slice A n c) := by rw [hW8]; first | (simp [go_sem, *]; done) | (refine Gr.at ?_ (by assumption); exact gr_auto)
  have k8_3 : W8.cell? ⟨w5.heap.size, 0, none⟩ = some (.int .i64 tf) := by rw [hW8]; first | (simp [go_sem, *]; done) | (refine Gr.at ?_ (by assumption); exact gr_auto)
  have b8_3 : w5.heap.size < W8.heap.size := World.block_lt_of_cell? _ _ k8_3
  have k8_4 : W8.cell? ⟨w5.heap.size, 1, none⟩ = some (.int .i64 ts) := by rw [hW8]; first | (simp [go_sem, *]; done) | (refine Gr.at ?_ (by assumption); exact gr_auto)
  have k8_5 : W8.cell? ⟨w5.heap.size, 2, none⟩ = some (.slice tA tn tc) := by rw [hW8]; first | (simp [go_sem, *]; done) | (refine Gr.at ?_ (by assumption); exact gr_auto)
  have k8_6 : W8.cell? ⟨w7.heap.size, 0, none⟩ = some (.int .i64 qf) := by rw [hW8]; first | (simp [go_sem, *]; done) | (refine Gr.at ?_ (by assumption); exact gr_auto)
  have b8_6 : w7.heap.size < W8.heap.size := World.block_lt_of_cell? _ _ k8_6
  have k8_7 : W8.cell? ⟨w7.heap.size, 1, none⟩ = some (.int .i64 qs) := by rw [hW8]; first | (simp [go_sem, *]; done) | (refine Gr.at ?_ (by assumption); exact gr_auto)
  have k8_8 : W8.cell? ⟨w7.heap.size, 2, none⟩ = some (.slice qA qn qc) := by rw [hW8]; first | (simp [go_sem, *]; done) | (refine Gr.at ?_ (by assumption); exact gr_auto)
  clear hW8
  have HQ := Lib.hid (same_eq ⟨tf, ts, ⟨tA, tn, tc, tb, to_, tX⟩⟩ ⟨qf, qs, ⟨qA, qn, qc, qb, qo, qX⟩⟩ W8 (t1.out.gr (gb6_w5.trans (hb7.trans gb8_w7))) (q1.out.gr gb8_w7) ((t2.out hE).1.trans (q2.out hE).1.symm) ((t2.out hE).2.1.trans (q2.out hE).2.1.symm) ((t2.out hE).2.2.1.trans (q2.out hE).2.2.1.symm) (fun i hi => by have h := (t2.out hE).2.2.1; simp only at h hi; exact ((t2.out hE).2.2.2 i (by first | omega | (simp only; omega))).trans ((q2.out hE).2.2.2 i (by first | omega | (simp only; omega))).symm))
  refine HQ.out.mono ?_
  clear HQ
  rintro e w9 ⟨rfl, hb9⟩
  have g9 := g8.trans hb9
  clear c0 c1 c2 d0 d1 d2
  have c0 := Gr.at hb9 k8_0; have c1 := Gr.at hb9 k8_1; have c2 := Gr.at hb9 k8_2; have d0 := Gr.at hb9 k8_3; have d1 := Gr.at hb9 k8_4; have d2 := Gr.at hb9 k8_5
  clear k8_0 k8_1 k8_2 k8_3 k8_4 k8_5 k8_6 k8_7 k8_8
  clear t1 t2 t3 q1 q2 q3 hE
  go_wp2_with fail
  go_ret
  exact ⟨rfl, g9⟩

set_option maxRecDepth 100000 in
set_option maxHeartbeats 4000000 in
theorem reduces_main (s : Ba.Ser) (ar mo : Int) (w : World) (hs : s.Ok w) (hmo : 0 ≤ mo ∧ mo ≤ 4294967295) (hl : Ba.loB s = false) (he : Ba.rdE s ar = 0) (hb : mo ≤ 1073741824 - ar) : Calls Try.prog 4 #[s.val, .int .i64 ar, .int .u32 mo] w fun e w' => e = .returned (.bool true) ∧ Gr w w' := by
  obtain ⟨hv, ha1, ha2⟩ := Ba.rdE_ok he
  have HL := Lib.hid (fun B W (hW : Gr w W) c0 c1 c2 => long_one s B W (hs.gr hW) c0 c1 c2)
  have hm := Nat.le_trans hs.2.2.hc hs.2.2.hb
  have hE2 : Ba.rdE s (ar + mo) = 0 := by unfold Ba.rdE; rw [hv, if_pos rfl, if_pos (by omega)]
  have HVX := Lib.hid (Ba.ser_nums hv).2.2.2.2
  have hf1 := Ba.rdF_bd (ar := ar) (by omega); have hf2 := Ba.rdF_bd (ar := ar + mo) (by omega); have hff := Ba.rdF_mono (a := ar) (b := ar + mo) (by omega) (by omega)
  rw [hl] at HL
  clear hl hv
  have HS := Lib.hid hs
  clear hs
  unfold Ba.Ser.val
  obtain ⟨fr, st, ⟨A, n, c, b, o, X⟩⟩ := s
  simp only at *
  have hEE := Lib.hid he; have hEE2 := Lib.hid hE2
  have hE : (0 : Int) = 0 := rfl
  clear he hE2
  go_enter Try.func4, Try.ntmps4
  go_wp2_with fail
  (first | refine name_world ?_ | refine (show (∀ W, W = _ → Calls _ _ _ W _) → Calls _ _ _ _ _ from fun h => h _ rfl) ?_); intro W1 hW1
  have g1 : Gr w W1 := by rw [hW1]; exact gr_auto
  have k1_0 : W1.cell? ⟨w.heap.size, 0, none⟩ = some (.int .i64 fr) := by rw [hW1]; first | (simp [go_sem, *]; done) | (refine Gr.at ?_ (by assumption); exact gr_auto)
  have b1_0 : w.heap.size < W1.heap.size := World.block_lt_of_cell? _ _ k1_0
  have k1_1 : W1.cell? ⟨w.heap.size, 1, none⟩ = some (.int .i64 st) := by rw [hW1]; first | (simp [go_sem, *]; done) | (refine Gr.at ?_ (by assumption); exact gr_auto)
  have k1_2 : W1.cell? ⟨w.heap.size, 2, none⟩ = some (.slice A n c) := by rw [hW1]; first | (simp [go_sem, *]; done) | (refine Gr.at ?_ (by assumption); exact gr_auto)
  clear hW1
  refine (awake_any _).mono ?_
  rintro e w2 ⟨rfl, hb2⟩
  have g2 := g1.trans hb2
  have c0 := Gr.at hb2 k1_0; have c1 := Gr.at hb2 k1_1; have c2 := Gr.at hb2 k1_2
  clear k1_0 k1_1 k1_2
  go_wp2_with fail
  (first | refine name_world ?_ | refine (show (∀ W, W = _ → Calls _ _ _ W _) → Calls _ _ _ _ _ from fun h => h _ rfl) ?_); intro W3 hW3
  have g3 : Gr w W3 := by rw [hW3]; exact gr_auto
  have gb3_w2 : Gr w2 W3 := by (try clear g3); rw [hW3]; exact gr_auto
  have k3_0 : W3.cell? ⟨w.heap.size, 0, none⟩ = some (.int .i64 fr) := by rw [hW3]; first | (simp [go_sem, *]; done) | (refine Gr.at ?_ (by assumption); exact gr_auto)
  have b3_0 : w.heap.size < W3.heap.size := World.block_lt_of_cell? _ _ k3_0
  have k3_1 : W3.cell? ⟨w.heap.size, 1, none⟩ = some (.int .i64 st) := by rw [hW3]; first | (simp [go_sem, *]; done) | (refine Gr.at ?_ (by assumption); exact gr_auto)
  have k3_2 : W3.cell? ⟨w.heap.size, 2, none⟩ = some (.slice A n c) := by rw [hW3]; first | (simp [go_sem, *]; done) | (refine Gr.at ?_ (by assumption); exact gr_auto)
  have k3_3 : W3.cell? ⟨w2.heap.size, 0, none⟩ = some (.int .i64 fr) := by rw [hW3]; first | (simp [go_sem, *]; done) | (refine Gr.at ?_ (by assumption); exact gr_auto)
  have b3_3 : w2.heap.size < W3.heap.size := World.block_lt_of_cell? _ _ k3_3
  have k3_4 : W3.cell? ⟨w2.heap.size, 1, none⟩ = some (.int .i64 st) := by rw [hW3]; first | (simp [go_sem, *]; done) | (refine Gr.at ?_ (by assumption); exact gr_auto)
  have k3_5 : W3.cell? ⟨w2.heap.size, 2, none⟩ = some (.slice A n c) := by rw [hW3]; first | (simp [go_sem, *]; done) | (refine Gr.at ?_ (by assumption); exact gr_auto)
  clear hW3
  clear c0 c1 c2
  refine (HL.out w2.heap.size _ g3 k3_3 k3_4 k3_5).mono ?_
  rintro e w4 ⟨rfl, hb4⟩
  have g4 := g3.trans hb4
  have c0 := Gr.at hb4 k3_0; have c1 := Gr.at hb4 k3_1; have c2 := Gr.at hb4 k3_2
  clear HL k3_0 k3_1 k3_2 k3_3 k3_4 k3_5
  have H1 := red_any ⟨fr, st, ⟨A, n, c, b, o, X⟩⟩ ar w4 (HS.out.gr g4)
  unfold RetRd at H1
  rw [hEE.out] at H1
  replace H1 := Lib.hid H1
  go_wp2_with fail
  -- @a
  refine H1.out.mono ?_
  clear H1
  rintro e w5 ⟨t, rfl, t1, t2, t3, hb5⟩
  have g5 := g4.trans hb5
  replace c0 := Gr.at hb5 c0; replace c1 := Gr.at hb5 c1; replace c2 := Gr.at hb5 c2
  have hz5 : w.heap.size < w5.heap.size := World.block_lt_of_cell? _ _ c0
  replace t1 := Lib.hid t1; replace t2 := Lib.hid t2; replace t3 := Lib.hid t3
  obtain ⟨tf, ts, ⟨tA, tn, tc, tb, to_, tX⟩⟩ := t
  unfold Ba.Ser.val
  simp only
  go_wp2_with fail
  -- @b
  (first | refine name_world ?_ | refine (show (∀ W, W = _ → Calls _ _ _ W _) → Calls _ _ _ _ _ from fun h => h _ rfl) ?_); intro W6 hW6
  have g6 : Gr w W6 := by rw [hW6]; exact gr_auto
  have gb6_w5 : Gr w5 W6 := by (try clear g6); rw [hW6]; exact gr_auto
  have k6_0 : W6.cell? ⟨w.heap.size, 0, none⟩ = some (.int .i64 fr) := by rw [hW6]; first | (simp [go_sem, *]; done) | (refine Gr.at ?_ (by assumption); exact gr_auto)
  have b6_0 : w.heap.size < W6.heap.size := World.block_lt_of_cell? _ _ k6_0
  have k6_1 : W6.cell? ⟨w.heap.size, 1, none⟩ = some (.int .i64 st) := by rw [hW6]; first | (simp [go_sem, *]; done) | (refine Gr.at ?_ (by assumption); exact gr_auto)
  have k6_2 : W6.cell? ⟨w.heap.size, 2, none⟩ = some (.slice A n c) := by rw [hW6]; first | (simp [go_sem, *]; done) | (refine Gr.at ?_ (by assumption); exact gr_auto)
  have k6_3 : W6.cell? ⟨w5.heap.size, 0, none⟩ = some (.int .i64 tf) := by rw [hW6]; first | (simp [go_sem, *]; done) | (refine Gr.at ?_ (by assumption); exact gr_auto)
  have b6_3 : w5.heap.size < W6.heap.size := World.block_lt_of_cell? _ _ k6_3
  have k6_4 : W6.cell? ⟨w5.heap.size, 1, none⟩ = some (.int .i64 ts) := by rw [hW6]; first | (simp [go_sem, *]; done) | (refine Gr.at ?_ (by assumption); exact gr_auto)
  have k6_5 : W6.cell? ⟨w5.heap.size, 2, none⟩ = some (.slice tA tn tc) := by rw [hW6]; first | (simp [go_sem, *]; done) | (refine Gr.at ?_ (by assumption); exact gr_auto)
  clear hW6
  have H2 := rred_any ⟨fr, st, ⟨A, n, c, b, o, X⟩⟩ ar W6 (HS.out.gr g6)
  unfold RetRd at H2
  rw [hEE.out] at H2
  refine H2.mono ?_
  clear H2
  rintro e w7 ⟨q, rfl, q1, q2, q3, hb7⟩
  have g7 := g6.trans hb7
  clear c0 c1 c2
  have c0 := Gr.at hb7 k6_0; have c1 := Gr.at hb7 k6_1; have c2 := Gr.at hb7 k6_2; have d0 := Gr.at hb7 k6_3; have d1 := Gr.at hb7 k6_4; have d2 := Gr.at hb7 k6_5
  clear k6_0 k6_1 k6_2 k6_3 k6_4 k6_5
  have hz7 : w.heap.size < w7.heap.size := World.block_lt_of_cell? _ _ c0
  have hz7b : w5.heap.size < w7.heap.size := World.block_lt_of_cell? _ _ d0
  replace q1 := Lib.hid q1; replace q2 := Lib.hid q2; replace q3 := Lib.hid q3
  obtain ⟨qf, qs, ⟨qA, qn, qc, qb, qo, qX⟩⟩ := q
  unfold Ba.Ser.val
  simp only
  go_wp2_with fail
  -- @c
  (first | refine name_world ?_ | refine (show (∀ W, W = _ → Calls _ _ _ W _) → Calls _ _ _ _ _ from fun h => h _ rfl) ?_); intro W8 hW8
  have g8 : Gr w W8 := by rw [hW8]; exact gr_auto
  have gb8_w7 : Gr w7 W8 := by (try clear g8); rw [hW8]; exact gr_auto
  have k8_0 : W8.cell? ⟨w.heap.size, 0, none⟩ = some (.int .i64 fr) := by rw [hW8]; first | (simp [go_sem, *]; done) | (refine Gr.at ?_ (by assumption); exact gr_auto)
  have b8_0 : w.heap.size < W8.heap.size := World.block_lt_of_cell? _ _ k8_0
  have k8_1 : W8.cell? ⟨w.heap.size, 1, none⟩ = some (.int .i64 st) := by rw [hW8]; first | (simp [go_sem, *]; done) | (refine Gr.at ?_ (by assumption); exact gr_auto)
  have k8_2 : W8.cell? ⟨w.heap.size, 2, none⟩ = some (.slice A n c) := by rw [hW8]; first | (simp [go_sem, *]; done) | (refine Gr.at ?_ (by assumption); exact gr_auto)
  have k8_3 : W8.cell? ⟨w5.heap.size, 0, none⟩ = some (.int .i64 tf) := by rw [hW8]; first | (simp [go_sem, *]; done) | (refine Gr.at ?_ (by assumption); exact gr_auto)
  have b8_3 : w5.heap.size < W8.heap.size := World.block_lt_of_cell? _ _ k8_3
  have k8_4 : W8.cell? ⟨w5.heap.size, 1, none⟩ = some (.int .i64 ts) := by rw [hW8]; first | (simp [go_sem, *]; done) | (refine Gr.at ?_ (by assumption); exact gr_auto)
  have k8_5 : W8.cell? ⟨w5.heap.size, 2, none⟩ = some (.slice tA tn tc) := by rw [hW8]; first | (simp [go_sem, *]; done) | (refine Gr.at ?_ (by assumption); exact gr_auto)
  have k8_6 : W8.cell? ⟨w7.heap.size, 0, none⟩ = some (.int .i64 qf) := by rw [hW8]; first | (simp [go_sem, *]; done) | (refine Gr.at ?_ (by assumption); exact gr_auto)
  have b8_6 : w7.heap.size < W8.heap.size := World.block_lt_of_cell? _ _ k8_6
  have k8_7 : W8.cell? ⟨w7.heap.size, 1, none⟩ = some (.int .i64 qs) := by rw [hW8]; first | (simp [go_sem, *]; done) | (refine Gr.at ?_ (by assumption); exact gr_auto)
  have k8_8 : W8.cell? ⟨w7.heap.size, 2, none⟩ = some (.slice qA qn qc) := by rw [hW8]; first | (simp [go_sem, *]; done) | (refine Gr.at ?_ (by assumption); exact gr_auto)
  clear hW8
  have HQ := Lib.hid (same_eq ⟨tf, ts, ⟨tA, tn, tc, tb, to_, tX⟩⟩ ⟨qf, qs, ⟨qA, qn, qc, qb, qo, qX⟩⟩ W8 (t1.out.gr (gb6_w5.trans (hb7.trans gb8_w7))) (q1.out.gr gb8_w7) ((t2.out hE).1.trans (q2.out hE).1.symm) ((t2.out hE).2.1.trans (q2.out hE).2.1.symm) ((t2.out hE).2.2.1.trans (q2.out hE).2.2.1.symm) (fun i hi => by have h := (t2.out hE).2.2.1; simp only at h hi; exact ((t2.out hE).2.2.2 i (by first | omega | (simp only; omega))).trans ((q2.out hE).2.2.2 i (by first | omega | (simp only; omega))).symm))
  refine HQ.out.mono ?_
  clear HQ
  rintro e w9 ⟨rfl, hb9⟩
  have g9 := g8.trans hb9
  clear c0 c1 c2 d0 d1 d2
  have c0 := Gr.at hb9 k8_0; have c1 := Gr.at hb9 k8_1; have c2 := Gr.at hb9 k8_2; have d0 := Gr.at hb9 k8_3; have d1 := Gr.at hb9 k8_4; have d2 := Gr.at hb9 k8_5
  clear k8_0 k8_1 k8_2 k8_3 k8_4 k8_5 k8_6 k8_7 k8_8
  obtain ⟨-, -, tn1, tx1⟩ := t2.out hE
  (try simp only at tn1 tx1)
  replace tx1 := Lib.hid tx1
  subst tn1
  clear t2 t3 q1 q2 q3 hE
  have H3 := red_any ⟨fr, st, ⟨A, tn, c, b, o, X⟩⟩ (ar + mo) w9 (HS.out.gr g9)
  unfold RetRd at H3
  rw [hEE2.out] at H3
  replace H3 := Lib.hid H3
  have hz9 : w.heap.size < w9.heap.size := World.block_lt_of_cell? _ _ c0
  go_wp2_with fail
  -- @d
  refine H3.out.mono ?_
  clear H3
  rintro e w10 ⟨u, rfl, u1, u2, -, hb10⟩
  have g10 := g9.trans hb10
  replace c0 := Gr.at hb10 c0; replace c1 := Gr.at hb10 c1; replace c2 := Gr.at hb10 c2; replace d0 := Gr.at hb10 d0; replace d1 := Gr.at hb10 d1; replace d2 := Gr.at hb10 d2
  obtain ⟨uf, us, ⟨uA, un, uc, ub, uo, uX⟩⟩ := u
  obtain ⟨-, -, un1, ux1⟩ := u2 (by trivial)
  (try simp only at un1 ux1)
  clear u2
  subst un1
  replace ux1 := Lib.hid ux1
  have uc1 := u1.2.2.hc; have uc2 := u1.2.2.hb
  (try simp only at uc1 uc2)
  replace u1 := Lib.hid u1
  have tc1 := t1.out.2.2.hc; have tc2 := t1.out.2.2.hb
  (try simp only at tc1 tc2)
  have hz10 : w.heap.size < w10.heap.size := World.block_lt_of_cell? _ _ c0
  have hz10b : w5.heap.size < w10.heap.size := World.block_lt_of_cell? _ _ d0
  unfold Ba.Ser.val
  simp only
  go_wp2_with fail
  -- @e
  refine name_world ?_
  intro W11 hW11
  have gb11 : Gr w10 W11 := by rw [hW11]; exact gr_auto
  have e2 : W11.cell? ⟨w10.heap.size, 2, none⟩ = some (.slice uA un uc) := by rw [hW11]; simp [go_sem]
  clear hW11
  have g11 := g10.trans gb11
  replace d2 := Gr.at gb11 d2
  have HA := Lib.hid HS.out.2.2.hA; have HX := Lib.hid (fun i hi => (HS.out.2.2.hX i hi).1)
  have TA := Lib.hid t1.out.2.2.hA; have UA := Lib.hid u1.out.2.2.hA
  have gt : Gr w5 w10 := gb6_w5.trans (hb7.trans (gb8_w7.trans (hb9.trans hb10)))
  have TX := Lib.hid (fun i hi => Gr.at (gt.trans gb11) (t1.out.2.2.hX i hi).1); have UX := Lib.hid (fun i hi => Gr.at gb11 (u1.out.2.2.hX i hi).1)
  (try simp only at HA HX TA UA TX UX)
  have HRF := Lib.hid (fun x (hx : 0 ≤ x) => Ba.rd_facts (f := Ba.rdF ar) (g := Ba.rdF (ar + mo)) (x := x) hf1 ⟨hf2.1, hff⟩ hx)
  have HRN := Lib.hid (fun f x (hx : x < 0) => Ba.rd_neg (f := f) hx)
  clear t1 u1 c0 c1 c2 d0 d1
  go_loopw [82] (fun x wr => ∃ i : Nat, i ≤ un ∧ x = .int .i64 (i : Int) ∧ Gr W11 wr) (fun x _ => un - (intOf x).toNat)
  case atStart => exact ⟨0, Nat.zero_le _, rfl, Gr.refl _⟩
  case round =>
    obtain ⟨i, hi, rfl, hg⟩ := hrel
    have gr := g11.trans hg
    by_cases hlt : i < un
    · obtain rfl := HA.out (by omega)
      obtain rfl := TA.out (by omega)
      obtain rfl := UA.out (by omega)
      have a0 := Gr.at gr (HX.out i hlt); have b0 := Gr.at hg (TX.out i hlt); have u0 := Gr.at hg (UX.out i hlt)
      rw [tx1.out i hlt] at b0
      rw [ux1.out i hlt] at u0
      replace d2 := Gr.at hg d2; replace e2 := Gr.at hg e2
      have xb := HVX.out i hlt
      have ib0 : (0 : Int) ≤ (i : Int) := by omega
      have ib1 : (i : Int) < (un : Int) := by omega
      have RF := Lib.hid (HRF.out (X i)); have RN := Lib.hid (fun f => HRN.out f (X i))
      clear HA TA UA HX TX UX HVX HRF HRN tx1 ux1
      (try simp only at xb)
      generalize X i = x at *
      by_cases hneg : x < 0
      · rw [RN.out _ hneg] at b0 u0
        have v0 : decide (x < 0) = true := decide_eq_true hneg
        have v1 : decide (0 ≤ x) = false := decide_eq_false (by omega)
        clear RF RN
        go_wp2_with fail
        (first | refine name_world ?_ | refine (show (∀ W, W = _ → Calls _ _ _ W _) → Calls _ _ _ _ _ from fun h => h _ rfl) ?_); intro W12 hW12
        have g12 : Gr w W12 := by rw [hW12]; exact gr_auto
        have gb12_wr : Gr wr W12 := by (try clear g12); rw [hW12]; exact gr_auto
        have k12_0 : W12.cell? ⟨w5.heap.size, 2, none⟩ = some (.slice (some ⟨tb, to_, none⟩) un tc) := by rw [hW12]; first | (simp [go_sem, *]; done) | (refine Gr.at ?_ (by assumption); exact gr_auto)
        have b12_0 : w5.heap.size < W12.heap.size := World.block_lt_of_cell? _ _ k12_0
        have k12_1 : W12.cell? ⟨w10.heap.size, 2, none⟩ = some (.slice (some ⟨ub, uo, none⟩) un uc) := by rw [hW12]; first | (simp [go_sem, *]; done) | (refine Gr.at ?_ (by assumption); exact gr_auto)
        have b12_1 : w10.heap.size < W12.heap.size := World.block_lt_of_cell? _ _ k12_1
        have k12_2 : W12.cell? ⟨tb, to_ + i, none⟩ = some (.int .i64 x) := by rw [hW12]; first | (simp [go_sem, *]; done) | (refine Gr.at ?_ (by assumption); exact gr_auto)
        have b12_2 : tb < W12.heap.size := World.block_lt_of_cell? _ _ k12_2
        have k12_3 : W12.cell? ⟨ub, uo + i, none⟩ = some (.int .i64 x) := by rw [hW12]; first | (simp [go_sem, *]; done) | (refine Gr.at ?_ (by assumption); exact gr_auto)
        have b12_3 : ub < W12.heap.size := World.block_lt_of_cell? _ _ k12_3
        clear hW12
        have s12_0 : ∀ gw : GW W12, gw.1.cell? ⟨w5.heap.size, 2, none⟩ = some (.slice (some ⟨tb, to_, none⟩) un tc) := fun gw => Gr.at gw.2 k12_0
        have s12_1 : ∀ gw : GW W12, gw.1.cell? ⟨w10.heap.size, 2, none⟩ = some (.slice (some ⟨ub, uo, none⟩) un uc) := fun gw => Gr.at gw.2 k12_1
        have s12_2 : ∀ gw : GW W12, gw.1.cell? ⟨tb, to_ + i, none⟩ = some (.int .i64 x) := fun gw => Gr.at gw.2 k12_2
        have s12_3 : ∀ gw : GW W12, gw.1.cell? ⟨ub, uo + i, none⟩ = some (.int .i64 x) := fun gw => Gr.at gw.2 k12_3
        have hnn := Nat.le_refl 0
        refine wp_region_gr (by kernel_rfl) (by kernel_rfl) ?_
        repeat (go_big_quiet_step (skip))
        refine wpQuiet_nil ?_
        intro w13 hb13
        clear s12_0 s12_1 s12_2 s12_3
        have g13 : Gr w w13 := g12.trans hb13
        have k12_0 := Gr.at hb13 k12_0
        have k12_1 := Gr.at hb13 k12_1
        have k12_2 := Gr.at hb13 k12_2
        have k12_3 := Gr.at hb13 k12_3
        go_wp2_with fail
        go_roundw
        case rel => exact ⟨i + 1, by omega, by go_num, hg.trans (gb12_wr.trans hb13)⟩
        case measure => simp [intOf]; omega
      · obtain ⟨r1, r2, r3⟩ := RF.out (by omega)
        clear RF RN
        generalize Ba.rdX (Ba.rdF ar) x = va at *
        generalize Ba.rdX (Ba.rdF (ar + mo)) x = vb at *
        have v0 : decide (x < 0) = false := decide_eq_false hneg
        have v1 : decide (0 ≤ x) = true := decide_eq_true (by omega)
        have v2 : decide (x < va) = false := decide_eq_false (by omega)
        have v3 : decide (va < vb) = false := decide_eq_false (by omega)
        have v4 : decide (vb < x * 7 / 10) = false := decide_eq_false (by omega)
        have v5 : 0 ≤ x * 7 ∧ x * 7 ≤ 9223372036854775807 := by omega
        go_wp2_with fail
        (first | refine name_world ?_ | refine (show (∀ W, W = _ → Calls _ _ _ W _) → Calls _ _ _ _ _ from fun h => h _ rfl) ?_); intro W12 hW12
        have g12 : Gr w W12 := by rw [hW12]; exact gr_auto
        have gb12_wr : Gr wr W12 := by (try clear g12); rw [hW12]; exact gr_auto
        have k12_0 : W12.cell? ⟨w5.heap.size, 2, none⟩ = some (.slice (some ⟨tb, to_, none⟩) un tc) := by rw [hW12]; first | (simp [go_sem, *]; done) | (refine Gr.at ?_ (by assumption); exact gr_auto)
        have b12_0 : w5.heap.size < W12.heap.size := World.block_lt_of_cell? _ _ k12_0
        have k12_1 : W12.cell? ⟨w10.heap.size, 2, none⟩ = some (.slice (some ⟨ub, uo, none⟩) un uc) := by rw [hW12]; first | (simp [go_sem, *]; done) | (refine Gr.at ?_ (by assumption); exact gr_auto)
        have b12_1 : w10.heap.size < W12.heap.size := World.block_lt_of_cell? _ _ k12_1
        have k12_2 : W12.cell? ⟨tb, to_ + i, none⟩ = some (.int .i64 va) := by rw [hW12]; first | (simp [go_sem, *]; done) | (refine Gr.at ?_ (by assumption); exact gr_auto)
        have b12_2 : tb < W12.heap.size := World.block_lt_of_cell? _ _ k12_2
        have k12_3 : W12.cell? ⟨ub, uo + i, none⟩ = some (.int .i64 vb) := by rw [hW12]; first | (simp [go_sem, *]; done) | (refine Gr.at ?_ (by assumption); exact gr_auto)
        have b12_3 : ub < W12.heap.size := World.block_lt_of_cell? _ _ k12_3
        clear hW12
        have s12_0 : ∀ gw : GW W12, gw.1.cell? ⟨w5.heap.size, 2, none⟩ = some (.slice (some ⟨tb, to_, none⟩) un tc) := fun gw => Gr.at gw.2 k12_0
        have s12_1 : ∀ gw : GW W12, gw.1.cell? ⟨w10.heap.size, 2, none⟩ = some (.slice (some ⟨ub, uo, none⟩) un uc) := fun gw => Gr.at gw.2 k12_1
        have s12_2 : ∀ gw : GW W12, gw.1.cell? ⟨tb, to_ + i, none⟩ = some (.int .i64 va) := fun gw => Gr.at gw.2 k12_2
        have s12_3 : ∀ gw : GW W12, gw.1.cell? ⟨ub, uo + i, none⟩ = some (.int .i64 vb) := fun gw => Gr.at gw.2 k12_3
        have hnn := Nat.le_refl 0
        refine wp_region_gr (by kernel_rfl) (by kernel_rfl) ?_
        repeat (go_big_quiet_step (skip))
        refine wpQuiet_nil ?_
        intro w13 hb13
        clear s12_0 s12_1 s12_2 s12_3
        have g13 : Gr w w13 := g12.trans hb13
        have k12_0 := Gr.at hb13 k12_0
        have k12_1 := Gr.at hb13 k12_1
        have k12_2 := Gr.at hb13 k12_2
        have k12_3 := Gr.at hb13 k12_3
        go_wp2_with fail
        go_roundw
        case rel => exact ⟨i + 1, by omega, by go_num, hg.trans (gb12_wr.trans hb13)⟩
        case measure => simp [intOf]; omega
    · obtain rfl : un = i := by omega
      clear HA TA UA HX TX UX HVX HRF HRN tx1 ux1
      go_wp2_with fail
      go_ret
      exact ⟨rfl, gr⟩

theorem reduces_law (s : Ba.Ser) (ar mo : Int) (w : World) (hs : s.Ok w) (_ : -9223372036854775808 ≤ ar ∧ ar ≤ 9223372036854775807) (hmo : 0 ≤ mo ∧ mo ≤ 4294967295) : Calls Try.prog 4 #[s.val, .int .i64 ar, .int .u32 mo] w fun e w' => e = .returned (.bool true) ∧ Gr w w' := by
  cases hl : Ba.loB s
  · by_cases he : Ba.rdE s ar = 0
    · by_cases hb : 1073741824 - ar < mo
      · exact reduces_big s ar mo w hs hmo hl he hb
      · exact reduces_main s ar mo w hs hmo hl he (by omega)
    · exact reduces_no s ar mo w hs hmo hl he
  · exact reduces_far s ar mo w hs hmo hl
end Go.Proofs.Ytnfjebfmfjpepaa
