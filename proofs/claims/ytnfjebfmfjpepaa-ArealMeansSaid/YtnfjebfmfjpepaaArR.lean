/-
  Law 22: ArealMeans. (Printed by mkr.py.)
-/
import Derived.Test.YtnfjebfmfjpepaaArI
import Derived.Test.YtnfjebfmfjpepaaArQ
set_option linter.unusedVariables false
set_option linter.unusedSimpArgs false
namespace Go.Proofs.Ytnfjebfmfjpepaa
open Go.RowKit
attribute [local go_sem ↓] Go.wp_at_zero Go.wp_at_succ

set_option maxRecDepth 100000 in
set_option maxHeartbeats 4000000 in
theorem means_far (S : Ba.SlSer) (u : Ba.SlI) (w : World) (hS : S.At w) (hu : u.At w) (h : Ba.lonB S = true ∨ (Ba.lonB S = false ∧ (200 : Int) < u.n)) : Calls Try.prog 5 #[.slice S.A S.n S.c, .slice u.A u.n u.c] w fun e w' => e = .returned (.bool true) ∧ Gr w w' := by
  have HL := Lib.hid (fun W (hW : Gr w W) => long_any S W (hS.gr hW))
  have hm := Nat.le_trans hS.hc hS.hb; have hm2 := Nat.le_trans hu.hc hu.hb
  rcases h with h | ⟨h, h2⟩
  · rw [h] at HL
    clear h hS hu
    generalize S.A = A at *; generalize S.n = n at *; generalize S.c = c at *; generalize u.A = uA at *; generalize u.n = un at *; generalize u.c = uc at *
    go_enter Try.func5, Try.ntmps5
    go_wp2_with fail
    refine (awake_any _).mono ?_
    rintro e w2 ⟨rfl, g2⟩
    go_wp2_with fail
    refine (HL.out _ g2).mono ?_
    rintro e w3 ⟨rfl, hb3⟩
    have g3 := g2.trans hb3
    clear HL
    go_wp2_with fail
    go_ret
    exact ⟨rfl, g3⟩
  · rw [h] at HL
    clear h hS hu
    generalize S.A = A at *; generalize S.n = n at *; generalize S.c = c at *; generalize u.A = uA at *; generalize u.n = un at *; generalize u.c = uc at *
    go_enter Try.func5, Try.ntmps5
    go_wp2_with fail
    refine (awake_any _).mono ?_
    rintro e w2 ⟨rfl, g2⟩
    go_wp2_with fail
    refine (HL.out _ g2).mono ?_
    rintro e w3 ⟨rfl, hb3⟩
    have g3 := g2.trans hb3
    clear HL
    go_wp2_with fail
    go_ret
    exact ⟨rfl, g3⟩

set_option maxRecDepth 100000 in
set_option maxHeartbeats 4000000 in
theorem means_main (S : Ba.SlSer) (u : Ba.SlI) (w : World) (hS : S.At w) (hu : u.At w) (hl : Ba.lonB S = false) (h2 : (u.n : Int) ≤ 200) : Calls Try.prog 5 #[.slice S.A S.n S.c, .slice u.A u.n u.c] w fun e w' => e = .returned (.bool true) ∧ Gr w w' := by
  have HL := Lib.hid (fun W (hW : Gr w W) => long_any S W (hS.gr hW))
  have hm := Nat.le_trans hS.hc hS.hb; have hm2 := Nat.le_trans hu.hc hu.hb
  have H1 := Lib.hid (fun W (hW : Gr w W) => common_any S W (hS.gr hW)); have H3 := Lib.hid (fun W (hW : Gr w W) => rcommon_any S W (hS.gr hW))
  have H2 := Lib.hid (fun W (hW : Gr w W) => mn_any S u W (hS.gr hW) (hu.gr hW)); have H4 := Lib.hid (fun W (hW : Gr w W) => rmn_any S u W (hS.gr hW) (hu.gr hW))
  unfold RetMn at H2 H4
  rw [hl] at HL
  clear hl hS hu
  obtain ⟨E, hE⟩ : ∃ z, Ba.mnE S u = z := ⟨_, rfl⟩
  rw [hE] at H2 H4
  clear hE
  generalize Ba.coF S = cF at *; generalize Ba.coN S = cN at *; generalize Ba.coE S = cE at *
  generalize Ba.mnV S u = mv at *
  generalize Ba.frI S S.n = fr at *
  generalize (S.D 0).st = st at *
  generalize (Ba.cmN S).toNat = N at *
  generalize S.A = A at *; generalize S.n = n at *; generalize S.c = c at *; generalize u.A = uA at *; generalize u.n = un at *; generalize u.c = uc at *
  go_enter Try.func5, Try.ntmps5
  go_wp2_with fail
  refine (awake_any _).mono ?_
  rintro e w2 ⟨rfl, g2⟩
  go_wp2_with fail
  refine (HL.out _ g2).mono ?_
  rintro e w3 ⟨rfl, hb3⟩
  have g3 := g2.trans hb3
  clear HL
  go_wp2_with fail
  refine (H1.out _ g3).mono ?_
  rintro e w4 ⟨rfl, hb4⟩
  have g4 := g3.trans hb4
  clear H1
  go_wp2_with fail
  refine (H2.out _ g4).mono ?_
  rintro e w5 ⟨t, rfl, t1, t2, t3, hb5⟩
  have g5 := g4.trans hb5
  clear H2
  replace t1 := Lib.hid t1; replace t2 := Lib.hid t2; replace t3 := Lib.hid t3
  obtain ⟨tf, ts, ⟨tA, tn, tc, tb, to_, tX⟩⟩ := t
  unfold Ba.Ser.val
  simp only
  go_wp2_with fail
  -- @a
  (first | refine name_world ?_ | refine (show (∀ W, W = _ → Calls _ _ _ W _) → Calls _ _ _ _ _ from fun h => h _ rfl) ?_); intro W6 hW6
  have g6 : Gr w W6 := by rw [hW6]; exact gr_auto
  have gb6_w5 : Gr w5 W6 := by (try clear g6); rw [hW6]; exact gr_auto
  have k6_0 : W6.cell? ⟨w5.heap.size, 0, none⟩ = some (.int .i64 tf) := by rw [hW6]; first | (simp [go_sem, *]; done) | (refine Gr.at ?_ (by assumption); exact gr_auto)
  have b6_0 : w5.heap.size < W6.heap.size := World.block_lt_of_cell? _ _ k6_0
  have k6_1 : W6.cell? ⟨w5.heap.size, 1, none⟩ = some (.int .i64 ts) := by rw [hW6]; first | (simp [go_sem, *]; done) | (refine Gr.at ?_ (by assumption); exact gr_auto)
  have k6_2 : W6.cell? ⟨w5.heap.size, 2, none⟩ = some (.slice tA tn tc) := by rw [hW6]; first | (simp [go_sem, *]; done) | (refine Gr.at ?_ (by assumption); exact gr_auto)
  clear hW6
  refine (H3.out _ g6).mono ?_
  rintro e w7 ⟨rfl, hb7⟩
  have g7 := g6.trans hb7
  have c0 := Gr.at hb7 k6_0; have c1 := Gr.at hb7 k6_1; have c2 := Gr.at hb7 k6_2
  clear H3 k6_0 k6_1 k6_2
  go_wp2_with fail
  refine (H4.out _ g7).mono ?_
  rintro e w8 ⟨q, rfl, q1, q2, q3, hb8⟩
  have g8 := g7.trans hb8
  replace c0 := Gr.at hb8 c0; replace c1 := Gr.at hb8 c1; replace c2 := Gr.at hb8 c2
  clear H4
  have hz8 : w5.heap.size < w8.heap.size := World.block_lt_of_cell? _ _ c0
  replace q1 := Lib.hid q1; replace q2 := Lib.hid q2; replace q3 := Lib.hid q3
  obtain ⟨qf, qs, ⟨qA, qn, qc, qb, qo, qX⟩⟩ := q
  unfold Ba.Ser.val
  simp only
  have HQ : Hid (∀ W, Gr w8 W → Calls Try.prog 21 #[.agg #[.int .i64 tf, .int .i64 ts, .slice tA tn tc], .agg #[.int .i64 qf, .int .i64 qs, .slice qA qn qc]] W fun e w' => e = .returned (.bool true) ∧ Gr W w') := Lib.hid (fun W hW => by
    have a := t1.out.gr (gb6_w5.trans (hb7.trans (hb8.trans hW))); have b := q1.out.gr hW
    by_cases h0 : E = 0
    · have x := t2.out h0; have y := q2.out h0
      simp only at x y
      exact same_eq ⟨tf, ts, ⟨tA, tn, tc, tb, to_, tX⟩⟩ ⟨qf, qs, ⟨qA, qn, qc, qb, qo, qX⟩⟩ W a b (x.1.trans y.1.symm) (x.2.1.trans y.2.1.symm) (x.2.2.1.trans y.2.2.1.symm) (fun i hi => (x.2.2.2 i hi).trans (y.2.2.2 i (by have : i < tn := hi; have := x.2.2.1; have := y.2.2.1; omega)).symm)
    · have x := t3.out h0; have y := q3.out h0
      simp only at x y
      exact same_eq ⟨tf, ts, ⟨tA, tn, tc, tb, to_, tX⟩⟩ ⟨qf, qs, ⟨qA, qn, qc, qb, qo, qX⟩⟩ W a b (x.1.trans y.1.symm) (x.2.1.trans y.2.1.symm) (x.2.2.trans y.2.2.symm) (fun i hi => by have : i < tn := hi; have := x.2.2; omega))
  clear t1 t2 t3 q1 q2 q3
  go_wp2_with fail
  -- @b
  (first | refine name_world ?_ | refine (show (∀ W, W = _ → Calls _ _ _ W _) → Calls _ _ _ _ _ from fun h => h _ rfl) ?_); intro W9 hW9
  have g9 : Gr w W9 := by rw [hW9]; exact gr_auto
  have gb9_w8 : Gr w8 W9 := by (try clear g9); rw [hW9]; exact gr_auto
  have k9_0 : W9.cell? ⟨w5.heap.size, 0, none⟩ = some (.int .i64 tf) := by rw [hW9]; first | (simp [go_sem, *]; done) | (refine Gr.at ?_ (by assumption); exact gr_auto)
  have b9_0 : w5.heap.size < W9.heap.size := World.block_lt_of_cell? _ _ k9_0
  have k9_1 : W9.cell? ⟨w5.heap.size, 1, none⟩ = some (.int .i64 ts) := by rw [hW9]; first | (simp [go_sem, *]; done) | (refine Gr.at ?_ (by assumption); exact gr_auto)
  have k9_2 : W9.cell? ⟨w5.heap.size, 2, none⟩ = some (.slice tA tn tc) := by rw [hW9]; first | (simp [go_sem, *]; done) | (refine Gr.at ?_ (by assumption); exact gr_auto)
  have k9_3 : W9.cell? ⟨w8.heap.size, 0, none⟩ = some (.int .i64 qf) := by rw [hW9]; first | (simp [go_sem, *]; done) | (refine Gr.at ?_ (by assumption); exact gr_auto)
  have b9_3 : w8.heap.size < W9.heap.size := World.block_lt_of_cell? _ _ k9_3
  have k9_4 : W9.cell? ⟨w8.heap.size, 1, none⟩ = some (.int .i64 qs) := by rw [hW9]; first | (simp [go_sem, *]; done) | (refine Gr.at ?_ (by assumption); exact gr_auto)
  have k9_5 : W9.cell? ⟨w8.heap.size, 2, none⟩ = some (.slice qA qn qc) := by rw [hW9]; first | (simp [go_sem, *]; done) | (refine Gr.at ?_ (by assumption); exact gr_auto)
  clear hW9
  refine (HQ.out _ gb9_w8).mono ?_
  rintro e w10 ⟨rfl, hb10⟩
  clear HQ c0 c1 c2
  go_wp2_with fail
  go_ret
  exact ⟨rfl, g9.trans hb10⟩

theorem means_law (S : Ba.SlSer) (u : Ba.SlI) (w : World) (hS : S.At w) (hu : u.At w) : Calls Try.prog 5 #[.slice S.A S.n S.c, .slice u.A u.n u.c] w fun e w' => e = .returned (.bool true) ∧ Gr w w' := by
  cases hl : Ba.lonB S
  · by_cases h2 : (u.n : Int) ≤ 200
    · exact means_main S u w hS hu hl h2
    · exact means_far S u w hS hu (.inr ⟨hl, by omega⟩)
  · exact means_far S u w hS hu (.inl hl)
end Go.Proofs.Ytnfjebfmfjpepaa
