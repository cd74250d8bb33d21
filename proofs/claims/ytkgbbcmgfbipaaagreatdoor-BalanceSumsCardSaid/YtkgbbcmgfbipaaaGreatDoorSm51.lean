/-
  The law BalanceSums. (Printed by mkbslaw.py.)
-/
import Derived.Test.YtkgbbcmgfbipaaaGreatDoorSm41
import Derived.Test.YtkgbbcmgfbipaaaGreatDoorSm42
import Derived.Test.YtkgbbcmgfbipaaaGreatDoorSm45
import Derived.Test.YtkgbbcmgfbipaaaGreatDoorSm40
import Derived.Test.YtkgbbcmgfbipaaaGreatDoorSm49
import Derived.Test.YtkgbbcmgfbipaaaGreatDoorSm50

set_option linter.unusedVariables false
set_option linter.unusedSimpArgs false
namespace Go.Proofs.YtkgbbcmgfbipaaaGreatDoor
open Go.RowKit
attribute [local go_sem ↓] Go.wp_at_zero Go.wp_at_succ
set_option maxRecDepth 100000 in
set_option maxHeartbeats 8000000 in
theorem bsf_any (d : Ba.Ledger) (w : World) (hd : d.Ok w) : Calls Tryz.prog 7 #[d.val] w fun e w' => e = .returned (.bool (decide ((40 : Int) < (d.ps.n : Int)))) ∧ Gr w w' := by
  have hm := Nat.le_trans hd.2.2.hc hd.2.2.hb
  clear hd
  unfold Ba.Ledger.val
  go_enter Tryz.func7, Tryz.ntmps7
  go_wp2_with fail
  go_ret
  exact ⟨rfl, gr_auto⟩
set_option maxRecDepth 100000 in
set_option maxHeartbeats 8000000 in
theorem bs_h (A A2 LA : Option Addr) (n c n2 c2 ln lc : Nat) (t : ByteArray) (w : World) (hm : ln ≤ 9223372036854775807) (ht : t.size ≤ 9223372036854775807) (HA : Hid (∀ W, Gr w W → Calls Tryz.prog 4 #[] W fun e w' => e = .returned (.bool true) ∧ Gr W w')) (HH : Hid (∀ W, Gr w W → Calls Tryz.prog 5 #[.agg #[.slice A n c, .slice A2 n2 c2]] W fun e w' => e = .returned (.bool true) ∧ Gr W w')) : Calls Tryz.prog 3 #[.agg #[.slice A n c, .slice A2 n2 c2], .slice LA ln lc, .string t] w (fun e w' => e = .returned (.bool true) ∧ Gr w w') := by
  go_enter Tryz.func3, Tryz.ntmps3
  go_wp2_with fail
  (first | refine name_world ?_ | refine (show (∀ W, W = _ → Calls _ _ _ W _) → Calls _ _ _ _ _ from fun h => h _ rfl) ?_); intro W1 hW1
  have g1 : Gr w W1 := by rw [hW1]; exact gr_auto
  have k1_0 : W1.cell? ⟨w.heap.size, 0, none⟩ = some (.slice A n c) := by rw [hW1]; first | (simp [go_sem, *]; done) | (refine Gr.at ?_ (by assumption); exact gr_auto)
  have b1_0 : w.heap.size < W1.heap.size := World.block_lt_of_cell? _ _ k1_0
  have k1_1 : W1.cell? ⟨w.heap.size, 1, none⟩ = some (.slice A2 n2 c2) := by rw [hW1]; first | (simp [go_sem, *]; done) | (refine Gr.at ?_ (by assumption); exact gr_auto)
  clear hW1
  refine (HA.out _ g1).mono ?_
  rintro e w2 ⟨rfl, hb2⟩
  have g2 := g1.trans hb2
  have k1_0 := Gr.at (w1 := w2) gr_auto k1_0; have k1_1 := Gr.at (w1 := w2) gr_auto k1_1
  go_wp2_with fail
  refine (HH.out _ g2).mono ?_
  rintro e w3 ⟨rfl, hb3⟩
  have g3 := g2.trans hb3
  have k1_0 := Gr.at (w1 := w3) gr_auto k1_0; have k1_1 := Gr.at (w1 := w3) gr_auto k1_1
  go_wp2_with fail
  go_ret
  exact ⟨rfl, gr_auto⟩
set_option maxRecDepth 100000 in
set_option maxHeartbeats 8000000 in
theorem bs_t (A A2 LA : Option Addr) (n c n2 c2 ln lc : Nat) (t : ByteArray) (w : World) (hm : ln ≤ 9223372036854775807) (ht : t.size ≤ 9223372036854775807) (HA : Hid (∀ W, Gr w W → Calls Tryz.prog 4 #[] W fun e w' => e = .returned (.bool true) ∧ Gr W w')) (HH : Hid (∀ W, Gr w W → Calls Tryz.prog 5 #[.agg #[.slice A n c, .slice A2 n2 c2]] W fun e w' => e = .returned (.bool false) ∧ Gr W w')) (t0 : (100 : Int) < (t.size : Int)) : Calls Tryz.prog 3 #[.agg #[.slice A n c, .slice A2 n2 c2], .slice LA ln lc, .string t] w (fun e w' => e = .returned (.bool true) ∧ Gr w w') := by
  go_enter Tryz.func3, Tryz.ntmps3
  go_wp2_with fail
  (first | refine name_world ?_ | refine (show (∀ W, W = _ → Calls _ _ _ W _) → Calls _ _ _ _ _ from fun h => h _ rfl) ?_); intro W1 hW1
  have g1 : Gr w W1 := by rw [hW1]; exact gr_auto
  have k1_0 : W1.cell? ⟨w.heap.size, 0, none⟩ = some (.slice A n c) := by rw [hW1]; first | (simp [go_sem, *]; done) | (refine Gr.at ?_ (by assumption); exact gr_auto)
  have b1_0 : w.heap.size < W1.heap.size := World.block_lt_of_cell? _ _ k1_0
  have k1_1 : W1.cell? ⟨w.heap.size, 1, none⟩ = some (.slice A2 n2 c2) := by rw [hW1]; first | (simp [go_sem, *]; done) | (refine Gr.at ?_ (by assumption); exact gr_auto)
  clear hW1
  refine (HA.out _ g1).mono ?_
  rintro e w2 ⟨rfl, hb2⟩
  have g2 := g1.trans hb2
  have k1_0 := Gr.at (w1 := w2) gr_auto k1_0; have k1_1 := Gr.at (w1 := w2) gr_auto k1_1
  go_wp2_with fail
  refine (HH.out _ g2).mono ?_
  rintro e w3 ⟨rfl, hb3⟩
  have g3 := g2.trans hb3
  have k1_0 := Gr.at (w1 := w3) gr_auto k1_0; have k1_1 := Gr.at (w1 := w3) gr_auto k1_1
  go_wp2_with fail
  go_ret
  exact ⟨rfl, gr_auto⟩
set_option maxRecDepth 100000 in
set_option maxHeartbeats 8000000 in
theorem bs_m (A A2 LA : Option Addr) (n c n2 c2 ln lc : Nat) (t : ByteArray) (w : World) (hm : ln ≤ 9223372036854775807) (ht : t.size ≤ 9223372036854775807) (HA : Hid (∀ W, Gr w W → Calls Tryz.prog 4 #[] W fun e w' => e = .returned (.bool true) ∧ Gr W w')) (HH : Hid (∀ W, Gr w W → Calls Tryz.prog 5 #[.agg #[.slice A n c, .slice A2 n2 c2]] W fun e w' => e = .returned (.bool false) ∧ Gr W w')) (t0 : (t.size : Int) ≤ 100) (t1 : (20 : Int) < (ln : Int)) (t2 : (ln : Int) ≤ 10000) : Calls Tryz.prog 3 #[.agg #[.slice A n c, .slice A2 n2 c2], .slice LA ln lc, .string t] w (fun e w' => e = .returned (.bool true) ∧ Gr w w') := by
  go_enter Tryz.func3, Tryz.ntmps3
  go_wp2_with fail
  (first | refine name_world ?_ | refine (show (∀ W, W = _ → Calls _ _ _ W _) → Calls _ _ _ _ _ from fun h => h _ rfl) ?_); intro W1 hW1
  have g1 : Gr w W1 := by rw [hW1]; exact gr_auto
  have k1_0 : W1.cell? ⟨w.heap.size, 0, none⟩ = some (.slice A n c) := by rw [hW1]; first | (simp [go_sem, *]; done) | (refine Gr.at ?_ (by assumption); exact gr_auto)
  have b1_0 : w.heap.size < W1.heap.size := World.block_lt_of_cell? _ _ k1_0
  have k1_1 : W1.cell? ⟨w.heap.size, 1, none⟩ = some (.slice A2 n2 c2) := by rw [hW1]; first | (simp [go_sem, *]; done) | (refine Gr.at ?_ (by assumption); exact gr_auto)
  clear hW1
  refine (HA.out _ g1).mono ?_
  rintro e w2 ⟨rfl, hb2⟩
  have g2 := g1.trans hb2
  have k1_0 := Gr.at (w1 := w2) gr_auto k1_0; have k1_1 := Gr.at (w1 := w2) gr_auto k1_1
  go_wp2_with fail
  refine (HH.out _ g2).mono ?_
  rintro e w3 ⟨rfl, hb3⟩
  have g3 := g2.trans hb3
  have k1_0 := Gr.at (w1 := w3) gr_auto k1_0; have k1_1 := Gr.at (w1 := w3) gr_auto k1_1
  go_wp2_with fail
  go_ret
  exact ⟨rfl, gr_auto⟩
set_option maxRecDepth 100000 in
set_option maxHeartbeats 8000000 in
theorem bs_b (A A2 LA : Option Addr) (n c n2 c2 ln lc : Nat) (t : ByteArray) (w : World) (hm : ln ≤ 9223372036854775807) (ht : t.size ≤ 9223372036854775807) (HA : Hid (∀ W, Gr w W → Calls Tryz.prog 4 #[] W fun e w' => e = .returned (.bool true) ∧ Gr W w')) (HH : Hid (∀ W, Gr w W → Calls Tryz.prog 5 #[.agg #[.slice A n c, .slice A2 n2 c2]] W fun e w' => e = .returned (.bool false) ∧ Gr W w')) (t0 : (t.size : Int) ≤ 100) (t1 : (20 : Int) < (ln : Int)) (t2 : (10020 : Int) < (ln : Int)) : Calls Tryz.prog 3 #[.agg #[.slice A n c, .slice A2 n2 c2], .slice LA ln lc, .string t] w (fun e w' => e = .returned (.bool true) ∧ Gr w w') := by
  go_enter Tryz.func3, Tryz.ntmps3
  go_wp2_with fail
  (first | refine name_world ?_ | refine (show (∀ W, W = _ → Calls _ _ _ W _) → Calls _ _ _ _ _ from fun h => h _ rfl) ?_); intro W1 hW1
  have g1 : Gr w W1 := by rw [hW1]; exact gr_auto
  have k1_0 : W1.cell? ⟨w.heap.size, 0, none⟩ = some (.slice A n c) := by rw [hW1]; first | (simp [go_sem, *]; done) | (refine Gr.at ?_ (by assumption); exact gr_auto)
  have b1_0 : w.heap.size < W1.heap.size := World.block_lt_of_cell? _ _ k1_0
  have k1_1 : W1.cell? ⟨w.heap.size, 1, none⟩ = some (.slice A2 n2 c2) := by rw [hW1]; first | (simp [go_sem, *]; done) | (refine Gr.at ?_ (by assumption); exact gr_auto)
  clear hW1
  refine (HA.out _ g1).mono ?_
  rintro e w2 ⟨rfl, hb2⟩
  have g2 := g1.trans hb2
  have k1_0 := Gr.at (w1 := w2) gr_auto k1_0; have k1_1 := Gr.at (w1 := w2) gr_auto k1_1
  go_wp2_with fail
  refine (HH.out _ g2).mono ?_
  rintro e w3 ⟨rfl, hb3⟩
  have g3 := g2.trans hb3
  have k1_0 := Gr.at (w1 := w3) gr_auto k1_0; have k1_1 := Gr.at (w1 := w3) gr_auto k1_1
  go_wp2_with fail
  go_ret
  exact ⟨rfl, gr_auto⟩
set_option maxRecDepth 100000 in
set_option maxHeartbeats 8000000 in
theorem bs_c (A A2 LA : Option Addr) (n c n2 c2 ln lc : Nat) (t : ByteArray) (w : World) (hm : ln ≤ 9223372036854775807) (ht : t.size ≤ 9223372036854775807) (HA : Hid (∀ W, Gr w W → Calls Tryz.prog 4 #[] W fun e w' => e = .returned (.bool true) ∧ Gr W w')) (HH : Hid (∀ W, Gr w W → Calls Tryz.prog 5 #[.agg #[.slice A n c, .slice A2 n2 c2]] W fun e w' => e = .returned (.bool false) ∧ Gr W w')) (t0 : (t.size : Int) ≤ 100) (t1 : (ln : Int) ≤ 20) (HC : Hid (∀ W, Gr w W → Calls Tryz.prog 6 #[.slice LA ln lc, .func (.func 7) #[] #[]] W fun e w' => e = .returned (.bool true) ∧ Gr W w')) : Calls Tryz.prog 3 #[.agg #[.slice A n c, .slice A2 n2 c2], .slice LA ln lc, .string t] w (fun e w' => e = .returned (.bool true) ∧ Gr w w') := by
  go_enter Tryz.func3, Tryz.ntmps3
  go_wp2_with fail
  (first | refine name_world ?_ | refine (show (∀ W, W = _ → Calls _ _ _ W _) → Calls _ _ _ _ _ from fun h => h _ rfl) ?_); intro W1 hW1
  have g1 : Gr w W1 := by rw [hW1]; exact gr_auto
  have k1_0 : W1.cell? ⟨w.heap.size, 0, none⟩ = some (.slice A n c) := by rw [hW1]; first | (simp [go_sem, *]; done) | (refine Gr.at ?_ (by assumption); exact gr_auto)
  have b1_0 : w.heap.size < W1.heap.size := World.block_lt_of_cell? _ _ k1_0
  have k1_1 : W1.cell? ⟨w.heap.size, 1, none⟩ = some (.slice A2 n2 c2) := by rw [hW1]; first | (simp [go_sem, *]; done) | (refine Gr.at ?_ (by assumption); exact gr_auto)
  clear hW1
  refine (HA.out _ g1).mono ?_
  rintro e w2 ⟨rfl, hb2⟩
  have g2 := g1.trans hb2
  have k1_0 := Gr.at (w1 := w2) gr_auto k1_0; have k1_1 := Gr.at (w1 := w2) gr_auto k1_1
  go_wp2_with fail
  refine (HH.out _ g2).mono ?_
  rintro e w3 ⟨rfl, hb3⟩
  have g3 := g2.trans hb3
  have k1_0 := Gr.at (w1 := w3) gr_auto k1_0; have k1_1 := Gr.at (w1 := w3) gr_auto k1_1
  go_wp2_with fail
  refine (HC.out _ g3).mono ?_
  rintro e w4 ⟨rfl, hb4⟩
  have g4 := g3.trans hb4
  have k1_0 := Gr.at (w1 := w4) gr_auto k1_0; have k1_1 := Gr.at (w1 := w4) gr_auto k1_1
  go_wp2_with fail
  go_ret
  exact ⟨rfl, gr_auto⟩
namespace Ba
theorem same_ret {D : Nat → Ledger} {n2 ln : Nat} {ec : Int} {a b : Ledger} (h0 : ec = 0 → a.inn = sIn D ln ∧ a.out = sOut D ln ∧ a.ps.n = n2 ∧ ∀ k, k < n2 → a.ps.X k = sPs D k ln) (h1 : ec ≠ 0 → a.inn = 0 ∧ a.out = 0 ∧ a.ps.n = 0) (k0 : ec = 0 → b.inn = sIn D ln ∧ b.out = sOut D ln ∧ b.ps.n = n2 ∧ ∀ k, k < n2 → b.ps.X k = sPs D k ln) (k1 : ec ≠ 0 → b.inn = 0 ∧ b.out = 0 ∧ b.ps.n = 0) : sameB a b = true := by
  by_cases e : ec = 0
  · obtain ⟨a1, a2, a3, a4⟩ := h0 e
    obtain ⟨b1, b2, b3, b4⟩ := k0 e
    exact same_of (a1.trans b1.symm) (a2.trans b2.symm) (a3.trans b3.symm) fun k hk => by rw [a4 k (by omega), b4 k (by omega)]
  · obtain ⟨a1, a2, a3⟩ := h1 e
    obtain ⟨b1, b2, b3⟩ := k1 e
    exact same_of (a1.trans b1.symm) (a2.trans b2.symm) (a3.trans b3.symm) fun k hk => by omega
end Ba
set_option maxRecDepth 100000 in
set_option maxHeartbeats 8000000 in
theorem bs_big (A A2 LA : Option Addr) (n c n2 c2 ln lc : Nat) (t : ByteArray) (w : World) (hm : ln ≤ 9223372036854775807) (ht : t.size ≤ 9223372036854775807) (HA : Hid (∀ W, Gr w W → Calls Tryz.prog 4 #[] W fun e w' => e = .returned (.bool true) ∧ Gr W w')) (HH : Hid (∀ W, Gr w W → Calls Tryz.prog 5 #[.agg #[.slice A n c, .slice A2 n2 c2]] W fun e w' => e = .returned (.bool false) ∧ Gr W w')) (t0 : (t.size : Int) ≤ 100) (t1 : (20 : Int) < (ln : Int)) (t2 : (10000 : Int) < (ln : Int)) (t3 : (ln : Int) ≤ 10020) (D : Nat → Ba.Ledger) (ec : Int) (v te : Int) (HS1 : Hid (∀ W, Gr w W → Calls Tryz.prog 8 #[.agg #[.slice A n c, .slice A2 n2 c2], .slice LA ln lc] W (RetSum D n2 ln ec W))) (HR1 : Hid (∀ W, Gr w W → Calls Tryz.prog 9 #[.agg #[.slice A n c, .slice A2 n2 c2], .slice LA ln lc] W (RetSum D n2 ln ec W)))
    (HT1 : Hid (∀ W, Gr w W → Calls Tryz.prog 10 #[.agg #[.slice A n c, .slice A2 n2 c2], .slice LA ln lc, .string t] W fun e w' => e = .returned (.tuple #[.int .i64 v, .int .i64 te]) ∧ Gr W w')) (HT2 : Hid (∀ W, Gr w W → Calls Tryz.prog 11 #[.agg #[.slice A n c, .slice A2 n2 c2], .slice LA ln lc, .string t] W fun e w' => e = .returned (.tuple #[.int .i64 v, .int .i64 te]) ∧ Gr W w'))
    (HSM : Hid (∀ a b : Ba.Ledger, ∀ W, a.Ok W → b.Ok W → Ba.sameB a b = true → Calls Tryz.prog 12 #[.agg #[.int .i64 a.inn, .int .i64 a.out, .slice a.ps.A a.ps.n a.ps.c], .agg #[.int .i64 b.inn, .int .i64 b.out, .slice b.ps.A b.ps.n b.ps.c]] W fun e w' => e = .returned (.bool true) ∧ Gr W w')) : Calls Tryz.prog 3 #[.agg #[.slice A n c, .slice A2 n2 c2], .slice LA ln lc, .string t] w (fun e w' => e = .returned (.bool true) ∧ Gr w w') := by
  go_enter Tryz.func3, Tryz.ntmps3
  go_wp2_with fail
  (first | refine name_world ?_ | refine (show (∀ W, W = _ → Calls _ _ _ W _) → Calls _ _ _ _ _ from fun h => h _ rfl) ?_); intro W1 hW1
  have g1 : Gr w W1 := by rw [hW1]; exact gr_auto
  have k1_0 : W1.cell? ⟨w.heap.size, 0, none⟩ = some (.slice A n c) := by rw [hW1]; first | (simp [go_sem, *]; done) | (refine Gr.at ?_ (by assumption); exact gr_auto)
  have b1_0 : w.heap.size < W1.heap.size := World.block_lt_of_cell? _ _ k1_0
  have k1_1 : W1.cell? ⟨w.heap.size, 1, none⟩ = some (.slice A2 n2 c2) := by rw [hW1]; first | (simp [go_sem, *]; done) | (refine Gr.at ?_ (by assumption); exact gr_auto)
  clear hW1
  refine (HA.out _ g1).mono ?_
  rintro e w2 ⟨rfl, hb2⟩
  have g2 := g1.trans hb2
  have k1_0 := Gr.at (w1 := w2) gr_auto k1_0; have k1_1 := Gr.at (w1 := w2) gr_auto k1_1
  go_wp2_with fail
  refine (HH.out _ g2).mono ?_
  rintro e w3 ⟨rfl, hb3⟩
  have g3 := g2.trans hb3
  have k1_0 := Gr.at (w1 := w3) gr_auto k1_0; have k1_1 := Gr.at (w1 := w3) gr_auto k1_1
  go_wp2_with fail
  have g4 := g3
  refine (HS1.out _ g4).mono ?_
  rintro e w5 ⟨a, rfl, oka, a0, a1, -, hb5⟩
  have g5 := g4.trans hb5
  have k1_0 := Gr.at (w1 := w5) gr_auto k1_0; have k1_1 := Gr.at (w1 := w5) gr_auto k1_1
  have A0 := Lib.hid a0; have A1 := Lib.hid a1; have OKA := Lib.hid oka
  clear a0 a1 oka HS1
  have z50 : w.heap.size < w5.heap.size := World.block_lt_of_cell? _ _ k1_0
  go_wp2_with fail
  (first | refine name_world ?_ | refine (show (∀ W, W = _ → Calls _ _ _ W _) → Calls _ _ _ _ _ from fun h => h _ rfl) ?_); intro W6 hW6
  have g6 : Gr w W6 := by rw [hW6]; exact gr_auto
  have gb6_w5 : Gr w5 W6 := by (try clear g6); rw [hW6]; exact gr_auto
  have k6_0 : W6.cell? ⟨w.heap.size, 0, none⟩ = some (.slice A n c) := by rw [hW6]; first | (simp [go_sem, *]; done) | (refine Gr.at ?_ (by assumption); exact gr_auto)
  have b6_0 : w.heap.size < W6.heap.size := World.block_lt_of_cell? _ _ k6_0
  have k6_1 : W6.cell? ⟨w.heap.size, 1, none⟩ = some (.slice A2 n2 c2) := by rw [hW6]; first | (simp [go_sem, *]; done) | (refine Gr.at ?_ (by assumption); exact gr_auto)
  have k6_2 : W6.cell? ⟨w5.heap.size, 0, none⟩ = some (.int .i64 a.inn) := by rw [hW6]; first | (simp [go_sem, *]; done) | (refine Gr.at ?_ (by assumption); exact gr_auto)
  have b6_2 : w5.heap.size < W6.heap.size := World.block_lt_of_cell? _ _ k6_2
  have k6_3 : W6.cell? ⟨w5.heap.size, 1, none⟩ = some (.int .i64 a.out) := by rw [hW6]; first | (simp [go_sem, *]; done) | (refine Gr.at ?_ (by assumption); exact gr_auto)
  have k6_4 : W6.cell? ⟨w5.heap.size, 2, none⟩ = some (.slice a.ps.A a.ps.n a.ps.c) := by rw [hW6]; first | (simp [go_sem, *]; done) | (refine Gr.at ?_ (by assumption); exact gr_auto)
  clear hW6
  clear k1_0 k1_1
  refine (HR1.out _ g6).mono ?_
  rintro e w7 ⟨b, rfl, okb, b0, b1, -, hb7⟩
  have g7 := g6.trans hb7
  have k6_0 := Gr.at (w1 := w7) gr_auto k6_0; have k6_1 := Gr.at (w1 := w7) gr_auto k6_1; have k6_2 := Gr.at (w1 := w7) gr_auto k6_2; have k6_3 := Gr.at (w1 := w7) gr_auto k6_3; have k6_4 := Gr.at (w1 := w7) gr_auto k6_4
  have HSB := Lib.hid (Ba.same_ret A0.out A1.out b0 b1)
  have OKB := Lib.hid okb
  have OKA7 := Lib.hid (OKA.out.gr (gb6_w5.trans hb7))
  clear b0 b1 okb HR1 A0 A1 OKA
  have z5 : w5.heap.size < w7.heap.size := World.block_lt_of_cell? _ _ k6_2
  have z70 : w.heap.size < w7.heap.size := World.block_lt_of_cell? _ _ k6_0
  go_wp2_with fail
  (first | refine name_world ?_ | refine (show (∀ W, W = _ → Calls _ _ _ W _) → Calls _ _ _ _ _ from fun h => h _ rfl) ?_); intro W8 hW8
  have g8 : Gr w W8 := by rw [hW8]; exact gr_auto
  have gb8_w7 : Gr w7 W8 := by (try clear g8); rw [hW8]; exact gr_auto
  have k8_0 : W8.cell? ⟨w.heap.size, 0, none⟩ = some (.slice A n c) := by rw [hW8]; first | (simp [go_sem, *]; done) | (refine Gr.at ?_ (by assumption); exact gr_auto)
  have b8_0 : w.heap.size < W8.heap.size := World.block_lt_of_cell? _ _ k8_0
  have k8_1 : W8.cell? ⟨w.heap.size, 1, none⟩ = some (.slice A2 n2 c2) := by rw [hW8]; first | (simp [go_sem, *]; done) | (refine Gr.at ?_ (by assumption); exact gr_auto)
  have k8_2 : W8.cell? ⟨w5.heap.size, 0, none⟩ = some (.int .i64 a.inn) := by rw [hW8]; first | (simp [go_sem, *]; done) | (refine Gr.at ?_ (by assumption); exact gr_auto)
  have b8_2 : w5.heap.size < W8.heap.size := World.block_lt_of_cell? _ _ k8_2
  have k8_3 : W8.cell? ⟨w5.heap.size, 1, none⟩ = some (.int .i64 a.out) := by rw [hW8]; first | (simp [go_sem, *]; done) | (refine Gr.at ?_ (by assumption); exact gr_auto)
  have k8_4 : W8.cell? ⟨w5.heap.size, 2, none⟩ = some (.slice a.ps.A a.ps.n a.ps.c) := by rw [hW8]; first | (simp [go_sem, *]; done) | (refine Gr.at ?_ (by assumption); exact gr_auto)
  have k8_5 : W8.cell? ⟨w7.heap.size, 0, none⟩ = some (.int .i64 b.inn) := by rw [hW8]; first | (simp [go_sem, *]; done) | (refine Gr.at ?_ (by assumption); exact gr_auto)
  have b8_5 : w7.heap.size < W8.heap.size := World.block_lt_of_cell? _ _ k8_5
  have k8_6 : W8.cell? ⟨w7.heap.size, 1, none⟩ = some (.int .i64 b.out) := by rw [hW8]; first | (simp [go_sem, *]; done) | (refine Gr.at ?_ (by assumption); exact gr_auto)
  have k8_7 : W8.cell? ⟨w7.heap.size, 2, none⟩ = some (.slice b.ps.A b.ps.n b.ps.c) := by rw [hW8]; first | (simp [go_sem, *]; done) | (refine Gr.at ?_ (by assumption); exact gr_auto)
  clear hW8
  clear k6_0 k6_1 k6_2 k6_3 k6_4
  refine (HT1.out _ g8).mono ?_
  rintro e w9 ⟨rfl, hb9⟩
  have g9 := g8.trans hb9
  have k8_0 := Gr.at (w1 := w9) gr_auto k8_0; have k8_1 := Gr.at (w1 := w9) gr_auto k8_1; have k8_2 := Gr.at (w1 := w9) gr_auto k8_2; have k8_3 := Gr.at (w1 := w9) gr_auto k8_3; have k8_4 := Gr.at (w1 := w9) gr_auto k8_4; have k8_5 := Gr.at (w1 := w9) gr_auto k8_5; have k8_6 := Gr.at (w1 := w9) gr_auto k8_6; have k8_7 := Gr.at (w1 := w9) gr_auto k8_7
  clear HT1
  go_wp2_with fail
  refine (HT2.out _ g9).mono ?_
  rintro e w10 ⟨rfl, hb10⟩
  have g10 := g9.trans hb10
  have k8_0 := Gr.at (w1 := w10) gr_auto k8_0; have k8_1 := Gr.at (w1 := w10) gr_auto k8_1; have k8_2 := Gr.at (w1 := w10) gr_auto k8_2; have k8_3 := Gr.at (w1 := w10) gr_auto k8_3; have k8_4 := Gr.at (w1 := w10) gr_auto k8_4; have k8_5 := Gr.at (w1 := w10) gr_auto k8_5; have k8_6 := Gr.at (w1 := w10) gr_auto k8_6; have k8_7 := Gr.at (w1 := w10) gr_auto k8_7
  have HSi := Lib.hid (HSM.out a b w10 (OKA7.out.gr ((gb8_w7.trans hb9).trans hb10)) (OKB.out.gr ((gb8_w7.trans hb9).trans hb10)) HSB.out)
  clear HT2 HSM HSB OKA7 OKB
  have ee : (ec != ec) = false := by simp
  have vv : (v != v) = false := by simp
  have tt : (te != te) = false := by simp
  go_wp2_with fail
  refine HSi.out.mono ?_
  rintro e w11 ⟨rfl, hb11⟩
  have g11 := g10.trans hb11
  have k8_0 := Gr.at (w1 := w11) gr_auto k8_0; have k8_1 := Gr.at (w1 := w11) gr_auto k8_1
  clear HSi k8_2 k8_3 k8_4 k8_5 k8_6 k8_7
  go_wp2_with fail
  go_ret
  exact ⟨rfl, gr_auto⟩
set_option maxRecDepth 100000 in
set_option maxHeartbeats 8000000 in
theorem bs_nil (A A2 LA : Option Addr) (n c n2 c2 ln lc : Nat) (t : ByteArray) (w : World) (hm : ln ≤ 9223372036854775807) (ht : t.size ≤ 9223372036854775807) (HA : Hid (∀ W, Gr w W → Calls Tryz.prog 4 #[] W fun e w' => e = .returned (.bool true) ∧ Gr W w')) (HH : Hid (∀ W, Gr w W → Calls Tryz.prog 5 #[.agg #[.slice A n c, .slice A2 n2 c2]] W fun e w' => e = .returned (.bool false) ∧ Gr W w')) (t0 : (t.size : Int) ≤ 100) (t1 : ln = 0) (HC : Hid (∀ W, Gr w W → Calls Tryz.prog 6 #[.slice LA ln lc, .func (.func 7) #[] #[]] W fun e w' => e = .returned (.bool false) ∧ Gr W w')) (D : Nat → Ba.Ledger) (ec : Int) (v te : Int) (HS1 : Hid (∀ W, Gr w W → Calls Tryz.prog 8 #[.agg #[.slice A n c, .slice A2 n2 c2], .slice LA ln lc] W (RetSum D n2 ln ec W))) (HR1 : Hid (∀ W, Gr w W → Calls Tryz.prog 9 #[.agg #[.slice A n c, .slice A2 n2 c2], .slice LA ln lc] W (RetSum D n2 ln ec W)))
    (HT1 : Hid (∀ W, Gr w W → Calls Tryz.prog 10 #[.agg #[.slice A n c, .slice A2 n2 c2], .slice LA ln lc, .string t] W fun e w' => e = .returned (.tuple #[.int .i64 v, .int .i64 te]) ∧ Gr W w')) (HT2 : Hid (∀ W, Gr w W → Calls Tryz.prog 11 #[.agg #[.slice A n c, .slice A2 n2 c2], .slice LA ln lc, .string t] W fun e w' => e = .returned (.tuple #[.int .i64 v, .int .i64 te]) ∧ Gr W w'))
    (HSM : Hid (∀ a b : Ba.Ledger, ∀ W, a.Ok W → b.Ok W → Ba.sameB a b = true → Calls Tryz.prog 12 #[.agg #[.int .i64 a.inn, .int .i64 a.out, .slice a.ps.A a.ps.n a.ps.c], .agg #[.int .i64 b.inn, .int .i64 b.out, .slice b.ps.A b.ps.n b.ps.c]] W fun e w' => e = .returned (.bool true) ∧ Gr W w')) : Calls Tryz.prog 3 #[.agg #[.slice A n c, .slice A2 n2 c2], .slice LA ln lc, .string t] w (fun e w' => e = .returned (.bool true) ∧ Gr w w') := by
  subst t1
  go_enter Tryz.func3, Tryz.ntmps3
  go_wp2_with fail
  (first | refine name_world ?_ | refine (show (∀ W, W = _ → Calls _ _ _ W _) → Calls _ _ _ _ _ from fun h => h _ rfl) ?_); intro W1 hW1
  have g1 : Gr w W1 := by rw [hW1]; exact gr_auto
  have k1_0 : W1.cell? ⟨w.heap.size, 0, none⟩ = some (.slice A n c) := by rw [hW1]; first | (simp [go_sem, *]; done) | (refine Gr.at ?_ (by assumption); exact gr_auto)
  have b1_0 : w.heap.size < W1.heap.size := World.block_lt_of_cell? _ _ k1_0
  have k1_1 : W1.cell? ⟨w.heap.size, 1, none⟩ = some (.slice A2 n2 c2) := by rw [hW1]; first | (simp [go_sem, *]; done) | (refine Gr.at ?_ (by assumption); exact gr_auto)
  clear hW1
  refine (HA.out _ g1).mono ?_
  rintro e w2 ⟨rfl, hb2⟩
  have g2 := g1.trans hb2
  have k1_0 := Gr.at (w1 := w2) gr_auto k1_0; have k1_1 := Gr.at (w1 := w2) gr_auto k1_1
  go_wp2_with fail
  refine (HH.out _ g2).mono ?_
  rintro e w3 ⟨rfl, hb3⟩
  have g3 := g2.trans hb3
  have k1_0 := Gr.at (w1 := w3) gr_auto k1_0; have k1_1 := Gr.at (w1 := w3) gr_auto k1_1
  go_wp2_with fail
  refine (HC.out _ g3).mono ?_
  rintro e w4 ⟨rfl, hb4⟩
  have g4 := g3.trans hb4
  have k1_0 := Gr.at (w1 := w4) gr_auto k1_0; have k1_1 := Gr.at (w1 := w4) gr_auto k1_1
  go_wp2_with fail
  refine (HS1.out _ g4).mono ?_
  rintro e w5 ⟨a, rfl, oka, a0, a1, -, hb5⟩
  have g5 := g4.trans hb5
  have k1_0 := Gr.at (w1 := w5) gr_auto k1_0; have k1_1 := Gr.at (w1 := w5) gr_auto k1_1
  have A0 := Lib.hid a0; have A1 := Lib.hid a1; have OKA := Lib.hid oka
  clear a0 a1 oka HS1
  have z50 : w.heap.size < w5.heap.size := World.block_lt_of_cell? _ _ k1_0
  go_wp2_with fail
  (first | refine name_world ?_ | refine (show (∀ W, W = _ → Calls _ _ _ W _) → Calls _ _ _ _ _ from fun h => h _ rfl) ?_); intro W6 hW6
  have g6 : Gr w W6 := by rw [hW6]; exact gr_auto
  have gb6_w5 : Gr w5 W6 := by (try clear g6); rw [hW6]; exact gr_auto
  have k6_0 : W6.cell? ⟨w.heap.size, 0, none⟩ = some (.slice A n c) := by rw [hW6]; first | (simp [go_sem, *]; done) | (refine Gr.at ?_ (by assumption); exact gr_auto)
  have b6_0 : w.heap.size < W6.heap.size := World.block_lt_of_cell? _ _ k6_0
  have k6_1 : W6.cell? ⟨w.heap.size, 1, none⟩ = some (.slice A2 n2 c2) := by rw [hW6]; first | (simp [go_sem, *]; done) | (refine Gr.at ?_ (by assumption); exact gr_auto)
  have k6_2 : W6.cell? ⟨w5.heap.size, 0, none⟩ = some (.int .i64 a.inn) := by rw [hW6]; first | (simp [go_sem, *]; done) | (refine Gr.at ?_ (by assumption); exact gr_auto)
  have b6_2 : w5.heap.size < W6.heap.size := World.block_lt_of_cell? _ _ k6_2
  have k6_3 : W6.cell? ⟨w5.heap.size, 1, none⟩ = some (.int .i64 a.out) := by rw [hW6]; first | (simp [go_sem, *]; done) | (refine Gr.at ?_ (by assumption); exact gr_auto)
  have k6_4 : W6.cell? ⟨w5.heap.size, 2, none⟩ = some (.slice a.ps.A a.ps.n a.ps.c) := by rw [hW6]; first | (simp [go_sem, *]; done) | (refine Gr.at ?_ (by assumption); exact gr_auto)
  clear hW6
  clear k1_0 k1_1
  refine (HR1.out _ g6).mono ?_
  rintro e w7 ⟨b, rfl, okb, b0, b1, -, hb7⟩
  have g7 := g6.trans hb7
  have k6_0 := Gr.at (w1 := w7) gr_auto k6_0; have k6_1 := Gr.at (w1 := w7) gr_auto k6_1; have k6_2 := Gr.at (w1 := w7) gr_auto k6_2; have k6_3 := Gr.at (w1 := w7) gr_auto k6_3; have k6_4 := Gr.at (w1 := w7) gr_auto k6_4
  have HSB := Lib.hid (Ba.same_ret A0.out A1.out b0 b1)
  have OKB := Lib.hid okb
  have OKA7 := Lib.hid (OKA.out.gr (gb6_w5.trans hb7))
  clear b0 b1 okb HR1 A0 A1 OKA
  have z5 : w5.heap.size < w7.heap.size := World.block_lt_of_cell? _ _ k6_2
  have z70 : w.heap.size < w7.heap.size := World.block_lt_of_cell? _ _ k6_0
  go_wp2_with fail
  (first | refine name_world ?_ | refine (show (∀ W, W = _ → Calls _ _ _ W _) → Calls _ _ _ _ _ from fun h => h _ rfl) ?_); intro W8 hW8
  have g8 : Gr w W8 := by rw [hW8]; exact gr_auto
  have gb8_w7 : Gr w7 W8 := by (try clear g8); rw [hW8]; exact gr_auto
  have k8_0 : W8.cell? ⟨w.heap.size, 0, none⟩ = some (.slice A n c) := by rw [hW8]; first | (simp [go_sem, *]; done) | (refine Gr.at ?_ (by assumption); exact gr_auto)
  have b8_0 : w.heap.size < W8.heap.size := World.block_lt_of_cell? _ _ k8_0
  have k8_1 : W8.cell? ⟨w.heap.size, 1, none⟩ = some (.slice A2 n2 c2) := by rw [hW8]; first | (simp [go_sem, *]; done) | (refine Gr.at ?_ (by assumption); exact gr_auto)
  have k8_2 : W8.cell? ⟨w5.heap.size, 0, none⟩ = some (.int .i64 a.inn) := by rw [hW8]; first | (simp [go_sem, *]; done) | (refine Gr.at ?_ (by assumption); exact gr_auto)
  have b8_2 : w5.heap.size < W8.heap.size := World.block_lt_of_cell? _ _ k8_2
  have k8_3 : W8.cell? ⟨w5.heap.size, 1, none⟩ = some (.int .i64 a.out) := by rw [hW8]; first | (simp [go_sem, *]; done) | (refine Gr.at ?_ (by assumption); exact gr_auto)
  have k8_4 : W8.cell? ⟨w5.heap.size, 2, none⟩ = some (.slice a.ps.A a.ps.n a.ps.c) := by rw [hW8]; first | (simp [go_sem, *]; done) | (refine Gr.at ?_ (by assumption); exact gr_auto)
  have k8_5 : W8.cell? ⟨w7.heap.size, 0, none⟩ = some (.int .i64 b.inn) := by rw [hW8]; first | (simp [go_sem, *]; done) | (refine Gr.at ?_ (by assumption); exact gr_auto)
  have b8_5 : w7.heap.size < W8.heap.size := World.block_lt_of_cell? _ _ k8_5
  have k8_6 : W8.cell? ⟨w7.heap.size, 1, none⟩ = some (.int .i64 b.out) := by rw [hW8]; first | (simp [go_sem, *]; done) | (refine Gr.at ?_ (by assumption); exact gr_auto)
  have k8_7 : W8.cell? ⟨w7.heap.size, 2, none⟩ = some (.slice b.ps.A b.ps.n b.ps.c) := by rw [hW8]; first | (simp [go_sem, *]; done) | (refine Gr.at ?_ (by assumption); exact gr_auto)
  clear hW8
  clear k6_0 k6_1 k6_2 k6_3 k6_4
  refine (HT1.out _ g8).mono ?_
  rintro e w9 ⟨rfl, hb9⟩
  have g9 := g8.trans hb9
  have k8_0 := Gr.at (w1 := w9) gr_auto k8_0; have k8_1 := Gr.at (w1 := w9) gr_auto k8_1; have k8_2 := Gr.at (w1 := w9) gr_auto k8_2; have k8_3 := Gr.at (w1 := w9) gr_auto k8_3; have k8_4 := Gr.at (w1 := w9) gr_auto k8_4; have k8_5 := Gr.at (w1 := w9) gr_auto k8_5; have k8_6 := Gr.at (w1 := w9) gr_auto k8_6; have k8_7 := Gr.at (w1 := w9) gr_auto k8_7
  clear HT1
  go_wp2_with fail
  refine (HT2.out _ g9).mono ?_
  rintro e w10 ⟨rfl, hb10⟩
  have g10 := g9.trans hb10
  have k8_0 := Gr.at (w1 := w10) gr_auto k8_0; have k8_1 := Gr.at (w1 := w10) gr_auto k8_1; have k8_2 := Gr.at (w1 := w10) gr_auto k8_2; have k8_3 := Gr.at (w1 := w10) gr_auto k8_3; have k8_4 := Gr.at (w1 := w10) gr_auto k8_4; have k8_5 := Gr.at (w1 := w10) gr_auto k8_5; have k8_6 := Gr.at (w1 := w10) gr_auto k8_6; have k8_7 := Gr.at (w1 := w10) gr_auto k8_7
  have HSi := Lib.hid (HSM.out a b w10 (OKA7.out.gr ((gb8_w7.trans hb9).trans hb10)) (OKB.out.gr ((gb8_w7.trans hb9).trans hb10)) HSB.out)
  clear HT2 HSM HSB OKA7 OKB
  have ee : (ec != ec) = false := by simp
  have vv : (v != v) = false := by simp
  have tt : (te != te) = false := by simp
  go_wp2_with fail
  refine HSi.out.mono ?_
  rintro e w11 ⟨rfl, hb11⟩
  have g11 := g10.trans hb11
  have k8_0 := Gr.at (w1 := w11) gr_auto k8_0; have k8_1 := Gr.at (w1 := w11) gr_auto k8_1
  clear HSi k8_2 k8_3 k8_4 k8_5 k8_6 k8_7
  go_wp2_with fail
  go_ret
  exact ⟨rfl, gr_auto⟩
set_option maxRecDepth 100000 in
set_option maxHeartbeats 8000000 in
theorem bs_v (A A2 LA : Option Addr) (n c n2 c2 ln lc : Nat) (t : ByteArray) (w : World) (hm : ln ≤ 9223372036854775807) (ht : t.size ≤ 9223372036854775807) (HA : Hid (∀ W, Gr w W → Calls Tryz.prog 4 #[] W fun e w' => e = .returned (.bool true) ∧ Gr W w')) (HH : Hid (∀ W, Gr w W → Calls Tryz.prog 5 #[.agg #[.slice A n c, .slice A2 n2 c2]] W fun e w' => e = .returned (.bool false) ∧ Gr W w')) (t0 : (t.size : Int) ≤ 100) (t1 : (ln : Int) ≤ 20) (t2 : (0 : Int) < (ln : Int)) (HC : Hid (∀ W, Gr w W → Calls Tryz.prog 6 #[.slice LA ln lc, .func (.func 7) #[] #[]] W fun e w' => e = .returned (.bool false) ∧ Gr W w')) (D : Nat → Ba.Ledger) (ec : Int) (v te : Int) (HS1 : Hid (∀ W, Gr w W → Calls Tryz.prog 8 #[.agg #[.slice A n c, .slice A2 n2 c2], .slice LA ln lc] W (RetSum D n2 ln ec W))) (HR1 : Hid (∀ W, Gr w W → Calls Tryz.prog 9 #[.agg #[.slice A n c, .slice A2 n2 c2], .slice LA ln lc] W (RetSum D n2 ln ec W)))
    (HT1 : Hid (∀ W, Gr w W → Calls Tryz.prog 10 #[.agg #[.slice A n c, .slice A2 n2 c2], .slice LA ln lc, .string t] W fun e w' => e = .returned (.tuple #[.int .i64 v, .int .i64 te]) ∧ Gr W w')) (HT2 : Hid (∀ W, Gr w W → Calls Tryz.prog 11 #[.agg #[.slice A n c, .slice A2 n2 c2], .slice LA ln lc, .string t] W fun e w' => e = .returned (.tuple #[.int .i64 v, .int .i64 te]) ∧ Gr W w'))
    (HSM : Hid (∀ a b : Ba.Ledger, ∀ W, a.Ok W → b.Ok W → Ba.sameB a b = true → Calls Tryz.prog 12 #[.agg #[.int .i64 a.inn, .int .i64 a.out, .slice a.ps.A a.ps.n a.ps.c], .agg #[.int .i64 b.inn, .int .i64 b.out, .slice b.ps.A b.ps.n b.ps.c]] W fun e w' => e = .returned (.bool true) ∧ Gr W w')) (gb go_ : Nat) (G : Ba.Ledger) (HGA : Hid (LA = some ⟨gb, go_, none⟩)) (HGC : Hid (G.Cells w gb go_)) (HTX : Hid (∀ W, Gr w W → Calls Tryz.prog 13 #[.agg #[.slice A n c, .slice A2 n2 c2], .agg #[.int .i64 G.inn, .int .i64 G.out, .slice G.ps.A G.ps.n G.ps.c]] W fun e w' => e = .returned (.tuple #[.string ⟨#[]⟩, .int .i64 1]) ∧ Gr W w')) (HV : Hid (∀ W, Gr w W → Calls Tryz.prog 14 #[.agg #[.slice A n c, .slice A2 n2 c2]] W fun e w' => e = .returned (.bool false) ∧ Gr W w')) : Calls Tryz.prog 3 #[.agg #[.slice A n c, .slice A2 n2 c2], .slice LA ln lc, .string t] w (fun e w' => e = .returned (.bool true) ∧ Gr w w') := by
  have ln0 : ((ln : Int) == 0) = false := beq_eq_false_iff_ne.2 (by omega)
  go_enter Tryz.func3, Tryz.ntmps3
  go_wp2_with fail
  (first | refine name_world ?_ | refine (show (∀ W, W = _ → Calls _ _ _ W _) → Calls _ _ _ _ _ from fun h => h _ rfl) ?_); intro W1 hW1
  have g1 : Gr w W1 := by rw [hW1]; exact gr_auto
  have k1_0 : W1.cell? ⟨w.heap.size, 0, none⟩ = some (.slice A n c) := by rw [hW1]; first | (simp [go_sem, *]; done) | (refine Gr.at ?_ (by assumption); exact gr_auto)
  have b1_0 : w.heap.size < W1.heap.size := World.block_lt_of_cell? _ _ k1_0
  have k1_1 : W1.cell? ⟨w.heap.size, 1, none⟩ = some (.slice A2 n2 c2) := by rw [hW1]; first | (simp [go_sem, *]; done) | (refine Gr.at ?_ (by assumption); exact gr_auto)
  clear hW1
  refine (HA.out _ g1).mono ?_
  rintro e w2 ⟨rfl, hb2⟩
  have g2 := g1.trans hb2
  have k1_0 := Gr.at (w1 := w2) gr_auto k1_0; have k1_1 := Gr.at (w1 := w2) gr_auto k1_1
  go_wp2_with fail
  refine (HH.out _ g2).mono ?_
  rintro e w3 ⟨rfl, hb3⟩
  have g3 := g2.trans hb3
  have k1_0 := Gr.at (w1 := w3) gr_auto k1_0; have k1_1 := Gr.at (w1 := w3) gr_auto k1_1
  go_wp2_with fail
  refine (HC.out _ g3).mono ?_
  rintro e w4 ⟨rfl, hb4⟩
  have g4 := g3.trans hb4
  have k1_0 := Gr.at (w1 := w4) gr_auto k1_0; have k1_1 := Gr.at (w1 := w4) gr_auto k1_1
  go_wp2_with fail
  obtain rfl := HGA.out
  refine (HS1.out _ g4).mono ?_
  rintro e w5 ⟨a, rfl, oka, a0, a1, -, hb5⟩
  have g5 := g4.trans hb5
  have k1_0 := Gr.at (w1 := w5) gr_auto k1_0; have k1_1 := Gr.at (w1 := w5) gr_auto k1_1
  have A0 := Lib.hid a0; have A1 := Lib.hid a1; have OKA := Lib.hid oka
  clear a0 a1 oka HS1
  have z50 : w.heap.size < w5.heap.size := World.block_lt_of_cell? _ _ k1_0
  go_wp2_with fail
  (first | refine name_world ?_ | refine (show (∀ W, W = _ → Calls _ _ _ W _) → Calls _ _ _ _ _ from fun h => h _ rfl) ?_); intro W6 hW6
  have g6 : Gr w W6 := by rw [hW6]; exact gr_auto
  have gb6_w5 : Gr w5 W6 := by (try clear g6); rw [hW6]; exact gr_auto
  have k6_0 : W6.cell? ⟨w.heap.size, 0, none⟩ = some (.slice A n c) := by rw [hW6]; first | (simp [go_sem, *]; done) | (refine Gr.at ?_ (by assumption); exact gr_auto)
  have b6_0 : w.heap.size < W6.heap.size := World.block_lt_of_cell? _ _ k6_0
  have k6_1 : W6.cell? ⟨w.heap.size, 1, none⟩ = some (.slice A2 n2 c2) := by rw [hW6]; first | (simp [go_sem, *]; done) | (refine Gr.at ?_ (by assumption); exact gr_auto)
  have k6_2 : W6.cell? ⟨w5.heap.size, 0, none⟩ = some (.int .i64 a.inn) := by rw [hW6]; first | (simp [go_sem, *]; done) | (refine Gr.at ?_ (by assumption); exact gr_auto)
  have b6_2 : w5.heap.size < W6.heap.size := World.block_lt_of_cell? _ _ k6_2
  have k6_3 : W6.cell? ⟨w5.heap.size, 1, none⟩ = some (.int .i64 a.out) := by rw [hW6]; first | (simp [go_sem, *]; done) | (refine Gr.at ?_ (by assumption); exact gr_auto)
  have k6_4 : W6.cell? ⟨w5.heap.size, 2, none⟩ = some (.slice a.ps.A a.ps.n a.ps.c) := by rw [hW6]; first | (simp [go_sem, *]; done) | (refine Gr.at ?_ (by assumption); exact gr_auto)
  clear hW6
  clear k1_0 k1_1
  refine (HR1.out _ g6).mono ?_
  rintro e w7 ⟨b, rfl, okb, b0, b1, -, hb7⟩
  have g7 := g6.trans hb7
  have k6_0 := Gr.at (w1 := w7) gr_auto k6_0; have k6_1 := Gr.at (w1 := w7) gr_auto k6_1; have k6_2 := Gr.at (w1 := w7) gr_auto k6_2; have k6_3 := Gr.at (w1 := w7) gr_auto k6_3; have k6_4 := Gr.at (w1 := w7) gr_auto k6_4
  have HSB := Lib.hid (Ba.same_ret A0.out A1.out b0 b1)
  have OKB := Lib.hid okb
  have OKA7 := Lib.hid (OKA.out.gr (gb6_w5.trans hb7))
  clear b0 b1 okb HR1 A0 A1 OKA
  have z5 : w5.heap.size < w7.heap.size := World.block_lt_of_cell? _ _ k6_2
  have z70 : w.heap.size < w7.heap.size := World.block_lt_of_cell? _ _ k6_0
  go_wp2_with fail
  (first | refine name_world ?_ | refine (show (∀ W, W = _ → Calls _ _ _ W _) → Calls _ _ _ _ _ from fun h => h _ rfl) ?_); intro W8 hW8
  have g8 : Gr w W8 := by rw [hW8]; exact gr_auto
  have gb8_w7 : Gr w7 W8 := by (try clear g8); rw [hW8]; exact gr_auto
  have k8_0 : W8.cell? ⟨w.heap.size, 0, none⟩ = some (.slice A n c) := by rw [hW8]; first | (simp [go_sem, *]; done) | (refine Gr.at ?_ (by assumption); exact gr_auto)
  have b8_0 : w.heap.size < W8.heap.size := World.block_lt_of_cell? _ _ k8_0
  have k8_1 : W8.cell? ⟨w.heap.size, 1, none⟩ = some (.slice A2 n2 c2) := by rw [hW8]; first | (simp [go_sem, *]; done) | (refine Gr.at ?_ (by assumption); exact gr_auto)
  have k8_2 : W8.cell? ⟨w5.heap.size, 0, none⟩ = some (.int .i64 a.inn) := by rw [hW8]; first | (simp [go_sem, *]; done) | (refine Gr.at ?_ (by assumption); exact gr_auto)
  have b8_2 : w5.heap.size < W8.heap.size := World.block_lt_of_cell? _ _ k8_2
  have k8_3 : W8.cell? ⟨w5.heap.size, 1, none⟩ = some (.int .i64 a.out) := by rw [hW8]; first | (simp [go_sem, *]; done) | (refine Gr.at ?_ (by assumption); exact gr_auto)
  have k8_4 : W8.cell? ⟨w5.heap.size, 2, none⟩ = some (.slice a.ps.A a.ps.n a.ps.c) := by rw [hW8]; first | (simp [go_sem, *]; done) | (refine Gr.at ?_ (by assumption); exact gr_auto)
  have k8_5 : W8.cell? ⟨w7.heap.size, 0, none⟩ = some (.int .i64 b.inn) := by rw [hW8]; first | (simp [go_sem, *]; done) | (refine Gr.at ?_ (by assumption); exact gr_auto)
  have b8_5 : w7.heap.size < W8.heap.size := World.block_lt_of_cell? _ _ k8_5
  have k8_6 : W8.cell? ⟨w7.heap.size, 1, none⟩ = some (.int .i64 b.out) := by rw [hW8]; first | (simp [go_sem, *]; done) | (refine Gr.at ?_ (by assumption); exact gr_auto)
  have k8_7 : W8.cell? ⟨w7.heap.size, 2, none⟩ = some (.slice b.ps.A b.ps.n b.ps.c) := by rw [hW8]; first | (simp [go_sem, *]; done) | (refine Gr.at ?_ (by assumption); exact gr_auto)
  clear hW8
  clear k6_0 k6_1 k6_2 k6_3 k6_4
  refine (HT1.out _ g8).mono ?_
  rintro e w9 ⟨rfl, hb9⟩
  have g9 := g8.trans hb9
  have k8_0 := Gr.at (w1 := w9) gr_auto k8_0; have k8_1 := Gr.at (w1 := w9) gr_auto k8_1; have k8_2 := Gr.at (w1 := w9) gr_auto k8_2; have k8_3 := Gr.at (w1 := w9) gr_auto k8_3; have k8_4 := Gr.at (w1 := w9) gr_auto k8_4; have k8_5 := Gr.at (w1 := w9) gr_auto k8_5; have k8_6 := Gr.at (w1 := w9) gr_auto k8_6; have k8_7 := Gr.at (w1 := w9) gr_auto k8_7
  clear HT1
  go_wp2_with fail
  refine (HT2.out _ g9).mono ?_
  rintro e w10 ⟨rfl, hb10⟩
  have g10 := g9.trans hb10
  have k8_0 := Gr.at (w1 := w10) gr_auto k8_0; have k8_1 := Gr.at (w1 := w10) gr_auto k8_1; have k8_2 := Gr.at (w1 := w10) gr_auto k8_2; have k8_3 := Gr.at (w1 := w10) gr_auto k8_3; have k8_4 := Gr.at (w1 := w10) gr_auto k8_4; have k8_5 := Gr.at (w1 := w10) gr_auto k8_5; have k8_6 := Gr.at (w1 := w10) gr_auto k8_6; have k8_7 := Gr.at (w1 := w10) gr_auto k8_7
  have HSi := Lib.hid (HSM.out a b w10 (OKA7.out.gr ((gb8_w7.trans hb9).trans hb10)) (OKB.out.gr ((gb8_w7.trans hb9).trans hb10)) HSB.out)
  clear HT2 HSM HSB OKA7 OKB
  have ee : (ec != ec) = false := by simp
  have vv : (v != v) = false := by simp
  have tt : (te != te) = false := by simp
  go_wp2_with fail
  refine HSi.out.mono ?_
  rintro e w11 ⟨rfl, hb11⟩
  have g11 := g10.trans hb11
  have k8_0 := Gr.at (w1 := w11) gr_auto k8_0; have k8_1 := Gr.at (w1 := w11) gr_auto k8_1
  clear HSi k8_2 k8_3 k8_4 k8_5 k8_6 k8_7
  obtain ⟨q0, q1, q2⟩ := HGC.out.gr g11
  go_wp2_with fail
  (first | refine name_world ?_ | refine (show (∀ W, W = _ → Calls _ _ _ W _) → Calls _ _ _ _ _ from fun h => h _ rfl) ?_); intro W12 hW12
  have g12 : Gr w W12 := by rw [hW12]; exact gr_auto
  have gb12_w11 : Gr w11 W12 := by (try clear g12); rw [hW12]; exact gr_auto
  have k12_0 : W12.cell? ⟨w.heap.size, 0, none⟩ = some (.slice A n c) := by rw [hW12]; first | (simp [go_sem, *]; done) | (refine Gr.at ?_ (by assumption); exact gr_auto)
  have b12_0 : w.heap.size < W12.heap.size := World.block_lt_of_cell? _ _ k12_0
  have k12_1 : W12.cell? ⟨w.heap.size, 1, none⟩ = some (.slice A2 n2 c2) := by rw [hW12]; first | (simp [go_sem, *]; done) | (refine Gr.at ?_ (by assumption); exact gr_auto)
  have k12_2 : W12.cell? ⟨gb, go_, none⟩ = some (.int .i64 G.inn) := by rw [hW12]; first | (simp [go_sem, *]; done) | (refine Gr.at ?_ (by assumption); exact gr_auto)
  have b12_2 : gb < W12.heap.size := World.block_lt_of_cell? _ _ k12_2
  have k12_3 : W12.cell? ⟨gb, go_ + 1, none⟩ = some (.int .i64 G.out) := by rw [hW12]; first | (simp [go_sem, *]; done) | (refine Gr.at ?_ (by assumption); exact gr_auto)
  have k12_4 : W12.cell? ⟨gb, go_ + 2, none⟩ = some (.slice G.ps.A G.ps.n G.ps.c) := by rw [hW12]; first | (simp [go_sem, *]; done) | (refine Gr.at ?_ (by assumption); exact gr_auto)
  clear hW12
  have s12_0 : ∀ gw : GW W12, gw.1.cell? ⟨w.heap.size, 0, none⟩ = some (.slice A n c) := fun gw => Gr.at gw.2 k12_0
  have s12_1 : ∀ gw : GW W12, gw.1.cell? ⟨w.heap.size, 1, none⟩ = some (.slice A2 n2 c2) := fun gw => Gr.at gw.2 k12_1
  have s12_2 : ∀ gw : GW W12, gw.1.cell? ⟨gb, go_, none⟩ = some (.int .i64 G.inn) := fun gw => Gr.at gw.2 k12_2
  have s12_3 : ∀ gw : GW W12, gw.1.cell? ⟨gb, go_ + 1, none⟩ = some (.int .i64 G.out) := fun gw => Gr.at gw.2 k12_3
  have s12_4 : ∀ gw : GW W12, gw.1.cell? ⟨gb, go_ + 2, none⟩ = some (.slice G.ps.A G.ps.n G.ps.c) := fun gw => Gr.at gw.2 k12_4
  have QT := Lib.hid (fun gw : GW W12 => gw_call (HTX.out gw.1 (g11.trans (gb12_w11.trans gw.2))))
  refine wp_region_gr (by kernel_rfl) (by kernel_rfl) ?_
  repeat (go_big_quiet_step ((go_at_call 13; with_reducible exact QT.out _)))
  refine wpQuiet_nil ?_
  intro w13 hb13
  clear s12_0 s12_1 s12_2 s12_3 s12_4
  have g13 : Gr w w13 := g12.trans hb13
  have k12_0 := Gr.at hb13 k12_0
  have k12_1 := Gr.at hb13 k12_1
  have k12_2 := Gr.at hb13 k12_2
  have k12_3 := Gr.at hb13 k12_3
  have k12_4 := Gr.at hb13 k12_4
  clear q0 q1 q2
  go_wp2_with fail
  (first | refine name_world ?_ | refine (show (∀ W, W = _ → Calls _ _ _ W _) → Calls _ _ _ _ _ from fun h => h _ rfl) ?_); intro W14 hW14
  have g14 : Gr w W14 := by rw [hW14]; exact gr_auto
  have gb14_w13 : Gr w13 W14 := by (try clear g14); rw [hW14]; exact gr_auto
  have k14_0 : W14.cell? ⟨w.heap.size, 0, none⟩ = some (.slice A n c) := by rw [hW14]; first | (simp [go_sem, *]; done) | (refine Gr.at ?_ (by assumption); exact gr_auto)
  have b14_0 : w.heap.size < W14.heap.size := World.block_lt_of_cell? _ _ k14_0
  have k14_1 : W14.cell? ⟨w.heap.size, 1, none⟩ = some (.slice A2 n2 c2) := by rw [hW14]; first | (simp [go_sem, *]; done) | (refine Gr.at ?_ (by assumption); exact gr_auto)
  have k14_2 : W14.cell? ⟨gb, go_, none⟩ = some (.int .i64 G.inn) := by rw [hW14]; first | (simp [go_sem, *]; done) | (refine Gr.at ?_ (by assumption); exact gr_auto)
  have b14_2 : gb < W14.heap.size := World.block_lt_of_cell? _ _ k14_2
  have k14_3 : W14.cell? ⟨gb, go_ + 1, none⟩ = some (.int .i64 G.out) := by rw [hW14]; first | (simp [go_sem, *]; done) | (refine Gr.at ?_ (by assumption); exact gr_auto)
  have k14_4 : W14.cell? ⟨gb, go_ + 2, none⟩ = some (.slice G.ps.A G.ps.n G.ps.c) := by rw [hW14]; first | (simp [go_sem, *]; done) | (refine Gr.at ?_ (by assumption); exact gr_auto)
  clear hW14
  have s14_0 : ∀ gw : GW W14, gw.1.cell? ⟨w.heap.size, 0, none⟩ = some (.slice A n c) := fun gw => Gr.at gw.2 k14_0
  have s14_1 : ∀ gw : GW W14, gw.1.cell? ⟨w.heap.size, 1, none⟩ = some (.slice A2 n2 c2) := fun gw => Gr.at gw.2 k14_1
  have s14_2 : ∀ gw : GW W14, gw.1.cell? ⟨gb, go_, none⟩ = some (.int .i64 G.inn) := fun gw => Gr.at gw.2 k14_2
  have s14_3 : ∀ gw : GW W14, gw.1.cell? ⟨gb, go_ + 1, none⟩ = some (.int .i64 G.out) := fun gw => Gr.at gw.2 k14_3
  have s14_4 : ∀ gw : GW W14, gw.1.cell? ⟨gb, go_ + 2, none⟩ = some (.slice G.ps.A G.ps.n G.ps.c) := fun gw => Gr.at gw.2 k14_4
  have QV := Lib.hid (fun gw : GW W14 => gw_call (HV.out gw.1 (g13.trans (gb14_w13.trans gw.2))))
  refine wp_region_gr (by kernel_rfl) (by kernel_rfl) ?_
  repeat (go_big_quiet_step ((go_at_call 14; with_reducible exact QV.out _)))
  refine wpQuiet_nil ?_
  intro w15 hb15
  clear s14_0 s14_1 s14_2 s14_3 s14_4
  have g15 : Gr w w15 := g14.trans hb15
  have k14_0 := Gr.at hb15 k14_0
  have k14_1 := Gr.at hb15 k14_1
  have k14_2 := Gr.at hb15 k14_2
  have k14_3 := Gr.at hb15 k14_3
  have k14_4 := Gr.at hb15 k14_4
  go_wp2_with fail
  go_ret
  exact ⟨rfl, gr_auto⟩
set_option maxRecDepth 100000 in
set_option maxHeartbeats 8000000 in
theorem bs_g (A A2 LA : Option Addr) (n c n2 c2 ln lc : Nat) (t : ByteArray) (w : World) (hm : ln ≤ 9223372036854775807) (ht : t.size ≤ 9223372036854775807) (HA : Hid (∀ W, Gr w W → Calls Tryz.prog 4 #[] W fun e w' => e = .returned (.bool true) ∧ Gr W w')) (HH : Hid (∀ W, Gr w W → Calls Tryz.prog 5 #[.agg #[.slice A n c, .slice A2 n2 c2]] W fun e w' => e = .returned (.bool false) ∧ Gr W w')) (t0 : (t.size : Int) ≤ 100) (t1 : (ln : Int) ≤ 20) (t2 : (0 : Int) < (ln : Int)) (HC : Hid (∀ W, Gr w W → Calls Tryz.prog 6 #[.slice LA ln lc, .func (.func 7) #[] #[]] W fun e w' => e = .returned (.bool false) ∧ Gr W w')) (D : Nat → Ba.Ledger) (ec : Int) (v te : Int) (HS1 : Hid (∀ W, Gr w W → Calls Tryz.prog 8 #[.agg #[.slice A n c, .slice A2 n2 c2], .slice LA ln lc] W (RetSum D n2 ln ec W))) (HR1 : Hid (∀ W, Gr w W → Calls Tryz.prog 9 #[.agg #[.slice A n c, .slice A2 n2 c2], .slice LA ln lc] W (RetSum D n2 ln ec W)))
    (HT1 : Hid (∀ W, Gr w W → Calls Tryz.prog 10 #[.agg #[.slice A n c, .slice A2 n2 c2], .slice LA ln lc, .string t] W fun e w' => e = .returned (.tuple #[.int .i64 v, .int .i64 te]) ∧ Gr W w')) (HT2 : Hid (∀ W, Gr w W → Calls Tryz.prog 11 #[.agg #[.slice A n c, .slice A2 n2 c2], .slice LA ln lc, .string t] W fun e w' => e = .returned (.tuple #[.int .i64 v, .int .i64 te]) ∧ Gr W w'))
    (HSM : Hid (∀ a b : Ba.Ledger, ∀ W, a.Ok W → b.Ok W → Ba.sameB a b = true → Calls Tryz.prog 12 #[.agg #[.int .i64 a.inn, .int .i64 a.out, .slice a.ps.A a.ps.n a.ps.c], .agg #[.int .i64 b.inn, .int .i64 b.out, .slice b.ps.A b.ps.n b.ps.c]] W fun e w' => e = .returned (.bool true) ∧ Gr W w')) (gb go_ : Nat) (G : Ba.Ledger) (HGA : Hid (LA = some ⟨gb, go_, none⟩)) (HGC : Hid (G.Cells w gb go_)) (HTX : Hid (∀ W, Gr w W → Calls Tryz.prog 13 #[.agg #[.slice A n c, .slice A2 n2 c2], .agg #[.int .i64 G.inn, .int .i64 G.out, .slice G.ps.A G.ps.n G.ps.c]] W fun e w' => e = .returned (.tuple #[.string ⟨#[]⟩, .int .i64 1]) ∧ Gr W w')) (HV : Hid (∀ W, Gr w W → Calls Tryz.prog 14 #[.agg #[.slice A n c, .slice A2 n2 c2]] W fun e w' => e = .returned (.bool true) ∧ Gr W w')) (HG : Hid (∀ W, Gr w W → Calls Tryz.prog 15 #[.agg #[.slice A n c, .slice A2 n2 c2], .agg #[.int .i64 G.inn, .int .i64 G.out, .slice G.ps.A G.ps.n G.ps.c]] W fun e w' => e = .returned (.bool false) ∧ Gr W w')) : Calls Tryz.prog 3 #[.agg #[.slice A n c, .slice A2 n2 c2], .slice LA ln lc, .string t] w (fun e w' => e = .returned (.bool true) ∧ Gr w w') := by
  have ln0 : ((ln : Int) == 0) = false := beq_eq_false_iff_ne.2 (by omega)
  go_enter Tryz.func3, Tryz.ntmps3
  go_wp2_with fail
  (first | refine name_world ?_ | refine (show (∀ W, W = _ → Calls _ _ _ W _) → Calls _ _ _ _ _ from fun h => h _ rfl) ?_); intro W1 hW1
  have g1 : Gr w W1 := by rw [hW1]; exact gr_auto
  have k1_0 : W1.cell? ⟨w.heap.size, 0, none⟩ = some (.slice A n c) := by rw [hW1]; first | (simp [go_sem, *]; done) | (refine Gr.at ?_ (by assumption); exact gr_auto)
  have b1_0 : w.heap.size < W1.heap.size := World.block_lt_of_cell? _ _ k1_0
  have k1_1 : W1.cell? ⟨w.heap.size, 1, none⟩ = some (.slice A2 n2 c2) := by rw [hW1]; first | (simp [go_sem, *]; done) | (refine Gr.at ?_ (by assumption); exact gr_auto)
  clear hW1
  refine (HA.out _ g1).mono ?_
  rintro e w2 ⟨rfl, hb2⟩
  have g2 := g1.trans hb2
  have k1_0 := Gr.at (w1 := w2) gr_auto k1_0; have k1_1 := Gr.at (w1 := w2) gr_auto k1_1
  go_wp2_with fail
  refine (HH.out _ g2).mono ?_
  rintro e w3 ⟨rfl, hb3⟩
  have g3 := g2.trans hb3
  have k1_0 := Gr.at (w1 := w3) gr_auto k1_0; have k1_1 := Gr.at (w1 := w3) gr_auto k1_1
  go_wp2_with fail
  refine (HC.out _ g3).mono ?_
  rintro e w4 ⟨rfl, hb4⟩
  have g4 := g3.trans hb4
  have k1_0 := Gr.at (w1 := w4) gr_auto k1_0; have k1_1 := Gr.at (w1 := w4) gr_auto k1_1
  go_wp2_with fail
  obtain rfl := HGA.out
  refine (HS1.out _ g4).mono ?_
  rintro e w5 ⟨a, rfl, oka, a0, a1, -, hb5⟩
  have g5 := g4.trans hb5
  have k1_0 := Gr.at (w1 := w5) gr_auto k1_0; have k1_1 := Gr.at (w1 := w5) gr_auto k1_1
  have A0 := Lib.hid a0; have A1 := Lib.hid a1; have OKA := Lib.hid oka
  clear a0 a1 oka HS1
  have z50 : w.heap.size < w5.heap.size := World.block_lt_of_cell? _ _ k1_0
  go_wp2_with fail
  (first | refine name_world ?_ | refine (show (∀ W, W = _ → Calls _ _ _ W _) → Calls _ _ _ _ _ from fun h => h _ rfl) ?_); intro W6 hW6
  have g6 : Gr w W6 := by rw [hW6]; exact gr_auto
  have gb6_w5 : Gr w5 W6 := by (try clear g6); rw [hW6]; exact gr_auto
  have k6_0 : W6.cell? ⟨w.heap.size, 0, none⟩ = some (.slice A n c) := by rw [hW6]; first | (simp [go_sem, *]; done) | (refine Gr.at ?_ (by assumption); exact gr_auto)
  have b6_0 : w.heap.size < W6.heap.size := World.block_lt_of_cell? _ _ k6_0
  have k6_1 : W6.cell? ⟨w.heap.size, 1, none⟩ = some (.slice A2 n2 c2) := by rw [hW6]; first | (simp [go_sem, *]; done) | (refine Gr.at ?_ (by assumption); exact gr_auto)
  have k6_2 : W6.cell? ⟨w5.heap.size, 0, none⟩ = some (.int .i64 a.inn) := by rw [hW6]; first | (simp [go_sem, *]; done) | (refine Gr.at ?_ (by assumption); exact gr_auto)
  have b6_2 : w5.heap.size < W6.heap.size := World.block_lt_of_cell? _ _ k6_2
  have k6_3 : W6.cell? ⟨w5.heap.size, 1, none⟩ = some (.int .i64 a.out) := by rw [hW6]; first | (simp [go_sem, *]; done) | (refine Gr.at ?_ (by assumption); exact gr_auto)
  have k6_4 : W6.cell? ⟨w5.heap.size, 2, none⟩ = some (.slice a.ps.A a.ps.n a.ps.c) := by rw [hW6]; first | (simp [go_sem, *]; done) | (refine Gr.at ?_ (by assumption); exact gr_auto)
  clear hW6
  clear k1_0 k1_1
  refine (HR1.out _ g6).mono ?_
  rintro e w7 ⟨b, rfl, okb, b0, b1, -, hb7⟩
  have g7 := g6.trans hb7
  have k6_0 := Gr.at (w1 := w7) gr_auto k6_0; have k6_1 := Gr.at (w1 := w7) gr_auto k6_1; have k6_2 := Gr.at (w1 := w7) gr_auto k6_2; have k6_3 := Gr.at (w1 := w7) gr_auto k6_3; have k6_4 := Gr.at (w1 := w7) gr_auto k6_4
  have HSB := Lib.hid (Ba.same_ret A0.out A1.out b0 b1)
  have OKB := Lib.hid okb
  have OKA7 := Lib.hid (OKA.out.gr (gb6_w5.trans hb7))
  clear b0 b1 okb HR1 A0 A1 OKA
  have z5 : w5.heap.size < w7.heap.size := World.block_lt_of_cell? _ _ k6_2
  have z70 : w.heap.size < w7.heap.size := World.block_lt_of_cell? _ _ k6_0
  go_wp2_with fail
  (first | refine name_world ?_ | refine (show (∀ W, W = _ → Calls _ _ _ W _) → Calls _ _ _ _ _ from fun h => h _ rfl) ?_); intro W8 hW8
  have g8 : Gr w W8 := by rw [hW8]; exact gr_auto
  have gb8_w7 : Gr w7 W8 := by (try clear g8); rw [hW8]; exact gr_auto
  have k8_0 : W8.cell? ⟨w.heap.size, 0, none⟩ = some (.slice A n c) := by rw [hW8]; first | (simp [go_sem, *]; done) | (refine Gr.at ?_ (by assumption); exact gr_auto)
  have b8_0 : w.heap.size < W8.heap.size := World.block_lt_of_cell? _ _ k8_0
  have k8_1 : W8.cell? ⟨w.heap.size, 1, none⟩ = some (.slice A2 n2 c2) := by rw [hW8]; first | (simp [go_sem, *]; done) | (refine Gr.at ?_ (by assumption); exact gr_auto)
  have k8_2 : W8.cell? ⟨w5.heap.size, 0, none⟩ = some (.int .i64 a.inn) := by rw [hW8]; first | (simp [go_sem, *]; done) | (refine Gr.at ?_ (by assumption); exact gr_auto)
  have b8_2 : w5.heap.size < W8.heap.size := World.block_lt_of_cell? _ _ k8_2
  have k8_3 : W8.cell? ⟨w5.heap.size, 1, none⟩ = some (.int .i64 a.out) := by rw [hW8]; first | (simp [go_sem, *]; done) | (refine Gr.at ?_ (by assumption); exact gr_auto)
  have k8_4 : W8.cell? ⟨w5.heap.size, 2, none⟩ = some (.slice a.ps.A a.ps.n a.ps.c) := by rw [hW8]; first | (simp [go_sem, *]; done) | (refine Gr.at ?_ (by assumption); exact gr_auto)
  have k8_5 : W8.cell? ⟨w7.heap.size, 0, none⟩ = some (.int .i64 b.inn) := by rw [hW8]; first | (simp [go_sem, *]; done) | (refine Gr.at ?_ (by assumption); exact gr_auto)
  have b8_5 : w7.heap.size < W8.heap.size := World.block_lt_of_cell? _ _ k8_5
  have k8_6 : W8.cell? ⟨w7.heap.size, 1, none⟩ = some (.int .i64 b.out) := by rw [hW8]; first | (simp [go_sem, *]; done) | (refine Gr.at ?_ (by assumption); exact gr_auto)
  have k8_7 : W8.cell? ⟨w7.heap.size, 2, none⟩ = some (.slice b.ps.A b.ps.n b.ps.c) := by rw [hW8]; first | (simp [go_sem, *]; done) | (refine Gr.at ?_ (by assumption); exact gr_auto)
  clear hW8
  clear k6_0 k6_1 k6_2 k6_3 k6_4
  refine (HT1.out _ g8).mono ?_
  rintro e w9 ⟨rfl, hb9⟩
  have g9 := g8.trans hb9
  have k8_0 := Gr.at (w1 := w9) gr_auto k8_0; have k8_1 := Gr.at (w1 := w9) gr_auto k8_1; have k8_2 := Gr.at (w1 := w9) gr_auto k8_2; have k8_3 := Gr.at (w1 := w9) gr_auto k8_3; have k8_4 := Gr.at (w1 := w9) gr_auto k8_4; have k8_5 := Gr.at (w1 := w9) gr_auto k8_5; have k8_6 := Gr.at (w1 := w9) gr_auto k8_6; have k8_7 := Gr.at (w1 := w9) gr_auto k8_7
  clear HT1
  go_wp2_with fail
  refine (HT2.out _ g9).mono ?_
  rintro e w10 ⟨rfl, hb10⟩
  have g10 := g9.trans hb10
  have k8_0 := Gr.at (w1 := w10) gr_auto k8_0; have k8_1 := Gr.at (w1 := w10) gr_auto k8_1; have k8_2 := Gr.at (w1 := w10) gr_auto k8_2; have k8_3 := Gr.at (w1 := w10) gr_auto k8_3; have k8_4 := Gr.at (w1 := w10) gr_auto k8_4; have k8_5 := Gr.at (w1 := w10) gr_auto k8_5; have k8_6 := Gr.at (w1 := w10) gr_auto k8_6; have k8_7 := Gr.at (w1 := w10) gr_auto k8_7
  have HSi := Lib.hid (HSM.out a b w10 (OKA7.out.gr ((gb8_w7.trans hb9).trans hb10)) (OKB.out.gr ((gb8_w7.trans hb9).trans hb10)) HSB.out)
  clear HT2 HSM HSB OKA7 OKB
  have ee : (ec != ec) = false := by simp
  have vv : (v != v) = false := by simp
  have tt : (te != te) = false := by simp
  go_wp2_with fail
  refine HSi.out.mono ?_
  rintro e w11 ⟨rfl, hb11⟩
  have g11 := g10.trans hb11
  have k8_0 := Gr.at (w1 := w11) gr_auto k8_0; have k8_1 := Gr.at (w1 := w11) gr_auto k8_1
  clear HSi k8_2 k8_3 k8_4 k8_5 k8_6 k8_7
  obtain ⟨q0, q1, q2⟩ := HGC.out.gr g11
  go_wp2_with fail
  (first | refine name_world ?_ | refine (show (∀ W, W = _ → Calls _ _ _ W _) → Calls _ _ _ _ _ from fun h => h _ rfl) ?_); intro W12 hW12
  have g12 : Gr w W12 := by rw [hW12]; exact gr_auto
  have gb12_w11 : Gr w11 W12 := by (try clear g12); rw [hW12]; exact gr_auto
  have k12_0 : W12.cell? ⟨w.heap.size, 0, none⟩ = some (.slice A n c) := by rw [hW12]; first | (simp [go_sem, *]; done) | (refine Gr.at ?_ (by assumption); exact gr_auto)
  have b12_0 : w.heap.size < W12.heap.size := World.block_lt_of_cell? _ _ k12_0
  have k12_1 : W12.cell? ⟨w.heap.size, 1, none⟩ = some (.slice A2 n2 c2) := by rw [hW12]; first | (simp [go_sem, *]; done) | (refine Gr.at ?_ (by assumption); exact gr_auto)
  have k12_2 : W12.cell? ⟨gb, go_, none⟩ = some (.int .i64 G.inn) := by rw [hW12]; first | (simp [go_sem, *]; done) | (refine Gr.at ?_ (by assumption); exact gr_auto)
  have b12_2 : gb < W12.heap.size := World.block_lt_of_cell? _ _ k12_2
  have k12_3 : W12.cell? ⟨gb, go_ + 1, none⟩ = some (.int .i64 G.out) := by rw [hW12]; first | (simp [go_sem, *]; done) | (refine Gr.at ?_ (by assumption); exact gr_auto)
  have k12_4 : W12.cell? ⟨gb, go_ + 2, none⟩ = some (.slice G.ps.A G.ps.n G.ps.c) := by rw [hW12]; first | (simp [go_sem, *]; done) | (refine Gr.at ?_ (by assumption); exact gr_auto)
  clear hW12
  have s12_0 : ∀ gw : GW W12, gw.1.cell? ⟨w.heap.size, 0, none⟩ = some (.slice A n c) := fun gw => Gr.at gw.2 k12_0
  have s12_1 : ∀ gw : GW W12, gw.1.cell? ⟨w.heap.size, 1, none⟩ = some (.slice A2 n2 c2) := fun gw => Gr.at gw.2 k12_1
  have s12_2 : ∀ gw : GW W12, gw.1.cell? ⟨gb, go_, none⟩ = some (.int .i64 G.inn) := fun gw => Gr.at gw.2 k12_2
  have s12_3 : ∀ gw : GW W12, gw.1.cell? ⟨gb, go_ + 1, none⟩ = some (.int .i64 G.out) := fun gw => Gr.at gw.2 k12_3
  have s12_4 : ∀ gw : GW W12, gw.1.cell? ⟨gb, go_ + 2, none⟩ = some (.slice G.ps.A G.ps.n G.ps.c) := fun gw => Gr.at gw.2 k12_4
  have QT := Lib.hid (fun gw : GW W12 => gw_call (HTX.out gw.1 (g11.trans (gb12_w11.trans gw.2))))
  refine wp_region_gr (by kernel_rfl) (by kernel_rfl) ?_
  repeat (go_big_quiet_step ((go_at_call 13; with_reducible exact QT.out _)))
  refine wpQuiet_nil ?_
  intro w13 hb13
  clear s12_0 s12_1 s12_2 s12_3 s12_4
  have g13 : Gr w w13 := g12.trans hb13
  have k12_0 := Gr.at hb13 k12_0
  have k12_1 := Gr.at hb13 k12_1
  have k12_2 := Gr.at hb13 k12_2
  have k12_3 := Gr.at hb13 k12_3
  have k12_4 := Gr.at hb13 k12_4
  clear q0 q1 q2
  go_wp2_with fail
  (first | refine name_world ?_ | refine (show (∀ W, W = _ → Calls _ _ _ W _) → Calls _ _ _ _ _ from fun h => h _ rfl) ?_); intro W14 hW14
  have g14 : Gr w W14 := by rw [hW14]; exact gr_auto
  have gb14_w13 : Gr w13 W14 := by (try clear g14); rw [hW14]; exact gr_auto
  have k14_0 : W14.cell? ⟨w.heap.size, 0, none⟩ = some (.slice A n c) := by rw [hW14]; first | (simp [go_sem, *]; done) | (refine Gr.at ?_ (by assumption); exact gr_auto)
  have b14_0 : w.heap.size < W14.heap.size := World.block_lt_of_cell? _ _ k14_0
  have k14_1 : W14.cell? ⟨w.heap.size, 1, none⟩ = some (.slice A2 n2 c2) := by rw [hW14]; first | (simp [go_sem, *]; done) | (refine Gr.at ?_ (by assumption); exact gr_auto)
  have k14_2 : W14.cell? ⟨gb, go_, none⟩ = some (.int .i64 G.inn) := by rw [hW14]; first | (simp [go_sem, *]; done) | (refine Gr.at ?_ (by assumption); exact gr_auto)
  have b14_2 : gb < W14.heap.size := World.block_lt_of_cell? _ _ k14_2
  have k14_3 : W14.cell? ⟨gb, go_ + 1, none⟩ = some (.int .i64 G.out) := by rw [hW14]; first | (simp [go_sem, *]; done) | (refine Gr.at ?_ (by assumption); exact gr_auto)
  have k14_4 : W14.cell? ⟨gb, go_ + 2, none⟩ = some (.slice G.ps.A G.ps.n G.ps.c) := by rw [hW14]; first | (simp [go_sem, *]; done) | (refine Gr.at ?_ (by assumption); exact gr_auto)
  clear hW14
  have s14_0 : ∀ gw : GW W14, gw.1.cell? ⟨w.heap.size, 0, none⟩ = some (.slice A n c) := fun gw => Gr.at gw.2 k14_0
  have s14_1 : ∀ gw : GW W14, gw.1.cell? ⟨w.heap.size, 1, none⟩ = some (.slice A2 n2 c2) := fun gw => Gr.at gw.2 k14_1
  have s14_2 : ∀ gw : GW W14, gw.1.cell? ⟨gb, go_, none⟩ = some (.int .i64 G.inn) := fun gw => Gr.at gw.2 k14_2
  have s14_3 : ∀ gw : GW W14, gw.1.cell? ⟨gb, go_ + 1, none⟩ = some (.int .i64 G.out) := fun gw => Gr.at gw.2 k14_3
  have s14_4 : ∀ gw : GW W14, gw.1.cell? ⟨gb, go_ + 2, none⟩ = some (.slice G.ps.A G.ps.n G.ps.c) := fun gw => Gr.at gw.2 k14_4
  have QV := Lib.hid (fun gw : GW W14 => gw_call (HV.out gw.1 (g13.trans (gb14_w13.trans gw.2))))
  have QG := Lib.hid (fun gw : GW W14 => gw_call (HG.out gw.1 (g13.trans (gb14_w13.trans gw.2))))
  refine wp_region_gr (by kernel_rfl) (by kernel_rfl) ?_
  repeat (go_big_quiet_step (first | (go_at_call 14; with_reducible exact QV.out _) | (go_at_call 15; with_reducible exact QG.out _)))
  refine wpQuiet_nil ?_
  intro w15 hb15
  clear s14_0 s14_1 s14_2 s14_3 s14_4
  have g15 : Gr w w15 := g14.trans hb15
  have k14_0 := Gr.at hb15 k14_0
  have k14_1 := Gr.at hb15 k14_1
  have k14_2 := Gr.at hb15 k14_2
  have k14_3 := Gr.at hb15 k14_3
  have k14_4 := Gr.at hb15 k14_4
  go_wp2_with fail
  go_ret
  exact ⟨rfl, gr_auto⟩
set_option maxRecDepth 100000 in
set_option maxHeartbeats 8000000 in
theorem bs_ok (A A2 LA : Option Addr) (n c n2 c2 ln lc : Nat) (t : ByteArray) (w : World) (hm : ln ≤ 9223372036854775807) (ht : t.size ≤ 9223372036854775807) (HA : Hid (∀ W, Gr w W → Calls Tryz.prog 4 #[] W fun e w' => e = .returned (.bool true) ∧ Gr W w')) (HH : Hid (∀ W, Gr w W → Calls Tryz.prog 5 #[.agg #[.slice A n c, .slice A2 n2 c2]] W fun e w' => e = .returned (.bool false) ∧ Gr W w')) (t0 : (t.size : Int) ≤ 100) (t1 : (ln : Int) ≤ 20) (t2 : (0 : Int) < (ln : Int)) (HC : Hid (∀ W, Gr w W → Calls Tryz.prog 6 #[.slice LA ln lc, .func (.func 7) #[] #[]] W fun e w' => e = .returned (.bool false) ∧ Gr W w')) (D : Nat → Ba.Ledger) (ec : Int) (v te : Int) (HS1 : Hid (∀ W, Gr w W → Calls Tryz.prog 8 #[.agg #[.slice A n c, .slice A2 n2 c2], .slice LA ln lc] W (RetSum D n2 ln ec W))) (HR1 : Hid (∀ W, Gr w W → Calls Tryz.prog 9 #[.agg #[.slice A n c, .slice A2 n2 c2], .slice LA ln lc] W (RetSum D n2 ln ec W)))
    (HT1 : Hid (∀ W, Gr w W → Calls Tryz.prog 10 #[.agg #[.slice A n c, .slice A2 n2 c2], .slice LA ln lc, .string t] W fun e w' => e = .returned (.tuple #[.int .i64 v, .int .i64 te]) ∧ Gr W w')) (HT2 : Hid (∀ W, Gr w W → Calls Tryz.prog 11 #[.agg #[.slice A n c, .slice A2 n2 c2], .slice LA ln lc, .string t] W fun e w' => e = .returned (.tuple #[.int .i64 v, .int .i64 te]) ∧ Gr W w'))
    (HSM : Hid (∀ a b : Ba.Ledger, ∀ W, a.Ok W → b.Ok W → Ba.sameB a b = true → Calls Tryz.prog 12 #[.agg #[.int .i64 a.inn, .int .i64 a.out, .slice a.ps.A a.ps.n a.ps.c], .agg #[.int .i64 b.inn, .int .i64 b.out, .slice b.ps.A b.ps.n b.ps.c]] W fun e w' => e = .returned (.bool true) ∧ Gr W w')) (gb go_ : Nat) (G : Ba.Ledger) (HGA : Hid (LA = some ⟨gb, go_, none⟩)) (HGC : Hid (G.Cells w gb go_)) (tx : ByteArray) (HTX : Hid (∀ W, Gr w W → Calls Tryz.prog 13 #[.agg #[.slice A n c, .slice A2 n2 c2], .agg #[.int .i64 G.inn, .int .i64 G.out, .slice G.ps.A G.ps.n G.ps.c]] W fun e w' => e = .returned (.tuple #[.string tx, .int .i64 0]) ∧ Gr W w')) (HV : Hid (∀ W, Gr w W → Calls Tryz.prog 14 #[.agg #[.slice A n c, .slice A2 n2 c2]] W fun e w' => e = .returned (.bool true) ∧ Gr W w')) (HG : Hid (∀ W, Gr w W → Calls Tryz.prog 15 #[.agg #[.slice A n c, .slice A2 n2 c2], .agg #[.int .i64 G.inn, .int .i64 G.out, .slice G.ps.A G.ps.n G.ps.c]] W fun e w' => e = .returned (.bool true) ∧ Gr W w')) (HQ : Hid (∀ W, Gr w W → Calls Tryz.prog 16 #[.agg #[.slice A n c, .slice A2 n2 c2], .agg #[.int .i64 G.inn, .int .i64 G.out, .slice G.ps.A G.ps.n G.ps.c]] W fun e w' => e = .returned (.string tx) ∧ Gr W w')) : Calls Tryz.prog 3 #[.agg #[.slice A n c, .slice A2 n2 c2], .slice LA ln lc, .string t] w (fun e w' => e = .returned (.bool true) ∧ Gr w w') := by
  have ln0 : ((ln : Int) == 0) = false := beq_eq_false_iff_ne.2 (by omega)
  go_enter Tryz.func3, Tryz.ntmps3
  go_wp2_with fail
  (first | refine name_world ?_ | refine (show (∀ W, W = _ → Calls _ _ _ W _) → Calls _ _ _ _ _ from fun h => h _ rfl) ?_); intro W1 hW1
  have g1 : Gr w W1 := by rw [hW1]; exact gr_auto
  have k1_0 : W1.cell? ⟨w.heap.size, 0, none⟩ = some (.slice A n c) := by rw [hW1]; first | (simp [go_sem, *]; done) | (refine Gr.at ?_ (by assumption); exact gr_auto)
  have b1_0 : w.heap.size < W1.heap.size := World.block_lt_of_cell? _ _ k1_0
  have k1_1 : W1.cell? ⟨w.heap.size, 1, none⟩ = some (.slice A2 n2 c2) := by rw [hW1]; first | (simp [go_sem, *]; done) | (refine Gr.at ?_ (by assumption); exact gr_auto)
  clear hW1
  refine (HA.out _ g1).mono ?_
  rintro e w2 ⟨rfl, hb2⟩
  have g2 := g1.trans hb2
  have k1_0 := Gr.at (w1 := w2) gr_auto k1_0; have k1_1 := Gr.at (w1 := w2) gr_auto k1_1
  go_wp2_with fail
  refine (HH.out _ g2).mono ?_
  rintro e w3 ⟨rfl, hb3⟩
  have g3 := g2.trans hb3
  have k1_0 := Gr.at (w1 := w3) gr_auto k1_0; have k1_1 := Gr.at (w1 := w3) gr_auto k1_1
  go_wp2_with fail
  refine (HC.out _ g3).mono ?_
  rintro e w4 ⟨rfl, hb4⟩
  have g4 := g3.trans hb4
  have k1_0 := Gr.at (w1 := w4) gr_auto k1_0; have k1_1 := Gr.at (w1 := w4) gr_auto k1_1
  go_wp2_with fail
  obtain rfl := HGA.out
  refine (HS1.out _ g4).mono ?_
  rintro e w5 ⟨a, rfl, oka, a0, a1, -, hb5⟩
  have g5 := g4.trans hb5
  have k1_0 := Gr.at (w1 := w5) gr_auto k1_0; have k1_1 := Gr.at (w1 := w5) gr_auto k1_1
  have A0 := Lib.hid a0; have A1 := Lib.hid a1; have OKA := Lib.hid oka
  clear a0 a1 oka HS1
  have z50 : w.heap.size < w5.heap.size := World.block_lt_of_cell? _ _ k1_0
  go_wp2_with fail
  (first | refine name_world ?_ | refine (show (∀ W, W = _ → Calls _ _ _ W _) → Calls _ _ _ _ _ from fun h => h _ rfl) ?_); intro W6 hW6
  have g6 : Gr w W6 := by rw [hW6]; exact gr_auto
  have gb6_w5 : Gr w5 W6 := by (try clear g6); rw [hW6]; exact gr_auto
  have k6_0 : W6.cell? ⟨w.heap.size, 0, none⟩ = some (.slice A n c) := by rw [hW6]; first | (simp [go_sem, *]; done) | (refine Gr.at ?_ (by assumption); exact gr_auto)
  have b6_0 : w.heap.size < W6.heap.size := World.block_lt_of_cell? _ _ k6_0
  have k6_1 : W6.cell? ⟨w.heap.size, 1, none⟩ = some (.slice A2 n2 c2) := by rw [hW6]; first | (simp [go_sem, *]; done) | (refine Gr.at ?_ (by assumption); exact gr_auto)
  have k6_2 : W6.cell? ⟨w5.heap.size, 0, none⟩ = some (.int .i64 a.inn) := by rw [hW6]; first | (simp [go_sem, *]; done) | (refine Gr.at ?_ (by assumption); exact gr_auto)
  have b6_2 : w5.heap.size < W6.heap.size := World.block_lt_of_cell? _ _ k6_2
  have k6_3 : W6.cell? ⟨w5.heap.size, 1, none⟩ = some (.int .i64 a.out) := by rw [hW6]; first | (simp [go_sem, *]; done) | (refine Gr.at ?_ (by assumption); exact gr_auto)
  have k6_4 : W6.cell? ⟨w5.heap.size, 2, none⟩ = some (.slice a.ps.A a.ps.n a.ps.c) := by rw [hW6]; first | (simp [go_sem, *]; done) | (refine Gr.at ?_ (by assumption); exact gr_auto)
  clear hW6
  clear k1_0 k1_1
  refine (HR1.out _ g6).mono ?_
  rintro e w7 ⟨b, rfl, okb, b0, b1, -, hb7⟩
  have g7 := g6.trans hb7
  have k6_0 := Gr.at (w1 := w7) gr_auto k6_0; have k6_1 := Gr.at (w1 := w7) gr_auto k6_1; have k6_2 := Gr.at (w1 := w7) gr_auto k6_2; have k6_3 := Gr.at (w1 := w7) gr_auto k6_3; have k6_4 := Gr.at (w1 := w7) gr_auto k6_4
  have HSB := Lib.hid (Ba.same_ret A0.out A1.out b0 b1)
  have OKB := Lib.hid okb
  have OKA7 := Lib.hid (OKA.out.gr (gb6_w5.trans hb7))
  clear b0 b1 okb HR1 A0 A1 OKA
  have z5 : w5.heap.size < w7.heap.size := World.block_lt_of_cell? _ _ k6_2
  have z70 : w.heap.size < w7.heap.size := World.block_lt_of_cell? _ _ k6_0
  go_wp2_with fail
  (first | refine name_world ?_ | refine (show (∀ W, W = _ → Calls _ _ _ W _) → Calls _ _ _ _ _ from fun h => h _ rfl) ?_); intro W8 hW8
  have g8 : Gr w W8 := by rw [hW8]; exact gr_auto
  have gb8_w7 : Gr w7 W8 := by (try clear g8); rw [hW8]; exact gr_auto
  have k8_0 : W8.cell? ⟨w.heap.size, 0, none⟩ = some (.slice A n c) := by rw [hW8]; first | (simp [go_sem, *]; done) | (refine Gr.at ?_ (by assumption); exact gr_auto)
  have b8_0 : w.heap.size < W8.heap.size := World.block_lt_of_cell? _ _ k8_0
  have k8_1 : W8.cell? ⟨w.heap.size, 1, none⟩ = some (.slice A2 n2 c2) := by rw [hW8]; first | (simp [go_sem, *]; done) | (refine Gr.at ?_ (by assumption); exact gr_auto)
  have k8_2 : W8.cell? ⟨w5.heap.size, 0, none⟩ = some (.int .i64 a.inn) := by rw [hW8]; first | (simp [go_sem, *]; done) | (refine Gr.at ?_ (by assumption); exact gr_auto)
  have b8_2 : w5.heap.size < W8.heap.size := World.block_lt_of_cell? _ _ k8_2
  have k8_3 : W8.cell? ⟨w5.heap.size, 1, none⟩ = some (.int .i64 a.out) := by rw [hW8]; first | (simp [go_sem, *]; done) | (refine Gr.at ?_ (by assumption); exact gr_auto)
  have k8_4 : W8.cell? ⟨w5.heap.size, 2, none⟩ = some (.slice a.ps.A a.ps.n a.ps.c) := by rw [hW8]; first | (simp [go_sem, *]; done) | (refine Gr.at ?_ (by assumption); exact gr_auto)
  have k8_5 : W8.cell? ⟨w7.heap.size, 0, none⟩ = some (.int .i64 b.inn) := by rw [hW8]; first | (simp [go_sem, *]; done) | (refine Gr.at ?_ (by assumption); exact gr_auto)
  have b8_5 : w7.heap.size < W8.heap.size := World.block_lt_of_cell? _ _ k8_5
  have k8_6 : W8.cell? ⟨w7.heap.size, 1, none⟩ = some (.int .i64 b.out) := by rw [hW8]; first | (simp [go_sem, *]; done) | (refine Gr.at ?_ (by assumption); exact gr_auto)
  have k8_7 : W8.cell? ⟨w7.heap.size, 2, none⟩ = some (.slice b.ps.A b.ps.n b.ps.c) := by rw [hW8]; first | (simp [go_sem, *]; done) | (refine Gr.at ?_ (by assumption); exact gr_auto)
  clear hW8
  clear k6_0 k6_1 k6_2 k6_3 k6_4
  refine (HT1.out _ g8).mono ?_
  rintro e w9 ⟨rfl, hb9⟩
  have g9 := g8.trans hb9
  have k8_0 := Gr.at (w1 := w9) gr_auto k8_0; have k8_1 := Gr.at (w1 := w9) gr_auto k8_1; have k8_2 := Gr.at (w1 := w9) gr_auto k8_2; have k8_3 := Gr.at (w1 := w9) gr_auto k8_3; have k8_4 := Gr.at (w1 := w9) gr_auto k8_4; have k8_5 := Gr.at (w1 := w9) gr_auto k8_5; have k8_6 := Gr.at (w1 := w9) gr_auto k8_6; have k8_7 := Gr.at (w1 := w9) gr_auto k8_7
  clear HT1
  go_wp2_with fail
  refine (HT2.out _ g9).mono ?_
  rintro e w10 ⟨rfl, hb10⟩
  have g10 := g9.trans hb10
  have k8_0 := Gr.at (w1 := w10) gr_auto k8_0; have k8_1 := Gr.at (w1 := w10) gr_auto k8_1; have k8_2 := Gr.at (w1 := w10) gr_auto k8_2; have k8_3 := Gr.at (w1 := w10) gr_auto k8_3; have k8_4 := Gr.at (w1 := w10) gr_auto k8_4; have k8_5 := Gr.at (w1 := w10) gr_auto k8_5; have k8_6 := Gr.at (w1 := w10) gr_auto k8_6; have k8_7 := Gr.at (w1 := w10) gr_auto k8_7
  have HSi := Lib.hid (HSM.out a b w10 (OKA7.out.gr ((gb8_w7.trans hb9).trans hb10)) (OKB.out.gr ((gb8_w7.trans hb9).trans hb10)) HSB.out)
  clear HT2 HSM HSB OKA7 OKB
  have ee : (ec != ec) = false := by simp
  have vv : (v != v) = false := by simp
  have tt : (te != te) = false := by simp
  go_wp2_with fail
  refine HSi.out.mono ?_
  rintro e w11 ⟨rfl, hb11⟩
  have g11 := g10.trans hb11
  have k8_0 := Gr.at (w1 := w11) gr_auto k8_0; have k8_1 := Gr.at (w1 := w11) gr_auto k8_1
  clear HSi k8_2 k8_3 k8_4 k8_5 k8_6 k8_7
  obtain ⟨q0, q1, q2⟩ := HGC.out.gr g11
  go_wp2_with fail
  (first | refine name_world ?_ | refine (show (∀ W, W = _ → Calls _ _ _ W _) → Calls _ _ _ _ _ from fun h => h _ rfl) ?_); intro W12 hW12
  have g12 : Gr w W12 := by rw [hW12]; exact gr_auto
  have gb12_w11 : Gr w11 W12 := by (try clear g12); rw [hW12]; exact gr_auto
  have k12_0 : W12.cell? ⟨w.heap.size, 0, none⟩ = some (.slice A n c) := by rw [hW12]; first | (simp [go_sem, *]; done) | (refine Gr.at ?_ (by assumption); exact gr_auto)
  have b12_0 : w.heap.size < W12.heap.size := World.block_lt_of_cell? _ _ k12_0
  have k12_1 : W12.cell? ⟨w.heap.size, 1, none⟩ = some (.slice A2 n2 c2) := by rw [hW12]; first | (simp [go_sem, *]; done) | (refine Gr.at ?_ (by assumption); exact gr_auto)
  have k12_2 : W12.cell? ⟨gb, go_, none⟩ = some (.int .i64 G.inn) := by rw [hW12]; first | (simp [go_sem, *]; done) | (refine Gr.at ?_ (by assumption); exact gr_auto)
  have b12_2 : gb < W12.heap.size := World.block_lt_of_cell? _ _ k12_2
  have k12_3 : W12.cell? ⟨gb, go_ + 1, none⟩ = some (.int .i64 G.out) := by rw [hW12]; first | (simp [go_sem, *]; done) | (refine Gr.at ?_ (by assumption); exact gr_auto)
  have k12_4 : W12.cell? ⟨gb, go_ + 2, none⟩ = some (.slice G.ps.A G.ps.n G.ps.c) := by rw [hW12]; first | (simp [go_sem, *]; done) | (refine Gr.at ?_ (by assumption); exact gr_auto)
  clear hW12
  have s12_0 : ∀ gw : GW W12, gw.1.cell? ⟨w.heap.size, 0, none⟩ = some (.slice A n c) := fun gw => Gr.at gw.2 k12_0
  have s12_1 : ∀ gw : GW W12, gw.1.cell? ⟨w.heap.size, 1, none⟩ = some (.slice A2 n2 c2) := fun gw => Gr.at gw.2 k12_1
  have s12_2 : ∀ gw : GW W12, gw.1.cell? ⟨gb, go_, none⟩ = some (.int .i64 G.inn) := fun gw => Gr.at gw.2 k12_2
  have s12_3 : ∀ gw : GW W12, gw.1.cell? ⟨gb, go_ + 1, none⟩ = some (.int .i64 G.out) := fun gw => Gr.at gw.2 k12_3
  have s12_4 : ∀ gw : GW W12, gw.1.cell? ⟨gb, go_ + 2, none⟩ = some (.slice G.ps.A G.ps.n G.ps.c) := fun gw => Gr.at gw.2 k12_4
  have QT := Lib.hid (fun gw : GW W12 => gw_call (HTX.out gw.1 (g11.trans (gb12_w11.trans gw.2))))
  refine wp_region_gr (by kernel_rfl) (by kernel_rfl) ?_
  repeat (go_big_quiet_step ((go_at_call 13; with_reducible exact QT.out _)))
  refine wpQuiet_nil ?_
  intro w13 hb13
  clear s12_0 s12_1 s12_2 s12_3 s12_4
  have g13 : Gr w w13 := g12.trans hb13
  have k12_0 := Gr.at hb13 k12_0
  have k12_1 := Gr.at hb13 k12_1
  have k12_2 := Gr.at hb13 k12_2
  have k12_3 := Gr.at hb13 k12_3
  have k12_4 := Gr.at hb13 k12_4
  clear q0 q1 q2
  go_wp2_with fail
  (first | refine name_world ?_ | refine (show (∀ W, W = _ → Calls _ _ _ W _) → Calls _ _ _ _ _ from fun h => h _ rfl) ?_); intro W14 hW14
  have g14 : Gr w W14 := by rw [hW14]; exact gr_auto
  have gb14_w13 : Gr w13 W14 := by (try clear g14); rw [hW14]; exact gr_auto
  have k14_0 : W14.cell? ⟨w.heap.size, 0, none⟩ = some (.slice A n c) := by rw [hW14]; first | (simp [go_sem, *]; done) | (refine Gr.at ?_ (by assumption); exact gr_auto)
  have b14_0 : w.heap.size < W14.heap.size := World.block_lt_of_cell? _ _ k14_0
  have k14_1 : W14.cell? ⟨w.heap.size, 1, none⟩ = some (.slice A2 n2 c2) := by rw [hW14]; first | (simp [go_sem, *]; done) | (refine Gr.at ?_ (by assumption); exact gr_auto)
  have k14_2 : W14.cell? ⟨gb, go_, none⟩ = some (.int .i64 G.inn) := by rw [hW14]; first | (simp [go_sem, *]; done) | (refine Gr.at ?_ (by assumption); exact gr_auto)
  have b14_2 : gb < W14.heap.size := World.block_lt_of_cell? _ _ k14_2
  have k14_3 : W14.cell? ⟨gb, go_ + 1, none⟩ = some (.int .i64 G.out) := by rw [hW14]; first | (simp [go_sem, *]; done) | (refine Gr.at ?_ (by assumption); exact gr_auto)
  have k14_4 : W14.cell? ⟨gb, go_ + 2, none⟩ = some (.slice G.ps.A G.ps.n G.ps.c) := by rw [hW14]; first | (simp [go_sem, *]; done) | (refine Gr.at ?_ (by assumption); exact gr_auto)
  clear hW14
  have s14_0 : ∀ gw : GW W14, gw.1.cell? ⟨w.heap.size, 0, none⟩ = some (.slice A n c) := fun gw => Gr.at gw.2 k14_0
  have s14_1 : ∀ gw : GW W14, gw.1.cell? ⟨w.heap.size, 1, none⟩ = some (.slice A2 n2 c2) := fun gw => Gr.at gw.2 k14_1
  have s14_2 : ∀ gw : GW W14, gw.1.cell? ⟨gb, go_, none⟩ = some (.int .i64 G.inn) := fun gw => Gr.at gw.2 k14_2
  have s14_3 : ∀ gw : GW W14, gw.1.cell? ⟨gb, go_ + 1, none⟩ = some (.int .i64 G.out) := fun gw => Gr.at gw.2 k14_3
  have s14_4 : ∀ gw : GW W14, gw.1.cell? ⟨gb, go_ + 2, none⟩ = some (.slice G.ps.A G.ps.n G.ps.c) := fun gw => Gr.at gw.2 k14_4
  have QV := Lib.hid (fun gw : GW W14 => gw_call (HV.out gw.1 (g13.trans (gb14_w13.trans gw.2))))
  have QG := Lib.hid (fun gw : GW W14 => gw_call (HG.out gw.1 (g13.trans (gb14_w13.trans gw.2))))
  refine wp_region_gr (by kernel_rfl) (by kernel_rfl) ?_
  repeat (go_big_quiet_step (first | (go_at_call 14; with_reducible exact QV.out _) | (go_at_call 15; with_reducible exact QG.out _)))
  refine wpQuiet_nil ?_
  intro w15 hb15
  clear s14_0 s14_1 s14_2 s14_3 s14_4
  have g15 : Gr w w15 := g14.trans hb15
  have k14_0 := Gr.at hb15 k14_0
  have k14_1 := Gr.at hb15 k14_1
  have k14_2 := Gr.at hb15 k14_2
  have k14_3 := Gr.at hb15 k14_3
  have k14_4 := Gr.at hb15 k14_4
  go_wp2_with fail
  (first | refine name_world ?_ | refine (show (∀ W, W = _ → Calls _ _ _ W _) → Calls _ _ _ _ _ from fun h => h _ rfl) ?_); intro W16 hW16
  have g16 : Gr w W16 := by rw [hW16]; exact gr_auto
  have gb16_w15 : Gr w15 W16 := by (try clear g16); rw [hW16]; exact gr_auto
  have k16_0 : W16.cell? ⟨w.heap.size, 0, none⟩ = some (.slice A n c) := by rw [hW16]; first | (simp [go_sem, *]; done) | (refine Gr.at ?_ (by assumption); exact gr_auto)
  have b16_0 : w.heap.size < W16.heap.size := World.block_lt_of_cell? _ _ k16_0
  have k16_1 : W16.cell? ⟨w.heap.size, 1, none⟩ = some (.slice A2 n2 c2) := by rw [hW16]; first | (simp [go_sem, *]; done) | (refine Gr.at ?_ (by assumption); exact gr_auto)
  have k16_2 : W16.cell? ⟨gb, go_, none⟩ = some (.int .i64 G.inn) := by rw [hW16]; first | (simp [go_sem, *]; done) | (refine Gr.at ?_ (by assumption); exact gr_auto)
  have b16_2 : gb < W16.heap.size := World.block_lt_of_cell? _ _ k16_2
  have k16_3 : W16.cell? ⟨gb, go_ + 1, none⟩ = some (.int .i64 G.out) := by rw [hW16]; first | (simp [go_sem, *]; done) | (refine Gr.at ?_ (by assumption); exact gr_auto)
  have k16_4 : W16.cell? ⟨gb, go_ + 2, none⟩ = some (.slice G.ps.A G.ps.n G.ps.c) := by rw [hW16]; first | (simp [go_sem, *]; done) | (refine Gr.at ?_ (by assumption); exact gr_auto)
  clear hW16
  have s16_0 : ∀ gw : GW W16, gw.1.cell? ⟨w.heap.size, 0, none⟩ = some (.slice A n c) := fun gw => Gr.at gw.2 k16_0
  have s16_1 : ∀ gw : GW W16, gw.1.cell? ⟨w.heap.size, 1, none⟩ = some (.slice A2 n2 c2) := fun gw => Gr.at gw.2 k16_1
  have s16_2 : ∀ gw : GW W16, gw.1.cell? ⟨gb, go_, none⟩ = some (.int .i64 G.inn) := fun gw => Gr.at gw.2 k16_2
  have s16_3 : ∀ gw : GW W16, gw.1.cell? ⟨gb, go_ + 1, none⟩ = some (.int .i64 G.out) := fun gw => Gr.at gw.2 k16_3
  have s16_4 : ∀ gw : GW W16, gw.1.cell? ⟨gb, go_ + 2, none⟩ = some (.slice G.ps.A G.ps.n G.ps.c) := fun gw => Gr.at gw.2 k16_4
  have QQ := Lib.hid (fun gw : GW W16 => gw_call (HQ.out gw.1 (g15.trans (gb16_w15.trans gw.2))))
  refine wp_region_gr (by kernel_rfl) (by kernel_rfl) ?_
  repeat (go_big_quiet_step ((go_at_call 16; with_reducible exact QQ.out _)))
  refine wpQuiet_nil ?_
  intro w17 hb17
  clear s16_0 s16_1 s16_2 s16_3 s16_4
  have g17 : Gr w w17 := g16.trans hb17
  have k16_0 := Gr.at hb17 k16_0
  have k16_1 := Gr.at hb17 k16_1
  have k16_2 := Gr.at hb17 k16_2
  have k16_3 := Gr.at hb17 k16_3
  have k16_4 := Gr.at hb17 k16_4
  go_wp2_with fail
  go_ret
  exact ⟨rfl, gr_auto⟩
theorem sums_law (N : Ba.SlNode) (L : Ba.SlLink) (G : Ba.SlLedger) (t : ByteArray) (w : World) (ht : Tab w) (hN : N.At w) (hL : L.At w) (hG : G.At w) (hts : t.size ≤ 9223372036854775807) : Calls Tryz.prog 3 #[Ba.netVal N L, .slice G.A G.n G.c, .string t] w (fun e w' => e = .returned (.bool true) ∧ Gr w w') := by
  have hm := Nat.le_trans hG.hc hG.hb
  have HA := Lib.hid (fun W (_ : Gr w W) => awake_any W)
  have HH := Lib.hid (fun W (hh : Gr w W) => heavy_any N L W (hN.gr hh) (hL.gr hh))
  have HC := Lib.hid (fun W (hh : Gr w W) => has_ledger 7 #[] G (fun i => decide ((40 : Int) < ((G.D i).ps.n : Int))) W (hG.gr hh) (enter_of Tryz.func7 (by kernel_rfl) (by kernel_rfl)) fun i hi W' hW' => bsf_any (G.D i) W' (((hG.gr hh).hD i hi).2.gr hW'))
  cases qh : Ba.heavyB N L
  rotate_left
  · rw [qh] at HH; exact bs_h N.A L.A G.A N.n N.c L.n L.c G.n G.c t w hm hts HA HH
  rw [qh] at HH
  by_cases t0 : (t.size : Int) ≤ 100
  rotate_left
  · exact bs_t N.A L.A G.A N.n N.c L.n L.c G.n G.c t w hm hts HA HH (by omega)
  have HT1 := Lib.hid (fun W (hh : Gr w W) => thr_any N L G t W (hN.gr hh) (hL.gr hh) (hG.gr hh))
  have HT2 := Lib.hid (fun W (hh : Gr w W) => rthr_any N L G t W (hN.gr hh) (hL.gr hh) (hG.gr hh))
  have HSM := Lib.hid (fun (a b : Ba.Ledger) W (ha : a.Ok W) (hb : b.Ok W) (h : Ba.sameB a b = true) => show Calls Tryz.prog 12 #[.agg #[.int .i64 a.inn, .int .i64 a.out, .slice a.ps.A a.ps.n a.ps.c], .agg #[.int .i64 b.inn, .int .i64 b.out, .slice b.ps.A b.ps.n b.ps.c]] W (fun e w' => e = .returned (.bool true) ∧ Gr W w') from by
    have z := same_any a b W ha hb
    rw [h] at z
    exact z)
  by_cases t1 : (G.n : Int) ≤ 20
  rotate_left
  · by_cases t2 : (G.n : Int) ≤ 10000
    · exact bs_m N.A L.A G.A N.n N.c L.n L.c G.n G.c t w hm hts HA HH t0 (by omega) t2
    · by_cases t3 : (G.n : Int) ≤ 10020
      · have HS1 := Lib.hid (fun W (hh : Gr w W) => sum_ledgers2 N L G W (hN.gr hh) (hL.gr hh) (hG.gr hh) (Or.inr (by omega)))
        have HR1 := Lib.hid (fun W (hh : Gr w W) => rsum_ledgers N L G W (hN.gr hh) (hL.gr hh) (hG.gr hh) (Or.inr (by omega)))
        exact bs_big N.A L.A G.A N.n N.c L.n L.c G.n G.c t w hm hts HA HH t0 (by omega) (by omega) t3 G.D _ _ _ HS1 HR1 HT1 HT2 HSM
      · exact bs_b N.A L.A G.A N.n N.c L.n L.c G.n G.c t w hm hts HA HH t0 (by omega) (by omega)
  cases qc : Ba.any (fun i => decide ((40 : Int) < ((G.D i).ps.n : Int))) G.n
  rotate_left
  · rw [qc] at HC; exact bs_c N.A L.A G.A N.n N.c L.n L.c G.n G.c t w hm hts HA HH t0 t1 HC
  rw [qc] at HC
  have HS1 := Lib.hid (fun W (hh : Gr w W) => sum_ledgers2 N L G W (hN.gr hh) (hL.gr hh) (hG.gr hh) (Or.inl (by omega)))
  have HR1 := Lib.hid (fun W (hh : Gr w W) => rsum_ledgers N L G W (hN.gr hh) (hL.gr hh) (hG.gr hh) (Or.inl (by omega)))
  by_cases t2 : G.n = 0
  · exact bs_nil N.A L.A G.A N.n N.c L.n L.c G.n G.c t w hm hts HA HH t0 t2 HC G.D _ _ _ HS1 HR1 HT1 HT2 HSM
  have hl := Nat.le_trans hL.hc hL.hb
  have g0 := hG.hD 0 (by omega)
  have HGA := Lib.hid (hG.hA (by omega))
  have HGC := Lib.hid (show (G.D 0).Cells w G.b G.o from by have z := g0.1; rw [Nat.zero_mul, Nat.add_zero] at z; exact z)
  have HV := Lib.hid (fun W (hh : Gr w W) => rnetvalid_any N L W (hN.gr hh) (hL.gr hh))
  have HG := Lib.hid (fun W (hh : Gr w W) => rvalid_any N L (G.D 0) W hl (g0.2.gr hh))
  cases qv : Ba.netB N L
  · rw [qv] at HV
    exact bs_v N.A L.A G.A N.n N.c L.n L.c G.n G.c t w hm hts HA HH t0 t1 (by omega) HC G.D _ _ _ HS1 HR1 HT1 HT2 HSM G.b G.o (G.D 0) HGA HGC (Lib.hid fun W hh => text_no N L (G.D 0) W (hN.gr hh) (hL.gr hh) (g0.2.gr hh) (.inl qv)) HV
  rw [qv] at HV
  cases qg : Ba.ledgB L (G.D 0)
  · rw [qg] at HG
    exact bs_g N.A L.A G.A N.n N.c L.n L.c G.n G.c t w hm hts HA HH t0 t1 (by omega) HC G.D _ _ _ HS1 HR1 HT1 HT2 HSM G.b G.o (G.D 0) HGA HGC (Lib.hid fun W hh => text_no N L (G.D 0) W (hN.gr hh) (hL.gr hh) (g0.2.gr hh) (.inr ⟨qv, qg⟩)) HV HG
  rw [qg] at HG
  exact bs_ok N.A L.A G.A N.n N.c L.n L.c G.n G.c t w hm hts HA HH t0 t1 (by omega) HC G.D _ _ _ HS1 HR1 HT1 HT2 HSM G.b G.o (G.D 0) HGA HGC _ (Lib.hid fun W hh => text_ok N L (G.D 0) W (hN.gr hh) (hL.gr hh) (g0.2.gr hh) (ht.gr hh) qv qg) HV HG (Lib.hid fun W hh => rtext_ok N L (G.D 0) W (hN.gr hh) (hL.gr hh) (g0.2.gr hh) qv qg)
end Go.Proofs.YtkgbbcmgfbipaaaGreatDoor
