/-
  BalanceAdds: it answers true. (Printed by mkadds.py.)
-/
import Derived.Test.YthkmgnaeponfcaaBaAddQ
import Derived.Test.YthkmgnaeponfcaaBaAwk
import Derived.Deep.RegionWith
set_option linter.unusedVariables false
set_option linter.unusedSimpArgs false
namespace Go.Proofs.Ythkmgnaeponfcaa
open Go.RowKit
attribute [local go_sem ↓] Go.wp_at_zero Go.wp_at_succ
/-- A ledger comes back, and an error. -/
def RetS (P : Ba.Ledger → Prop) (ec : Int) (w : World) (e : Ending) (w' : World) : Prop := ∃ g : Ba.Ledger, e = .returned (.tuple #[.agg #[.int .i64 g.inn, .int .i64 g.out, .slice g.ps.A g.ps.n g.ps.c], .int .i64 ec]) ∧ g.Ok w' ∧ P g ∧ (0 < g.ps.n → w.heap.size ≤ g.ps.b) ∧ Gr w w'
theorem Ba.Ledger.Ok.grx {R : Nat} {w w' : World} {g : Ba.Ledger} (h : g.Ok w) (hg : GrX R w w') (hne : 0 < g.ps.n → g.ps.b ≠ R) : g.Ok w' := by
  obtain ⟨a, b, c⟩ := h
  exact ⟨a, b, c.hA, c.hc, c.hb, fun i hi => ⟨GrX.at hg (hne (by omega)) (c.hX i hi).1, (c.hX i hi).2⟩⟩
theorem own_k3 {w w' : World} {B : Nat} {C : Prop} (hg : Gr w w') (h0 : w.cell? ⟨B, 0, none⟩ = some (.int .i64 0)) (f0 : w.frozen? ⟨B, 0, none⟩ = false) (h1 : w.cell? ⟨B, 1, none⟩ = some (.int .i64 0)) (f1 : w.frozen? ⟨B, 1, none⟩ = false) (h2 : w.cell? ⟨B, 2, none⟩ = some (.slice none 0 0)) (f2 : w.frozen? ⟨B, 2, none⟩ = false)
    (k : w'.cell? ⟨B, 0, none⟩ = some (.int .i64 0) → w'.frozen? ⟨B, 0, none⟩ = false → w'.cell? ⟨B, 1, none⟩ = some (.int .i64 0) → w'.frozen? ⟨B, 1, none⟩ = false → w'.cell? ⟨B, 2, none⟩ = some (.slice none 0 0) → w'.frozen? ⟨B, 2, none⟩ = false → C) : C :=
  k (Gr.at hg h0) (Gr.free hg h0 f0) (Gr.at hg h1) (Gr.free hg h1 f1) (Gr.at hg h2) (Gr.free hg h2 f2)

set_option maxRecDepth 100000 in
set_option maxHeartbeats 8000000 in
theorem adds_h (A A2 LA : Option Addr) (n c n2 c2 ln lc : Nat) (at_ : Int) (w : World) (HA : Hid (∀ W, Gr w W → Calls Try.prog 8 #[] W fun e w' => e = .returned (.bool true) ∧ Gr W w')) (HH : Hid (∀ W, Gr w W → Calls Try.prog 20 #[.agg #[.slice A n c, .slice A2 n2 c2]] W fun e w' => e = .returned (.bool true) ∧ Gr W w')) : Calls Try.prog 6 #[.agg #[.slice A n c, .slice A2 n2 c2], .slice LA ln lc, .int .u8 at_] w (fun e w' => e = .returned (.bool true) ∧ Gr w w') := by
  go_enter Try.func6, Try.ntmps6
  go_wp2_with fail
  (first | refine name_world ?_ | refine (show (∀ W, W = _ → Calls _ _ _ W _) → Calls _ _ _ _ _ from fun h => h _ rfl) ?_); intro W1 hW1
  have g1 : Gr w W1 := by rw [hW1]; exact gr_auto
  have k1_0 : W1.cell? ⟨w.heap.size, 0, none⟩ = some (.slice A n c) := by rw [hW1]; first | (simp [go_sem, *]; done) | (refine Gr.at ?_ (by assumption); exact gr_auto)
  have b1_0 : w.heap.size < W1.heap.size := World.block_lt_of_cell? _ _ k1_0
  have k1_1 : W1.cell? ⟨w.heap.size, 1, none⟩ = some (.slice A2 n2 c2) := by rw [hW1]; first | (simp [go_sem, *]; done) | (refine Gr.at ?_ (by assumption); exact gr_auto)
  clear hW1
  refine (HA.out _ g1).mono ?_
  rintro e w2 ⟨rfl, hb2⟩
  have g2 := g1.trans hb2
  have k1_0 := Gr.at (w1 := w2) gr_auto k1_0; have k1_1 := Gr.at (w1 := w2) gr_auto k1_1
  go_wp2_with fail
  refine (HH.out _ g2).mono ?_
  rintro e w3 ⟨rfl, hb3⟩
  have g3 := g2.trans hb3
  have k1_0 := Gr.at (w1 := w3) gr_auto k1_0; have k1_1 := Gr.at (w1 := w3) gr_auto k1_1
  go_wp2_with fail
  go_ret
  exact ⟨rfl, gr_auto⟩

set_option maxRecDepth 100000 in
set_option maxHeartbeats 8000000 in
theorem adds_n (A A2 LA : Option Addr) (n c n2 c2 ln lc : Nat) (at_ : Int) (w : World) (HA : Hid (∀ W, Gr w W → Calls Try.prog 8 #[] W fun e w' => e = .returned (.bool true) ∧ Gr W w')) (HH : Hid (∀ W, Gr w W → Calls Try.prog 20 #[.agg #[.slice A n c, .slice A2 n2 c2]] W fun e w' => e = .returned (.bool false) ∧ Gr W w')) (hm : ln ≤ 9223372036854775807) (t0 : decide ((20 : Int) < (ln : Int)) = true) : Calls Try.prog 6 #[.agg #[.slice A n c, .slice A2 n2 c2], .slice LA ln lc, .int .u8 at_] w (fun e w' => e = .returned (.bool true) ∧ Gr w w') := by
  go_enter Try.func6, Try.ntmps6
  go_wp2_with fail
  (first | refine name_world ?_ | refine (show (∀ W, W = _ → Calls _ _ _ W _) → Calls _ _ _ _ _ from fun h => h _ rfl) ?_); intro W1 hW1
  have g1 : Gr w W1 := by rw [hW1]; exact gr_auto
  have k1_0 : W1.cell? ⟨w.heap.size, 0, none⟩ = some (.slice A n c) := by rw [hW1]; first | (simp [go_sem, *]; done) | (refine Gr.at ?_ (by assumption); exact gr_auto)
  have b1_0 : w.heap.size < W1.heap.size := World.block_lt_of_cell? _ _ k1_0
  have k1_1 : W1.cell? ⟨w.heap.size, 1, none⟩ = some (.slice A2 n2 c2) := by rw [hW1]; first | (simp [go_sem, *]; done) | (refine Gr.at ?_ (by assumption); exact gr_auto)
  clear hW1
  refine (HA.out _ g1).mono ?_
  rintro e w2 ⟨rfl, hb2⟩
  have g2 := g1.trans hb2
  have k1_0 := Gr.at (w1 := w2) gr_auto k1_0; have k1_1 := Gr.at (w1 := w2) gr_auto k1_1
  go_wp2_with fail
  refine (HH.out _ g2).mono ?_
  rintro e w3 ⟨rfl, hb3⟩
  have g3 := g2.trans hb3
  have k1_0 := Gr.at (w1 := w3) gr_auto k1_0; have k1_1 := Gr.at (w1 := w3) gr_auto k1_1
  go_wp2_with fail
  go_ret
  exact ⟨rfl, gr_auto⟩

set_option maxRecDepth 100000 in
set_option maxHeartbeats 8000000 in
theorem adds_e (A A2 LA : Option Addr) (n c n2 c2 ln lc : Nat) (at_ : Int) (w : World) (ec : Int) (hec : ec ≠ 0) (HA : Hid (∀ W, Gr w W → Calls Try.prog 8 #[] W fun e w' => e = .returned (.bool true) ∧ Gr W w')) (HH : Hid (∀ W, Gr w W → Calls Try.prog 20 #[.agg #[.slice A n c, .slice A2 n2 c2]] W fun e w' => e = .returned (.bool false) ∧ Gr W w')) (hm : ln ≤ 9223372036854775807) (t0 : decide ((20 : Int) < (ln : Int)) = false) (HI : Hid (∀ W, Gr w W → Calls Try.prog 21 #[.agg #[.slice A n c, .slice A2 n2 c2], .slice LA ln lc] W fun e w' => e = .returned (.int .i64 ec) ∧ Gr W w')) : Calls Try.prog 6 #[.agg #[.slice A n c, .slice A2 n2 c2], .slice LA ln lc, .int .u8 at_] w (fun e w' => e = .returned (.bool true) ∧ Gr w w') := by
  have t1 : (ec != 0) = true := Ba.bne_of' hec
  clear hec
  go_enter Try.func6, Try.ntmps6
  go_wp2_with fail
  (first | refine name_world ?_ | refine (show (∀ W, W = _ → Calls _ _ _ W _) → Calls _ _ _ _ _ from fun h => h _ rfl) ?_); intro W1 hW1
  have g1 : Gr w W1 := by rw [hW1]; exact gr_auto
  have k1_0 : W1.cell? ⟨w.heap.size, 0, none⟩ = some (.slice A n c) := by rw [hW1]; first | (simp [go_sem, *]; done) | (refine Gr.at ?_ (by assumption); exact gr_auto)
  have b1_0 : w.heap.size < W1.heap.size := World.block_lt_of_cell? _ _ k1_0
  have k1_1 : W1.cell? ⟨w.heap.size, 1, none⟩ = some (.slice A2 n2 c2) := by rw [hW1]; first | (simp [go_sem, *]; done) | (refine Gr.at ?_ (by assumption); exact gr_auto)
  clear hW1
  refine (HA.out _ g1).mono ?_
  rintro e w2 ⟨rfl, hb2⟩
  have g2 := g1.trans hb2
  have k1_0 := Gr.at (w1 := w2) gr_auto k1_0; have k1_1 := Gr.at (w1 := w2) gr_auto k1_1
  go_wp2_with fail
  refine (HH.out _ g2).mono ?_
  rintro e w3 ⟨rfl, hb3⟩
  have g3 := g2.trans hb3
  have k1_0 := Gr.at (w1 := w3) gr_auto k1_0; have k1_1 := Gr.at (w1 := w3) gr_auto k1_1
  go_wp2_with fail
  refine (HI.out _ g3).mono ?_
  rintro e w4 ⟨rfl, hb4⟩
  have g4 := g3.trans hb4
  have k1_0 := Gr.at (w1 := w4) gr_auto k1_0; have k1_1 := Gr.at (w1 := w4) gr_auto k1_1
  go_wp2_with fail
  go_ret
  exact ⟨rfl, gr_auto⟩

set_option maxRecDepth 100000 in
set_option maxHeartbeats 8000000 in
theorem adds_5 (A A2 LA : Option Addr) (n c n2 c2 ln lc : Nat) (at_ : Int) (w : World) (D : Nat → Ba.Ledger) (P1 P2 : Ba.Ledger → Prop) (hm : ln ≤ 20) (t0 : decide ((20 : Int) < (ln : Int)) = false) (HA : Hid (∀ W, Gr w W → Calls Try.prog 8 #[] W fun e w' => e = .returned (.bool true) ∧ Gr W w')) (HH : Hid (∀ W, Gr w W → Calls Try.prog 20 #[.agg #[.slice A n c, .slice A2 n2 c2]] W fun e w' => e = .returned (.bool false) ∧ Gr W w')) (HI : Hid (∀ W, Gr w W → Calls Try.prog 21 #[.agg #[.slice A n c, .slice A2 n2 c2], .slice LA ln lc] W fun e w' => e = .returned (.int .i64 0) ∧ Gr W w'))
    (HS1 : Hid (∀ W, Gr w W → Calls Try.prog 22 #[.agg #[.slice A n c, .slice A2 n2 c2], .slice LA ln lc] W (RetS P1 5 W))) (HCL : Hid (∀ W, Gr w W → Calls Try.prog 23 #[.slice LA ln lc] W (RetClone ln D W)))
    (HSR : Hid (∀ (A' : Option Addr) (c' g : Nat) W, Gr w W → (0 < ln → A' = some ⟨g, 0, none⟩) → ln ≤ c' → c' ≤ 9223372036854775807 → RowG W g ln (fun j => D (ln - 1 - j)) → Calls Try.prog 22 #[.agg #[.slice A n c, .slice A2 n2 c2], .slice A' ln c'] W (RetS P2 5 W)))
    (HSA : Hid (∀ a b : Ba.Ledger, P1 a → P2 b → ∀ W, a.Ok W → b.Ok W → Calls Try.prog 25 #[.agg #[.int .i64 a.inn, .int .i64 a.out, .slice a.ps.A a.ps.n a.ps.c], .agg #[.int .i64 b.inn, .int .i64 b.out, .slice b.ps.A b.ps.n b.ps.c]] W fun e w' => e = .returned (.bool true) ∧ Gr W w')) : Calls Try.prog 6 #[.agg #[.slice A n c, .slice A2 n2 c2], .slice LA ln lc, .int .u8 at_] w (fun e w' => e = .returned (.bool true) ∧ Gr w w') := by
  go_enter Try.func6, Try.ntmps6
  go_wp2_with fail
  (first | refine name_world ?_ | refine (show (∀ W, W = _ → Calls _ _ _ W _) → Calls _ _ _ _ _ from fun h => h _ rfl) ?_); intro W1 hW1
  have g1 : Gr w W1 := by rw [hW1]; exact gr_auto
  have k1_0 : W1.cell? ⟨w.heap.size, 0, none⟩ = some (.slice A n c) := by rw [hW1]; first | (simp [go_sem, *]; done) | (refine Gr.at ?_ (by assumption); exact gr_auto)
  have b1_0 : w.heap.size < W1.heap.size := World.block_lt_of_cell? _ _ k1_0
  have k1_1 : W1.cell? ⟨w.heap.size, 1, none⟩ = some (.slice A2 n2 c2) := by rw [hW1]; first | (simp [go_sem, *]; done) | (refine Gr.at ?_ (by assumption); exact gr_auto)
  clear hW1
  refine (HA.out _ g1).mono ?_
  rintro e w2 ⟨rfl, hb2⟩
  have g2 := g1.trans hb2
  have k1_0 := Gr.at (w1 := w2) gr_auto k1_0; have k1_1 := Gr.at (w1 := w2) gr_auto k1_1
  go_wp2_with fail
  refine (HH.out _ g2).mono ?_
  rintro e w3 ⟨rfl, hb3⟩
  have g3 := g2.trans hb3
  have k1_0 := Gr.at (w1 := w3) gr_auto k1_0; have k1_1 := Gr.at (w1 := w3) gr_auto k1_1
  go_wp2_with fail
  refine (HI.out _ g3).mono ?_
  rintro e w4 ⟨rfl, hb4⟩
  have g4 := g3.trans hb4
  have k1_0 := Gr.at (w1 := w4) gr_auto k1_0; have k1_1 := Gr.at (w1 := w4) gr_auto k1_1
  clear HA HH HI
  go_wp2_with fail
  refine (HS1.out _ g4).mono ?_
  rintro e w5 ⟨s, rfl, hs1, hs2, -, hb5⟩
  have g5 := g4.trans hb5
  have k1_0 := Gr.at (w1 := w5) gr_auto k1_0; have k1_1 := Gr.at (w1 := w5) gr_auto k1_1
  have OS := Lib.hid hs1; have PS := Lib.hid hs2
  clear hs1 hs2
  go_wp2_with fail
  (first | refine name_world ?_ | refine (show (∀ W, W = _ → Calls _ _ _ W _) → Calls _ _ _ _ _ from fun h => h _ rfl) ?_); intro W6 hW6
  have g6 : Gr w W6 := by rw [hW6]; exact gr_auto
  have gb6_w5 : Gr w5 W6 := by (try clear g6); rw [hW6]; exact gr_auto
  have k6_0 : W6.cell? ⟨w.heap.size, 0, none⟩ = some (.slice A n c) := by rw [hW6]; first | (simp [go_sem, *]; done) | (refine Gr.at ?_ (by assumption); exact gr_auto)
  have b6_0 : w.heap.size < W6.heap.size := World.block_lt_of_cell? _ _ k6_0
  have k6_1 : W6.cell? ⟨w.heap.size, 1, none⟩ = some (.slice A2 n2 c2) := by rw [hW6]; first | (simp [go_sem, *]; done) | (refine Gr.at ?_ (by assumption); exact gr_auto)
  have k6_2 : W6.cell? ⟨w5.heap.size, 0, none⟩ = some (.int .i64 s.inn) := by rw [hW6]; first | (simp [go_sem, *]; done) | (refine Gr.at ?_ (by assumption); exact gr_auto)
  have b6_2 : w5.heap.size < W6.heap.size := World.block_lt_of_cell? _ _ k6_2
  have k6_3 : W6.cell? ⟨w5.heap.size, 1, none⟩ = some (.int .i64 s.out) := by rw [hW6]; first | (simp [go_sem, *]; done) | (refine Gr.at ?_ (by assumption); exact gr_auto)
  have k6_4 : W6.cell? ⟨w5.heap.size, 2, none⟩ = some (.slice s.ps.A s.ps.n s.ps.c) := by rw [hW6]; first | (simp [go_sem, *]; done) | (refine Gr.at ?_ (by assumption); exact gr_auto)
  clear hW6
  clear k1_0 k1_1
  have h6_0 := k6_0; have h6_1 := k6_1; have h6_2 := k6_2; have h6_3 := k6_3; have h6_4 := k6_4
  refine (HCL.out _ g6).mono ?_
  rintro e w7 ⟨A', c', gb, rfl, q1, q2, q3, q4, q5, hb7⟩
  have g7 := g6.trans hb7
  have HQ := Lib.hid q1; have HQ3 := Lib.hid q3; have HQ4 := Lib.hid q4
  have k6_0 := Gr.at (w1 := w7) gr_auto k6_0; have k6_1 := Gr.at (w1 := w7) gr_auto k6_1; have k6_2 := Gr.at (w1 := w7) gr_auto k6_2; have k6_3 := Gr.at (w1 := w7) gr_auto k6_3; have k6_4 := Gr.at (w1 := w7) gr_auto k6_4
  have HRV := Lib.hid (reverse_any A' ln c' gb D w7 q1 (by omega) q5)
  clear q1 q3 q4 q5
  go_wp2_with fail
  refine HRV.out.mono ?_
  rintro e w8 ⟨rfl, hr, hx⟩
  have gx : Gr W6 w8 := GrX.gr hb7 q2 hx
  have g8 := g6.trans gx
  clear HRV hx k6_0 k6_1 k6_2 k6_3 k6_4 hb7 g7
  have k6_0 : w8.cell? ⟨w.heap.size, 0, none⟩ = some (.slice A n c) := Gr.at gx h6_0
  have k6_1 : w8.cell? ⟨w.heap.size, 1, none⟩ = some (.slice A2 n2 c2) := Gr.at gx h6_1
  have k6_2 := Gr.at gx h6_2; have k6_3 := Gr.at gx h6_3; have k6_4 := Gr.at gx h6_4
  have HR := Lib.hid (fun W (hW : Gr w8 W) => HSR.out A' c' gb W (g8.trans hW) HQ.out HQ3.out HQ4.out (hr.gr hW))
  have OS8 := Lib.hid (fun W (hW : Gr w8 W) => OS.out.gr ((gb6_w5.trans gx).trans hW))
  clear hr q2 HQ HQ3 HQ4 h6_0 h6_1 h6_2 h6_3 h6_4 gx OS
  go_wp2_with fail
  refine (HR.out _ (Gr.refl _)).mono ?_
  rintro e w9 ⟨t, rfl, ht1, ht2, -, hb9⟩
  have g9 := g8.trans hb9
  have k6_0 := Gr.at (w1 := w9) gr_auto k6_0; have k6_1 := Gr.at (w1 := w9) gr_auto k6_1; have k6_2 := Gr.at (w1 := w9) gr_auto k6_2; have k6_3 := Gr.at (w1 := w9) gr_auto k6_3; have k6_4 := Gr.at (w1 := w9) gr_auto k6_4
  have HSM := Lib.hid (fun W (hW : Gr w9 W) => HSA.out s t PS.out ht2 W (OS8.out W (hb9.trans hW)) (ht1.gr hW))
  clear HR ht1 ht2
  have b5 : w5.heap.size < w9.heap.size := World.block_lt_of_cell? _ _ k6_2
  go_wp2_with fail
  (first | refine name_world ?_ | refine (show (∀ W, W = _ → Calls _ _ _ W _) → Calls _ _ _ _ _ from fun h => h _ rfl) ?_); intro W10 hW10
  have g10 : Gr w W10 := by rw [hW10]; exact gr_auto
  have gb10_w9 : Gr w9 W10 := by (try clear g10); rw [hW10]; exact gr_auto
  have gb10_w8 : Gr w8 W10 := by (try clear g10); rw [hW10]; exact gr_auto
  have k10_0 : W10.cell? ⟨w.heap.size, 0, none⟩ = some (.slice A n c) := by rw [hW10]; first | (simp [go_sem, *]; done) | (refine Gr.at ?_ (by assumption); exact gr_auto)
  have b10_0 : w.heap.size < W10.heap.size := World.block_lt_of_cell? _ _ k10_0
  have k10_1 : W10.cell? ⟨w.heap.size, 1, none⟩ = some (.slice A2 n2 c2) := by rw [hW10]; first | (simp [go_sem, *]; done) | (refine Gr.at ?_ (by assumption); exact gr_auto)
  have k10_2 : W10.cell? ⟨w5.heap.size, 0, none⟩ = some (.int .i64 s.inn) := by rw [hW10]; first | (simp [go_sem, *]; done) | (refine Gr.at ?_ (by assumption); exact gr_auto)
  have b10_2 : w5.heap.size < W10.heap.size := World.block_lt_of_cell? _ _ k10_2
  have k10_3 : W10.cell? ⟨w5.heap.size, 1, none⟩ = some (.int .i64 s.out) := by rw [hW10]; first | (simp [go_sem, *]; done) | (refine Gr.at ?_ (by assumption); exact gr_auto)
  have k10_4 : W10.cell? ⟨w5.heap.size, 2, none⟩ = some (.slice s.ps.A s.ps.n s.ps.c) := by rw [hW10]; first | (simp [go_sem, *]; done) | (refine Gr.at ?_ (by assumption); exact gr_auto)
  have k10_5 : W10.cell? ⟨w9.heap.size, 0, none⟩ = some (.int .i64 t.inn) := by rw [hW10]; first | (simp [go_sem, *]; done) | (refine Gr.at ?_ (by assumption); exact gr_auto)
  have b10_5 : w9.heap.size < W10.heap.size := World.block_lt_of_cell? _ _ k10_5
  have k10_6 : W10.cell? ⟨w9.heap.size, 1, none⟩ = some (.int .i64 t.out) := by rw [hW10]; first | (simp [go_sem, *]; done) | (refine Gr.at ?_ (by assumption); exact gr_auto)
  have k10_7 : W10.cell? ⟨w9.heap.size, 2, none⟩ = some (.slice t.ps.A t.ps.n t.ps.c) := by rw [hW10]; first | (simp [go_sem, *]; done) | (refine Gr.at ?_ (by assumption); exact gr_auto)
  clear hW10
  refine (HSM.out _ gb10_w9).mono ?_
  rintro e w11 ⟨rfl, hb11⟩
  have g11 := g10.trans hb11
  have k10_0 := Gr.at (w1 := w11) gr_auto k10_0; have k10_1 := Gr.at (w1 := w11) gr_auto k10_1; have k10_2 := Gr.at (w1 := w11) gr_auto k10_2; have k10_3 := Gr.at (w1 := w11) gr_auto k10_3; have k10_4 := Gr.at (w1 := w11) gr_auto k10_4
  clear k6_0 k6_1 k6_2 k6_3 k6_4 k10_5 k10_6 k10_7 HSM
  go_wp2_with fail
  go_ret
  exact ⟨rfl, g11⟩

end Go.Proofs.Ythkmgnaeponfcaa
