/-
  BalanceAdds: the way behind a sum that is OK (no ledgers). (Printed by mkadds.py.)
-/
import Derived.Test.YthkmgnaeponfcaaBaAdds
set_option linter.unusedVariables false
set_option linter.unusedSimpArgs false
namespace Go.Proofs.Ythkmgnaeponfcaa
open Go.RowKit
attribute [local go_sem ↓] Go.wp_at_zero Go.wp_at_succ
set_option maxRecDepth 100000 in
set_option maxHeartbeats 8000000 in
theorem adds_0z (A A2 : Option Addr) (n c n2 c2 lc b o_ : Nat) (q_ : Option Nat) (at_ : Int) (w : World) (D : Nat → Ba.Ledger) (P1 P2 : Ba.Ledger → Prop) (hm : 0 ≤ 20) (t0 : decide ((20 : Int) < (0 : Int)) = false) (HA : Hid (∀ W, Gr w W → Calls Try.prog 8 #[] W fun e w' => e = .returned (.bool true) ∧ Gr W w')) (HH : Hid (∀ W, Gr w W → Calls Try.prog 20 #[.agg #[.slice A n c, .slice A2 n2 c2]] W fun e w' => e = .returned (.bool false) ∧ Gr W w')) (HI : Hid (∀ W, Gr w W → Calls Try.prog 21 #[.agg #[.slice A n c, .slice A2 n2 c2], .slice (some ⟨b, o_, q_⟩) 0 lc] W fun e w' => e = .returned (.int .i64 0) ∧ Gr W w'))
    (HS1 : Hid (∀ W, Gr w W → Calls Try.prog 22 #[.agg #[.slice A n c, .slice A2 n2 c2], .slice (some ⟨b, o_, q_⟩) 0 lc] W (RetS P1 0 W))) (HCL : Hid (∀ W, Gr w W → Calls Try.prog 23 #[.slice (some ⟨b, o_, q_⟩) 0 lc] W (RetClone 0 D W)))
    (HSR : Hid (∀ (A' : Option Addr) (c' g : Nat) W, Gr w W → (0 < 0 → A' = some ⟨g, 0, none⟩) → 0 ≤ c' → c' ≤ 9223372036854775807 → RowG W g 0 (fun j => D (0 - 1 - j)) → Calls Try.prog 22 #[.agg #[.slice A n c, .slice A2 n2 c2], .slice A' 0 c'] W (RetS P2 0 W)))
    (HSA : Hid (∀ a b : Ba.Ledger, P1 a → P2 b → ∀ W, a.Ok W → b.Ok W → Calls Try.prog 25 #[.agg #[.int .i64 a.inn, .int .i64 a.out, .slice a.ps.A a.ps.n a.ps.c], .agg #[.int .i64 b.inn, .int .i64 b.out, .slice b.ps.A b.ps.n b.ps.c]] W fun e w' => e = .returned (.bool true) ∧ Gr W w')) (hlc2 : 0 ≤ lc) (hcm : lc ≤ 9223372036854775807) (hat : 0 ≤ at_ ∧ at_ ≤ 255) (hi : at_ % ((0 : Int) + 1) = (0 : Int)) (hil : 0 ≤ 0) (Pa Pb Pc : Ba.Ledger → Prop) (HB1i : Hid (∀ W, Gr w W → Calls Try.prog 22 #[.agg #[.slice A n c, .slice A2 n2 c2], .slice (some ⟨b, o_, q_⟩) 0 lc] W (RetS Pa 0 W))) (HB2i : Hid (∀ W, Gr w W → Calls Try.prog 22 #[.agg #[.slice A n c, .slice A2 n2 c2], .slice (some ⟨b, o_, q_⟩) 0 lc] W (RetS Pb 0 W)))
    (HS2 : Hid (∀ (x y : Ba.Ledger) B W, Gr w W → Pa x → Pb y → x.Ok W → y.Ok W → x.Cells W B 0 → y.Cells W B 3 → Calls Try.prog 22 #[.agg #[.slice A n c, .slice A2 n2 c2], .slice (some ⟨B, 0, none⟩) 2 2] W (RetS Pc 0 W)))
    (HSB : Hid (∀ z s : Ba.Ledger, Pc z → P1 s → ∀ W, z.Ok W → s.Ok W → Calls Try.prog 25 #[.agg #[.int .i64 z.inn, .int .i64 z.out, .slice z.ps.A z.ps.n z.ps.c], .agg #[.int .i64 s.inn, .int .i64 s.out, .slice s.ps.A s.ps.n s.ps.c]] W fun e w' => e = .returned (.bool true) ∧ Gr W w'))
    (b2 o2 : Nat) (E : Nat → Ba.Link) (tot : Nat → Int) (hl : n2 ≤ 1000) (KA : Hid (0 < n2 → A2 = some ⟨b2, o2, none⟩)) (KX : Hid (∀ k, k < n2 → (E k).Cells w b2 (o2 + k * 11) ∧ (E k).nm.size ≤ 9223372036854775807)) (HPX : Hid (∀ g, P1 g → g.ps.n = n2 ∧ ∀ k, k < n2 → g.ps.X k = tot k))
    (HTH : Hid (∀ k, k < n2 → ∀ W, Gr w W → Calls Try.prog 26 #[.agg #[.slice A n c, .slice A2 n2 c2], .slice (some ⟨b, o_, q_⟩) 0 lc, .string (E k).nm] W fun e w' => e = .returned (.tuple #[.int .i64 (tot k), .int .i64 0]) ∧ Gr W w')) : Calls Try.prog 6 #[.agg #[.slice A n c, .slice A2 n2 c2], .slice (some ⟨b, o_, q_⟩) 0 lc, .int .u8 at_] w (fun e w' => e = .returned (.bool true) ∧ Gr w w') := by
  go_enter Try.func6, Try.ntmps6
  go_wp2_with fail
  (first | refine name_world ?_ | refine (show (∀ W, W = _ → Calls _ _ _ W _) → Calls _ _ _ _ _ from fun h => h _ rfl) ?_); intro W1 hW1
  have g1 : Gr w W1 := by rw [hW1]; exact gr_auto
  have k1_0 : W1.cell? ⟨w.heap.size, 0, none⟩ = some (.slice A n c) := by rw [hW1]; first | (simp [go_sem, *]; done) | (refine Gr.at ?_ (by assumption); exact gr_auto)
  have b1_0 : w.heap.size < W1.heap.size := World.block_lt_of_cell? _ _ k1_0
  have k1_1 : W1.cell? ⟨w.heap.size, 1, none⟩ = some (.slice A2 n2 c2) := by rw [hW1]; first | (simp [go_sem, *]; done) | (refine Gr.at ?_ (by assumption); exact gr_auto)
  clear hW1
  refine (HA.out _ g1).mono ?_
  rintro e w2 ⟨rfl, hb2⟩
  have g2 := g1.trans hb2
  have k1_0 := Gr.at (w1 := w2) gr_auto k1_0; have k1_1 := Gr.at (w1 := w2) gr_auto k1_1
  go_wp2_with fail
  refine (HH.out _ g2).mono ?_
  rintro e w3 ⟨rfl, hb3⟩
  have g3 := g2.trans hb3
  have k1_0 := Gr.at (w1 := w3) gr_auto k1_0; have k1_1 := Gr.at (w1 := w3) gr_auto k1_1
  go_wp2_with fail
  refine (HI.out _ g3).mono ?_
  rintro e w4 ⟨rfl, hb4⟩
  have g4 := g3.trans hb4
  have k1_0 := Gr.at (w1 := w4) gr_auto k1_0; have k1_1 := Gr.at (w1 := w4) gr_auto k1_1
  clear HA HH HI
  go_wp2_with fail
  refine (HS1.out _ g4).mono ?_
  rintro e w5 ⟨s, rfl, hs1, hs2, -, hb5⟩
  have g5 := g4.trans hb5
  have k1_0 := Gr.at (w1 := w5) gr_auto k1_0; have k1_1 := Gr.at (w1 := w5) gr_auto k1_1
  have OS := Lib.hid hs1; have PS := Lib.hid hs2
  clear hs1 hs2
  go_wp2_with fail
  (first | refine name_world ?_ | refine (show (∀ W, W = _ → Calls _ _ _ W _) → Calls _ _ _ _ _ from fun h => h _ rfl) ?_); intro W6 hW6
  have g6 : Gr w W6 := by rw [hW6]; exact gr_auto
  have gb6_w5 : Gr w5 W6 := by (try clear g6); rw [hW6]; exact gr_auto
  have k6_0 : W6.cell? ⟨w.heap.size, 0, none⟩ = some (.slice A n c) := by rw [hW6]; first | (simp [go_sem, *]; done) | (refine Gr.at ?_ (by assumption); exact gr_auto)
  have b6_0 : w.heap.size < W6.heap.size := World.block_lt_of_cell? _ _ k6_0
  have k6_1 : W6.cell? ⟨w.heap.size, 1, none⟩ = some (.slice A2 n2 c2) := by rw [hW6]; first | (simp [go_sem, *]; done) | (refine Gr.at ?_ (by assumption); exact gr_auto)
  have k6_2 : W6.cell? ⟨w5.heap.size, 0, none⟩ = some (.int .i64 s.inn) := by rw [hW6]; first | (simp [go_sem, *]; done) | (refine Gr.at ?_ (by assumption); exact gr_auto)
  have b6_2 : w5.heap.size < W6.heap.size := World.block_lt_of_cell? _ _ k6_2
  have k6_3 : W6.cell? ⟨w5.heap.size, 1, none⟩ = some (.int .i64 s.out) := by rw [hW6]; first | (simp [go_sem, *]; done) | (refine Gr.at ?_ (by assumption); exact gr_auto)
  have k6_4 : W6.cell? ⟨w5.heap.size, 2, none⟩ = some (.slice s.ps.A s.ps.n s.ps.c) := by rw [hW6]; first | (simp [go_sem, *]; done) | (refine Gr.at ?_ (by assumption); exact gr_auto)
  clear hW6
  clear k1_0 k1_1
  have h6_0 := k6_0; have h6_1 := k6_1; have h6_2 := k6_2; have h6_3 := k6_3; have h6_4 := k6_4
  refine (HCL.out _ g6).mono ?_
  rintro e w7 ⟨A', c', gb, rfl, q1, q2, q3, q4, q5, hb7⟩
  have g7 := g6.trans hb7
  have HQ := Lib.hid q1; have HQ3 := Lib.hid q3; have HQ4 := Lib.hid q4
  have k6_0 := Gr.at (w1 := w7) gr_auto k6_0; have k6_1 := Gr.at (w1 := w7) gr_auto k6_1; have k6_2 := Gr.at (w1 := w7) gr_auto k6_2; have k6_3 := Gr.at (w1 := w7) gr_auto k6_3; have k6_4 := Gr.at (w1 := w7) gr_auto k6_4
  have HRV := Lib.hid (reverse_any A' 0 c' gb D w7 q1 (by omega) q5)
  clear q1 q3 q4 q5
  go_wp2_with fail
  refine HRV.out.mono ?_
  rintro e w8 ⟨rfl, hr, hx⟩
  have gx : Gr W6 w8 := GrX.gr hb7 q2 hx
  have g8 := g6.trans gx
  clear HRV hx k6_0 k6_1 k6_2 k6_3 k6_4 hb7 g7
  have k6_0 : w8.cell? ⟨w.heap.size, 0, none⟩ = some (.slice A n c) := Gr.at gx h6_0
  have k6_1 : w8.cell? ⟨w.heap.size, 1, none⟩ = some (.slice A2 n2 c2) := Gr.at gx h6_1
  have k6_2 := Gr.at gx h6_2; have k6_3 := Gr.at gx h6_3; have k6_4 := Gr.at gx h6_4
  have HR := Lib.hid (fun W (hW : Gr w8 W) => HSR.out A' c' gb W (g8.trans hW) HQ.out HQ3.out HQ4.out (hr.gr hW))
  have OS8 := Lib.hid (fun W (hW : Gr w8 W) => OS.out.gr ((gb6_w5.trans gx).trans hW))
  clear hr q2 HQ HQ3 HQ4 h6_0 h6_1 h6_2 h6_3 h6_4 gx OS
  go_wp2_with fail
  refine (HR.out _ (Gr.refl _)).mono ?_
  rintro e w9 ⟨t, rfl, ht1, ht2, -, hb9⟩
  have g9 := g8.trans hb9
  have k6_0 := Gr.at (w1 := w9) gr_auto k6_0; have k6_1 := Gr.at (w1 := w9) gr_auto k6_1; have k6_2 := Gr.at (w1 := w9) gr_auto k6_2; have k6_3 := Gr.at (w1 := w9) gr_auto k6_3; have k6_4 := Gr.at (w1 := w9) gr_auto k6_4
  have HSM := Lib.hid (fun W (hW : Gr w9 W) => HSA.out s t PS.out ht2 W (OS8.out W (hb9.trans hW)) (ht1.gr hW))
  clear HR ht1 ht2
  have b5 : w5.heap.size < w9.heap.size := World.block_lt_of_cell? _ _ k6_2
  go_wp2_with fail
  (first | refine name_world ?_ | refine (show (∀ W, W = _ → Calls _ _ _ W _) → Calls _ _ _ _ _ from fun h => h _ rfl) ?_); intro W10 hW10
  have g10 : Gr w W10 := by rw [hW10]; exact gr_auto
  have gb10_w9 : Gr w9 W10 := by (try clear g10); rw [hW10]; exact gr_auto
  have gb10_w8 : Gr w8 W10 := by (try clear g10); rw [hW10]; exact gr_auto
  have k10_0 : W10.cell? ⟨w.heap.size, 0, none⟩ = some (.slice A n c) := by rw [hW10]; first | (simp [go_sem, *]; done) | (refine Gr.at ?_ (by assumption); exact gr_auto)
  have b10_0 : w.heap.size < W10.heap.size := World.block_lt_of_cell? _ _ k10_0
  have k10_1 : W10.cell? ⟨w.heap.size, 1, none⟩ = some (.slice A2 n2 c2) := by rw [hW10]; first | (simp [go_sem, *]; done) | (refine Gr.at ?_ (by assumption); exact gr_auto)
  have k10_2 : W10.cell? ⟨w5.heap.size, 0, none⟩ = some (.int .i64 s.inn) := by rw [hW10]; first | (simp [go_sem, *]; done) | (refine Gr.at ?_ (by assumption); exact gr_auto)
  have b10_2 : w5.heap.size < W10.heap.size := World.block_lt_of_cell? _ _ k10_2
  have k10_3 : W10.cell? ⟨w5.heap.size, 1, none⟩ = some (.int .i64 s.out) := by rw [hW10]; first | (simp [go_sem, *]; done) | (refine Gr.at ?_ (by assumption); exact gr_auto)
  have k10_4 : W10.cell? ⟨w5.heap.size, 2, none⟩ = some (.slice s.ps.A s.ps.n s.ps.c) := by rw [hW10]; first | (simp [go_sem, *]; done) | (refine Gr.at ?_ (by assumption); exact gr_auto)
  have k10_5 : W10.cell? ⟨w9.heap.size, 0, none⟩ = some (.int .i64 t.inn) := by rw [hW10]; first | (simp [go_sem, *]; done) | (refine Gr.at ?_ (by assumption); exact gr_auto)
  have b10_5 : w9.heap.size < W10.heap.size := World.block_lt_of_cell? _ _ k10_5
  have k10_6 : W10.cell? ⟨w9.heap.size, 1, none⟩ = some (.int .i64 t.out) := by rw [hW10]; first | (simp [go_sem, *]; done) | (refine Gr.at ?_ (by assumption); exact gr_auto)
  have k10_7 : W10.cell? ⟨w9.heap.size, 2, none⟩ = some (.slice t.ps.A t.ps.n t.ps.c) := by rw [hW10]; first | (simp [go_sem, *]; done) | (refine Gr.at ?_ (by assumption); exact gr_auto)
  clear hW10
  refine (HSM.out _ gb10_w9).mono ?_
  rintro e w11 ⟨rfl, hb11⟩
  have g11 := g10.trans hb11
  have k11_0 := Gr.at hb11 k10_0; have k11_1 := Gr.at hb11 k10_1; have k11_2 := Gr.at hb11 k10_2; have k11_3 := Gr.at hb11 k10_3; have k11_4 := Gr.at hb11 k10_4; have OS11 := Lib.hid (OS8.out w11 ((hb9.trans gb10_w9).trans hb11)); clear OS8
  clear k6_0 k6_1 k6_2 k6_3 k6_4 k10_5 k10_6 k10_7 HSM
  have ib0 : (0 : Int) ≤ (0 : Int) := by omega
  have ib1 : (0 : Int) ≤ (0 : Int) := by omega
  have ib2 : (0 : Int) ≤ (lc : Int) := by omega
  go_wp2_with fail
  (try rw [hi])
  refine name_world ?_; intro W12 hW12
  have g12 : Gr w W12 := by rw [hW12]; exact gr_auto
  have gb12_w11 : Gr w11 W12 := by rw [hW12]; exact gr_auto
  have zb12_w11 := Gr.size gb12_w11
  have k12_0 : ∀ w', Gr W12 w' → w'.cell? ⟨w.heap.size, 0, none⟩ = some (.slice A n c) := fun w' hgW => by first | exact (Gr.at hgW (by rw [hW12]; simp [go_sem, *])) | (have hbW := Gr.trans gb12_w11 hgW; simp [*]; done)
  have k12_1 : ∀ w', Gr W12 w' → w'.cell? ⟨w.heap.size, 1, none⟩ = some (.slice A2 n2 c2) := fun w' hgW => by first | exact (Gr.at hgW (by rw [hW12]; simp [go_sem, *])) | (have hbW := Gr.trans gb12_w11 hgW; simp [*]; done)
  (try rw [← hW12] at hNA); (try rw [← hW12] at hLA)
  clear hW12
  have zW12 := Gr.size g12
  have qW12 := Gr.refl W12; have qD12 : Gr W12 W12.drew := Gr.drew (Gr.refl _); have qA12 := fun o => Gr.alloc (Gr.refl W12) o; have qB12 := fun o => Gr.drew (Gr.alloc (Gr.refl W12) o); have qC12 := fun o => Gr.alloc (Gr.drew (Gr.refl W12)) o; go_region_with ((go_at_call 22; refine (HB1i.out _ (g12.trans gr_auto)).mono ?_; rintro e w13 ⟨a, rfl, ha1, ha2, ha3, hb13⟩; have q13 : Gr W12 w13 := Gr.trans gr_auto hb13; have OA := Lib.hid ha1; have PA := Lib.hid ha2; have OAB := Lib.hid ha3; clear ha1 ha2 ha3; (first | (refine own_k3 (B := W12.heap.size) hb13 ?_ ?_ ?_ ?_ ?_ ?_ ?_; (solve | exact World.frozen?_alloc_new _ _ _ _ | simp | simp [go_sem]); (solve | exact World.frozen?_alloc_new _ _ _ _ | simp | simp [go_sem]); (solve | exact World.frozen?_alloc_new _ _ _ _ | simp | simp [go_sem]); (solve | exact World.frozen?_alloc_new _ _ _ _ | simp | simp [go_sem]); (solve | exact World.frozen?_alloc_new _ _ _ _ | simp | simp [go_sem]); (solve | exact World.frozen?_alloc_new _ _ _ _ | simp | simp [go_sem]); intro qa0 qa1 qa2 qa3 qa4 qa5) | skip)))
  all_goals
    go_wp2_with fail
    first
    | ((first | refine name_world ?_ | refine (show (∀ W, W = _ → Exit.then _ _ _ _ W) → Exit.then _ _ _ _ _ from fun h => h _ rfl) ?_); intro W14 hW14; have gz : Gr w11 W14 := (by rw [hW14]; exact gr_auto); have OA2 := Lib.hid (OA.out.gr (show Gr w13 W14 by rw [hW14]; exact gr_auto)); have la0 : W14.cell? ⟨w13.heap.size, 0, none⟩ = some (.int .i64 a.inn) := (by rw [hW14]; first | (simp [go_sem, *]; done) | exact (by first | (simp [go_sem, *]; done) | ((try simp [go_sem, *]); refine World.cell?_setCell_same' _ _ _ ?_; simp [go_sem, *]; done))); have la1 : W14.cell? ⟨w13.heap.size, 1, none⟩ = some (.int .i64 a.out) := (by rw [hW14]; first | (simp [go_sem, *]; done) | exact (by first | (simp [go_sem, *]; done) | ((try simp [go_sem, *]); refine World.cell?_setCell_same' _ _ _ ?_; simp [go_sem, *]; done))); have la2 : W14.cell? ⟨w13.heap.size, 2, none⟩ = some (.slice a.ps.A a.ps.n a.ps.c) := (by rw [hW14]; first | (simp [go_sem, *]; done) | exact (by first | (simp [go_sem, *]; done) | ((try simp [go_sem, *]); refine World.cell?_setCell_same' _ _ _ ?_; simp [go_sem, *]; done))); clear hW14; generalize w13.heap.size = ba at *)
    | ((first | refine name_world ?_ | refine (show (∀ W, W = _ → Exit.then _ _ _ _ W) → Exit.then _ _ _ _ _ from fun h => h _ rfl) ?_); intro W14 hW14; have gz : Gr w11 W14 := (by rw [hW14]; exact gr_auto); have OA2 := Lib.hid (OA.out.grx (R := W12.heap.size) (show GrX W12.heap.size w13 W14 by rw [hW14]; repeat' (first | exact GrX.refl _ _ | refine GrX.drew ?_ | (with_reducible refine GrX.setCell ?_ ?_ _) | (rfl; done))) (fun h => by have := OAB.out h; simp at this; omega)); have la0 : W14.cell? ⟨W12.heap.size, 0, none⟩ = some (.int .i64 a.inn) := (by rw [hW14]; first | (simp [go_sem, *]; done) | exact (by first | (simp [go_sem, *]; done) | ((try simp [go_sem, *]); refine World.cell?_setCell_same' _ _ _ ?_; simp [go_sem, *]; done))); have la1 : W14.cell? ⟨W12.heap.size, 1, none⟩ = some (.int .i64 a.out) := (by rw [hW14]; first | (simp [go_sem, *]; done) | exact (by first | (simp [go_sem, *]; done) | ((try simp [go_sem, *]); refine World.cell?_setCell_same' _ _ _ ?_; simp [go_sem, *]; done))); have la2 : W14.cell? ⟨W12.heap.size, 2, none⟩ = some (.slice a.ps.A a.ps.n a.ps.c) := (by rw [hW14]; first | (simp [go_sem, *]; done) | exact (by first | (simp [go_sem, *]; done) | ((try simp [go_sem, *]); refine World.cell?_setCell_same' _ _ _ ?_; simp [go_sem, *]; done))); clear hW14; generalize W12.heap.size = ba at *)
  all_goals
    have g14 := g11.trans gz
    have k14_0 := Gr.at gz k11_0; have k14_1 := Gr.at gz k11_1; have k14_2 := Gr.at gz k11_2; have k14_3 := Gr.at gz k11_3; have k14_4 := Gr.at gz k11_4
    have OS14 := Lib.hid (OS11.out.gr gz)
    clear gz OS11 OA OAB k11_0 k11_1 k11_2 k11_3 k11_4
    (try clear hb13)
    (try clear q13)
    refine name_world ?_; intro W15 hW15
    have g15 : Gr w W15 := by rw [hW15]; exact gr_auto
    have gb15_W14 : Gr W14 W15 := by rw [hW15]; exact gr_auto
    have zb15_W14 := Gr.size gb15_W14
    have k15_0 : ∀ w', Gr W15 w' → w'.cell? ⟨w.heap.size, 0, none⟩ = some (.slice A n c) := fun w' hgW => by first | exact (Gr.at hgW (by rw [hW15]; simp [go_sem, *])) | (have hbW := Gr.trans gb15_W14 hgW; simp [*]; done)
    have k15_1 : ∀ w', Gr W15 w' → w'.cell? ⟨w.heap.size, 1, none⟩ = some (.slice A2 n2 c2) := fun w' hgW => by first | exact (Gr.at hgW (by rw [hW15]; simp [go_sem, *])) | (have hbW := Gr.trans gb15_W14 hgW; simp [*]; done)
    (try rw [← hW15] at hNA); (try rw [← hW15] at hLA)
    clear hW15
    have zW15 := Gr.size g15
    have qW15 := Gr.refl W15; have qD15 : Gr W15 W15.drew := Gr.drew (Gr.refl _); have qA15 := fun o => Gr.alloc (Gr.refl W15) o; have qB15 := fun o => Gr.drew (Gr.alloc (Gr.refl W15) o); have qC15 := fun o => Gr.alloc (Gr.drew (Gr.refl W15)) o; go_region_with ((go_at_call 22; refine (HB2i.out _ (g15.trans gr_auto)).mono ?_; rintro e w16 ⟨d1, rfl, ha1, ha2, ha3, hb16⟩; have q16 : Gr W15 w16 := Gr.trans gr_auto hb16; have OY := Lib.hid ha1; have PY := Lib.hid ha2; have OYB := Lib.hid ha3; clear ha1 ha2 ha3; (first | (refine own_k3 (B := W15.heap.size) hb16 ?_ ?_ ?_ ?_ ?_ ?_ ?_; (solve | exact World.frozen?_alloc_new _ _ _ _ | simp | simp [go_sem]); (solve | exact World.frozen?_alloc_new _ _ _ _ | simp | simp [go_sem]); (solve | exact World.frozen?_alloc_new _ _ _ _ | simp | simp [go_sem]); (solve | exact World.frozen?_alloc_new _ _ _ _ | simp | simp [go_sem]); (solve | exact World.frozen?_alloc_new _ _ _ _ | simp | simp [go_sem]); (solve | exact World.frozen?_alloc_new _ _ _ _ | simp | simp [go_sem]); intro qd10 qd11 qd12 qd13 qd14 qd15) | skip)))
  all_goals
    first
    | ((first | refine name_world ?_ | refine (show (∀ W, W = _ → Exit.then _ _ _ _ W) → Exit.then _ _ _ _ _ from fun h => h _ rfl) ?_); intro W17 hW17; have gz : Gr W14 W17 := (by rw [hW17]; exact gr_auto); have OY2 := Lib.hid (OY.out.gr (show Gr w16 W17 by rw [hW17]; exact gr_auto)); have ld10 : W17.cell? ⟨w16.heap.size, 0, none⟩ = some (.int .i64 d1.inn) := (by rw [hW17]; first | (simp [go_sem, *]; done) | exact (by first | (simp [go_sem, *]; done) | ((try simp [go_sem, *]); refine World.cell?_setCell_same' _ _ _ ?_; simp [go_sem, *]; done))); have ld11 : W17.cell? ⟨w16.heap.size, 1, none⟩ = some (.int .i64 d1.out) := (by rw [hW17]; first | (simp [go_sem, *]; done) | exact (by first | (simp [go_sem, *]; done) | ((try simp [go_sem, *]); refine World.cell?_setCell_same' _ _ _ ?_; simp [go_sem, *]; done))); have ld12 : W17.cell? ⟨w16.heap.size, 2, none⟩ = some (.slice d1.ps.A d1.ps.n d1.ps.c) := (by rw [hW17]; first | (simp [go_sem, *]; done) | exact (by first | (simp [go_sem, *]; done) | ((try simp [go_sem, *]); refine World.cell?_setCell_same' _ _ _ ?_; simp [go_sem, *]; done))); clear hW17; generalize w16.heap.size = bd1 at *)
    | ((first | refine name_world ?_ | refine (show (∀ W, W = _ → Exit.then _ _ _ _ W) → Exit.then _ _ _ _ _ from fun h => h _ rfl) ?_); intro W17 hW17; have gz : Gr W14 W17 := (by rw [hW17]; exact gr_auto); have OY2 := Lib.hid (OY.out.grx (R := W15.heap.size) (show GrX W15.heap.size w16 W17 by rw [hW17]; repeat' (first | exact GrX.refl _ _ | refine GrX.drew ?_ | (with_reducible refine GrX.setCell ?_ ?_ _) | (rfl; done))) (fun h => by have := OYB.out h; simp at this; omega)); have ld10 : W17.cell? ⟨W15.heap.size, 0, none⟩ = some (.int .i64 d1.inn) := (by rw [hW17]; first | (simp [go_sem, *]; done) | exact (by first | (simp [go_sem, *]; done) | ((try simp [go_sem, *]); refine World.cell?_setCell_same' _ _ _ ?_; simp [go_sem, *]; done))); have ld11 : W17.cell? ⟨W15.heap.size, 1, none⟩ = some (.int .i64 d1.out) := (by rw [hW17]; first | (simp [go_sem, *]; done) | exact (by first | (simp [go_sem, *]; done) | ((try simp [go_sem, *]); refine World.cell?_setCell_same' _ _ _ ?_; simp [go_sem, *]; done))); have ld12 : W17.cell? ⟨W15.heap.size, 2, none⟩ = some (.slice d1.ps.A d1.ps.n d1.ps.c) := (by rw [hW17]; first | (simp [go_sem, *]; done) | exact (by first | (simp [go_sem, *]; done) | ((try simp [go_sem, *]); refine World.cell?_setCell_same' _ _ _ ?_; simp [go_sem, *]; done))); clear hW17; generalize W15.heap.size = bd1 at *)
  all_goals
    have g17 := g14.trans gz
    have k17_0 := Gr.at gz k14_0; have k17_1 := Gr.at gz k14_1; have k17_2 := Gr.at gz k14_2; have k17_3 := Gr.at gz k14_3; have k17_4 := Gr.at gz k14_4
    have OS17 := Lib.hid (OS14.out.gr gz)
    have OA17 := Lib.hid (OA2.out.gr gz)
    have ma0 := Gr.at gz la0; have ma1 := Gr.at gz la1; have ma2 := Gr.at gz la2
    clear gz OS14 OA2 k14_0 k14_1 k14_2 k14_3 k14_4 la0 la1 la2
    (try clear OY OYB)
    (try clear hb16)
    (try clear q16)
    go_wp2_with fail
    (first | refine name_world ?_ | refine (show (∀ W, W = _ → Calls _ _ _ W _) → Calls _ _ _ _ _ from fun h => h _ rfl) ?_); intro W18 hW18
    have g18 : Gr w W18 := by rw [hW18]; exact gr_auto
    have gb18_W17 : Gr W17 W18 := by (try clear g18); rw [hW18]; exact gr_auto
    have k18_0 : W18.cell? ⟨w.heap.size, 0, none⟩ = some (.slice A n c) := by rw [hW18]; first | (simp [go_sem, *]; done) | (refine Gr.at ?_ (by assumption); exact gr_auto)
    have b18_0 : w.heap.size < W18.heap.size := World.block_lt_of_cell? _ _ k18_0
    have k18_1 : W18.cell? ⟨w.heap.size, 1, none⟩ = some (.slice A2 n2 c2) := by rw [hW18]; first | (simp [go_sem, *]; done) | (refine Gr.at ?_ (by assumption); exact gr_auto)
    have k18_2 : W18.cell? ⟨W17.heap.size, 0, none⟩ = some (.int .i64 a.inn) := by rw [hW18]; first | (simp [go_sem, *]; done) | (refine Gr.at ?_ (by assumption); exact gr_auto)
    have b18_2 : W17.heap.size < W18.heap.size := World.block_lt_of_cell? _ _ k18_2
    have k18_3 : W18.cell? ⟨W17.heap.size, 1, none⟩ = some (.int .i64 a.out) := by rw [hW18]; first | (simp [go_sem, *]; done) | (refine Gr.at ?_ (by assumption); exact gr_auto)
    have k18_4 : W18.cell? ⟨W17.heap.size, 2, none⟩ = some (.slice a.ps.A a.ps.n a.ps.c) := by rw [hW18]; first | (simp [go_sem, *]; done) | (refine Gr.at ?_ (by assumption); exact gr_auto)
    have k18_5 : W18.cell? ⟨W17.heap.size, 3, none⟩ = some (.int .i64 d1.inn) := by rw [hW18]; first | (simp [go_sem, *]; done) | (refine Gr.at ?_ (by assumption); exact gr_auto)
    have k18_6 : W18.cell? ⟨W17.heap.size, 4, none⟩ = some (.int .i64 d1.out) := by rw [hW18]; first | (simp [go_sem, *]; done) | (refine Gr.at ?_ (by assumption); exact gr_auto)
    have k18_7 : W18.cell? ⟨W17.heap.size, 5, none⟩ = some (.slice d1.ps.A d1.ps.n d1.ps.c) := by rw [hW18]; first | (simp [go_sem, *]; done) | (refine Gr.at ?_ (by assumption); exact gr_auto)
    have k18_8 : W18.cell? ⟨w5.heap.size, 0, none⟩ = some (.int .i64 s.inn) := by rw [hW18]; first | (simp [go_sem, *]; done) | (refine Gr.at ?_ (by assumption); exact gr_auto)
    have b18_8 : w5.heap.size < W18.heap.size := World.block_lt_of_cell? _ _ k18_8
    have k18_9 : W18.cell? ⟨w5.heap.size, 1, none⟩ = some (.int .i64 s.out) := by rw [hW18]; first | (simp [go_sem, *]; done) | (refine Gr.at ?_ (by assumption); exact gr_auto)
    have k18_10 : W18.cell? ⟨w5.heap.size, 2, none⟩ = some (.slice s.ps.A s.ps.n s.ps.c) := by rw [hW18]; first | (simp [go_sem, *]; done) | (refine Gr.at ?_ (by assumption); exact gr_auto)
    clear hW18
    refine (HS2.out a d1 W17.heap.size W18 (g17.trans gb18_W17) PA.out PY.out (OA17.out.gr gb18_W17) (OY2.out.gr gb18_W17) ⟨k18_2, k18_3, k18_4⟩ ⟨k18_5, k18_6, k18_7⟩).mono ?_
    rintro e w19 ⟨z, rfl, hz1, hz2, -, hb19⟩
    have g19 := (g17.trans gb18_W17).trans hb19
    have k19_0 := Gr.at hb19 k18_0; have k19_1 := Gr.at hb19 k18_1; have k19_2 := Gr.at hb19 k18_8; have k19_3 := Gr.at hb19 k18_9; have k19_4 := Gr.at hb19 k18_10
    have OZ := Lib.hid hz1; have PZ := Lib.hid hz2
    have OS19 := Lib.hid (OS17.out.gr (gb18_W17.trans hb19))
    clear hz1 hz2 OS17 OA17 OY2 HS2 PA PY k18_0 k18_1 k18_2 k18_3 k18_4 k18_5 k18_6 k18_7 k18_8 k18_9 k18_10 ma0 ma1 ma2 ld10 ld11 ld12 k17_0 k17_1 k17_2 k17_3 k17_4
    have b19 : w5.heap.size < w19.heap.size := World.block_lt_of_cell? _ _ k19_2
    go_wp2_with fail
    (first | refine name_world ?_ | refine (show (∀ W, W = _ → Calls _ _ _ W _) → Calls _ _ _ _ _ from fun h => h _ rfl) ?_); intro W20 hW20
    have g20 : Gr w W20 := by rw [hW20]; exact gr_auto
    have gb20_w19 : Gr w19 W20 := by (try clear g20); rw [hW20]; exact gr_auto
    have k20_0 : W20.cell? ⟨w.heap.size, 0, none⟩ = some (.slice A n c) := by rw [hW20]; first | (simp [go_sem, *]; done) | (refine Gr.at ?_ (by assumption); exact gr_auto)
    have b20_0 : w.heap.size < W20.heap.size := World.block_lt_of_cell? _ _ k20_0
    have k20_1 : W20.cell? ⟨w.heap.size, 1, none⟩ = some (.slice A2 n2 c2) := by rw [hW20]; first | (simp [go_sem, *]; done) | (refine Gr.at ?_ (by assumption); exact gr_auto)
    have k20_2 : W20.cell? ⟨w5.heap.size, 0, none⟩ = some (.int .i64 s.inn) := by rw [hW20]; first | (simp [go_sem, *]; done) | (refine Gr.at ?_ (by assumption); exact gr_auto)
    have b20_2 : w5.heap.size < W20.heap.size := World.block_lt_of_cell? _ _ k20_2
    have k20_3 : W20.cell? ⟨w5.heap.size, 1, none⟩ = some (.int .i64 s.out) := by rw [hW20]; first | (simp [go_sem, *]; done) | (refine Gr.at ?_ (by assumption); exact gr_auto)
    have k20_4 : W20.cell? ⟨w5.heap.size, 2, none⟩ = some (.slice s.ps.A s.ps.n s.ps.c) := by rw [hW20]; first | (simp [go_sem, *]; done) | (refine Gr.at ?_ (by assumption); exact gr_auto)
    have k20_5 : W20.cell? ⟨w19.heap.size, 0, none⟩ = some (.int .i64 z.inn) := by rw [hW20]; first | (simp [go_sem, *]; done) | (refine Gr.at ?_ (by assumption); exact gr_auto)
    have b20_5 : w19.heap.size < W20.heap.size := World.block_lt_of_cell? _ _ k20_5
    have k20_6 : W20.cell? ⟨w19.heap.size, 1, none⟩ = some (.int .i64 z.out) := by rw [hW20]; first | (simp [go_sem, *]; done) | (refine Gr.at ?_ (by assumption); exact gr_auto)
    have k20_7 : W20.cell? ⟨w19.heap.size, 2, none⟩ = some (.slice z.ps.A z.ps.n z.ps.c) := by rw [hW20]; first | (simp [go_sem, *]; done) | (refine Gr.at ?_ (by assumption); exact gr_auto)
    clear hW20
    refine (HSB.out z s PZ.out PS.out W20 (OZ.out.gr gb20_w19) (OS19.out.gr gb20_w19)).mono ?_
    rintro e w21 ⟨rfl, hb21⟩
    have g21 := (g19.trans gb20_w19).trans hb21
    have k21_0 := Gr.at hb21 k20_0; have k21_1 := Gr.at hb21 k20_1; have k21_2 := Gr.at hb21 k20_2; have k21_3 := Gr.at hb21 k20_3; have k21_4 := Gr.at hb21 k20_4
    have OS21 := Lib.hid (OS19.out.gr gb20_w19); clear HSB OZ OS19 PZ k20_0 k20_1 k20_2 k20_3 k20_4 k20_5 k20_6 k20_7 k19_0 k19_1 k19_2 k19_3 k19_4
    go_wp2_with fail
  all_goals
    have OS21 := Lib.hid (OS21.out.gr hb21)
    obtain ⟨hsn, hsx⟩ := HPX.out s PS.out
    have HSN := Lib.hid hsn; have HSX := Lib.hid hsx
    clear hsn hsx HPX PS
    go_loopw [122] (fun x wr => ∃ k : Nat, k ≤ n2 ∧ x = .int .i64 (k : Int) ∧ Gr w21 wr) (fun x _ => n2 - (intOf x).toNat)
    case atStart => exact ⟨0, Nat.zero_le _, rfl, Gr.refl _⟩
    case round =>
      obtain ⟨k, hk, rfl, hg⟩ := hrel
      have gr : Gr w wr := g21.trans hg
      have k0 := Gr.at hg k21_0; have k1 := Gr.at hg k21_1; have k2 := Gr.at hg k21_2; have k3 := Gr.at hg k21_3; have k4 := Gr.at hg k21_4
      clear k21_0 k21_1 k21_2 k21_3 k21_4
      by_cases hlt : k < n2
      · obtain rfl := KA.out (by omega)
        obtain ⟨a0, a1, a2, a3, a4, a5, a6, a7, a8, a9, a10⟩ := (KX.out k hlt).1.gr gr
        have hb0 : w.heap.size < wr.heap.size := World.block_lt_of_cell? _ _ k0
        have hb1 : w.heap.size ≠ wr.heap.size := by omega
        have hb5 : w5.heap.size < wr.heap.size := World.block_lt_of_cell? _ _ k2
        have hb6 : w5.heap.size ≠ wr.heap.size := by omega
        have hsA := OS21.out.2.2.hA (by rw [HSN.out]; omega)
        have hsc := OS21.out.2.2.hc; have hsb := OS21.out.2.2.hb
        have v0 := Gr.at hg (OS21.out.2.2.hX k (by rw [HSN.out]; omega)).1
        rw [HSX.out k hlt] at v0
        rw [hsA, HSN.out] at k4
        rw [HSN.out] at hsc
        have ib0 : (0 : Int) ≤ (k : Int) := by omega
        have ib1 : (k : Int) < (n2 : Int) := by omega
        have HTi := Lib.hid (fun W hW => HTH.out k hlt W hW)
        clear KX HTH HSX OS21 hsA
        generalize tot k = tk at *
        generalize E k = lk at *
        go_wp2_with fail
        (first | refine name_world ?_ | refine (show (∀ W, W = _ → Calls _ _ _ W _) → Calls _ _ _ _ _ from fun h => h _ rfl) ?_); intro W22 hW22
        have g22 : Gr w W22 := by rw [hW22]; exact gr_auto
        have gb22_wr : Gr wr W22 := by (try clear g22); rw [hW22]; exact gr_auto
        have k22_0 : W22.cell? ⟨w.heap.size, 0, none⟩ = some (.slice A n c) := by rw [hW22]; first | (simp [go_sem, *]; done) | (refine Gr.at ?_ (by assumption); exact gr_auto)
        have b22_0 : w.heap.size < W22.heap.size := World.block_lt_of_cell? _ _ k22_0
        have k22_1 : W22.cell? ⟨w.heap.size, 1, none⟩ = some (.slice (some ⟨b2, o2, none⟩) n2 c2) := by rw [hW22]; first | (simp [go_sem, *]; done) | (refine Gr.at ?_ (by assumption); exact gr_auto)
        have k22_2 : W22.cell? ⟨w5.heap.size, 2, none⟩ = some (.slice (some ⟨s.ps.b, s.ps.o, none⟩) n2 s.ps.c) := by rw [hW22]; first | (simp [go_sem, *]; done) | (refine Gr.at ?_ (by assumption); exact gr_auto)
        have b22_2 : w5.heap.size < W22.heap.size := World.block_lt_of_cell? _ _ k22_2
        have k22_3 : W22.cell? ⟨s.ps.b, s.ps.o + k, none⟩ = some (.int .i64 tk) := by rw [hW22]; first | (simp [go_sem, *]; done) | (refine Gr.at ?_ (by assumption); exact gr_auto)
        have b22_3 : s.ps.b < W22.heap.size := World.block_lt_of_cell? _ _ k22_3
        clear hW22
        clear a0 a1 a2 a3 a4 a5 a6 a7 a8 a9 a10 k0 k1 k2 k3 k4 v0
        refine (HTi.out _ g22).mono ?_
        rintro e w23 ⟨rfl, hb23⟩
        have hg23 := (hg.trans gb22_wr).trans hb23
        have k22_0 := Gr.at (w1 := w23) gr_auto k22_0; have k22_1 := Gr.at (w1 := w23) gr_auto k22_1; have k22_2 := Gr.at (w1 := w23) gr_auto k22_2; have k22_3 := Gr.at (w1 := w23) gr_auto k22_3
        go_wp2_with fail
        go_roundw
        case rel => exact ⟨k + 1, by omega, by go_num, hg23⟩
        case measure => simp [intOf]; omega
      · obtain rfl : k = n2 := by omega
        clear KX HTH HSX OS21
        go_wp2_with fail
        go_ret
        exact ⟨rfl, gr⟩
end Go.Proofs.Ythkmgnaeponfcaa
