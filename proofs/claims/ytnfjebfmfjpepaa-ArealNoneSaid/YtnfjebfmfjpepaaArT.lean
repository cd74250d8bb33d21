/-
  Law 22: ArealNone. (Printed by mkt.py.)
-/
import Derived.Test.YtnfjebfmfjpepaaArI
import Derived.Test.YtnfjebfmfjpepaaArL
import Derived.Test.YtnfjebfmfjpepaaArS
import Derived.Deep.RegionWith
set_option linter.unusedVariables false
set_option linter.unusedSimpArgs false
namespace Go.Proofs.Ytnfjebfmfjpepaa
open Go.RowKit
attribute [local go_sem ↓] Go.wp_at_zero Go.wp_at_succ
namespace Ba
theorem sqI_comm (a b c d : Int) : sqI a b c d = sqI c d a b := by
  unfold sqI
  rw [show a - c = -(c - a) by omega, show b - d = -(d - b) by omega, Int.neg_mul_neg, Int.neg_mul_neg]
theorem nst_first {G : SlGauge} {px py : Int} : ∀ i k, k < nst G px py i → sqG G px py (nst G px py i) < sqG G px py k
  | 0, k, h => by rw [nst] at h; omega
  | i + 1, k, h => by
    rw [nst] at h ⊢
    by_cases c : sqG G px py i < sqG G px py (nst G px py i)
    · rw [if_pos c] at h ⊢
      have := nst_min (G := G) (px := px) (py := py) i k h
      omega
    · rw [if_neg c] at h ⊢
      exact nst_first i k h
theorem iv_best {G : SlGauge} {px py : Int} (h : ∀ i, i < G.n → 0 ≤ sqG G px py i) (h1 : 1 ≤ G.n) : ivX G px py (nst G px py G.n) = 1073741824 ∧ ∀ k, k < G.n → 0 ≤ ivX G px py k ∧ ivX G px py k ≤ 1073741824 := by
  have hb := nst_lt (G := G) (px := px) (py := py) h1 (Nat.le_refl _)
  have b0 := h _ hb
  refine ⟨?_, fun k hk => ?_⟩
  · unfold ivX
    by_cases c : sqG G px py (nst G px py G.n) = 0
    · rw [if_pos c, if_pos rfl]
    · rw [if_neg c, Int.mul_ediv_cancel _ c]
  · unfold ivX
    by_cases c : sqG G px py (nst G px py G.n) = 0
    · rw [if_pos c]; split <;> omega
    · rw [if_neg c]
      have m := nst_min (G := G) (px := px) (py := py) G.n k hk
      exact ⟨Int.ediv_nonneg (by omega) (by omega), Int.ediv_le_of_le_mul (by omega) (by omega)⟩
/-- One more gauge. -/
def mrD (D : Nat → Gauge) (n : Nat) (ax ay : Int) (i : Nat) : Gauge := if i = n then ⟨⟨#[97, 110, 111, 116, 104, 101, 114, 71, 97, 117, 103, 101]⟩, ax, ay⟩ else D i
theorem nst_same {G H : SlGauge} {px py : Int} {n : Nat} (h : ∀ i, i < n → G.D i = H.D i) : ∀ i, i ≤ n → nst G px py i = nst H px py i
  | 0, _ => rfl
  | i + 1, hi => by
    have ih := nst_same (px := px) (py := py) h i (by omega)
    rw [nst, nst, ih]
    have e1 : sqG G px py i = sqG H px py i := by unfold sqG; rw [h i (by omega)]
    have e2 : sqG G px py (nst H px py i) = sqG H px py (nst H px py i) := by
      unfold sqG
      cases i with
      | zero => rw [nst]; rw [h 0 (by omega)]
      | succ i => have := nst_le (G := H) (px := px) (py := py) i; rw [h _ (by omega)]
    rw [e1, e2]
end Ba

set_option maxRecDepth 100000 in
set_option maxHeartbeats 8000000 in
theorem none_far (G : Ba.SlGauge) (px py ax ay : Int) (w : World) (h : G.At w) (hx : (20 : Int) < G.n ∨ ((G.n : Int) ≤ 20 ∧ (Ba.manB G = true ∨ (Ba.manB G = false ∧ (Ba.gasB G = false ∨ (Ba.gasB G = true ∧ (Ba.ptB px py = false ∨ (Ba.ptB px py = true ∧ Ba.ptB ax ay = false)))))))) : Calls Try.prog 7 #[.slice G.A G.n G.c, .agg #[.int .i64 px, .int .i64 py], .agg #[.int .i64 ax, .int .i64 ay]] w fun e w' => e = .returned (.bool true) ∧ Gr w w' := by
  have HM := Lib.hid (fun W (hh : Gr w W) => many_any G W (h.gr hh))
  have HRV := Lib.hid (fun W (hh : Gr w W) => rgvals_any G W (h.gr hh))
  have HP := Lib.hid (fun W (_ : Gr w W) => rpvalid_any px py W); have HAt := Lib.hid (fun W (_ : Gr w W) => rpvalid_any ax ay W)
  have hm := Nat.le_trans h.hc h.hb
  rcases hx with h1 | ⟨h1, h2 | ⟨h2, h3 | ⟨h3, h4 | ⟨h4, h5⟩⟩⟩⟩
  · clear h
    generalize G.A = A at *; generalize G.n = n at *; generalize G.c = c at *
    go_enter Try.func7, Try.ntmps7
    go_wp2_with fail
    (first | refine name_world ?_ | refine (show (∀ W, W = _ → Calls _ _ _ W _) → Calls _ _ _ _ _ from fun h => h _ rfl) ?_); intro W1 hW1
    have g1 : Gr w W1 := by rw [hW1]; exact gr_auto
    have k1_0 : W1.cell? ⟨w.heap.size, 0, none⟩ = some (.int .i64 px) := by rw [hW1]; first | (simp [go_sem, *]; done) | (refine Gr.at ?_ (by assumption); exact gr_auto)
    have b1_0 : w.heap.size < W1.heap.size := World.block_lt_of_cell? _ _ k1_0
    have k1_1 : W1.cell? ⟨w.heap.size, 1, none⟩ = some (.int .i64 py) := by rw [hW1]; first | (simp [go_sem, *]; done) | (refine Gr.at ?_ (by assumption); exact gr_auto)
    have k1_2 : W1.cell? ⟨w.heap.size + 1, 0, none⟩ = some (.int .i64 ax) := by rw [hW1]; first | (simp [go_sem, *]; done) | (refine Gr.at ?_ (by assumption); exact gr_auto)
    have b1_2 : w.heap.size + 1 < W1.heap.size := World.block_lt_of_cell? _ _ k1_2
    have k1_3 : W1.cell? ⟨w.heap.size + 1, 1, none⟩ = some (.int .i64 ay) := by rw [hW1]; first | (simp [go_sem, *]; done) | (refine Gr.at ?_ (by assumption); exact gr_auto)
    clear hW1
    refine (awake_any _).mono ?_
    rintro e w2 ⟨rfl, hb2⟩
    have g2 := g1.trans hb2
    have d0 := Gr.at hb2 k1_0
    have d1 := Gr.at hb2 k1_1
    have d2 := Gr.at hb2 k1_2
    have d3 := Gr.at hb2 k1_3
    clear k1_0 k1_1 k1_2 k1_3
    go_wp2_with fail
    go_ret
    exact ⟨rfl, gr_auto⟩
  · rw [h2] at HM
    clear h h2
    generalize G.A = A at *; generalize G.n = n at *; generalize G.c = c at *
    go_enter Try.func7, Try.ntmps7
    go_wp2_with fail
    (first | refine name_world ?_ | refine (show (∀ W, W = _ → Calls _ _ _ W _) → Calls _ _ _ _ _ from fun h => h _ rfl) ?_); intro W1 hW1
    have g1 : Gr w W1 := by rw [hW1]; exact gr_auto
    have k1_0 : W1.cell? ⟨w.heap.size, 0, none⟩ = some (.int .i64 px) := by rw [hW1]; first | (simp [go_sem, *]; done) | (refine Gr.at ?_ (by assumption); exact gr_auto)
    have b1_0 : w.heap.size < W1.heap.size := World.block_lt_of_cell? _ _ k1_0
    have k1_1 : W1.cell? ⟨w.heap.size, 1, none⟩ = some (.int .i64 py) := by rw [hW1]; first | (simp [go_sem, *]; done) | (refine Gr.at ?_ (by assumption); exact gr_auto)
    have k1_2 : W1.cell? ⟨w.heap.size + 1, 0, none⟩ = some (.int .i64 ax) := by rw [hW1]; first | (simp [go_sem, *]; done) | (refine Gr.at ?_ (by assumption); exact gr_auto)
    have b1_2 : w.heap.size + 1 < W1.heap.size := World.block_lt_of_cell? _ _ k1_2
    have k1_3 : W1.cell? ⟨w.heap.size + 1, 1, none⟩ = some (.int .i64 ay) := by rw [hW1]; first | (simp [go_sem, *]; done) | (refine Gr.at ?_ (by assumption); exact gr_auto)
    clear hW1
    refine (awake_any _).mono ?_
    rintro e w2 ⟨rfl, hb2⟩
    have g2 := g1.trans hb2
    have d0 := Gr.at hb2 k1_0
    have d1 := Gr.at hb2 k1_1
    have d2 := Gr.at hb2 k1_2
    have d3 := Gr.at hb2 k1_3
    clear k1_0 k1_1 k1_2 k1_3
    go_wp2_with fail
    refine (HM.out _ g2).mono ?_
    rintro e w3 ⟨rfl, hb3⟩
    have g3 := Gr.trans g2 hb3
    replace d0 := Gr.at hb3 d0; replace d1 := Gr.at hb3 d1; replace d2 := Gr.at hb3 d2; replace d3 := Gr.at hb3 d3
    clear HM
    go_wp2_with fail
    go_ret
    exact ⟨rfl, gr_auto⟩
  · rw [h2] at HM
    rw [h3] at HRV
    clear h h2 h3
    generalize G.A = A at *; generalize G.n = n at *; generalize G.c = c at *
    go_enter Try.func7, Try.ntmps7
    go_wp2_with fail
    (first | refine name_world ?_ | refine (show (∀ W, W = _ → Calls _ _ _ W _) → Calls _ _ _ _ _ from fun h => h _ rfl) ?_); intro W1 hW1
    have g1 : Gr w W1 := by rw [hW1]; exact gr_auto
    have k1_0 : W1.cell? ⟨w.heap.size, 0, none⟩ = some (.int .i64 px) := by rw [hW1]; first | (simp [go_sem, *]; done) | (refine Gr.at ?_ (by assumption); exact gr_auto)
    have b1_0 : w.heap.size < W1.heap.size := World.block_lt_of_cell? _ _ k1_0
    have k1_1 : W1.cell? ⟨w.heap.size, 1, none⟩ = some (.int .i64 py) := by rw [hW1]; first | (simp [go_sem, *]; done) | (refine Gr.at ?_ (by assumption); exact gr_auto)
    have k1_2 : W1.cell? ⟨w.heap.size + 1, 0, none⟩ = some (.int .i64 ax) := by rw [hW1]; first | (simp [go_sem, *]; done) | (refine Gr.at ?_ (by assumption); exact gr_auto)
    have b1_2 : w.heap.size + 1 < W1.heap.size := World.block_lt_of_cell? _ _ k1_2
    have k1_3 : W1.cell? ⟨w.heap.size + 1, 1, none⟩ = some (.int .i64 ay) := by rw [hW1]; first | (simp [go_sem, *]; done) | (refine Gr.at ?_ (by assumption); exact gr_auto)
    clear hW1
    refine (awake_any _).mono ?_
    rintro e w2 ⟨rfl, hb2⟩
    have g2 := g1.trans hb2
    have d0 := Gr.at hb2 k1_0
    have d1 := Gr.at hb2 k1_1
    have d2 := Gr.at hb2 k1_2
    have d3 := Gr.at hb2 k1_3
    clear k1_0 k1_1 k1_2 k1_3
    go_wp2_with fail
    refine (HM.out _ g2).mono ?_
    rintro e w3 ⟨rfl, hb3⟩
    have g3 := Gr.trans g2 hb3
    replace d0 := Gr.at hb3 d0; replace d1 := Gr.at hb3 d1; replace d2 := Gr.at hb3 d2; replace d3 := Gr.at hb3 d3
    clear HM
    go_wp2_with fail
    refine (HRV.out _ g3).mono ?_
    rintro e w4 ⟨rfl, hb4⟩
    have g4 := Gr.trans g3 hb4
    replace d0 := Gr.at hb4 d0; replace d1 := Gr.at hb4 d1; replace d2 := Gr.at hb4 d2; replace d3 := Gr.at hb4 d3
    clear HRV
    go_wp2_with fail
    go_ret
    exact ⟨rfl, gr_auto⟩
  · rw [h2] at HM
    rw [h3] at HRV
    rw [h4] at HP
    clear h h2 h3 h4
    generalize G.A = A at *; generalize G.n = n at *; generalize G.c = c at *
    go_enter Try.func7, Try.ntmps7
    go_wp2_with fail
    (first | refine name_world ?_ | refine (show (∀ W, W = _ → Calls _ _ _ W _) → Calls _ _ _ _ _ from fun h => h _ rfl) ?_); intro W1 hW1
    have g1 : Gr w W1 := by rw [hW1]; exact gr_auto
    have k1_0 : W1.cell? ⟨w.heap.size, 0, none⟩ = some (.int .i64 px) := by rw [hW1]; first | (simp [go_sem, *]; done) | (refine Gr.at ?_ (by assumption); exact gr_auto)
    have b1_0 : w.heap.size < W1.heap.size := World.block_lt_of_cell? _ _ k1_0
    have k1_1 : W1.cell? ⟨w.heap.size, 1, none⟩ = some (.int .i64 py) := by rw [hW1]; first | (simp [go_sem, *]; done) | (refine Gr.at ?_ (by assumption); exact gr_auto)
    have k1_2 : W1.cell? ⟨w.heap.size + 1, 0, none⟩ = some (.int .i64 ax) := by rw [hW1]; first | (simp [go_sem, *]; done) | (refine Gr.at ?_ (by assumption); exact gr_auto)
    have b1_2 : w.heap.size + 1 < W1.heap.size := World.block_lt_of_cell? _ _ k1_2
    have k1_3 : W1.cell? ⟨w.heap.size + 1, 1, none⟩ = some (.int .i64 ay) := by rw [hW1]; first | (simp [go_sem, *]; done) | (refine Gr.at ?_ (by assumption); exact gr_auto)
    clear hW1
    refine (awake_any _).mono ?_
    rintro e w2 ⟨rfl, hb2⟩
    have g2 := g1.trans hb2
    have d0 := Gr.at hb2 k1_0
    have d1 := Gr.at hb2 k1_1
    have d2 := Gr.at hb2 k1_2
    have d3 := Gr.at hb2 k1_3
    clear k1_0 k1_1 k1_2 k1_3
    go_wp2_with fail
    refine (HM.out _ g2).mono ?_
    rintro e w3 ⟨rfl, hb3⟩
    have g3 := Gr.trans g2 hb3
    replace d0 := Gr.at hb3 d0; replace d1 := Gr.at hb3 d1; replace d2 := Gr.at hb3 d2; replace d3 := Gr.at hb3 d3
    clear HM
    go_wp2_with fail
    refine (HRV.out _ g3).mono ?_
    rintro e w4 ⟨rfl, hb4⟩
    have g4 := Gr.trans g3 hb4
    replace d0 := Gr.at hb4 d0; replace d1 := Gr.at hb4 d1; replace d2 := Gr.at hb4 d2; replace d3 := Gr.at hb4 d3
    clear HRV
    go_wp2_with fail
    refine (HP.out _ g4).mono ?_
    rintro e w5 ⟨rfl, hb5⟩
    have g5 := Gr.trans g4 hb5
    replace d0 := Gr.at hb5 d0; replace d1 := Gr.at hb5 d1; replace d2 := Gr.at hb5 d2; replace d3 := Gr.at hb5 d3
    clear HP
    go_wp2_with fail
    go_ret
    exact ⟨rfl, gr_auto⟩
  · rw [h2] at HM
    rw [h3] at HRV
    rw [h4] at HP
    rw [h5] at HAt
    clear h h2 h3 h4 h5
    generalize G.A = A at *; generalize G.n = n at *; generalize G.c = c at *
    go_enter Try.func7, Try.ntmps7
    go_wp2_with fail
    (first | refine name_world ?_ | refine (show (∀ W, W = _ → Calls _ _ _ W _) → Calls _ _ _ _ _ from fun h => h _ rfl) ?_); intro W1 hW1
    have g1 : Gr w W1 := by rw [hW1]; exact gr_auto
    have k1_0 : W1.cell? ⟨w.heap.size, 0, none⟩ = some (.int .i64 px) := by rw [hW1]; first | (simp [go_sem, *]; done) | (refine Gr.at ?_ (by assumption); exact gr_auto)
    have b1_0 : w.heap.size < W1.heap.size := World.block_lt_of_cell? _ _ k1_0
    have k1_1 : W1.cell? ⟨w.heap.size, 1, none⟩ = some (.int .i64 py) := by rw [hW1]; first | (simp [go_sem, *]; done) | (refine Gr.at ?_ (by assumption); exact gr_auto)
    have k1_2 : W1.cell? ⟨w.heap.size + 1, 0, none⟩ = some (.int .i64 ax) := by rw [hW1]; first | (simp [go_sem, *]; done) | (refine Gr.at ?_ (by assumption); exact gr_auto)
    have b1_2 : w.heap.size + 1 < W1.heap.size := World.block_lt_of_cell? _ _ k1_2
    have k1_3 : W1.cell? ⟨w.heap.size + 1, 1, none⟩ = some (.int .i64 ay) := by rw [hW1]; first | (simp [go_sem, *]; done) | (refine Gr.at ?_ (by assumption); exact gr_auto)
    clear hW1
    refine (awake_any _).mono ?_
    rintro e w2 ⟨rfl, hb2⟩
    have g2 := g1.trans hb2
    have d0 := Gr.at hb2 k1_0
    have d1 := Gr.at hb2 k1_1
    have d2 := Gr.at hb2 k1_2
    have d3 := Gr.at hb2 k1_3
    clear k1_0 k1_1 k1_2 k1_3
    go_wp2_with fail
    refine (HM.out _ g2).mono ?_
    rintro e w3 ⟨rfl, hb3⟩
    have g3 := Gr.trans g2 hb3
    replace d0 := Gr.at hb3 d0; replace d1 := Gr.at hb3 d1; replace d2 := Gr.at hb3 d2; replace d3 := Gr.at hb3 d3
    clear HM
    go_wp2_with fail
    refine (HRV.out _ g3).mono ?_
    rintro e w4 ⟨rfl, hb4⟩
    have g4 := Gr.trans g3 hb4
    replace d0 := Gr.at hb4 d0; replace d1 := Gr.at hb4 d1; replace d2 := Gr.at hb4 d2; replace d3 := Gr.at hb4 d3
    clear HRV
    go_wp2_with fail
    refine (HP.out _ g4).mono ?_
    rintro e w5 ⟨rfl, hb5⟩
    have g5 := Gr.trans g4 hb5
    replace d0 := Gr.at hb5 d0; replace d1 := Gr.at hb5 d1; replace d2 := Gr.at hb5 d2; replace d3 := Gr.at hb5 d3
    clear HP
    go_wp2_with fail
    refine (HAt.out _ g5).mono ?_
    rintro e w6 ⟨rfl, hb6⟩
    have g6 := Gr.trans g5 hb6
    replace d0 := Gr.at hb6 d0; replace d1 := Gr.at hb6 d1; replace d2 := Gr.at hb6 d2; replace d3 := Gr.at hb6 d3
    clear HAt
    go_wp2_with fail
    go_ret
    exact ⟨rfl, gr_auto⟩

set_option maxRecDepth 100000 in
set_option maxHeartbeats 8000000 in
theorem none_main (G : Ba.SlGauge) (px py ax ay : Int) (w : World) (h : G.At w) (hl : (G.n : Int) ≤ 20) (hm0 : Ba.manB G = false) (hv : Ba.gasB G = true) (hp : Ba.ptB px py = true) (ha : Ba.ptB ax ay = true) : Calls Try.prog 7 #[.slice G.A G.n G.c, .agg #[.int .i64 px, .int .i64 py], .agg #[.int .i64 ax, .int .i64 ay]] w fun e w' => e = .returned (.bool true) ∧ Gr w w' := by
  have HM := Lib.hid (fun W (hh : Gr w W) => many_any G W (h.gr hh))
  have HRV := Lib.hid (fun W (hh : Gr w W) => rgvals_any G W (h.gr hh))
  have HP := Lib.hid (fun W (_ : Gr w W) => rpvalid_any px py W); have HAt := Lib.hid (fun W (_ : Gr w W) => rpvalid_any ax ay W)
  have hm := Nat.le_trans h.hc h.hb
  obtain ⟨n1, n2, hpt⟩ := Ba.gas_parts hv
  have hA := h.hA (by omega)
  have hj : Ba.nst G px py G.n < G.n := Ba.nst_lt n1 (Nat.le_refl _)
  have hsq : ∀ i, i < G.n → 0 ≤ Ba.sqG G px py i := fun i hi => (Ba.sqI_bd (hpt i hi) hp).1
  obtain ⟨ivb, ivk⟩ := Ba.iv_best (px := px) (py := py) hsq n1
  have HN := Lib.hid (fun W (hh : Gr w W) => ne_ok G px py W (h.gr hh) hv hp)
  have HI := Lib.hid (fun W (hh : Gr w W) => inv_any G px py W (h.gr hh) hv hp)
  unfold RetInv at HI
  have HMN := Lib.hid (fun k (hk : k < G.n) => Ba.nst_min (G := G) (px := px) (py := py) G.n k hk); have HFI := Lib.hid (fun k hk => Ba.nst_first (G := G) (px := px) (py := py) G.n k hk)
  have HNR := Lib.hid (fun k (hk : k < G.n) W => show Calls Try.prog 32 #[.agg #[.int .i64 px, .int .i64 py], .agg #[.int .i64 (G.D k).x, .int .i64 (G.D k).y], .agg #[.int .i64 (G.D (Ba.nst G px py G.n)).x, .int .i64 (G.D (Ba.nst G px py G.n)).y]] W fun e w' => e = .returned (.tuple #[.int .i64 (Ba.cmI (Ba.sqG G px py k) (Ba.sqG G px py (Ba.nst G px py G.n))), .int .i64 0]) ∧ Gr W w' from by
    have z := nearp_any px py (G.D k).x (G.D k).y (G.D (Ba.nst G px py G.n)).x (G.D (Ba.nst G px py G.n)).y W hp (hpt k hk) (hpt _ hj)
    rw [Ba.sqI_comm px py, Ba.sqI_comm px py] at z
    exact z)
  have HNA := Lib.hid (fun W => show Calls Try.prog 32 #[.agg #[.int .i64 px, .int .i64 py], .agg #[.int .i64 ax, .int .i64 ay], .agg #[.int .i64 (G.D (Ba.nst G px py G.n)).x, .int .i64 (G.D (Ba.nst G px py G.n)).y]] W fun e w' => e = .returned (.tuple #[.int .i64 (Ba.cmI (Ba.sqI ax ay px py) (Ba.sqG G px py (Ba.nst G px py G.n))), .int .i64 0]) ∧ Gr W w' from by
    have z := nearp_any px py ax ay (G.D (Ba.nst G px py G.n)).x (G.D (Ba.nst G px py G.n)).y W hp ha (hpt _ hj)
    rw [Ba.sqI_comm px py, Ba.sqI_comm px py (G.D (Ba.nst G px py G.n)).x] at z
    exact z)
  have HCC := Lib.hid (fun W (hh : Gr w W) => cloneg_any G W (h.gr hh) (by omega) (by omega))
  have HMO := Lib.hid (fun (s : Ba.SlGauge) (W : World) (hs : s.At W) (hn : s.n = G.n + 1) (hD : s.D = Ba.mrD G.D G.n ax ay) (hv2 : Ba.gasB s = true) => show Calls Try.prog 11 #[.slice s.A s.n s.c, .agg #[.int .i64 px, .int .i64 py]] W fun e w' => e = .returned (.tuple #[.int .i64 (if Ba.sqI ax ay px py < Ba.sqG G px py (Ba.nst G px py G.n) then (G.n : Int) else (Ba.nst G px py G.n : Int)), .int .i64 0]) ∧ Gr W w' from by
    have z := ne_ok s px py W hs hv2 hp
    have hDi : ∀ i, i < G.n → s.D i = G.D i := fun i hi => by rw [hD]; unfold Ba.mrD; rw [if_neg (by omega)]
    have e1 := Ba.nst_same (G := s) (H := G) (px := px) (py := py) (n := G.n) hDi G.n (Nat.le_refl _)
    have e2 : Ba.sqG s px py (Ba.nst G px py G.n) = Ba.sqG G px py (Ba.nst G px py G.n) := by unfold Ba.sqG; rw [hDi _ hj]
    have e3 : Ba.sqG s px py G.n = Ba.sqI ax ay px py := by unfold Ba.sqG; rw [hD]; unfold Ba.mrD; rw [if_pos rfl]
    have e0 : Ba.nst s px py s.n = if Ba.sqI ax ay px py < Ba.sqG G px py (Ba.nst G px py G.n) then G.n else Ba.nst G px py G.n := by rw [hn, Ba.nst, e1, e2, e3]
    rw [e0] at z
    by_cases q : Ba.sqI ax ay px py < Ba.sqG G px py (Ba.nst G px py G.n)
    · rw [if_pos q] at z ⊢; exact z
    · rw [if_neg q] at z ⊢; exact z)
  have HFL := Lib.hid (show flatG (Ba.mrD G.D G.n ax ay) (G.n + 1) = flatG G.D G.n ++ [.string ⟨#[97, 110, 111, 116, 104, 101, 114, 71, 97, 117, 103, 101]⟩, .int .i64 ax, .int .i64 ay] from by
    rw [flatG, flatG_congr (E := G.D) fun i hi => by unfold Ba.mrD; rw [if_neg (by omega)]]
    unfold Ba.mrD
    rw [if_pos rfl])
  have hai := ha
  rw [Ba.ptB_iff] at hai
  have HOK := Lib.hid (fun i (hi : i < G.n + 1) (W : World) => show (Ba.mrD G.D G.n ax ay i).Ok W from by
    unfold Ba.mrD
    by_cases e : i = G.n
    · rw [if_pos e]; exact ⟨by show Ba.i64 ax; unfold Ba.i64; omega, by show Ba.i64 ay; unfold Ba.i64; omega, by show 12 ≤ _; omega⟩
    · rw [if_neg e]; exact (h.hD i (by omega)).2)
  rw [hm0] at HM
  rw [hv] at HRV
  rw [hp] at HP
  rw [ha] at HAt
  have HD := Lib.hid h.hD; have hnc := h.hc; have hcb := h.hb
  clear h hm0 hv hp ha hpt hsq hai
  rw [hA] at HM HRV HN HI HCC ⊢
  have HIV := Lib.hid (And.intro ivb ivk)
  clear ivb ivk
  generalize Ba.nst G px py G.n = ns at *
  generalize Ba.sqG G px py = sq at *
  generalize Ba.ivX G px py = iv at *
  generalize hmr : Ba.mrD G.D G.n ax ay = mD at *
  clear hA hmr
  obtain ⟨A, n, c, gb, go, D⟩ := G
  simp only at *
  clear A
  generalize Ba.sqI ax ay px py = sa at *
  obtain ⟨i1, hi0, hz0, hz1, hz2⟩ := info_parts info_gauge
  have KI := Lib.hid hi0; have KZ0 := Lib.hid hz0; have KZ1 := Lib.hid hz1; have KZ2 := Lib.hid hz2
  clear hi0 hz0 hz1 hz2
  have jb0 : (0 : Int) ≤ (ns : Int) := by omega
  have jb1 : (ns : Int) < (n : Int) := by omega
  go_enter Try.func7, Try.ntmps7
  go_wp2_with fail
  (first | refine name_world ?_ | refine (show (∀ W, W = _ → Calls _ _ _ W _) → Calls _ _ _ _ _ from fun h => h _ rfl) ?_); intro W1 hW1
  have g1 : Gr w W1 := by rw [hW1]; exact gr_auto
  have k1_0 : W1.cell? ⟨w.heap.size, 0, none⟩ = some (.int .i64 px) := by rw [hW1]; first | (simp [go_sem, *]; done) | (refine Gr.at ?_ (by assumption); exact gr_auto)
  have b1_0 : w.heap.size < W1.heap.size := World.block_lt_of_cell? _ _ k1_0
  have k1_1 : W1.cell? ⟨w.heap.size, 1, none⟩ = some (.int .i64 py) := by rw [hW1]; first | (simp [go_sem, *]; done) | (refine Gr.at ?_ (by assumption); exact gr_auto)
  have k1_2 : W1.cell? ⟨w.heap.size + 1, 0, none⟩ = some (.int .i64 ax) := by rw [hW1]; first | (simp [go_sem, *]; done) | (refine Gr.at ?_ (by assumption); exact gr_auto)
  have b1_2 : w.heap.size + 1 < W1.heap.size := World.block_lt_of_cell? _ _ k1_2
  have k1_3 : W1.cell? ⟨w.heap.size + 1, 1, none⟩ = some (.int .i64 ay) := by rw [hW1]; first | (simp [go_sem, *]; done) | (refine Gr.at ?_ (by assumption); exact gr_auto)
  clear hW1
  refine (awake_any _).mono ?_
  rintro e w2 ⟨rfl, hb2⟩
  have g2 := g1.trans hb2
  have d0 := Gr.at hb2 k1_0
  have d1 := Gr.at hb2 k1_1
  have d2 := Gr.at hb2 k1_2
  have d3 := Gr.at hb2 k1_3
  clear k1_0 k1_1 k1_2 k1_3
  go_wp2_with fail
  refine (HM.out _ g2).mono ?_
  rintro e w3 ⟨rfl, hb3⟩
  have g3 := Gr.trans g2 hb3
  replace d0 := Gr.at hb3 d0; replace d1 := Gr.at hb3 d1; replace d2 := Gr.at hb3 d2; replace d3 := Gr.at hb3 d3
  clear HM
  go_wp2_with fail
  refine (HRV.out _ g3).mono ?_
  rintro e w4 ⟨rfl, hb4⟩
  have g4 := Gr.trans g3 hb4
  replace d0 := Gr.at hb4 d0; replace d1 := Gr.at hb4 d1; replace d2 := Gr.at hb4 d2; replace d3 := Gr.at hb4 d3
  clear HRV
  go_wp2_with fail
  refine (HP.out _ g4).mono ?_
  rintro e w5 ⟨rfl, hb5⟩
  have g5 := Gr.trans g4 hb5
  replace d0 := Gr.at hb5 d0; replace d1 := Gr.at hb5 d1; replace d2 := Gr.at hb5 d2; replace d3 := Gr.at hb5 d3
  clear HP
  go_wp2_with fail
  refine (HAt.out _ g5).mono ?_
  rintro e w6 ⟨rfl, hb6⟩
  have g6 := Gr.trans g5 hb6
  replace d0 := Gr.at hb6 d0; replace d1 := Gr.at hb6 d1; replace d2 := Gr.at hb6 d2; replace d3 := Gr.at hb6 d3
  clear HAt
  go_wp2_with fail
  refine (HN.out _ g6).mono ?_
  rintro e w7 ⟨rfl, hb7⟩
  have g7 := Gr.trans g6 hb7
  replace d0 := Gr.at hb7 d0; replace d1 := Gr.at hb7 d1; replace d2 := Gr.at hb7 d2; replace d3 := Gr.at hb7 d3
  clear HN
  go_wp2_with fail
  -- @a
  refine (HI.out _ g7).mono ?_
  rintro e w8 ⟨r, rfl, r1, r2, r3, hb8⟩
  have g8 := g7.trans hb8
  replace d0 := Gr.at hb8 d0; replace d1 := Gr.at hb8 d1; replace d2 := Gr.at hb8 d2; replace d3 := Gr.at hb8 d3
  clear HI
  obtain ⟨rA, rn, rc, rb, ro, rX⟩ := r
  simp only at r2 r3
  subst r2
  have rA1 := r1.hA (by show 0 < rn; omega)
  simp only at rA1
  subst rA1
  have rc1 := r1.hc; have rc2 := r1.hb
  simp only at rc1 rc2
  have HRX := Lib.hid (fun k (hk : k < rn) => show w8.cell? ⟨rb, ro + k, none⟩ = some (.int .i64 (iv k)) from by rw [← r3 k hk]; exact (r1.hX k hk).1)
  clear r1 r3
  have x0 := HRX.out ns (by omega)
  rw [HIV.out.1] at x0
  go_wp2_with fail
  -- @b
  go_loopw [88] (fun x wr => ∃ k : Nat, k ≤ rn ∧ x = .int .i64 (k : Int) ∧ Gr w8 wr) (fun x _ => rn - (intOf x).toNat)
  case atStart => exact ⟨0, Nat.zero_le _, rfl, Gr.refl _⟩
  case round =>
    obtain ⟨k, hk, rfl, hg⟩ := hrel
    have gw := g8.trans hg
    replace d0 := Gr.at hg d0; replace d1 := Gr.at hg d1; replace d2 := Gr.at hg d2; replace d3 := Gr.at hg d3; replace x0 := Gr.at hg x0
    obtain ⟨b0, b1, b2⟩ := (HD.out ns (by omega)).1.gr gw
    by_cases hlt : k < rn
    · obtain ⟨a0, a1, a2⟩ := (HD.out k hlt).1.gr gw
      have xk := Gr.at hg (HRX.out k hlt)
      have kb0 : (0 : Int) ≤ (k : Int) := by omega
      have kb1 : (k : Int) < (rn : Int) := by omega
      have ivk := HIV.out.2 k hlt
      have HNk := Lib.hid (HNR.out k hlt)
      have mn := HMN.out k hlt
      have cc : (Ba.cmI (sq k) (sq ns) = 0 ∧ ns ≤ k) ∨ Ba.cmI (sq k) (sq ns) = 1 := by
        unfold Ba.cmI
        rw [if_neg (by omega)]
        by_cases q : sq ns < sq k
        · rw [if_pos q]; exact .inr rfl
        · rw [if_neg q]
          refine .inl ⟨rfl, ?_⟩
          by_cases q2 : ns ≤ k
          · exact q2
          · have := HFI.out k (by omega); omega
      clear HNR HNA HMN HFI HCC HMO HFL HOK HD HRX HIV
      generalize Ba.cmI (sq k) (sq ns) = cv at *
      generalize D ns = db at *
      generalize D k = dk at *
      generalize iv k = ik at *
      have v1 : decide (ik < 0) = false := decide_eq_false (by omega)
      have v2 : decide (1073741824 < ik) = false := decide_eq_false (by omega)
      clear mn
      have hwz : w.heap.size < wr.heap.size := World.block_lt_of_cell? _ _ d0
      rcases cc with ⟨hc, hc2⟩ | hc
      · subst hc
        have v3 : decide ((k : Int) < (ns : Int)) = false := decide_eq_false (by omega)
        have v4 : decide (k < ns) = false := decide_eq_false (by omega)
        go_wp2_with fail
        -- @c1
        (first | refine name_world ?_ | refine (show (∀ W, W = _ → Calls _ _ _ W _) → Calls _ _ _ _ _ from fun h => h _ rfl) ?_); intro W10 hW10
        have g10 : Gr w W10 := by rw [hW10]; exact gr_auto
        have gb10_wr : Gr wr W10 := by (try clear g10); rw [hW10]; exact gr_auto
        have k10_0 : W10.cell? ⟨w.heap.size, 0, none⟩ = some (.int .i64 px) := by rw [hW10]; first | (simp [go_sem, *]; done) | (refine Gr.at ?_ (by assumption); exact gr_auto)
        have b10_0 : w.heap.size < W10.heap.size := World.block_lt_of_cell? _ _ k10_0
        have k10_1 : W10.cell? ⟨w.heap.size, 1, none⟩ = some (.int .i64 py) := by rw [hW10]; first | (simp [go_sem, *]; done) | (refine Gr.at ?_ (by assumption); exact gr_auto)
        have k10_2 : W10.cell? ⟨wr.heap.size, 0, none⟩ = some (.string dk.nm) := by rw [hW10]; first | (simp [go_sem, *]; done) | (refine Gr.at ?_ (by assumption); exact gr_auto)
        have b10_2 : wr.heap.size < W10.heap.size := World.block_lt_of_cell? _ _ k10_2
        have k10_3 : W10.cell? ⟨wr.heap.size, 1, none⟩ = some (.int .i64 dk.x) := by rw [hW10]; first | (simp [go_sem, *]; done) | (refine Gr.at ?_ (by assumption); exact gr_auto)
        have k10_4 : W10.cell? ⟨wr.heap.size, 2, none⟩ = some (.int .i64 dk.y) := by rw [hW10]; first | (simp [go_sem, *]; done) | (refine Gr.at ?_ (by assumption); exact gr_auto)
        have k10_5 : W10.cell? ⟨gb, go + ns * 3 + 1, none⟩ = some (.int .i64 db.x) := by rw [hW10]; first | (simp [go_sem, *]; done) | (refine Gr.at ?_ (by assumption); exact gr_auto)
        have b10_5 : gb < W10.heap.size := World.block_lt_of_cell? _ _ k10_5
        have k10_6 : W10.cell? ⟨gb, go + ns * 3 + 2, none⟩ = some (.int .i64 db.y) := by rw [hW10]; first | (simp [go_sem, *]; done) | (refine Gr.at ?_ (by assumption); exact gr_auto)
        have k10_7 : W10.cell? ⟨rb, ro + k, none⟩ = some (.int .i64 ik) := by rw [hW10]; first | (simp [go_sem, *]; done) | (refine Gr.at ?_ (by assumption); exact gr_auto)
        have b10_7 : rb < W10.heap.size := World.block_lt_of_cell? _ _ k10_7
        have k10_8 : W10.cell? ⟨rb, ro + ns, none⟩ = some (.int .i64 1073741824) := by rw [hW10]; first | (simp [go_sem, *]; done) | (refine Gr.at ?_ (by assumption); exact gr_auto)
        clear hW10
        have s10_0 : ∀ gw : GW W10, gw.1.cell? ⟨w.heap.size, 0, none⟩ = some (.int .i64 px) := fun gw => Gr.at gw.2 k10_0
        have s10_1 : ∀ gw : GW W10, gw.1.cell? ⟨w.heap.size, 1, none⟩ = some (.int .i64 py) := fun gw => Gr.at gw.2 k10_1
        have s10_2 : ∀ gw : GW W10, gw.1.cell? ⟨wr.heap.size, 0, none⟩ = some (.string dk.nm) := fun gw => Gr.at gw.2 k10_2
        have s10_3 : ∀ gw : GW W10, gw.1.cell? ⟨wr.heap.size, 1, none⟩ = some (.int .i64 dk.x) := fun gw => Gr.at gw.2 k10_3
        have s10_4 : ∀ gw : GW W10, gw.1.cell? ⟨wr.heap.size, 2, none⟩ = some (.int .i64 dk.y) := fun gw => Gr.at gw.2 k10_4
        have s10_5 : ∀ gw : GW W10, gw.1.cell? ⟨gb, go + ns * 3 + 1, none⟩ = some (.int .i64 db.x) := fun gw => Gr.at gw.2 k10_5
        have s10_6 : ∀ gw : GW W10, gw.1.cell? ⟨gb, go + ns * 3 + 2, none⟩ = some (.int .i64 db.y) := fun gw => Gr.at gw.2 k10_6
        have s10_7 : ∀ gw : GW W10, gw.1.cell? ⟨rb, ro + k, none⟩ = some (.int .i64 ik) := fun gw => Gr.at gw.2 k10_7
        have s10_8 : ∀ gw : GW W10, gw.1.cell? ⟨rb, ro + ns, none⟩ = some (.int .i64 1073741824) := fun gw => Gr.at gw.2 k10_8
        have HA1 := Lib.hid (fun gw : GW W10 => gw_call (HNk.out gw.1))
        refine wp_region_gr (by kernel_rfl) (by kernel_rfl) ?_
        repeat (go_big_quiet_step ((go_at_call 32; exact HA1.out _)))
        refine wpQuiet_nil ?_
        intro w11 hb11
        clear s10_0 s10_1 s10_2 s10_3 s10_4 s10_5 s10_6 s10_7 s10_8
        have g11 : Gr w w11 := g10.trans hb11
        have k10_0 := Gr.at hb11 k10_0
        have k10_1 := Gr.at hb11 k10_1
        have k10_2 := Gr.at hb11 k10_2
        have k10_3 := Gr.at hb11 k10_3
        have k10_4 := Gr.at hb11 k10_4
        have k10_5 := Gr.at hb11 k10_5
        have k10_6 := Gr.at hb11 k10_6
        have k10_7 := Gr.at hb11 k10_7
        have k10_8 := Gr.at hb11 k10_8
        clear HA1 HNk
        go_wp2_with fail
        -- @d1
        (first | refine name_world ?_ | refine (show (∀ W, W = _ → Calls _ _ _ W _) → Calls _ _ _ _ _ from fun h => h _ rfl) ?_); intro W12 hW12
        have g12 : Gr w W12 := by rw [hW12]; exact gr_auto
        have gb12_w11 : Gr w11 W12 := by (try clear g12); rw [hW12]; exact gr_auto
        have k12_0 : W12.cell? ⟨rb, ro + k, none⟩ = some (.int .i64 ik) := by rw [hW12]; first | (simp [go_sem, *]; done) | (refine Gr.at ?_ (by assumption); exact gr_auto)
        have b12_0 : rb < W12.heap.size := World.block_lt_of_cell? _ _ k12_0
        have k12_1 : W12.cell? ⟨rb, ro + ns, none⟩ = some (.int .i64 1073741824) := by rw [hW12]; first | (simp [go_sem, *]; done) | (refine Gr.at ?_ (by assumption); exact gr_auto)
        clear hW12
        have s12_0 : ∀ gw : GW W12, gw.1.cell? ⟨rb, ro + k, none⟩ = some (.int .i64 ik) := fun gw => Gr.at gw.2 k12_0
        have s12_1 : ∀ gw : GW W12, gw.1.cell? ⟨rb, ro + ns, none⟩ = some (.int .i64 1073741824) := fun gw => Gr.at gw.2 k12_1
        have hnn := Nat.le_refl 0
        refine wp_region_gr (by kernel_rfl) (by kernel_rfl) ?_
        repeat (go_big_quiet_step (skip))
        refine wpQuiet_nil ?_
        intro w13 hb13
        clear s12_0 s12_1
        have g13 : Gr w w13 := g12.trans hb13
        have k12_0 := Gr.at hb13 k12_0
        have k12_1 := Gr.at hb13 k12_1
        go_wp2_with fail
        go_roundw
        case rel => exact ⟨k + 1, by omega, by go_num, hg.trans (gb10_wr.trans (hb11.trans (gb12_w11.trans hb13)))⟩
        case measure => simp [intOf]; omega
      · subst hc
        go_wp2_with fail
        -- @c2
        (first | refine name_world ?_ | refine (show (∀ W, W = _ → Calls _ _ _ W _) → Calls _ _ _ _ _ from fun h => h _ rfl) ?_); intro W10 hW10
        have g10 : Gr w W10 := by rw [hW10]; exact gr_auto
        have gb10_wr : Gr wr W10 := by (try clear g10); rw [hW10]; exact gr_auto
        have k10_0 : W10.cell? ⟨w.heap.size, 0, none⟩ = some (.int .i64 px) := by rw [hW10]; first | (simp [go_sem, *]; done) | (refine Gr.at ?_ (by assumption); exact gr_auto)
        have b10_0 : w.heap.size < W10.heap.size := World.block_lt_of_cell? _ _ k10_0
        have k10_1 : W10.cell? ⟨w.heap.size, 1, none⟩ = some (.int .i64 py) := by rw [hW10]; first | (simp [go_sem, *]; done) | (refine Gr.at ?_ (by assumption); exact gr_auto)
        have k10_2 : W10.cell? ⟨wr.heap.size, 0, none⟩ = some (.string dk.nm) := by rw [hW10]; first | (simp [go_sem, *]; done) | (refine Gr.at ?_ (by assumption); exact gr_auto)
        have b10_2 : wr.heap.size < W10.heap.size := World.block_lt_of_cell? _ _ k10_2
        have k10_3 : W10.cell? ⟨wr.heap.size, 1, none⟩ = some (.int .i64 dk.x) := by rw [hW10]; first | (simp [go_sem, *]; done) | (refine Gr.at ?_ (by assumption); exact gr_auto)
        have k10_4 : W10.cell? ⟨wr.heap.size, 2, none⟩ = some (.int .i64 dk.y) := by rw [hW10]; first | (simp [go_sem, *]; done) | (refine Gr.at ?_ (by assumption); exact gr_auto)
        have k10_5 : W10.cell? ⟨gb, go + ns * 3 + 1, none⟩ = some (.int .i64 db.x) := by rw [hW10]; first | (simp [go_sem, *]; done) | (refine Gr.at ?_ (by assumption); exact gr_auto)
        have b10_5 : gb < W10.heap.size := World.block_lt_of_cell? _ _ k10_5
        have k10_6 : W10.cell? ⟨gb, go + ns * 3 + 2, none⟩ = some (.int .i64 db.y) := by rw [hW10]; first | (simp [go_sem, *]; done) | (refine Gr.at ?_ (by assumption); exact gr_auto)
        have k10_7 : W10.cell? ⟨rb, ro + k, none⟩ = some (.int .i64 ik) := by rw [hW10]; first | (simp [go_sem, *]; done) | (refine Gr.at ?_ (by assumption); exact gr_auto)
        have b10_7 : rb < W10.heap.size := World.block_lt_of_cell? _ _ k10_7
        have k10_8 : W10.cell? ⟨rb, ro + ns, none⟩ = some (.int .i64 1073741824) := by rw [hW10]; first | (simp [go_sem, *]; done) | (refine Gr.at ?_ (by assumption); exact gr_auto)
        clear hW10
        have s10_0 : ∀ gw : GW W10, gw.1.cell? ⟨w.heap.size, 0, none⟩ = some (.int .i64 px) := fun gw => Gr.at gw.2 k10_0
        have s10_1 : ∀ gw : GW W10, gw.1.cell? ⟨w.heap.size, 1, none⟩ = some (.int .i64 py) := fun gw => Gr.at gw.2 k10_1
        have s10_2 : ∀ gw : GW W10, gw.1.cell? ⟨wr.heap.size, 0, none⟩ = some (.string dk.nm) := fun gw => Gr.at gw.2 k10_2
        have s10_3 : ∀ gw : GW W10, gw.1.cell? ⟨wr.heap.size, 1, none⟩ = some (.int .i64 dk.x) := fun gw => Gr.at gw.2 k10_3
        have s10_4 : ∀ gw : GW W10, gw.1.cell? ⟨wr.heap.size, 2, none⟩ = some (.int .i64 dk.y) := fun gw => Gr.at gw.2 k10_4
        have s10_5 : ∀ gw : GW W10, gw.1.cell? ⟨gb, go + ns * 3 + 1, none⟩ = some (.int .i64 db.x) := fun gw => Gr.at gw.2 k10_5
        have s10_6 : ∀ gw : GW W10, gw.1.cell? ⟨gb, go + ns * 3 + 2, none⟩ = some (.int .i64 db.y) := fun gw => Gr.at gw.2 k10_6
        have s10_7 : ∀ gw : GW W10, gw.1.cell? ⟨rb, ro + k, none⟩ = some (.int .i64 ik) := fun gw => Gr.at gw.2 k10_7
        have s10_8 : ∀ gw : GW W10, gw.1.cell? ⟨rb, ro + ns, none⟩ = some (.int .i64 1073741824) := fun gw => Gr.at gw.2 k10_8
        have HA1 := Lib.hid (fun gw : GW W10 => gw_call (HNk.out gw.1))
        refine wp_region_gr (by kernel_rfl) (by kernel_rfl) ?_
        repeat (go_big_quiet_step ((go_at_call 32; exact HA1.out _)))
        refine wpQuiet_nil ?_
        intro w11 hb11
        clear s10_0 s10_1 s10_2 s10_3 s10_4 s10_5 s10_6 s10_7 s10_8
        have g11 : Gr w w11 := g10.trans hb11
        have k10_0 := Gr.at hb11 k10_0
        have k10_1 := Gr.at hb11 k10_1
        have k10_2 := Gr.at hb11 k10_2
        have k10_3 := Gr.at hb11 k10_3
        have k10_4 := Gr.at hb11 k10_4
        have k10_5 := Gr.at hb11 k10_5
        have k10_6 := Gr.at hb11 k10_6
        have k10_7 := Gr.at hb11 k10_7
        have k10_8 := Gr.at hb11 k10_8
        clear HA1 HNk
        go_wp2_with fail
        -- @d2
        (first | refine name_world ?_ | refine (show (∀ W, W = _ → Calls _ _ _ W _) → Calls _ _ _ _ _ from fun h => h _ rfl) ?_); intro W12 hW12
        have g12 : Gr w W12 := by rw [hW12]; exact gr_auto
        have gb12_w11 : Gr w11 W12 := by (try clear g12); rw [hW12]; exact gr_auto
        have k12_0 : W12.cell? ⟨rb, ro + k, none⟩ = some (.int .i64 ik) := by rw [hW12]; first | (simp [go_sem, *]; done) | (refine Gr.at ?_ (by assumption); exact gr_auto)
        have b12_0 : rb < W12.heap.size := World.block_lt_of_cell? _ _ k12_0
        have k12_1 : W12.cell? ⟨rb, ro + ns, none⟩ = some (.int .i64 1073741824) := by rw [hW12]; first | (simp [go_sem, *]; done) | (refine Gr.at ?_ (by assumption); exact gr_auto)
        clear hW12
        have s12_0 : ∀ gw : GW W12, gw.1.cell? ⟨rb, ro + k, none⟩ = some (.int .i64 ik) := fun gw => Gr.at gw.2 k12_0
        have s12_1 : ∀ gw : GW W12, gw.1.cell? ⟨rb, ro + ns, none⟩ = some (.int .i64 1073741824) := fun gw => Gr.at gw.2 k12_1
        have hnn := Nat.le_refl 0
        refine wp_region_gr (by kernel_rfl) (by kernel_rfl) ?_
        repeat (go_big_quiet_step (skip))
        refine wpQuiet_nil ?_
        intro w13 hb13
        clear s12_0 s12_1
        have g13 : Gr w w13 := g12.trans hb13
        have k12_0 := Gr.at hb13 k12_0
        have k12_1 := Gr.at hb13 k12_1
        go_wp2_with fail
        go_roundw
        case rel => exact ⟨k + 1, by omega, by go_num, hg.trans (gb10_wr.trans (hb11.trans (gb12_w11.trans hb13)))⟩
        case measure => simp [intOf]; omega
    · obtain rfl : rn = k := by omega
      clear HNR HMN HFI HRX HIV x0
      -- @e
      go_wp2_with fail
      -- @f
      go_region_law (first | (go_simp; go_at_call 33; refine (HCC.out _ (gw.trans gr_auto)).mono ?_; rintro e w12 ⟨A3, c3, rfl, ho3, hb12⟩; have gc12 : Gr wr w12 := Gr.trans gr_auto hb12; have u12_2 := Gr.at gc12 d2; have u12_3 := Gr.at gc12 d3; replace ho3 := Lib.hid ho3; have zz12 := Gr.size hb12; have zc12 := Gr.size gc12; (try simp at zz12)) | (refine step_append_lies _ (by rfl) _ _ 22 (by rfl) _ 66 i1 (.agg #[.string ⟨#[]⟩, .int .i64 0, .int .i64 0]) 3 32 Try.underlying22 KI.out KZ0.out KZ1.out KZ2.out rfl (by decide) (.slice A3 rn c3) rn (flatG D rn) (by rfl) (ownsRow_gr ho3.out (by exact gr_auto)) _ 1 1 [.string ⟨#[97, 110, 111, 116, 104, 101, 114, 71, 97, 117, 103, 101]⟩, .int .i64 ax, .int .i64 ay] (by rfl) rfl (by intro p u hp; rcases p with _ | _ | _ | p <;> simp at hp <;> (try subst hp) <;> first | (simp [Addr.add, go_sem]; done) | (simp [Addr.add]; done) | (refine Gr.at hb12 ?_; simp [Addr.add, go_sem]; done) | (refine Gr.at (show Gr w12 _ from gr_auto) (Gr.at hb12 ?_); simp [Addr.add, go_sem]; done)) (by intro u hu; simp at hu; rcases hu with rfl | rfl | rfl <;> rfl) (by omega) (by unfold maxLen; omega) (by omega) (by first | omega | (simp; done) | (simp; omega)) _ rfl ?_; intro G13 cp13 w13 hown13 hgrow13 hat13 hlt13; have gr13 : Gr wr w13 := Gr.own gr_auto (by first | (simp; done) | omega | (simp; omega)) (ownsRow_gr ho3.out gr_auto) hgrow13))
      -- @g
      all_goals
        have g13 := gw.trans gr13
        have e0 := Gr.at gr13 d0; have e1 := Gr.at gr13 d1; have e2 := Gr.at gr13 d2; have e3 := Gr.at gr13 d3; have e4 := Gr.at gr13 b1; have e5 := Gr.at gr13 b2
        obtain ⟨s, hs1, hs2, hs3, hs4⟩ := own_slg (D := mD) (by rw [HFL.out]; exact hown13) (fun i hi => HOK.out i hi w13)
        replace hs2 := Lib.hid hs2; replace hs4 := Lib.hid hs4; replace hs3 := Lib.hid hs3
        rw [hs1]
        have hsm := Nat.le_trans hs2.out.hc hs2.out.hb
        have HV2 := Lib.hid (fun W (hh : Gr w13 W) => rgvals_any s W (hs2.out.gr hh))
        have HM2 := Lib.hid (fun W (hh : Gr w13 W) hv2 => HMO.out s W (hs2.out.gr hh) hs3.out hs4.out hv2)
        clear hown13 hgrow13 hat13 hs1 HMO HFL HOK HCC b0 b1 b2 d0 d1 d2 d3 HD
        cases hv2 : Ba.gasB s
        · rw [hv2] at HV2
          clear HM2 hv2 hs2 hs3 hs4 HNA
          go_wp2_with fail
          refine (HV2.out _ (Gr.refl _)).mono ?_
          rintro e w14 ⟨rfl, hb14⟩
          clear HV2
          go_wp2_with fail
          go_ret
          exact ⟨rfl, g13.trans hb14⟩
        rw [hv2] at HV2
        have HM3 := Lib.hid (fun W hh => HM2.out W hh hv2)
        clear HM2 hv2 hs2 hs4
        -- @m1
        go_wp2_with fail
        -- @m2
        refine (HV2.out _ (Gr.refl _)).mono ?_
        rintro e w14 ⟨rfl, hb14⟩
        have g14 := g13.trans hb14
        replace e0 := Gr.at hb14 e0; replace e1 := Gr.at hb14 e1; replace e2 := Gr.at hb14 e2; replace e3 := Gr.at hb14 e3; replace e4 := Gr.at hb14 e4; replace e5 := Gr.at hb14 e5
        clear HV2
        generalize D ns = db at *
        by_cases hc : sa < sq ns
        · have hcm : Ba.cmI sa (sq ns) = -1 := by unfold Ba.cmI; rw [if_pos hc]
          rw [hcm] at HNA
          rw [if_pos hc] at HM3
          clear hcm hc
          go_wp2_with fail
          -- @m31
          refine (HM3.out _ hb14).mono ?_
          rintro e w15 ⟨rfl, hb15⟩
          have g15 := g14.trans hb15
          replace e0 := Gr.at hb15 e0; replace e1 := Gr.at hb15 e1; replace e2 := Gr.at hb15 e2; replace e3 := Gr.at hb15 e3; replace e4 := Gr.at hb15 e4; replace e5 := Gr.at hb15 e5
          clear HM3
          go_wp2_with fail
          -- @m41
          (first | refine name_world ?_ | refine (show (∀ W, W = _ → Calls _ _ _ W _) → Calls _ _ _ _ _ from fun h => h _ rfl) ?_); intro W16 hW16
          have g16 : Gr w W16 := by rw [hW16]; exact gr_auto
          have gb16_w15 : Gr w15 W16 := by (try clear g16); rw [hW16]; exact gr_auto
          have k16_0 : W16.cell? ⟨w.heap.size, 0, none⟩ = some (.int .i64 px) := by rw [hW16]; first | (simp [go_sem, *]; done) | (refine Gr.at ?_ (by assumption); exact gr_auto)
          have b16_0 : w.heap.size < W16.heap.size := World.block_lt_of_cell? _ _ k16_0
          have k16_1 : W16.cell? ⟨w.heap.size, 1, none⟩ = some (.int .i64 py) := by rw [hW16]; first | (simp [go_sem, *]; done) | (refine Gr.at ?_ (by assumption); exact gr_auto)
          have k16_2 : W16.cell? ⟨w.heap.size + 1, 0, none⟩ = some (.int .i64 ax) := by rw [hW16]; first | (simp [go_sem, *]; done) | (refine Gr.at ?_ (by assumption); exact gr_auto)
          have b16_2 : w.heap.size + 1 < W16.heap.size := World.block_lt_of_cell? _ _ k16_2
          have k16_3 : W16.cell? ⟨w.heap.size + 1, 1, none⟩ = some (.int .i64 ay) := by rw [hW16]; first | (simp [go_sem, *]; done) | (refine Gr.at ?_ (by assumption); exact gr_auto)
          have k16_4 : W16.cell? ⟨gb, go + ns * 3 + 1, none⟩ = some (.int .i64 db.x) := by rw [hW16]; first | (simp [go_sem, *]; done) | (refine Gr.at ?_ (by assumption); exact gr_auto)
          have b16_4 : gb < W16.heap.size := World.block_lt_of_cell? _ _ k16_4
          have k16_5 : W16.cell? ⟨gb, go + ns * 3 + 2, none⟩ = some (.int .i64 db.y) := by rw [hW16]; first | (simp [go_sem, *]; done) | (refine Gr.at ?_ (by assumption); exact gr_auto)
          clear hW16
          have s16_0 : ∀ gw : GW W16, gw.1.cell? ⟨w.heap.size, 0, none⟩ = some (.int .i64 px) := fun gw => Gr.at gw.2 k16_0
          have s16_1 : ∀ gw : GW W16, gw.1.cell? ⟨w.heap.size, 1, none⟩ = some (.int .i64 py) := fun gw => Gr.at gw.2 k16_1
          have s16_2 : ∀ gw : GW W16, gw.1.cell? ⟨w.heap.size + 1, 0, none⟩ = some (.int .i64 ax) := fun gw => Gr.at gw.2 k16_2
          have s16_3 : ∀ gw : GW W16, gw.1.cell? ⟨w.heap.size + 1, 1, none⟩ = some (.int .i64 ay) := fun gw => Gr.at gw.2 k16_3
          have s16_4 : ∀ gw : GW W16, gw.1.cell? ⟨gb, go + ns * 3 + 1, none⟩ = some (.int .i64 db.x) := fun gw => Gr.at gw.2 k16_4
          have s16_5 : ∀ gw : GW W16, gw.1.cell? ⟨gb, go + ns * 3 + 2, none⟩ = some (.int .i64 db.y) := fun gw => Gr.at gw.2 k16_5
          have HA1 := Lib.hid (fun gw : GW W16 => gw_call (HNA.out gw.1))
          refine wp_region_gr (by kernel_rfl) (by kernel_rfl) ?_
          repeat (go_big_quiet_step ((go_at_call 32; exact HA1.out _)))
          refine wpQuiet_nil ?_
          intro w17 hb17
          clear s16_0 s16_1 s16_2 s16_3 s16_4 s16_5
          have g17 : Gr w w17 := g16.trans hb17
          have k16_0 := Gr.at hb17 k16_0
          have k16_1 := Gr.at hb17 k16_1
          have k16_2 := Gr.at hb17 k16_2
          have k16_3 := Gr.at hb17 k16_3
          have k16_4 := Gr.at hb17 k16_4
          have k16_5 := Gr.at hb17 k16_5
          clear HA1 HNA
          -- @m51
          go_wp2_with fail
          go_ret
          exact ⟨rfl, g15.trans (gb16_w15.trans hb17)⟩
        · by_cases q : sq ns < sa
          · have hcm : Ba.cmI sa (sq ns) = 1 := by unfold Ba.cmI; rw [if_neg hc]; exact (if_pos q)
            rw [hcm] at HNA
            rw [if_neg hc] at HM3
            clear hcm hc q
            go_wp2_with fail
            -- @m32
            refine (HM3.out _ hb14).mono ?_
            rintro e w15 ⟨rfl, hb15⟩
            have g15 := g14.trans hb15
            replace e0 := Gr.at hb15 e0; replace e1 := Gr.at hb15 e1; replace e2 := Gr.at hb15 e2; replace e3 := Gr.at hb15 e3; replace e4 := Gr.at hb15 e4; replace e5 := Gr.at hb15 e5
            clear HM3
            go_wp2_with fail
            -- @m42
            (first | refine name_world ?_ | refine (show (∀ W, W = _ → Calls _ _ _ W _) → Calls _ _ _ _ _ from fun h => h _ rfl) ?_); intro W16 hW16
            have g16 : Gr w W16 := by rw [hW16]; exact gr_auto
            have gb16_w15 : Gr w15 W16 := by (try clear g16); rw [hW16]; exact gr_auto
            have k16_0 : W16.cell? ⟨w.heap.size, 0, none⟩ = some (.int .i64 px) := by rw [hW16]; first | (simp [go_sem, *]; done) | (refine Gr.at ?_ (by assumption); exact gr_auto)
            have b16_0 : w.heap.size < W16.heap.size := World.block_lt_of_cell? _ _ k16_0
            have k16_1 : W16.cell? ⟨w.heap.size, 1, none⟩ = some (.int .i64 py) := by rw [hW16]; first | (simp [go_sem, *]; done) | (refine Gr.at ?_ (by assumption); exact gr_auto)
            have k16_2 : W16.cell? ⟨w.heap.size + 1, 0, none⟩ = some (.int .i64 ax) := by rw [hW16]; first | (simp [go_sem, *]; done) | (refine Gr.at ?_ (by assumption); exact gr_auto)
            have b16_2 : w.heap.size + 1 < W16.heap.size := World.block_lt_of_cell? _ _ k16_2
            have k16_3 : W16.cell? ⟨w.heap.size + 1, 1, none⟩ = some (.int .i64 ay) := by rw [hW16]; first | (simp [go_sem, *]; done) | (refine Gr.at ?_ (by assumption); exact gr_auto)
            have k16_4 : W16.cell? ⟨gb, go + ns * 3 + 1, none⟩ = some (.int .i64 db.x) := by rw [hW16]; first | (simp [go_sem, *]; done) | (refine Gr.at ?_ (by assumption); exact gr_auto)
            have b16_4 : gb < W16.heap.size := World.block_lt_of_cell? _ _ k16_4
            have k16_5 : W16.cell? ⟨gb, go + ns * 3 + 2, none⟩ = some (.int .i64 db.y) := by rw [hW16]; first | (simp [go_sem, *]; done) | (refine Gr.at ?_ (by assumption); exact gr_auto)
            clear hW16
            have s16_0 : ∀ gw : GW W16, gw.1.cell? ⟨w.heap.size, 0, none⟩ = some (.int .i64 px) := fun gw => Gr.at gw.2 k16_0
            have s16_1 : ∀ gw : GW W16, gw.1.cell? ⟨w.heap.size, 1, none⟩ = some (.int .i64 py) := fun gw => Gr.at gw.2 k16_1
            have s16_2 : ∀ gw : GW W16, gw.1.cell? ⟨w.heap.size + 1, 0, none⟩ = some (.int .i64 ax) := fun gw => Gr.at gw.2 k16_2
            have s16_3 : ∀ gw : GW W16, gw.1.cell? ⟨w.heap.size + 1, 1, none⟩ = some (.int .i64 ay) := fun gw => Gr.at gw.2 k16_3
            have s16_4 : ∀ gw : GW W16, gw.1.cell? ⟨gb, go + ns * 3 + 1, none⟩ = some (.int .i64 db.x) := fun gw => Gr.at gw.2 k16_4
            have s16_5 : ∀ gw : GW W16, gw.1.cell? ⟨gb, go + ns * 3 + 2, none⟩ = some (.int .i64 db.y) := fun gw => Gr.at gw.2 k16_5
            have HA1 := Lib.hid (fun gw : GW W16 => gw_call (HNA.out gw.1))
            refine wp_region_gr (by kernel_rfl) (by kernel_rfl) ?_
            repeat (go_big_quiet_step ((go_at_call 32; exact HA1.out _)))
            refine wpQuiet_nil ?_
            intro w17 hb17
            clear s16_0 s16_1 s16_2 s16_3 s16_4 s16_5
            have g17 : Gr w w17 := g16.trans hb17
            have k16_0 := Gr.at hb17 k16_0
            have k16_1 := Gr.at hb17 k16_1
            have k16_2 := Gr.at hb17 k16_2
            have k16_3 := Gr.at hb17 k16_3
            have k16_4 := Gr.at hb17 k16_4
            have k16_5 := Gr.at hb17 k16_5
            clear HA1 HNA
            -- @m52
            go_wp2_with fail
            go_ret
            exact ⟨rfl, g15.trans (gb16_w15.trans hb17)⟩
          · have hcm : Ba.cmI sa (sq ns) = 0 := by unfold Ba.cmI; rw [if_neg hc]; exact (if_neg q)
            rw [hcm] at HNA
            rw [if_neg hc] at HM3
            clear hcm hc q
            go_wp2_with fail
            -- @m33
            refine (HM3.out _ hb14).mono ?_
            rintro e w15 ⟨rfl, hb15⟩
            have g15 := g14.trans hb15
            replace e0 := Gr.at hb15 e0; replace e1 := Gr.at hb15 e1; replace e2 := Gr.at hb15 e2; replace e3 := Gr.at hb15 e3; replace e4 := Gr.at hb15 e4; replace e5 := Gr.at hb15 e5
            clear HM3
            go_wp2_with fail
            -- @m43
            (first | refine name_world ?_ | refine (show (∀ W, W = _ → Calls _ _ _ W _) → Calls _ _ _ _ _ from fun h => h _ rfl) ?_); intro W16 hW16
            have g16 : Gr w W16 := by rw [hW16]; exact gr_auto
            have gb16_w15 : Gr w15 W16 := by (try clear g16); rw [hW16]; exact gr_auto
            have k16_0 : W16.cell? ⟨w.heap.size, 0, none⟩ = some (.int .i64 px) := by rw [hW16]; first | (simp [go_sem, *]; done) | (refine Gr.at ?_ (by assumption); exact gr_auto)
            have b16_0 : w.heap.size < W16.heap.size := World.block_lt_of_cell? _ _ k16_0
            have k16_1 : W16.cell? ⟨w.heap.size, 1, none⟩ = some (.int .i64 py) := by rw [hW16]; first | (simp [go_sem, *]; done) | (refine Gr.at ?_ (by assumption); exact gr_auto)
            have k16_2 : W16.cell? ⟨w.heap.size + 1, 0, none⟩ = some (.int .i64 ax) := by rw [hW16]; first | (simp [go_sem, *]; done) | (refine Gr.at ?_ (by assumption); exact gr_auto)
            have b16_2 : w.heap.size + 1 < W16.heap.size := World.block_lt_of_cell? _ _ k16_2
            have k16_3 : W16.cell? ⟨w.heap.size + 1, 1, none⟩ = some (.int .i64 ay) := by rw [hW16]; first | (simp [go_sem, *]; done) | (refine Gr.at ?_ (by assumption); exact gr_auto)
            have k16_4 : W16.cell? ⟨gb, go + ns * 3 + 1, none⟩ = some (.int .i64 db.x) := by rw [hW16]; first | (simp [go_sem, *]; done) | (refine Gr.at ?_ (by assumption); exact gr_auto)
            have b16_4 : gb < W16.heap.size := World.block_lt_of_cell? _ _ k16_4
            have k16_5 : W16.cell? ⟨gb, go + ns * 3 + 2, none⟩ = some (.int .i64 db.y) := by rw [hW16]; first | (simp [go_sem, *]; done) | (refine Gr.at ?_ (by assumption); exact gr_auto)
            clear hW16
            have s16_0 : ∀ gw : GW W16, gw.1.cell? ⟨w.heap.size, 0, none⟩ = some (.int .i64 px) := fun gw => Gr.at gw.2 k16_0
            have s16_1 : ∀ gw : GW W16, gw.1.cell? ⟨w.heap.size, 1, none⟩ = some (.int .i64 py) := fun gw => Gr.at gw.2 k16_1
            have s16_2 : ∀ gw : GW W16, gw.1.cell? ⟨w.heap.size + 1, 0, none⟩ = some (.int .i64 ax) := fun gw => Gr.at gw.2 k16_2
            have s16_3 : ∀ gw : GW W16, gw.1.cell? ⟨w.heap.size + 1, 1, none⟩ = some (.int .i64 ay) := fun gw => Gr.at gw.2 k16_3
            have s16_4 : ∀ gw : GW W16, gw.1.cell? ⟨gb, go + ns * 3 + 1, none⟩ = some (.int .i64 db.x) := fun gw => Gr.at gw.2 k16_4
            have s16_5 : ∀ gw : GW W16, gw.1.cell? ⟨gb, go + ns * 3 + 2, none⟩ = some (.int .i64 db.y) := fun gw => Gr.at gw.2 k16_5
            have HA1 := Lib.hid (fun gw : GW W16 => gw_call (HNA.out gw.1))
            refine wp_region_gr (by kernel_rfl) (by kernel_rfl) ?_
            repeat (go_big_quiet_step ((go_at_call 32; exact HA1.out _)))
            refine wpQuiet_nil ?_
            intro w17 hb17
            clear s16_0 s16_1 s16_2 s16_3 s16_4 s16_5
            have g17 : Gr w w17 := g16.trans hb17
            have k16_0 := Gr.at hb17 k16_0
            have k16_1 := Gr.at hb17 k16_1
            have k16_2 := Gr.at hb17 k16_2
            have k16_3 := Gr.at hb17 k16_3
            have k16_4 := Gr.at hb17 k16_4
            have k16_5 := Gr.at hb17 k16_5
            clear HA1 HNA
            -- @m53
            go_wp2_with fail
            go_ret
            exact ⟨rfl, g15.trans (gb16_w15.trans hb17)⟩

theorem none_law (G : Ba.SlGauge) (px py ax ay : Int) (w : World) (h : G.At w) (_ : Ba.i64 px) (_ : Ba.i64 py) (_ : Ba.i64 ax) (_ : Ba.i64 ay) : Calls Try.prog 7 #[.slice G.A G.n G.c, .agg #[.int .i64 px, .int .i64 py], .agg #[.int .i64 ax, .int .i64 ay]] w fun e w' => e = .returned (.bool true) ∧ Gr w w' := by
  by_cases hl : (G.n : Int) ≤ 20
  rotate_left
  · exact none_far G px py ax ay w h (.inl (by omega))
  cases hm0 : Ba.manB G
  rotate_left
  · exact none_far G px py ax ay w h (.inr ⟨hl, .inl hm0⟩)
  cases hv : Ba.gasB G
  · exact none_far G px py ax ay w h (.inr ⟨hl, .inr ⟨hm0, .inl hv⟩⟩)
  cases hp : Ba.ptB px py
  · exact none_far G px py ax ay w h (.inr ⟨hl, .inr ⟨hm0, .inr ⟨hv, .inl hp⟩⟩⟩)
  cases ha : Ba.ptB ax ay
  · exact none_far G px py ax ay w h (.inr ⟨hl, .inr ⟨hm0, .inr ⟨hv, .inr ⟨hp, ha⟩⟩⟩⟩)
  exact none_main G px py ax ay w h hl hm0 hv hp ha
end Go.Proofs.Ytnfjebfmfjpepaa
