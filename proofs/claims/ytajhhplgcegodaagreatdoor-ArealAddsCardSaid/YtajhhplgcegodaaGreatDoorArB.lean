/-
  Areal: points, squares of distances, areal.Valid. (Printed by mkb.py.)
-/
import Derived.Test.YtajhhplgcegodaaGreatDoorArA
set_option linter.unusedVariables false
set_option linter.unusedSimpArgs false
namespace Go.Proofs.YtajhhplgcegodaaGreatDoor
open Go.RowKit
attribute [local go_sem ↓] Go.wp_at_zero Go.wp_at_succ
namespace Ba
def ptB (x y : Int) : Bool := bet x (-16777216) 16777216 && bet y (-16777216) 16777216
theorem ptB_iff (x y : Int) : ptB x y = true ↔ (-16777216 ≤ x ∧ x ≤ 16777216) ∧ (-16777216 ≤ y ∧ y ≤ 16777216) := by unfold ptB; rw [Bool.and_eq_true, bet_iff, bet_iff]
/-- The square of a distance. -/
def sqI (x y px py : Int) : Int := (x - px) * (x - px) + (y - py) * (y - py)
theorem sq_bd {a : Int} (h : -33554432 ≤ a ∧ a ≤ 33554432) : 0 ≤ a * a ∧ a * a ≤ 1125899906842624 := by
  rcases (by omega : 0 ≤ a ∨ a ≤ 0) with q | q
  · exact ⟨Int.mul_nonneg q q, Int.mul_le_mul h.2 h.2 q (by decide)⟩
  · have e : a * a = (-a) * (-a) := by rw [Int.neg_mul_neg]
    rw [e]
    exact ⟨Int.mul_nonneg (by omega) (by omega), Int.mul_le_mul (show -a ≤ 33554432 by omega) (show -a ≤ 33554432 by omega) (by omega) (by decide)⟩
theorem sqI_bd {x y px py : Int} (h : ptB x y = true) (p : ptB px py = true) : 0 ≤ sqI x y px py ∧ sqI x y px py ≤ 2251799813685248 := by
  rw [ptB_iff] at h p
  have a := sq_bd (a := x - px) (by omega); have b := sq_bd (a := y - py) (by omega)
  unfold sqI; omega
/-- A gauge's place in its list is right; a list of gauges is valid. -/
def gaB (G : SlGauge) (i : Nat) : Bool := Dc.isName (G.D i).nm.data.toList && (ptB (G.D i).x (G.D i).y && !any (fun k => eqS (G.D k).nm (G.D i).nm) i)
def gasB (G : SlGauge) : Bool := decide (1 ≤ G.n) && (decide (G.n ≤ 100) && allB (gaB G) G.n)
theorem gas_parts {G : SlGauge} (h : gasB G = true) : 1 ≤ G.n ∧ G.n ≤ 100 ∧ ∀ i, i < G.n → ptB (G.D i).x (G.D i).y = true := by
  unfold gasB at h
  simp only [Bool.and_eq_true, decide_eq_true_eq] at h
  refine ⟨h.1, h.2.1, fun i hi => ?_⟩
  have b := allB_at h.2.2 hi
  unfold gaB at b
  simp only [Bool.and_eq_true] at b
  exact b.2.1
end Ba

set_option maxRecDepth 100000 in
set_option maxHeartbeats 4000000 in
theorem pvalid_any (x y : Int) (w : World) : Calls Tryz.prog 65 #[.agg #[.int .i64 x, .int .i64 y]] w fun e w' => e = .returned (.bool (Ba.ptB x y)) ∧ Gr w w' := by
  unfold Ba.ptB Ba.bet
  cases t0 : decide (-16777216 ≤ x)
  · go_enter Tryz.func65, Tryz.ntmps65
    go_wp2_with fail
    go_ret
    exact ⟨rfl, gr_auto⟩
  · cases t1 : decide (x ≤ 16777216)
    · go_enter Tryz.func65, Tryz.ntmps65
      go_wp2_with fail
      go_ret
      exact ⟨rfl, gr_auto⟩
    · cases t2 : decide (-16777216 ≤ y)
      · go_enter Tryz.func65, Tryz.ntmps65
        go_wp2_with fail
        go_ret
        exact ⟨rfl, gr_auto⟩
      · cases t3 : decide (y ≤ 16777216)
        · go_enter Tryz.func65, Tryz.ntmps65
          go_wp2_with fail
          go_ret
          exact ⟨rfl, gr_auto⟩
        · go_enter Tryz.func65, Tryz.ntmps65
          go_wp2_with fail
          go_ret
          exact ⟨rfl, gr_auto⟩

set_option maxRecDepth 100000 in
set_option maxHeartbeats 4000000 in
theorem rpvalid_any (x y : Int) (w : World) : Calls Tryz.prog 41 #[.agg #[.int .i64 x, .int .i64 y]] w fun e w' => e = .returned (.bool (Ba.ptB x y)) ∧ Gr w w' := by
  unfold Ba.ptB Ba.bet
  cases t0 : decide (-16777216 ≤ x)
  · go_enter Tryz.func41, Tryz.ntmps41
    go_wp2_with fail
    go_ret
    exact ⟨rfl, gr_auto⟩
  · cases t1 : decide (x ≤ 16777216)
    · go_enter Tryz.func41, Tryz.ntmps41
      go_wp2_with fail
      go_ret
      exact ⟨rfl, gr_auto⟩
    · cases t2 : decide (-16777216 ≤ y)
      · go_enter Tryz.func41, Tryz.ntmps41
        go_wp2_with fail
        go_ret
        exact ⟨rfl, gr_auto⟩
      · cases t3 : decide (y ≤ 16777216)
        · go_enter Tryz.func41, Tryz.ntmps41
          go_wp2_with fail
          go_ret
          exact ⟨rfl, gr_auto⟩
        · go_enter Tryz.func41, Tryz.ntmps41
          go_wp2_with fail
          go_ret
          exact ⟨rfl, gr_auto⟩

set_option maxRecDepth 100000 in
set_option maxHeartbeats 4000000 in
theorem sq_any (t : ByteArray) (x y px py : Int) (w : World) (hm : t.size ≤ 9223372036854775807) (h : Ba.ptB x y = true) (p : Ba.ptB px py = true) : Calls Tryz.prog 66 #[.agg #[.string t, .int .i64 x, .int .i64 y], .agg #[.int .i64 px, .int .i64 py], .int .i64 1] w fun e w' => e = .returned (.int .i64 (Ba.sqI x y px py)) ∧ Gr w w' := by
  rw [Ba.ptB_iff] at h p
  obtain ⟨⟨h1, h2⟩, h3, h4⟩ := h
  obtain ⟨⟨p1, p2⟩, p3, p4⟩ := p
  have a := Ba.sq_bd (a := x - px) (by omega); have b := Ba.sq_bd (a := y - py) (by omega)
  obtain ⟨a1, a2⟩ := a
  obtain ⟨b1, b2⟩ := b
  unfold Ba.sqI
  go_enter Tryz.func66, Tryz.ntmps66
  go_wp2_with fail
  (first | refine name_world ?_ | refine (show (∀ W, W = _ → Calls _ _ _ W _) → Calls _ _ _ _ _ from fun h => h _ rfl) ?_); intro W1 hW1
  have g1 : Gr w W1 := by rw [hW1]; exact gr_auto
  have k1_0 : W1.cell? ⟨w.heap.size, 0, none⟩ = some (.string t) := by rw [hW1]; first | (simp [go_sem, *]; done) | (refine Gr.at ?_ (by assumption); exact gr_auto)
  have b1_0 : w.heap.size < W1.heap.size := World.block_lt_of_cell? _ _ k1_0
  have k1_1 : W1.cell? ⟨w.heap.size, 1, none⟩ = some (.int .i64 x) := by rw [hW1]; first | (simp [go_sem, *]; done) | (refine Gr.at ?_ (by assumption); exact gr_auto)
  have k1_2 : W1.cell? ⟨w.heap.size, 2, none⟩ = some (.int .i64 y) := by rw [hW1]; first | (simp [go_sem, *]; done) | (refine Gr.at ?_ (by assumption); exact gr_auto)
  have k1_3 : W1.cell? ⟨w.heap.size + 1, 0, none⟩ = some (.int .i64 px) := by rw [hW1]; first | (simp [go_sem, *]; done) | (refine Gr.at ?_ (by assumption); exact gr_auto)
  have b1_3 : w.heap.size + 1 < W1.heap.size := World.block_lt_of_cell? _ _ k1_3
  have k1_4 : W1.cell? ⟨w.heap.size + 1, 1, none⟩ = some (.int .i64 py) := by rw [hW1]; first | (simp [go_sem, *]; done) | (refine Gr.at ?_ (by assumption); exact gr_auto)
  clear hW1
  have s1_0 : ∀ gw : GW W1, gw.1.cell? ⟨w.heap.size, 0, none⟩ = some (.string t) := fun gw => Gr.at gw.2 k1_0
  have s1_1 : ∀ gw : GW W1, gw.1.cell? ⟨w.heap.size, 1, none⟩ = some (.int .i64 x) := fun gw => Gr.at gw.2 k1_1
  have s1_2 : ∀ gw : GW W1, gw.1.cell? ⟨w.heap.size, 2, none⟩ = some (.int .i64 y) := fun gw => Gr.at gw.2 k1_2
  have s1_3 : ∀ gw : GW W1, gw.1.cell? ⟨w.heap.size + 1, 0, none⟩ = some (.int .i64 px) := fun gw => Gr.at gw.2 k1_3
  have s1_4 : ∀ gw : GW W1, gw.1.cell? ⟨w.heap.size + 1, 1, none⟩ = some (.int .i64 py) := fun gw => Gr.at gw.2 k1_4
  have hnn := Nat.le_refl 0
  refine wp_region_gr (by kernel_rfl) (by kernel_rfl) ?_
  repeat (go_big_quiet_step (skip))
  refine wpQuiet_nil ?_
  intro w2 hb2
  clear s1_0 s1_1 s1_2 s1_3 s1_4
  have g2 : Gr w w2 := g1.trans hb2
  have k1_0 := Gr.at hb2 k1_0
  have k1_1 := Gr.at hb2 k1_1
  have k1_2 := Gr.at hb2 k1_2
  have k1_3 := Gr.at hb2 k1_3
  have k1_4 := Gr.at hb2 k1_4
  go_wp2_with fail
  go_ret
  exact ⟨rfl, gr_auto⟩

set_option maxRecDepth 100000 in
set_option maxHeartbeats 4000000 in
theorem rsq_any (t : ByteArray) (x y px py : Int) (w : World) (hm : t.size ≤ 9223372036854775807) (h : Ba.ptB x y = true) (p : Ba.ptB px py = true) : Calls Tryz.prog 140 #[.agg #[.string t, .int .i64 x, .int .i64 y], .agg #[.int .i64 px, .int .i64 py], .int .i64 1] w fun e w' => e = .returned (.int .i64 (Ba.sqI x y px py)) ∧ Gr w w' := by
  rw [Ba.ptB_iff] at h p
  obtain ⟨⟨h1, h2⟩, h3, h4⟩ := h
  obtain ⟨⟨p1, p2⟩, p3, p4⟩ := p
  have a := Ba.sq_bd (a := x - px) (by omega); have b := Ba.sq_bd (a := y - py) (by omega)
  obtain ⟨a1, a2⟩ := a
  obtain ⟨b1, b2⟩ := b
  unfold Ba.sqI
  go_enter Tryz.func140, Tryz.ntmps140
  go_wp2_with fail
  go_ret
  exact ⟨rfl, gr_auto⟩

set_option maxRecDepth 100000 in
set_option maxHeartbeats 4000000 in
theorem valf_any (d : Ba.Gauge) (t : ByteArray) (B : Nat) (w : World) (hc : w.cell? ⟨B, 0, none⟩ = some (.string t)) : Calls Tryz.prog 77 #[d.val, .pointer (some ⟨B, 0, none⟩)] w fun e w' => e = .returned (.bool (Ba.eqS d.nm t)) ∧ Gr w w' := by
  have hB : B < w.heap.size := World.block_lt_of_cell? _ _ hc
  have hn : B ≠ w.heap.size := by omega
  unfold Ba.Gauge.val Ba.eqS
  go_enter Tryz.func77, Tryz.ntmps77
  go_wp2_with fail
  go_ret
  exact ⟨rfl, gr_auto⟩

set_option maxRecDepth 100000 in
set_option maxHeartbeats 4000000 in
theorem gvals_any (G : Ba.SlGauge) (w : World) (h : G.At w) : Calls Tryz.prog 33 #[.slice G.A G.n G.c] w fun e w' => e = .returned (.bool (Ba.gasB G)) ∧ Gr w w' := by
  have hm := Nat.le_trans h.hc h.hb
  by_cases h0 : G.n = 0
  · have t0 : decide ((G.n : Int) < 1) = true := decide_eq_true (by omega)
    have e : Ba.gasB G = false := by unfold Ba.gasB; rw [h0]; rfl
    rw [e]
    clear h0 e h
    generalize G.A = A at *; generalize G.n = n at *; generalize G.c = c at *
    go_enter Tryz.func33, Tryz.ntmps33
    go_wp2_with fail
    go_ret
    exact ⟨rfl, gr_auto⟩
  have t0 : decide ((G.n : Int) < 1) = false := decide_eq_false (by omega)
  by_cases h1 : 100 < G.n
  · have t1 : decide ((100 : Int) < (G.n : Int)) = true := decide_eq_true (by omega)
    have e : Ba.gasB G = false := by unfold Ba.gasB; rw [decide_eq_false (by omega : ¬ G.n ≤ 100)]; simp
    rw [e]
    clear h0 h1 e h
    generalize G.A = A at *; generalize G.n = n at *; generalize G.c = c at *
    go_enter Tryz.func33, Tryz.ntmps33
    go_wp2_with fail
    go_ret
    exact ⟨rfl, gr_auto⟩
  have t1 : decide ((100 : Int) < (G.n : Int)) = false := decide_eq_false (by omega)
  have e : Ba.gasB G = Ba.allB (Ba.gaB G) G.n := by unfold Ba.gasB; rw [decide_eq_true (by omega : 1 ≤ G.n), decide_eq_true (by omega : G.n ≤ 100)]; rfl
  rw [e]
  clear e
  have HA := Lib.hid h.hA; have HD := Lib.hid h.hD; have hnc := h.hc
  have HPX := Lib.hid (fun (i : Nat) (hi : i < G.n) (B : Nat) (W : World) (hW : Gr w W) (hc : W.cell? ⟨B, 0, none⟩ = some (.string (G.D i).nm)) => has_gauge 77 #[.pointer (some ⟨B, 0, none⟩)] ⟨G.A, i, G.c, G.b, G.o, G.D⟩ (fun k => Ba.eqS (G.D k).nm (G.D i).nm) W ⟨fun _ => h.hA (by omega), by have := h.hc; show i ≤ G.c; omega, h.hb, fun k hk => ((h.gr hW).hD k (by have : k < i := hk; omega))⟩ (enter_of Tryz.func77 (by kernel_rfl) (by kernel_rfl)) fun k hk W' hW' => valf_any (G.D k) (G.D i).nm B W' (Gr.at hW' hc))
  clear h
  obtain ⟨A, hA⟩ : ∃ A, G.A = A := ⟨_, rfl⟩; obtain ⟨n, hn⟩ : ∃ n, G.n = n := ⟨_, rfl⟩; obtain ⟨c, hc⟩ : ∃ c, G.c = c := ⟨_, rfl⟩
  simp only [hA, hc] at HPX
  simp only [hn] at HPX
  rw [hA, hn, hc]
  rw [hn] at t0 t1 hm h0 h1
  rw [hn, hc] at hnc
  rw [hA, hn] at HA
  rw [hn] at HD
  go_enter Tryz.func33, Tryz.ntmps33
  go_wp2_with fail
  refine name_world ?_; intro W0 hW0
  have g0 : Gr w W0 := by rw [hW0]; exact gr_auto
  clear hW0
  go_loopw [15] (fun x wr => ∃ i : Nat, i ≤ n ∧ x = .int .i64 (i : Int) ∧ Hid (Ba.allB (Ba.gaB G) i = true) ∧ Gr W0 wr) (fun x _ => n - (intOf x).toNat)
  case atStart => exact ⟨0, Nat.zero_le _, rfl, Lib.hid rfl, Gr.refl _⟩
  case round =>
    obtain ⟨i, hi, rfl, HQ, hg⟩ := hrel
    have gr : Gr w wr := g0.trans hg
    by_cases hlt : i < n
    · obtain rfl := HA.out (by omega)
      obtain ⟨a0, a1, a2⟩ := (HD.out i hlt).1.gr gr
      obtain ⟨bx, by_, hsz⟩ := (HD.out i hlt).2
      have ib0 : (0 : Int) ≤ (i : Int) := by omega
      have ib1 : (i : Int) < (n : Int) := by omega
      have ibc : i ≤ c := by omega
      have HN := Lib.hid (fun W => isname_all (G.D i).nm W hsz)
      have HP := Lib.hid (fun W => pvalid_any (G.D i).x (G.D i).y W)
      have HX := Lib.hid (fun B W (hW : Gr wr W) hc => HPX.out i hlt B W (gr.trans hW) hc)
      have hcl : Ba.gaB G i = (Dc.isName (G.D i).nm.data.toList && (Ba.ptB (G.D i).x (G.D i).y && !Ba.any (fun k => Ba.eqS (G.D k).nm (G.D i).nm) i)) := rfl
      clear HD HPX hn hA hc
      generalize Ba.any (fun k => Ba.eqS (G.D k).nm (G.D i).nm) i = cx at *
      generalize G.D i = d at *
      cases q0 : Dc.isName d.nm.data.toList
      · rw [q0] at HN hcl
        have HR := Lib.hid (Ba.allB_stop (p := Ba.gaB G) hlt (by rw [hcl]; rfl))
        clear hcl HQ
        go_wp2_with fail
        (first | refine name_world ?_ | refine (show (∀ W, W = _ → Calls _ _ _ W _) → Calls _ _ _ _ _ from fun h => h _ rfl) ?_); intro W3 hW3
        have g3 : Gr w W3 := by rw [hW3]; exact gr_auto
        have gb3_wr : Gr wr W3 := by (try clear g3); rw [hW3]; exact gr_auto
        have k3_0 : W3.cell? ⟨wr.heap.size, 0, none⟩ = some (.string d.nm) := by rw [hW3]; first | (simp [go_sem, *]; done) | (refine Gr.at ?_ (by assumption); exact gr_auto)
        have b3_0 : wr.heap.size < W3.heap.size := World.block_lt_of_cell? _ _ k3_0
        have k3_1 : W3.cell? ⟨wr.heap.size, 1, none⟩ = some (.int .i64 d.x) := by rw [hW3]; first | (simp [go_sem, *]; done) | (refine Gr.at ?_ (by assumption); exact gr_auto)
        have k3_2 : W3.cell? ⟨wr.heap.size, 2, none⟩ = some (.int .i64 d.y) := by rw [hW3]; first | (simp [go_sem, *]; done) | (refine Gr.at ?_ (by assumption); exact gr_auto)
        clear hW3
        refine (HN.out _).mono ?_
        rintro e w4 ⟨rfl, rfl⟩
        go_wp2_with fail
        go_ret
        exact ⟨by rw [HR.out]; rfl, by first | exact g0.trans (hg.trans (gb3_wr)) | exact gr_auto⟩
      · rw [q0] at HN hcl
        cases q1 : Ba.ptB d.x d.y
        · rw [q1] at HP hcl
          have HR := Lib.hid (Ba.allB_stop (p := Ba.gaB G) hlt (by rw [hcl]; rfl))
          clear hcl HQ
          go_wp2_with fail
          (first | refine name_world ?_ | refine (show (∀ W, W = _ → Calls _ _ _ W _) → Calls _ _ _ _ _ from fun h => h _ rfl) ?_); intro W3 hW3
          have g3 : Gr w W3 := by rw [hW3]; exact gr_auto
          have gb3_wr : Gr wr W3 := by (try clear g3); rw [hW3]; exact gr_auto
          have k3_0 : W3.cell? ⟨wr.heap.size, 0, none⟩ = some (.string d.nm) := by rw [hW3]; first | (simp [go_sem, *]; done) | (refine Gr.at ?_ (by assumption); exact gr_auto)
          have b3_0 : wr.heap.size < W3.heap.size := World.block_lt_of_cell? _ _ k3_0
          have k3_1 : W3.cell? ⟨wr.heap.size, 1, none⟩ = some (.int .i64 d.x) := by rw [hW3]; first | (simp [go_sem, *]; done) | (refine Gr.at ?_ (by assumption); exact gr_auto)
          have k3_2 : W3.cell? ⟨wr.heap.size, 2, none⟩ = some (.int .i64 d.y) := by rw [hW3]; first | (simp [go_sem, *]; done) | (refine Gr.at ?_ (by assumption); exact gr_auto)
          clear hW3
          refine (HN.out _).mono ?_
          rintro e w4 ⟨rfl, rfl⟩
          go_wp2_with fail
          refine (HP.out _).mono ?_
          rintro e w5 ⟨rfl, hb5⟩
          have d0 := Gr.at hb5 k3_0; have d1 := Gr.at hb5 k3_1; have d2 := Gr.at hb5 k3_2
          clear k3_0 k3_1 k3_2
          go_wp2_with fail
          go_ret
          exact ⟨by rw [HR.out]; rfl, by first | exact g0.trans (hg.trans (gb3_wr.trans hb5)) | exact gr_auto⟩
        · rw [q1] at HP hcl
          cases cx
          rotate_left
          · have HR := Lib.hid (Ba.allB_stop (p := Ba.gaB G) hlt (by rw [hcl]; rfl))
            clear hcl HQ
            go_wp2_with fail
            (first | refine name_world ?_ | refine (show (∀ W, W = _ → Calls _ _ _ W _) → Calls _ _ _ _ _ from fun h => h _ rfl) ?_); intro W3 hW3
            have g3 : Gr w W3 := by rw [hW3]; exact gr_auto
            have gb3_wr : Gr wr W3 := by (try clear g3); rw [hW3]; exact gr_auto
            have k3_0 : W3.cell? ⟨wr.heap.size, 0, none⟩ = some (.string d.nm) := by rw [hW3]; first | (simp [go_sem, *]; done) | (refine Gr.at ?_ (by assumption); exact gr_auto)
            have b3_0 : wr.heap.size < W3.heap.size := World.block_lt_of_cell? _ _ k3_0
            have k3_1 : W3.cell? ⟨wr.heap.size, 1, none⟩ = some (.int .i64 d.x) := by rw [hW3]; first | (simp [go_sem, *]; done) | (refine Gr.at ?_ (by assumption); exact gr_auto)
            have k3_2 : W3.cell? ⟨wr.heap.size, 2, none⟩ = some (.int .i64 d.y) := by rw [hW3]; first | (simp [go_sem, *]; done) | (refine Gr.at ?_ (by assumption); exact gr_auto)
            clear hW3
            refine (HN.out _).mono ?_
            rintro e w4 ⟨rfl, rfl⟩
            go_wp2_with fail
            refine (HP.out _).mono ?_
            rintro e w5 ⟨rfl, hb5⟩
            have d0 := Gr.at hb5 k3_0; have d1 := Gr.at hb5 k3_1; have d2 := Gr.at hb5 k3_2
            clear k3_0 k3_1 k3_2
            go_wp2_with fail
            refine (HX.out _ _ (by exact gb3_wr.trans hb5) d0).mono ?_
            rintro e w6 ⟨rfl, hb6⟩
            go_wp2_with fail
            go_ret
            exact ⟨by rw [HR.out]; rfl, by first | exact g0.trans (hg.trans (gb3_wr.trans (hb5.trans hb6))) | exact gr_auto⟩
          · have HR := Lib.hid (Ba.allB_go (p := Ba.gaB G) HQ.out (by rw [hcl]; rfl))
            clear hcl HQ
            go_wp2_with fail
            (first | refine name_world ?_ | refine (show (∀ W, W = _ → Calls _ _ _ W _) → Calls _ _ _ _ _ from fun h => h _ rfl) ?_); intro W3 hW3
            have g3 : Gr w W3 := by rw [hW3]; exact gr_auto
            have gb3_wr : Gr wr W3 := by (try clear g3); rw [hW3]; exact gr_auto
            have k3_0 : W3.cell? ⟨wr.heap.size, 0, none⟩ = some (.string d.nm) := by rw [hW3]; first | (simp [go_sem, *]; done) | (refine Gr.at ?_ (by assumption); exact gr_auto)
            have b3_0 : wr.heap.size < W3.heap.size := World.block_lt_of_cell? _ _ k3_0
            have k3_1 : W3.cell? ⟨wr.heap.size, 1, none⟩ = some (.int .i64 d.x) := by rw [hW3]; first | (simp [go_sem, *]; done) | (refine Gr.at ?_ (by assumption); exact gr_auto)
            have k3_2 : W3.cell? ⟨wr.heap.size, 2, none⟩ = some (.int .i64 d.y) := by rw [hW3]; first | (simp [go_sem, *]; done) | (refine Gr.at ?_ (by assumption); exact gr_auto)
            clear hW3
            refine (HN.out _).mono ?_
            rintro e w4 ⟨rfl, rfl⟩
            go_wp2_with fail
            refine (HP.out _).mono ?_
            rintro e w5 ⟨rfl, hb5⟩
            have d0 := Gr.at hb5 k3_0; have d1 := Gr.at hb5 k3_1; have d2 := Gr.at hb5 k3_2
            clear k3_0 k3_1 k3_2
            go_wp2_with fail
            refine (HX.out _ _ (by exact gb3_wr.trans hb5) d0).mono ?_
            rintro e w6 ⟨rfl, hb6⟩
            go_wp2_with fail
            go_roundw
            case rel => exact ⟨i + 1, by omega, by go_num, HR, by first | exact hg.trans (gb3_wr.trans (hb5.trans hb6)) | exact gr_auto⟩
            case measure => simp [intOf]; omega
    · obtain rfl : n = i := by omega
      have HR := Lib.hid HQ.out
      clear HD HPX HA HQ
      go_wp2_with fail
      go_ret
      exact ⟨by rw [HR.out]; rfl, gr⟩
end Go.Proofs.YtajhhplgcegodaaGreatDoor
