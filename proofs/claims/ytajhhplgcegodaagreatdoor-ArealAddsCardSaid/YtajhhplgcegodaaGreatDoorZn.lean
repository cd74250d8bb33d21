/-
  Areal: the nearest gauge of a point that is given three times as great. (Printed by mkzn.py.)
-/
import Derived.Test.YtajhhplgcegodaaGreatDoorArC
set_option linter.unusedVariables false
set_option linter.unusedSimpArgs false
namespace Go.Proofs.YtajhhplgcegodaaGreatDoor
open Go.RowKit
attribute [local go_sem ↓] Go.wp_at_zero Go.wp_at_succ
namespace Ba
def ptT (x y : Int) : Bool := bet x (-50331648) 50331648 && bet y (-50331648) 50331648
theorem ptT_iff (x y : Int) : ptT x y = true ↔ (-50331648 ≤ x ∧ x ≤ 50331648) ∧ (-50331648 ≤ y ∧ y ≤ 50331648) := by unfold ptT; rw [Bool.and_eq_true, bet_iff, bet_iff]
def sqT (x y px py : Int) : Int := (3 * x - px) * (3 * x - px) + (3 * y - py) * (3 * y - py)
theorem sq_bd3 {a : Int} (h : -100663296 ≤ a ∧ a ≤ 100663296) : 0 ≤ a * a ∧ a * a ≤ 10133099161583616 := by
  rcases (by omega : 0 ≤ a ∨ a ≤ 0) with q | q
  · exact ⟨Int.mul_nonneg q q, Int.mul_le_mul h.2 h.2 q (by decide)⟩
  · have e : a * a = (-a) * (-a) := by rw [Int.neg_mul_neg]
    rw [e]
    exact ⟨Int.mul_nonneg (by omega) (by omega), Int.mul_le_mul (show -a ≤ 100663296 by omega) (show -a ≤ 100663296 by omega) (by omega) (by decide)⟩
theorem sqT_bd {x y px py : Int} (h : ptB x y = true) (p : ptT px py = true) : 0 ≤ sqT x y px py ∧ sqT x y px py ≤ 20266198323167232 := by
  rw [ptB_iff] at h
  rw [ptT_iff] at p
  have a := sq_bd3 (a := 3 * x - px) (by omega); have b := sq_bd3 (a := 3 * y - py) (by omega)
  unfold sqT; omega
def sqGT (G : SlGauge) (px py : Int) (i : Nat) : Int := sqT (G.D i).x (G.D i).y px py
def nsT (G : SlGauge) (px py : Int) : Nat → Nat
  | 0 => 0
  | i + 1 => if sqGT G px py i < sqGT G px py (nsT G px py i) then i else nsT G px py i
theorem nsT_le {G : SlGauge} {px py : Int} : ∀ i, nsT G px py (i + 1) ≤ i
  | 0 => by rw [nsT]; split <;> simp [nsT]
  | i + 1 => by
    have := nsT_le (G := G) (px := px) (py := py) i
    rw [nsT]; split <;> omega
theorem nsT_lt {G : SlGauge} {px py : Int} {n i : Nat} (hn : 1 ≤ n) (hi : i ≤ n) : nsT G px py i < n := by
  cases i with
  | zero => rw [nsT]; omega
  | succ i => have := nsT_le (G := G) (px := px) (py := py) i; omega
end Ba
set_option maxRecDepth 100000 in
set_option maxHeartbeats 4000000 in
theorem sq3_any (t : ByteArray) (x y px py : Int) (w : World) (hm : t.size ≤ 9223372036854775807) (h : Ba.ptB x y = true) (p : Ba.ptT px py = true) : Calls Tryz.prog 66 #[.agg #[.string t, .int .i64 x, .int .i64 y], .agg #[.int .i64 px, .int .i64 py], .int .i64 3] w fun e w' => e = .returned (.int .i64 (Ba.sqT x y px py)) ∧ Gr w w' := by
  rw [Ba.ptB_iff] at h
  rw [Ba.ptT_iff] at p
  obtain ⟨⟨h1, h2⟩, h3, h4⟩ := h
  obtain ⟨⟨p1, p2⟩, p3, p4⟩ := p
  have a := Ba.sq_bd3 (a := 3 * x - px) (by omega); have b := Ba.sq_bd3 (a := 3 * y - py) (by omega)
  obtain ⟨a1, a2⟩ := a
  obtain ⟨b1, b2⟩ := b
  unfold Ba.sqT
  go_enter Tryz.func66, Tryz.ntmps66
  go_wp2_with fail
  (first | refine name_world ?_ | refine (show (∀ W, W = _ → Calls _ _ _ W _) → Calls _ _ _ _ _ from fun h => h _ rfl) ?_); intro W1 hW1
  have g1 : Gr w W1 := by rw [hW1]; exact gr_auto
  have k1_0 : W1.cell? ⟨w.heap.size, 0, none⟩ = some (.string t) := by rw [hW1]; first | (simp [go_sem, *]; done) | (refine Gr.at ?_ (by assumption); exact gr_auto)
  have b1_0 : w.heap.size < W1.heap.size := World.block_lt_of_cell? _ _ k1_0
  have k1_1 : W1.cell? ⟨w.heap.size, 1, none⟩ = some (.int .i64 x) := by rw [hW1]; first | (simp [go_sem, *]; done) | (refine Gr.at ?_ (by assumption); exact gr_auto)
  have k1_2 : W1.cell? ⟨w.heap.size, 2, none⟩ = some (.int .i64 y) := by rw [hW1]; first | (simp [go_sem, *]; done) | (refine Gr.at ?_ (by assumption); exact gr_auto)
  have k1_3 : W1.cell? ⟨w.heap.size + 1, 0, none⟩ = some (.int .i64 px) := by rw [hW1]; first | (simp [go_sem, *]; done) | (refine Gr.at ?_ (by assumption); exact gr_auto)
  have b1_3 : w.heap.size + 1 < W1.heap.size := World.block_lt_of_cell? _ _ k1_3
  have k1_4 : W1.cell? ⟨w.heap.size + 1, 1, none⟩ = some (.int .i64 py) := by rw [hW1]; first | (simp [go_sem, *]; done) | (refine Gr.at ?_ (by assumption); exact gr_auto)
  clear hW1
  have s1_0 : ∀ gw : GW W1, gw.1.cell? ⟨w.heap.size, 0, none⟩ = some (.string t) := fun gw => Gr.at gw.2 k1_0
  have s1_1 : ∀ gw : GW W1, gw.1.cell? ⟨w.heap.size, 1, none⟩ = some (.int .i64 x) := fun gw => Gr.at gw.2 k1_1
  have s1_2 : ∀ gw : GW W1, gw.1.cell? ⟨w.heap.size, 2, none⟩ = some (.int .i64 y) := fun gw => Gr.at gw.2 k1_2
  have s1_3 : ∀ gw : GW W1, gw.1.cell? ⟨w.heap.size + 1, 0, none⟩ = some (.int .i64 px) := fun gw => Gr.at gw.2 k1_3
  have s1_4 : ∀ gw : GW W1, gw.1.cell? ⟨w.heap.size + 1, 1, none⟩ = some (.int .i64 py) := fun gw => Gr.at gw.2 k1_4
  have hnn := Nat.le_refl 0
  refine wp_region_gr (by kernel_rfl) (by kernel_rfl) ?_
  repeat (go_big_quiet_step (skip))
  refine wpQuiet_nil ?_
  intro w2 hb2
  clear s1_0 s1_1 s1_2 s1_3 s1_4
  have g2 : Gr w w2 := g1.trans hb2
  have k1_0 := Gr.at hb2 k1_0
  have k1_1 := Gr.at hb2 k1_1
  have k1_2 := Gr.at hb2 k1_2
  have k1_3 := Gr.at hb2 k1_3
  have k1_4 := Gr.at hb2 k1_4
  go_wp2_with fail
  go_ret
  exact ⟨rfl, gr_auto⟩
set_option maxRecDepth 100000 in
set_option maxHeartbeats 4000000 in
theorem rsq3_any (t : ByteArray) (x y px py : Int) (w : World) (hm : t.size ≤ 9223372036854775807) (h : Ba.ptB x y = true) (p : Ba.ptT px py = true) : Calls Tryz.prog 140 #[.agg #[.string t, .int .i64 x, .int .i64 y], .agg #[.int .i64 px, .int .i64 py], .int .i64 3] w fun e w' => e = .returned (.int .i64 (Ba.sqT x y px py)) ∧ Gr w w' := by
  rw [Ba.ptB_iff] at h
  rw [Ba.ptT_iff] at p
  obtain ⟨⟨h1, h2⟩, h3, h4⟩ := h
  obtain ⟨⟨p1, p2⟩, p3, p4⟩ := p
  have a := Ba.sq_bd3 (a := 3 * x - px) (by omega); have b := Ba.sq_bd3 (a := 3 * y - py) (by omega)
  obtain ⟨a1, a2⟩ := a
  obtain ⟨b1, b2⟩ := b
  unfold Ba.sqT
  go_enter Tryz.func140, Tryz.ntmps140
  go_wp2_with fail
  go_ret
  exact ⟨rfl, gr_auto⟩
set_option maxRecDepth 100000 in
set_option maxHeartbeats 4000000 in
theorem near3_any (G : Ba.SlGauge) (px py : Int) (w : World) (h : G.At w) (hv : Ba.gasB G = true) (hp : Ba.ptT px py = true) : Calls Tryz.prog 36 #[.slice G.A G.n G.c, .agg #[.int .i64 px, .int .i64 py], .int .i64 3] w fun e w' => e = .returned (.int .i64 (Ba.nsT G px py G.n : Int)) ∧ Gr w w' := by
  obtain ⟨n1, n2, hpt⟩ := Ba.gas_parts hv
  have hA := h.hA (by omega)
  have HD := Lib.hid h.hD; have HPT := Lib.hid hpt; have hnc := h.hc; have hcb := h.hb
  have HNS := Lib.hid (fun i => show Ba.nsT G px py (i + 1) = if Ba.sqGT G px py i < Ba.sqGT G px py (Ba.nsT G px py i) then i else Ba.nsT G px py i from rfl)
  have HNL := Lib.hid (fun i (hi : i ≤ G.n) => show Ba.nsT G px py i < G.n from Ba.nsT_lt n1 hi)
  have HN0 := Lib.hid (show Ba.nsT G px py 0 = 0 from rfl)
  have HSQ := Lib.hid (fun i => show Ba.sqGT G px py i = Ba.sqT (G.D i).x (G.D i).y px py from rfl)
  have HB := Lib.hid (fun i (hi : i < G.n) => show 0 ≤ Ba.sqGT G px py i ∧ Ba.sqGT G px py i ≤ 20266198323167232 from Ba.sqT_bd (hpt i hi) hp)
  have HP := Lib.hid hp
  clear hv hpt h
  rw [hA]
  generalize Ba.nsT G px py = ns at *
  generalize Ba.sqGT G px py = sq at *
  clear hA
  obtain ⟨A, n, c, gb, go, D⟩ := G
  simp only at *
  clear A
  go_enter Tryz.func36, Tryz.ntmps36
  go_wp2_with fail
  refine name_world ?_; intro W0 hW0
  have g0 : Gr w W0 := by rw [hW0]; exact gr_auto
  have p0 : W0.cell? ⟨w.heap.size, 0, none⟩ = some (.int .i64 px) := by rw [hW0]; simp [go_sem]
  have p1 : W0.cell? ⟨w.heap.size, 1, none⟩ = some (.int .i64 py) := by rw [hW0]; simp [go_sem]
  clear hW0
  go_loopw [7, 12] (fun b x wr => ∃ i : Nat, i ≤ n ∧ x = .int .i64 (i : Int) ∧ b = .int .i64 (ns i : Int) ∧ Gr W0 wr) (fun _ x _ => n - (intOf x).toNat)
  case atStart => exact ⟨0, Nat.zero_le _, rfl, by rw [HN0.out]; rfl, Gr.refl _⟩
  case round =>
    obtain ⟨i, hi, rfl, rfl, hg⟩ := hrel
    have gr : Gr w wr := g0.trans hg
    by_cases hlt : i < n
    · have q0 := Gr.at hg p0; have q1 := Gr.at hg p1
      have hj := HNL.out i hi
      have HNi := Lib.hid (HNS.out i)
      have si := HB.out i hlt; have sj := HB.out (ns i) hj
      obtain ⟨a0, a1, a2⟩ := (HD.out i hlt).1.gr gr
      obtain ⟨b0, b1, b2⟩ := (HD.out (ns i) hj).1.gr gr
      have HI := Lib.hid (fun W => sq3_any (D i).nm (D i).x (D i).y px py W (HD.out i hlt).2.2.2 (HPT.out i hlt) HP.out)
      have HJ := Lib.hid (fun W => sq3_any (D (ns i)).nm (D (ns i)).x (D (ns i)).y px py W (HD.out _ hj).2.2.2 (HPT.out _ hj) HP.out)
      rw [← HSQ.out i] at HI
      rw [← HSQ.out (ns i)] at HJ
      have ib0 : (0 : Int) ≤ (i : Int) := by omega
      have ib1 : (i : Int) < (n : Int) := by omega
      clear HD HPT HNS HNL HN0 HSQ HB HP p0 p1
      obtain ⟨nn, hnn⟩ : ∃ z, ns (i + 1) = z := ⟨_, rfl⟩
      rw [hnn] at HNi
      replace hnn := Lib.hid hnn
      obtain ⟨j, hj'⟩ : ∃ z, ns i = z := ⟨_, rfl⟩
      rw [hj'] at hj HNi sj b0 b1 b2 HJ ⊢
      clear hj'
      have jb0 : (0 : Int) ≤ (j : Int) := by omega
      have jb1 : (j : Int) < (n : Int) := by omega
      generalize sq i = vi at *
      generalize sq j = vj at *
      generalize D i = di at *
      generalize D j = dj at *
      by_cases hc : vi < vj
      · have HN := Lib.hid (show ns (i + 1) = i by rw [hnn.out, HNi.out, if_pos hc])
        clear HNi hnn
        go_wp2_with fail
        (first | refine name_world ?_ | refine (show (∀ W, W = _ → Calls _ _ _ W _) → Calls _ _ _ _ _ from fun h => h _ rfl) ?_); intro W3 hW3
        have g3 : Gr w W3 := by rw [hW3]; exact gr_auto
        have gb3_wr : Gr wr W3 := by (try clear g3); rw [hW3]; exact gr_auto
        have k3_0 : W3.cell? ⟨w.heap.size, 0, none⟩ = some (.int .i64 px) := by rw [hW3]; first | (simp [go_sem, *]; done) | (refine Gr.at ?_ (by assumption); exact gr_auto)
        have b3_0 : w.heap.size < W3.heap.size := World.block_lt_of_cell? _ _ k3_0
        have k3_1 : W3.cell? ⟨w.heap.size, 1, none⟩ = some (.int .i64 py) := by rw [hW3]; first | (simp [go_sem, *]; done) | (refine Gr.at ?_ (by assumption); exact gr_auto)
        have k3_2 : W3.cell? ⟨wr.heap.size, 0, none⟩ = some (.string di.nm) := by rw [hW3]; first | (simp [go_sem, *]; done) | (refine Gr.at ?_ (by assumption); exact gr_auto)
        have b3_2 : wr.heap.size < W3.heap.size := World.block_lt_of_cell? _ _ k3_2
        have k3_3 : W3.cell? ⟨wr.heap.size, 1, none⟩ = some (.int .i64 di.x) := by rw [hW3]; first | (simp [go_sem, *]; done) | (refine Gr.at ?_ (by assumption); exact gr_auto)
        have k3_4 : W3.cell? ⟨wr.heap.size, 2, none⟩ = some (.int .i64 di.y) := by rw [hW3]; first | (simp [go_sem, *]; done) | (refine Gr.at ?_ (by assumption); exact gr_auto)
        have k3_5 : W3.cell? ⟨gb, go + j * 3, none⟩ = some (.string dj.nm) := by rw [hW3]; first | (simp [go_sem, *]; done) | (refine Gr.at ?_ (by assumption); exact gr_auto)
        have b3_5 : gb < W3.heap.size := World.block_lt_of_cell? _ _ k3_5
        have k3_6 : W3.cell? ⟨gb, go + j * 3 + 1, none⟩ = some (.int .i64 dj.x) := by rw [hW3]; first | (simp [go_sem, *]; done) | (refine Gr.at ?_ (by assumption); exact gr_auto)
        have k3_7 : W3.cell? ⟨gb, go + j * 3 + 2, none⟩ = some (.int .i64 dj.y) := by rw [hW3]; first | (simp [go_sem, *]; done) | (refine Gr.at ?_ (by assumption); exact gr_auto)
        clear hW3
        have s3_0 : ∀ gw : GW W3, gw.1.cell? ⟨w.heap.size, 0, none⟩ = some (.int .i64 px) := fun gw => Gr.at gw.2 k3_0
        have s3_1 : ∀ gw : GW W3, gw.1.cell? ⟨w.heap.size, 1, none⟩ = some (.int .i64 py) := fun gw => Gr.at gw.2 k3_1
        have s3_2 : ∀ gw : GW W3, gw.1.cell? ⟨wr.heap.size, 0, none⟩ = some (.string di.nm) := fun gw => Gr.at gw.2 k3_2
        have s3_3 : ∀ gw : GW W3, gw.1.cell? ⟨wr.heap.size, 1, none⟩ = some (.int .i64 di.x) := fun gw => Gr.at gw.2 k3_3
        have s3_4 : ∀ gw : GW W3, gw.1.cell? ⟨wr.heap.size, 2, none⟩ = some (.int .i64 di.y) := fun gw => Gr.at gw.2 k3_4
        have s3_5 : ∀ gw : GW W3, gw.1.cell? ⟨gb, go + j * 3, none⟩ = some (.string dj.nm) := fun gw => Gr.at gw.2 k3_5
        have s3_6 : ∀ gw : GW W3, gw.1.cell? ⟨gb, go + j * 3 + 1, none⟩ = some (.int .i64 dj.x) := fun gw => Gr.at gw.2 k3_6
        have s3_7 : ∀ gw : GW W3, gw.1.cell? ⟨gb, go + j * 3 + 2, none⟩ = some (.int .i64 dj.y) := fun gw => Gr.at gw.2 k3_7
        have HS1 := Lib.hid (fun gw : GW W3 => gw_call (HI.out gw.1))
        have HS2 := Lib.hid (fun gw : GW W3 => gw_call (HJ.out gw.1))
        refine wp_region_gr (by kernel_rfl) (by kernel_rfl) ?_
        repeat (go_big_quiet_step (first | (go_at_call 66; with_reducible exact HS1.out _) | (go_at_call 66; with_reducible exact HS2.out _)))
        refine wpQuiet_nil ?_
        intro w4 hb4
        clear s3_0 s3_1 s3_2 s3_3 s3_4 s3_5 s3_6 s3_7
        have g4 : Gr w w4 := g3.trans hb4
        have k3_0 := Gr.at hb4 k3_0
        have k3_1 := Gr.at hb4 k3_1
        have k3_2 := Gr.at hb4 k3_2
        have k3_3 := Gr.at hb4 k3_3
        have k3_4 := Gr.at hb4 k3_4
        have k3_5 := Gr.at hb4 k3_5
        have k3_6 := Gr.at hb4 k3_6
        have k3_7 := Gr.at hb4 k3_7
        clear HS1 HS2
        go_wp2_with fail
        go_roundw
        case rel => exact ⟨i + 1, by omega, by go_num, by rw [HN.out], hg.trans (gb3_wr.trans hb4)⟩
        case measure => simp [intOf]; omega
      · have HN := Lib.hid (show ns (i + 1) = j by rw [hnn.out, HNi.out, if_neg hc])
        clear HNi hnn
        go_wp2_with fail
        (first | refine name_world ?_ | refine (show (∀ W, W = _ → Calls _ _ _ W _) → Calls _ _ _ _ _ from fun h => h _ rfl) ?_); intro W3 hW3
        have g3 : Gr w W3 := by rw [hW3]; exact gr_auto
        have gb3_wr : Gr wr W3 := by (try clear g3); rw [hW3]; exact gr_auto
        have k3_0 : W3.cell? ⟨w.heap.size, 0, none⟩ = some (.int .i64 px) := by rw [hW3]; first | (simp [go_sem, *]; done) | (refine Gr.at ?_ (by assumption); exact gr_auto)
        have b3_0 : w.heap.size < W3.heap.size := World.block_lt_of_cell? _ _ k3_0
        have k3_1 : W3.cell? ⟨w.heap.size, 1, none⟩ = some (.int .i64 py) := by rw [hW3]; first | (simp [go_sem, *]; done) | (refine Gr.at ?_ (by assumption); exact gr_auto)
        have k3_2 : W3.cell? ⟨wr.heap.size, 0, none⟩ = some (.string di.nm) := by rw [hW3]; first | (simp [go_sem, *]; done) | (refine Gr.at ?_ (by assumption); exact gr_auto)
        have b3_2 : wr.heap.size < W3.heap.size := World.block_lt_of_cell? _ _ k3_2
        have k3_3 : W3.cell? ⟨wr.heap.size, 1, none⟩ = some (.int .i64 di.x) := by rw [hW3]; first | (simp [go_sem, *]; done) | (refine Gr.at ?_ (by assumption); exact gr_auto)
        have k3_4 : W3.cell? ⟨wr.heap.size, 2, none⟩ = some (.int .i64 di.y) := by rw [hW3]; first | (simp [go_sem, *]; done) | (refine Gr.at ?_ (by assumption); exact gr_auto)
        have k3_5 : W3.cell? ⟨gb, go + j * 3, none⟩ = some (.string dj.nm) := by rw [hW3]; first | (simp [go_sem, *]; done) | (refine Gr.at ?_ (by assumption); exact gr_auto)
        have b3_5 : gb < W3.heap.size := World.block_lt_of_cell? _ _ k3_5
        have k3_6 : W3.cell? ⟨gb, go + j * 3 + 1, none⟩ = some (.int .i64 dj.x) := by rw [hW3]; first | (simp [go_sem, *]; done) | (refine Gr.at ?_ (by assumption); exact gr_auto)
        have k3_7 : W3.cell? ⟨gb, go + j * 3 + 2, none⟩ = some (.int .i64 dj.y) := by rw [hW3]; first | (simp [go_sem, *]; done) | (refine Gr.at ?_ (by assumption); exact gr_auto)
        clear hW3
        have s3_0 : ∀ gw : GW W3, gw.1.cell? ⟨w.heap.size, 0, none⟩ = some (.int .i64 px) := fun gw => Gr.at gw.2 k3_0
        have s3_1 : ∀ gw : GW W3, gw.1.cell? ⟨w.heap.size, 1, none⟩ = some (.int .i64 py) := fun gw => Gr.at gw.2 k3_1
        have s3_2 : ∀ gw : GW W3, gw.1.cell? ⟨wr.heap.size, 0, none⟩ = some (.string di.nm) := fun gw => Gr.at gw.2 k3_2
        have s3_3 : ∀ gw : GW W3, gw.1.cell? ⟨wr.heap.size, 1, none⟩ = some (.int .i64 di.x) := fun gw => Gr.at gw.2 k3_3
        have s3_4 : ∀ gw : GW W3, gw.1.cell? ⟨wr.heap.size, 2, none⟩ = some (.int .i64 di.y) := fun gw => Gr.at gw.2 k3_4
        have s3_5 : ∀ gw : GW W3, gw.1.cell? ⟨gb, go + j * 3, none⟩ = some (.string dj.nm) := fun gw => Gr.at gw.2 k3_5
        have s3_6 : ∀ gw : GW W3, gw.1.cell? ⟨gb, go + j * 3 + 1, none⟩ = some (.int .i64 dj.x) := fun gw => Gr.at gw.2 k3_6
        have s3_7 : ∀ gw : GW W3, gw.1.cell? ⟨gb, go + j * 3 + 2, none⟩ = some (.int .i64 dj.y) := fun gw => Gr.at gw.2 k3_7
        have HS1 := Lib.hid (fun gw : GW W3 => gw_call (HI.out gw.1))
        have HS2 := Lib.hid (fun gw : GW W3 => gw_call (HJ.out gw.1))
        refine wp_region_gr (by kernel_rfl) (by kernel_rfl) ?_
        repeat (go_big_quiet_step (first | (go_at_call 66; with_reducible exact HS1.out _) | (go_at_call 66; with_reducible exact HS2.out _)))
        refine wpQuiet_nil ?_
        intro w4 hb4
        clear s3_0 s3_1 s3_2 s3_3 s3_4 s3_5 s3_6 s3_7
        have g4 : Gr w w4 := g3.trans hb4
        have k3_0 := Gr.at hb4 k3_0
        have k3_1 := Gr.at hb4 k3_1
        have k3_2 := Gr.at hb4 k3_2
        have k3_3 := Gr.at hb4 k3_3
        have k3_4 := Gr.at hb4 k3_4
        have k3_5 := Gr.at hb4 k3_5
        have k3_6 := Gr.at hb4 k3_6
        have k3_7 := Gr.at hb4 k3_7
        clear HS1 HS2
        go_wp2_with fail
        go_roundw
        case rel => exact ⟨i + 1, by omega, by go_num, by rw [HN.out], hg.trans (gb3_wr.trans hb4)⟩
        case measure => simp [intOf]; omega
    · obtain rfl : n = i := by omega
      clear HD HPT HNS HNL HN0 HSQ HB HP
      go_wp2_with fail
      go_ret
      exact ⟨rfl, gr⟩

set_option maxRecDepth 100000 in
set_option maxHeartbeats 4000000 in
theorem rnear3_any (G : Ba.SlGauge) (px py : Int) (w : World) (h : G.At w) (hv : Ba.gasB G = true) (hp : Ba.ptT px py = true) : Calls Tryz.prog 81 #[.slice G.A G.n G.c, .agg #[.int .i64 px, .int .i64 py], .int .i64 3] w fun e w' => e = .returned (.int .i64 (Ba.nsT G px py G.n : Int)) ∧ Gr w w' := by
  obtain ⟨n1, n2, hpt⟩ := Ba.gas_parts hv
  have hA := h.hA (by omega)
  have HD := Lib.hid h.hD; have HPT := Lib.hid hpt; have hnc := h.hc; have hcb := h.hb
  have HNS := Lib.hid (fun i => show Ba.nsT G px py (i + 1) = if Ba.sqGT G px py i < Ba.sqGT G px py (Ba.nsT G px py i) then i else Ba.nsT G px py i from rfl)
  have HNL := Lib.hid (fun i (hi : i ≤ G.n) => show Ba.nsT G px py i < G.n from Ba.nsT_lt n1 hi)
  have HN0 := Lib.hid (show Ba.nsT G px py 0 = 0 from rfl)
  have HSQ := Lib.hid (fun i => show Ba.sqGT G px py i = Ba.sqT (G.D i).x (G.D i).y px py from rfl)
  have HB := Lib.hid (fun i (hi : i < G.n) => show 0 ≤ Ba.sqGT G px py i ∧ Ba.sqGT G px py i ≤ 20266198323167232 from Ba.sqT_bd (hpt i hi) hp)
  have HP := Lib.hid hp
  clear hv hpt h
  rw [hA]
  generalize Ba.nsT G px py = ns at *
  generalize Ba.sqGT G px py = sq at *
  clear hA
  obtain ⟨A, n, c, gb, go, D⟩ := G
  simp only at *
  clear A
  go_enter Tryz.func81, Tryz.ntmps81
  go_wp2_with fail
  refine name_world ?_; intro W0 hW0
  have g0 : Gr w W0 := by rw [hW0]; exact gr_auto
  have p0 : W0.cell? ⟨w.heap.size, 0, none⟩ = some (.int .i64 px) := by rw [hW0]; simp [go_sem]
  have p1 : W0.cell? ⟨w.heap.size, 1, none⟩ = some (.int .i64 py) := by rw [hW0]; simp [go_sem]
  clear hW0
  go_loopw [7, 8] (fun b x wr => ∃ i : Nat, i ≤ n ∧ x = .int .i64 (i : Int) ∧ b = .int .i64 (ns i : Int) ∧ Gr W0 wr) (fun _ x _ => n - (intOf x).toNat)
  case atStart => exact ⟨0, Nat.zero_le _, rfl, by rw [HN0.out]; rfl, Gr.refl _⟩
  case round =>
    obtain ⟨i, hi, rfl, rfl, hg⟩ := hrel
    have gr : Gr w wr := g0.trans hg
    by_cases hlt : i < n
    · have q0 := Gr.at hg p0; have q1 := Gr.at hg p1
      have hj := HNL.out i hi
      have HNi := Lib.hid (HNS.out i)
      have si := HB.out i hlt; have sj := HB.out (ns i) hj
      obtain ⟨a0, a1, a2⟩ := (HD.out i hlt).1.gr gr
      obtain ⟨b0, b1, b2⟩ := (HD.out (ns i) hj).1.gr gr
      have HI := Lib.hid (fun W => rsq3_any (D i).nm (D i).x (D i).y px py W (HD.out i hlt).2.2.2 (HPT.out i hlt) HP.out)
      have HJ := Lib.hid (fun W => rsq3_any (D (ns i)).nm (D (ns i)).x (D (ns i)).y px py W (HD.out _ hj).2.2.2 (HPT.out _ hj) HP.out)
      rw [← HSQ.out i] at HI
      rw [← HSQ.out (ns i)] at HJ
      have ib0 : (0 : Int) ≤ (i : Int) := by omega
      have ib1 : (i : Int) < (n : Int) := by omega
      clear HD HPT HNS HNL HN0 HSQ HB HP p0 p1
      obtain ⟨nn, hnn⟩ : ∃ z, ns (i + 1) = z := ⟨_, rfl⟩
      rw [hnn] at HNi
      replace hnn := Lib.hid hnn
      obtain ⟨j, hj'⟩ : ∃ z, ns i = z := ⟨_, rfl⟩
      rw [hj'] at hj HNi sj b0 b1 b2 HJ ⊢
      clear hj'
      have jb0 : (0 : Int) ≤ (j : Int) := by omega
      have jb1 : (j : Int) < (n : Int) := by omega
      generalize sq i = vi at *
      generalize sq j = vj at *
      generalize D i = di at *
      generalize D j = dj at *
      by_cases hc : vi < vj
      · have HN := Lib.hid (show ns (i + 1) = i by rw [hnn.out, HNi.out, if_pos hc])
        clear HNi hnn
        go_wp2_with fail
        (first | refine name_world ?_ | refine (show (∀ W, W = _ → Calls _ _ _ W _) → Calls _ _ _ _ _ from fun h => h _ rfl) ?_); intro W3 hW3
        have g3 : Gr w W3 := by rw [hW3]; exact gr_auto
        have gb3_wr : Gr wr W3 := by (try clear g3); rw [hW3]; exact gr_auto
        have k3_0 : W3.cell? ⟨w.heap.size, 0, none⟩ = some (.int .i64 px) := by rw [hW3]; first | (simp [go_sem, *]; done) | (refine Gr.at ?_ (by assumption); exact gr_auto)
        have b3_0 : w.heap.size < W3.heap.size := World.block_lt_of_cell? _ _ k3_0
        have k3_1 : W3.cell? ⟨w.heap.size, 1, none⟩ = some (.int .i64 py) := by rw [hW3]; first | (simp [go_sem, *]; done) | (refine Gr.at ?_ (by assumption); exact gr_auto)
        have k3_2 : W3.cell? ⟨gb, go + i * 3, none⟩ = some (.string di.nm) := by rw [hW3]; first | (simp [go_sem, *]; done) | (refine Gr.at ?_ (by assumption); exact gr_auto)
        have b3_2 : gb < W3.heap.size := World.block_lt_of_cell? _ _ k3_2
        have k3_3 : W3.cell? ⟨gb, go + i * 3 + 1, none⟩ = some (.int .i64 di.x) := by rw [hW3]; first | (simp [go_sem, *]; done) | (refine Gr.at ?_ (by assumption); exact gr_auto)
        have k3_4 : W3.cell? ⟨gb, go + i * 3 + 2, none⟩ = some (.int .i64 di.y) := by rw [hW3]; first | (simp [go_sem, *]; done) | (refine Gr.at ?_ (by assumption); exact gr_auto)
        have k3_5 : W3.cell? ⟨gb, go + j * 3, none⟩ = some (.string dj.nm) := by rw [hW3]; first | (simp [go_sem, *]; done) | (refine Gr.at ?_ (by assumption); exact gr_auto)
        have k3_6 : W3.cell? ⟨gb, go + j * 3 + 1, none⟩ = some (.int .i64 dj.x) := by rw [hW3]; first | (simp [go_sem, *]; done) | (refine Gr.at ?_ (by assumption); exact gr_auto)
        have k3_7 : W3.cell? ⟨gb, go + j * 3 + 2, none⟩ = some (.int .i64 dj.y) := by rw [hW3]; first | (simp [go_sem, *]; done) | (refine Gr.at ?_ (by assumption); exact gr_auto)
        clear hW3
        have s3_0 : ∀ gw : GW W3, gw.1.cell? ⟨w.heap.size, 0, none⟩ = some (.int .i64 px) := fun gw => Gr.at gw.2 k3_0
        have s3_1 : ∀ gw : GW W3, gw.1.cell? ⟨w.heap.size, 1, none⟩ = some (.int .i64 py) := fun gw => Gr.at gw.2 k3_1
        have s3_2 : ∀ gw : GW W3, gw.1.cell? ⟨gb, go + i * 3, none⟩ = some (.string di.nm) := fun gw => Gr.at gw.2 k3_2
        have s3_3 : ∀ gw : GW W3, gw.1.cell? ⟨gb, go + i * 3 + 1, none⟩ = some (.int .i64 di.x) := fun gw => Gr.at gw.2 k3_3
        have s3_4 : ∀ gw : GW W3, gw.1.cell? ⟨gb, go + i * 3 + 2, none⟩ = some (.int .i64 di.y) := fun gw => Gr.at gw.2 k3_4
        have s3_5 : ∀ gw : GW W3, gw.1.cell? ⟨gb, go + j * 3, none⟩ = some (.string dj.nm) := fun gw => Gr.at gw.2 k3_5
        have s3_6 : ∀ gw : GW W3, gw.1.cell? ⟨gb, go + j * 3 + 1, none⟩ = some (.int .i64 dj.x) := fun gw => Gr.at gw.2 k3_6
        have s3_7 : ∀ gw : GW W3, gw.1.cell? ⟨gb, go + j * 3 + 2, none⟩ = some (.int .i64 dj.y) := fun gw => Gr.at gw.2 k3_7
        have HS1 := Lib.hid (fun gw : GW W3 => gw_call (HI.out gw.1))
        have HS2 := Lib.hid (fun gw : GW W3 => gw_call (HJ.out gw.1))
        refine wp_region_gr (by kernel_rfl) (by kernel_rfl) ?_
        repeat (go_big_quiet_step (first | (go_at_call 140; with_reducible exact HS1.out _) | (go_at_call 140; with_reducible exact HS2.out _)))
        refine wpQuiet_nil ?_
        intro w4 hb4
        clear s3_0 s3_1 s3_2 s3_3 s3_4 s3_5 s3_6 s3_7
        have g4 : Gr w w4 := g3.trans hb4
        have k3_0 := Gr.at hb4 k3_0
        have k3_1 := Gr.at hb4 k3_1
        have k3_2 := Gr.at hb4 k3_2
        have k3_3 := Gr.at hb4 k3_3
        have k3_4 := Gr.at hb4 k3_4
        have k3_5 := Gr.at hb4 k3_5
        have k3_6 := Gr.at hb4 k3_6
        have k3_7 := Gr.at hb4 k3_7
        clear HS1 HS2
        go_wp2_with fail
        go_roundw
        case rel => exact ⟨i + 1, by omega, by go_num, by rw [HN.out], hg.trans (gb3_wr.trans hb4)⟩
        case measure => simp [intOf]; omega
      · have HN := Lib.hid (show ns (i + 1) = j by rw [hnn.out, HNi.out, if_neg hc])
        clear HNi hnn
        go_wp2_with fail
        (first | refine name_world ?_ | refine (show (∀ W, W = _ → Calls _ _ _ W _) → Calls _ _ _ _ _ from fun h => h _ rfl) ?_); intro W3 hW3
        have g3 : Gr w W3 := by rw [hW3]; exact gr_auto
        have gb3_wr : Gr wr W3 := by (try clear g3); rw [hW3]; exact gr_auto
        have k3_0 : W3.cell? ⟨w.heap.size, 0, none⟩ = some (.int .i64 px) := by rw [hW3]; first | (simp [go_sem, *]; done) | (refine Gr.at ?_ (by assumption); exact gr_auto)
        have b3_0 : w.heap.size < W3.heap.size := World.block_lt_of_cell? _ _ k3_0
        have k3_1 : W3.cell? ⟨w.heap.size, 1, none⟩ = some (.int .i64 py) := by rw [hW3]; first | (simp [go_sem, *]; done) | (refine Gr.at ?_ (by assumption); exact gr_auto)
        have k3_2 : W3.cell? ⟨gb, go + i * 3, none⟩ = some (.string di.nm) := by rw [hW3]; first | (simp [go_sem, *]; done) | (refine Gr.at ?_ (by assumption); exact gr_auto)
        have b3_2 : gb < W3.heap.size := World.block_lt_of_cell? _ _ k3_2
        have k3_3 : W3.cell? ⟨gb, go + i * 3 + 1, none⟩ = some (.int .i64 di.x) := by rw [hW3]; first | (simp [go_sem, *]; done) | (refine Gr.at ?_ (by assumption); exact gr_auto)
        have k3_4 : W3.cell? ⟨gb, go + i * 3 + 2, none⟩ = some (.int .i64 di.y) := by rw [hW3]; first | (simp [go_sem, *]; done) | (refine Gr.at ?_ (by assumption); exact gr_auto)
        have k3_5 : W3.cell? ⟨gb, go + j * 3, none⟩ = some (.string dj.nm) := by rw [hW3]; first | (simp [go_sem, *]; done) | (refine Gr.at ?_ (by assumption); exact gr_auto)
        have k3_6 : W3.cell? ⟨gb, go + j * 3 + 1, none⟩ = some (.int .i64 dj.x) := by rw [hW3]; first | (simp [go_sem, *]; done) | (refine Gr.at ?_ (by assumption); exact gr_auto)
        have k3_7 : W3.cell? ⟨gb, go + j * 3 + 2, none⟩ = some (.int .i64 dj.y) := by rw [hW3]; first | (simp [go_sem, *]; done) | (refine Gr.at ?_ (by assumption); exact gr_auto)
        clear hW3
        have s3_0 : ∀ gw : GW W3, gw.1.cell? ⟨w.heap.size, 0, none⟩ = some (.int .i64 px) := fun gw => Gr.at gw.2 k3_0
        have s3_1 : ∀ gw : GW W3, gw.1.cell? ⟨w.heap.size, 1, none⟩ = some (.int .i64 py) := fun gw => Gr.at gw.2 k3_1
        have s3_2 : ∀ gw : GW W3, gw.1.cell? ⟨gb, go + i * 3, none⟩ = some (.string di.nm) := fun gw => Gr.at gw.2 k3_2
        have s3_3 : ∀ gw : GW W3, gw.1.cell? ⟨gb, go + i * 3 + 1, none⟩ = some (.int .i64 di.x) := fun gw => Gr.at gw.2 k3_3
        have s3_4 : ∀ gw : GW W3, gw.1.cell? ⟨gb, go + i * 3 + 2, none⟩ = some (.int .i64 di.y) := fun gw => Gr.at gw.2 k3_4
        have s3_5 : ∀ gw : GW W3, gw.1.cell? ⟨gb, go + j * 3, none⟩ = some (.string dj.nm) := fun gw => Gr.at gw.2 k3_5
        have s3_6 : ∀ gw : GW W3, gw.1.cell? ⟨gb, go + j * 3 + 1, none⟩ = some (.int .i64 dj.x) := fun gw => Gr.at gw.2 k3_6
        have s3_7 : ∀ gw : GW W3, gw.1.cell? ⟨gb, go + j * 3 + 2, none⟩ = some (.int .i64 dj.y) := fun gw => Gr.at gw.2 k3_7
        have HS1 := Lib.hid (fun gw : GW W3 => gw_call (HI.out gw.1))
        have HS2 := Lib.hid (fun gw : GW W3 => gw_call (HJ.out gw.1))
        refine wp_region_gr (by kernel_rfl) (by kernel_rfl) ?_
        repeat (go_big_quiet_step (first | (go_at_call 140; with_reducible exact HS1.out _) | (go_at_call 140; with_reducible exact HS2.out _)))
        refine wpQuiet_nil ?_
        intro w4 hb4
        clear s3_0 s3_1 s3_2 s3_3 s3_4 s3_5 s3_6 s3_7
        have g4 : Gr w w4 := g3.trans hb4
        have k3_0 := Gr.at hb4 k3_0
        have k3_1 := Gr.at hb4 k3_1
        have k3_2 := Gr.at hb4 k3_2
        have k3_3 := Gr.at hb4 k3_3
        have k3_4 := Gr.at hb4 k3_4
        have k3_5 := Gr.at hb4 k3_5
        have k3_6 := Gr.at hb4 k3_6
        have k3_7 := Gr.at hb4 k3_7
        clear HS1 HS2
        go_wp2_with fail
        go_roundw
        case rel => exact ⟨i + 1, by omega, by go_num, by rw [HN.out], hg.trans (gb3_wr.trans hb4)⟩
        case measure => simp [intOf]; omega
    · obtain rfl : n = i := by omega
      clear HD HPT HNS HNL HN0 HSQ HB HP
      go_wp2_with fail
      go_ret
      exact ⟨rfl, gr⟩

end Go.Proofs.YtajhhplgcegodaaGreatDoor
