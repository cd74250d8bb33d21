/-
  Areal: the nearest gauge. (Printed by mkc.py.)
-/
import Derived.Test.YtajhhplgcegodaaGreatDoorArB
set_option linter.unusedVariables false
set_option linter.unusedSimpArgs false
namespace Go.Proofs.YtajhhplgcegodaaGreatDoor
open Go.RowKit
attribute [local go_sem ↓] Go.wp_at_zero Go.wp_at_succ
namespace Ba
/-- The square of a gauge's distance; the nearest of the first gauges. -/
def sqG (G : SlGauge) (px py : Int) (i : Nat) : Int := sqI (G.D i).x (G.D i).y px py
def nst (G : SlGauge) (px py : Int) : Nat → Nat
  | 0 => 0
  | i + 1 => if sqG G px py i < sqG G px py (nst G px py i) then i else nst G px py i
theorem nst_le {G : SlGauge} {px py : Int} : ∀ i, nst G px py (i + 1) ≤ i
  | 0 => by rw [nst]; split <;> simp [nst]
  | i + 1 => by
    have := nst_le (G := G) (px := px) (py := py) i
    rw [nst]; split <;> omega
theorem nst_lt {G : SlGauge} {px py : Int} {n i : Nat} (hn : 1 ≤ n) (hi : i ≤ n) : nst G px py i < n := by
  cases i with
  | zero => rw [nst]; omega
  | succ i => have := nst_le (G := G) (px := px) (py := py) i; omega
end Ba

set_option maxRecDepth 100000 in
set_option maxHeartbeats 4000000 in
theorem near_any (G : Ba.SlGauge) (px py : Int) (w : World) (h : G.At w) (hv : Ba.gasB G = true) (hp : Ba.ptB px py = true) : Calls Tryz.prog 36 #[.slice G.A G.n G.c, .agg #[.int .i64 px, .int .i64 py], .int .i64 1] w fun e w' => e = .returned (.int .i64 (Ba.nst G px py G.n : Int)) ∧ Gr w w' := by
  obtain ⟨n1, n2, hpt⟩ := Ba.gas_parts hv
  have hA := h.hA (by omega)
  have HD := Lib.hid h.hD; have HPT := Lib.hid hpt; have hnc := h.hc; have hcb := h.hb
  have HNS := Lib.hid (fun i => show Ba.nst G px py (i + 1) = if Ba.sqG G px py i < Ba.sqG G px py (Ba.nst G px py i) then i else Ba.nst G px py i from rfl)
  have HNL := Lib.hid (fun i (hi : i ≤ G.n) => show Ba.nst G px py i < G.n from Ba.nst_lt n1 hi)
  have HN0 := Lib.hid (show Ba.nst G px py 0 = 0 from rfl)
  have HSQ := Lib.hid (fun i => show Ba.sqG G px py i = Ba.sqI (G.D i).x (G.D i).y px py from rfl)
  have HB := Lib.hid (fun i (hi : i < G.n) => show 0 ≤ Ba.sqG G px py i ∧ Ba.sqG G px py i ≤ 2251799813685248 from Ba.sqI_bd (hpt i hi) hp)
  have HP := Lib.hid hp
  clear hv hpt h
  rw [hA]
  generalize Ba.nst G px py = ns at *
  generalize Ba.sqG G px py = sq at *
  clear hA
  obtain ⟨A, n, c, gb, go, D⟩ := G
  simp only at *
  clear A
  go_enter Tryz.func36, Tryz.ntmps36
  go_wp2_with fail
  refine name_world ?_; intro W0 hW0
  have g0 : Gr w W0 := by rw [hW0]; exact gr_auto
  have p0 : W0.cell? ⟨w.heap.size, 0, none⟩ = some (.int .i64 px) := by rw [hW0]; simp [go_sem]
  have p1 : W0.cell? ⟨w.heap.size, 1, none⟩ = some (.int .i64 py) := by rw [hW0]; simp [go_sem]
  clear hW0
  go_loopw [7, 12] (fun b x wr => ∃ i : Nat, i ≤ n ∧ x = .int .i64 (i : Int) ∧ b = .int .i64 (ns i : Int) ∧ Gr W0 wr) (fun _ x _ => n - (intOf x).toNat)
  case atStart => exact ⟨0, Nat.zero_le _, rfl, by rw [HN0.out]; rfl, Gr.refl _⟩
  case round =>
    obtain ⟨i, hi, rfl, rfl, hg⟩ := hrel
    have gr : Gr w wr := g0.trans hg
    by_cases hlt : i < n
    · have q0 := Gr.at hg p0; have q1 := Gr.at hg p1
      have hj := HNL.out i hi
      have HNi := Lib.hid (HNS.out i)
      have si := HB.out i hlt; have sj := HB.out (ns i) hj
      obtain ⟨a0, a1, a2⟩ := (HD.out i hlt).1.gr gr
      obtain ⟨b0, b1, b2⟩ := (HD.out (ns i) hj).1.gr gr
      have HI := Lib.hid (fun W => sq_any (D i).nm (D i).x (D i).y px py W (HD.out i hlt).2.2.2 (HPT.out i hlt) HP.out)
      have HJ := Lib.hid (fun W => sq_any (D (ns i)).nm (D (ns i)).x (D (ns i)).y px py W (HD.out _ hj).2.2.2 (HPT.out _ hj) HP.out)
      rw [← HSQ.out i] at HI
      rw [← HSQ.out (ns i)] at HJ
      have ib0 : (0 : Int) ≤ (i : Int) := by omega
      have ib1 : (i : Int) < (n : Int) := by omega
      clear HD HPT HNS HNL HN0 HSQ HB HP p0 p1
      obtain ⟨nn, hnn⟩ : ∃ z, ns (i + 1) = z := ⟨_, rfl⟩
      rw [hnn] at HNi
      replace hnn := Lib.hid hnn
      obtain ⟨j, hj'⟩ : ∃ z, ns i = z := ⟨_, rfl⟩
      rw [hj'] at hj HNi sj b0 b1 b2 HJ ⊢
      clear hj'
      have jb0 : (0 : Int) ≤ (j : Int) := by omega
      have jb1 : (j : Int) < (n : Int) := by omega
      generalize sq i = vi at *
      generalize sq j = vj at *
      generalize D i = di at *
      generalize D j = dj at *
      by_cases hc : vi < vj
      · have HN := Lib.hid (show ns (i + 1) = i by rw [hnn.out, HNi.out, if_pos hc])
        clear HNi hnn
        go_wp2_with fail
        (first | refine name_world ?_ | refine (show (∀ W, W = _ → Calls _ _ _ W _) → Calls _ _ _ _ _ from fun h => h _ rfl) ?_); intro W3 hW3
        have g3 : Gr w W3 := by rw [hW3]; exact gr_auto
        have gb3_wr : Gr wr W3 := by (try clear g3); rw [hW3]; exact gr_auto
        have k3_0 : W3.cell? ⟨w.heap.size, 0, none⟩ = some (.int .i64 px) := by rw [hW3]; first | (simp [go_sem, *]; done) | (refine Gr.at ?_ (by assumption); exact gr_auto)
        have b3_0 : w.heap.size < W3.heap.size := World.block_lt_of_cell? _ _ k3_0
        have k3_1 : W3.cell? ⟨w.heap.size, 1, none⟩ = some (.int .i64 py) := by rw [hW3]; first | (simp [go_sem, *]; done) | (refine Gr.at ?_ (by assumption); exact gr_auto)
        have k3_2 : W3.cell? ⟨wr.heap.size, 0, none⟩ = some (.string di.nm) := by rw [hW3]; first | (simp [go_sem, *]; done) | (refine Gr.at ?_ (by assumption); exact gr_auto)
        have b3_2 : wr.heap.size < W3.heap.size := World.block_lt_of_cell? _ _ k3_2
        have k3_3 : W3.cell? ⟨wr.heap.size, 1, none⟩ = some (.int .i64 di.x) := by rw [hW3]; first | (simp [go_sem, *]; done) | (refine Gr.at ?_ (by assumption); exact gr_auto)
        have k3_4 : W3.cell? ⟨wr.heap.size, 2, none⟩ = some (.int .i64 di.y) := by rw [hW3]; first | (simp [go_sem, *]; done) | (refine Gr.at ?_ (by assumption); exact gr_auto)
        have k3_5 : W3.cell? ⟨gb, go + j * 3, none⟩ = some (.string dj.nm) := by rw [hW3]; first | (simp [go_sem, *]; done) | (refine Gr.at ?_ (by assumption); exact gr_auto)
        have b3_5 : gb < W3.heap.size := World.block_lt_of_cell? _ _ k3_5
        have k3_6 : W3.cell? ⟨gb, go + j * 3 + 1, none⟩ = some (.int .i64 dj.x) := by rw [hW3]; first | (simp [go_sem, *]; done) | (refine Gr.at ?_ (by assumption); exact gr_auto)
        have k3_7 : W3.cell? ⟨gb, go + j * 3 + 2, none⟩ = some (.int .i64 dj.y) := by rw [hW3]; first | (simp [go_sem, *]; done) | (refine Gr.at ?_ (by assumption); exact gr_auto)
        clear hW3
        have s3_0 : ∀ gw : GW W3, gw.1.cell? ⟨w.heap.size, 0, none⟩ = some (.int .i64 px) := fun gw => Gr.at gw.2 k3_0
        have s3_1 : ∀ gw : GW W3, gw.1.cell? ⟨w.heap.size, 1, none⟩ = some (.int .i64 py) := fun gw => Gr.at gw.2 k3_1
        have s3_2 : ∀ gw : GW W3, gw.1.cell? ⟨wr.heap.size, 0, none⟩ = some (.string di.nm) := fun gw => Gr.at gw.2 k3_2
        have s3_3 : ∀ gw : GW W3, gw.1.cell? ⟨wr.heap.size, 1, none⟩ = some (.int .i64 di.x) := fun gw => Gr.at gw.2 k3_3
        have s3_4 : ∀ gw : GW W3, gw.1.cell? ⟨wr.heap.size, 2, none⟩ = some (.int .i64 di.y) := fun gw => Gr.at gw.2 k3_4
        have s3_5 : ∀ gw : GW W3, gw.1.cell? ⟨gb, go + j * 3, none⟩ = some (.string dj.nm) := fun gw => Gr.at gw.2 k3_5
        have s3_6 : ∀ gw : GW W3, gw.1.cell? ⟨gb, go + j * 3 + 1, none⟩ = some (.int .i64 dj.x) := fun gw => Gr.at gw.2 k3_6
        have s3_7 : ∀ gw : GW W3, gw.1.cell? ⟨gb, go + j * 3 + 2, none⟩ = some (.int .i64 dj.y) := fun gw => Gr.at gw.2 k3_7
        have HS1 := Lib.hid (fun gw : GW W3 => gw_call (HI.out gw.1))
        have HS2 := Lib.hid (fun gw : GW W3 => gw_call (HJ.out gw.1))
        refine wp_region_gr (by kernel_rfl) (by kernel_rfl) ?_
        repeat (go_big_quiet_step (first | (go_at_call 66; with_reducible exact HS1.out _) | (go_at_call 66; with_reducible exact HS2.out _)))
        refine wpQuiet_nil ?_
        intro w4 hb4
        clear s3_0 s3_1 s3_2 s3_3 s3_4 s3_5 s3_6 s3_7
        have g4 : Gr w w4 := g3.trans hb4
        have k3_0 := Gr.at hb4 k3_0
        have k3_1 := Gr.at hb4 k3_1
        have k3_2 := Gr.at hb4 k3_2
        have k3_3 := Gr.at hb4 k3_3
        have k3_4 := Gr.at hb4 k3_4
        have k3_5 := Gr.at hb4 k3_5
        have k3_6 := Gr.at hb4 k3_6
        have k3_7 := Gr.at hb4 k3_7
        clear HS1 HS2
        go_wp2_with fail
        go_roundw
        case rel => exact ⟨i + 1, by omega, by go_num, by rw [HN.out], hg.trans (gb3_wr.trans hb4)⟩
        case measure => simp [intOf]; omega
      · have HN := Lib.hid (show ns (i + 1) = j by rw [hnn.out, HNi.out, if_neg hc])
        clear HNi hnn
        go_wp2_with fail
        (first | refine name_world ?_ | refine (show (∀ W, W = _ → Calls _ _ _ W _) → Calls _ _ _ _ _ from fun h => h _ rfl) ?_); intro W3 hW3
        have g3 : Gr w W3 := by rw [hW3]; exact gr_auto
        have gb3_wr : Gr wr W3 := by (try clear g3); rw [hW3]; exact gr_auto
        have k3_0 : W3.cell? ⟨w.heap.size, 0, none⟩ = some (.int .i64 px) := by rw [hW3]; first | (simp [go_sem, *]; done) | (refine Gr.at ?_ (by assumption); exact gr_auto)
        have b3_0 : w.heap.size < W3.heap.size := World.block_lt_of_cell? _ _ k3_0
        have k3_1 : W3.cell? ⟨w.heap.size, 1, none⟩ = some (.int .i64 py) := by rw [hW3]; first | (simp [go_sem, *]; done) | (refine Gr.at ?_ (by assumption); exact gr_auto)
        have k3_2 : W3.cell? ⟨wr.heap.size, 0, none⟩ = some (.string di.nm) := by rw [hW3]; first | (simp [go_sem, *]; done) | (refine Gr.at ?_ (by assumption); exact gr_auto)
        have b3_2 : wr.heap.size < W3.heap.size := World.block_lt_of_cell? _ _ k3_2
        have k3_3 : W3.cell? ⟨wr.heap.size, 1, none⟩ = some (.int .i64 di.x) := by rw [hW3]; first | (simp [go_sem, *]; done) | (refine Gr.at ?_ (by assumption); exact gr_auto)
        have k3_4 : W3.cell? ⟨wr.heap.size, 2, none⟩ = some (.int .i64 di.y) := by rw [hW3]; first | (simp [go_sem, *]; done) | (refine Gr.at ?_ (by assumption); exact gr_auto)
        have k3_5 : W3.cell? ⟨gb, go + j * 3, none⟩ = some (.string dj.nm) := by rw [hW3]; first | (simp [go_sem, *]; done) | (refine Gr.at ?_ (by assumption); exact gr_auto)
        have b3_5 : gb < W3.heap.size := World.block_lt_of_cell? _ _ k3_5
        have k3_6 : W3.cell? ⟨gb, go + j * 3 + 1, none⟩ = some (.int .i64 dj.x) := by rw [hW3]; first | (simp [go_sem, *]; done) | (refine Gr.at ?_ (by assumption); exact gr_auto)
        have k3_7 : W3.cell? ⟨gb, go + j * 3 + 2, none⟩ = some (.int .i64 dj.y) := by rw [hW3]; first | (simp [go_sem, *]; done) | (refine Gr.at ?_ (by assumption); exact gr_auto)
        clear hW3
        have s3_0 : ∀ gw : GW W3, gw.1.cell? ⟨w.heap.size, 0, none⟩ = some (.int .i64 px) := fun gw => Gr.at gw.2 k3_0
        have s3_1 : ∀ gw : GW W3, gw.1.cell? ⟨w.heap.size, 1, none⟩ = some (.int .i64 py) := fun gw => Gr.at gw.2 k3_1
        have s3_2 : ∀ gw : GW W3, gw.1.cell? ⟨wr.heap.size, 0, none⟩ = some (.string di.nm) := fun gw => Gr.at gw.2 k3_2
        have s3_3 : ∀ gw : GW W3, gw.1.cell? ⟨wr.heap.size, 1, none⟩ = some (.int .i64 di.x) := fun gw => Gr.at gw.2 k3_3
        have s3_4 : ∀ gw : GW W3, gw.1.cell? ⟨wr.heap.size, 2, none⟩ = some (.int .i64 di.y) := fun gw => Gr.at gw.2 k3_4
        have s3_5 : ∀ gw : GW W3, gw.1.cell? ⟨gb, go + j * 3, none⟩ = some (.string dj.nm) := fun gw => Gr.at gw.2 k3_5
        have s3_6 : ∀ gw : GW W3, gw.1.cell? ⟨gb, go + j * 3 + 1, none⟩ = some (.int .i64 dj.x) := fun gw => Gr.at gw.2 k3_6
        have s3_7 : ∀ gw : GW W3, gw.1.cell? ⟨gb, go + j * 3 + 2, none⟩ = some (.int .i64 dj.y) := fun gw => Gr.at gw.2 k3_7
        have HS1 := Lib.hid (fun gw : GW W3 => gw_call (HI.out gw.1))
        have HS2 := Lib.hid (fun gw : GW W3 => gw_call (HJ.out gw.1))
        refine wp_region_gr (by kernel_rfl) (by kernel_rfl) ?_
        repeat (go_big_quiet_step (first | (go_at_call 66; with_reducible exact HS1.out _) | (go_at_call 66; with_reducible exact HS2.out _)))
        refine wpQuiet_nil ?_
        intro w4 hb4
        clear s3_0 s3_1 s3_2 s3_3 s3_4 s3_5 s3_6 s3_7
        have g4 : Gr w w4 := g3.trans hb4
        have k3_0 := Gr.at hb4 k3_0
        have k3_1 := Gr.at hb4 k3_1
        have k3_2 := Gr.at hb4 k3_2
        have k3_3 := Gr.at hb4 k3_3
        have k3_4 := Gr.at hb4 k3_4
        have k3_5 := Gr.at hb4 k3_5
        have k3_6 := Gr.at hb4 k3_6
        have k3_7 := Gr.at hb4 k3_7
        clear HS1 HS2
        go_wp2_with fail
        go_roundw
        case rel => exact ⟨i + 1, by omega, by go_num, by rw [HN.out], hg.trans (gb3_wr.trans hb4)⟩
        case measure => simp [intOf]; omega
    · obtain rfl : n = i := by omega
      clear HD HPT HNS HNL HN0 HSQ HB HP
      go_wp2_with fail
      go_ret
      exact ⟨rfl, gr⟩

set_option maxRecDepth 100000 in
set_option maxHeartbeats 4000000 in
theorem rnear_any (G : Ba.SlGauge) (px py : Int) (w : World) (h : G.At w) (hv : Ba.gasB G = true) (hp : Ba.ptB px py = true) : Calls Tryz.prog 81 #[.slice G.A G.n G.c, .agg #[.int .i64 px, .int .i64 py], .int .i64 1] w fun e w' => e = .returned (.int .i64 (Ba.nst G px py G.n : Int)) ∧ Gr w w' := by
  obtain ⟨n1, n2, hpt⟩ := Ba.gas_parts hv
  have hA := h.hA (by omega)
  have HD := Lib.hid h.hD; have HPT := Lib.hid hpt; have hnc := h.hc; have hcb := h.hb
  have HNS := Lib.hid (fun i => show Ba.nst G px py (i + 1) = if Ba.sqG G px py i < Ba.sqG G px py (Ba.nst G px py i) then i else Ba.nst G px py i from rfl)
  have HNL := Lib.hid (fun i (hi : i ≤ G.n) => show Ba.nst G px py i < G.n from Ba.nst_lt n1 hi)
  have HN0 := Lib.hid (show Ba.nst G px py 0 = 0 from rfl)
  have HSQ := Lib.hid (fun i => show Ba.sqG G px py i = Ba.sqI (G.D i).x (G.D i).y px py from rfl)
  have HB := Lib.hid (fun i (hi : i < G.n) => show 0 ≤ Ba.sqG G px py i ∧ Ba.sqG G px py i ≤ 2251799813685248 from Ba.sqI_bd (hpt i hi) hp)
  have HP := Lib.hid hp
  clear hv hpt h
  rw [hA]
  generalize Ba.nst G px py = ns at *
  generalize Ba.sqG G px py = sq at *
  clear hA
  obtain ⟨A, n, c, gb, go, D⟩ := G
  simp only at *
  clear A
  go_enter Tryz.func81, Tryz.ntmps81
  go_wp2_with fail
  refine name_world ?_; intro W0 hW0
  have g0 : Gr w W0 := by rw [hW0]; exact gr_auto
  have p0 : W0.cell? ⟨w.heap.size, 0, none⟩ = some (.int .i64 px) := by rw [hW0]; simp [go_sem]
  have p1 : W0.cell? ⟨w.heap.size, 1, none⟩ = some (.int .i64 py) := by rw [hW0]; simp [go_sem]
  clear hW0
  go_loopw [7, 8] (fun b x wr => ∃ i : Nat, i ≤ n ∧ x = .int .i64 (i : Int) ∧ b = .int .i64 (ns i : Int) ∧ Gr W0 wr) (fun _ x _ => n - (intOf x).toNat)
  case atStart => exact ⟨0, Nat.zero_le _, rfl, by rw [HN0.out]; rfl, Gr.refl _⟩
  case round =>
    obtain ⟨i, hi, rfl, rfl, hg⟩ := hrel
    have gr : Gr w wr := g0.trans hg
    by_cases hlt : i < n
    · have q0 := Gr.at hg p0; have q1 := Gr.at hg p1
      have hj := HNL.out i hi
      have HNi := Lib.hid (HNS.out i)
      have si := HB.out i hlt; have sj := HB.out (ns i) hj
      obtain ⟨a0, a1, a2⟩ := (HD.out i hlt).1.gr gr
      obtain ⟨b0, b1, b2⟩ := (HD.out (ns i) hj).1.gr gr
      have HI := Lib.hid (fun W => rsq_any (D i).nm (D i).x (D i).y px py W (HD.out i hlt).2.2.2 (HPT.out i hlt) HP.out)
      have HJ := Lib.hid (fun W => rsq_any (D (ns i)).nm (D (ns i)).x (D (ns i)).y px py W (HD.out _ hj).2.2.2 (HPT.out _ hj) HP.out)
      rw [← HSQ.out i] at HI
      rw [← HSQ.out (ns i)] at HJ
      have ib0 : (0 : Int) ≤ (i : Int) := by omega
      have ib1 : (i : Int) < (n : Int) := by omega
      clear HD HPT HNS HNL HN0 HSQ HB HP p0 p1
      obtain ⟨nn, hnn⟩ : ∃ z, ns (i + 1) = z := ⟨_, rfl⟩
      rw [hnn] at HNi
      replace hnn := Lib.hid hnn
      obtain ⟨j, hj'⟩ : ∃ z, ns i = z := ⟨_, rfl⟩
      rw [hj'] at hj HNi sj b0 b1 b2 HJ ⊢
      clear hj'
      have jb0 : (0 : Int) ≤ (j : Int) := by omega
      have jb1 : (j : Int) < (n : Int) := by omega
      generalize sq i = vi at *
      generalize sq j = vj at *
      generalize D i = di at *
      generalize D j = dj at *
      by_cases hc : vi < vj
      · have HN := Lib.hid (show ns (i + 1) = i by rw [hnn.out, HNi.out, if_pos hc])
        clear HNi hnn
        go_wp2_with fail
        (first | refine name_world ?_ | refine (show (∀ W, W = _ → Calls _ _ _ W _) → Calls _ _ _ _ _ from fun h => h _ rfl) ?_); intro W3 hW3
        have g3 : Gr w W3 := by rw [hW3]; exact gr_auto
        have gb3_wr : Gr wr W3 := by (try clear g3); rw [hW3]; exact gr_auto
        have k3_0 : W3.cell? ⟨w.heap.size, 0, none⟩ = some (.int .i64 px) := by rw [hW3]; first | (simp [go_sem, *]; done) | (refine Gr.at ?_ (by assumption); exact gr_auto)
        have b3_0 : w.heap.size < W3.heap.size := World.block_lt_of_cell? _ _ k3_0
        have k3_1 : W3.cell? ⟨w.heap.size, 1, none⟩ = some (.int .i64 py) := by rw [hW3]; first | (simp [go_sem, *]; done) | (refine Gr.at ?_ (by assumption); exact gr_auto)
        have k3_2 : W3.cell? ⟨gb, go + i * 3, none⟩ = some (.string di.nm) := by rw [hW3]; first | (simp [go_sem, *]; done) | (refine Gr.at ?_ (by assumption); exact gr_auto)
        have b3_2 : gb < W3.heap.size := World.block_lt_of_cell? _ _ k3_2
        have k3_3 : W3.cell? ⟨gb, go + i * 3 + 1, none⟩ = some (.int .i64 di.x) := by rw [hW3]; first | (simp [go_sem, *]; done) | (refine Gr.at ?_ (by assumption); exact gr_auto)
        have k3_4 : W3.cell? ⟨gb, go + i * 3 + 2, none⟩ = some (.int .i64 di.y) := by rw [hW3]; first | (simp [go_sem, *]; done) | (refine Gr.at ?_ (by assumption); exact gr_auto)
        have k3_5 : W3.cell? ⟨gb, go + j * 3, none⟩ = some (.string dj.nm) := by rw [hW3]; first | (simp [go_sem, *]; done) | (refine Gr.at ?_ (by assumption); exact gr_auto)
        have k3_6 : W3.cell? ⟨gb, go + j * 3 + 1, none⟩ = some (.int .i64 dj.x) := by rw [hW3]; first | (simp [go_sem, *]; done) | (refine Gr.at ?_ (by assumption); exact gr_auto)
        have k3_7 : W3.cell? ⟨gb, go + j * 3 + 2, none⟩ = some (.int .i64 dj.y) := by rw [hW3]; first | (simp [go_sem, *]; done) | (refine Gr.at ?_ (by assumption); exact gr_auto)
        clear hW3
        have s3_0 : ∀ gw : GW W3, gw.1.cell? ⟨w.heap.size, 0, none⟩ = some (.int .i64 px) := fun gw => Gr.at gw.2 k3_0
        have s3_1 : ∀ gw : GW W3, gw.1.cell? ⟨w.heap.size, 1, none⟩ = some (.int .i64 py) := fun gw => Gr.at gw.2 k3_1
        have s3_2 : ∀ gw : GW W3, gw.1.cell? ⟨gb, go + i * 3, none⟩ = some (.string di.nm) := fun gw => Gr.at gw.2 k3_2
        have s3_3 : ∀ gw : GW W3, gw.1.cell? ⟨gb, go + i * 3 + 1, none⟩ = some (.int .i64 di.x) := fun gw => Gr.at gw.2 k3_3
        have s3_4 : ∀ gw : GW W3, gw.1.cell? ⟨gb, go + i * 3 + 2, none⟩ = some (.int .i64 di.y) := fun gw => Gr.at gw.2 k3_4
        have s3_5 : ∀ gw : GW W3, gw.1.cell? ⟨gb, go + j * 3, none⟩ = some (.string dj.nm) := fun gw => Gr.at gw.2 k3_5
        have s3_6 : ∀ gw : GW W3, gw.1.cell? ⟨gb, go + j * 3 + 1, none⟩ = some (.int .i64 dj.x) := fun gw => Gr.at gw.2 k3_6
        have s3_7 : ∀ gw : GW W3, gw.1.cell? ⟨gb, go + j * 3 + 2, none⟩ = some (.int .i64 dj.y) := fun gw => Gr.at gw.2 k3_7
        have HS1 := Lib.hid (fun gw : GW W3 => gw_call (HI.out gw.1))
        have HS2 := Lib.hid (fun gw : GW W3 => gw_call (HJ.out gw.1))
        refine wp_region_gr (by kernel_rfl) (by kernel_rfl) ?_
        repeat (go_big_quiet_step (first | (go_at_call 140; with_reducible exact HS1.out _) | (go_at_call 140; with_reducible exact HS2.out _)))
        refine wpQuiet_nil ?_
        intro w4 hb4
        clear s3_0 s3_1 s3_2 s3_3 s3_4 s3_5 s3_6 s3_7
        have g4 : Gr w w4 := g3.trans hb4
        have k3_0 := Gr.at hb4 k3_0
        have k3_1 := Gr.at hb4 k3_1
        have k3_2 := Gr.at hb4 k3_2
        have k3_3 := Gr.at hb4 k3_3
        have k3_4 := Gr.at hb4 k3_4
        have k3_5 := Gr.at hb4 k3_5
        have k3_6 := Gr.at hb4 k3_6
        have k3_7 := Gr.at hb4 k3_7
        clear HS1 HS2
        go_wp2_with fail
        go_roundw
        case rel => exact ⟨i + 1, by omega, by go_num, by rw [HN.out], hg.trans (gb3_wr.trans hb4)⟩
        case measure => simp [intOf]; omega
      · have HN := Lib.hid (show ns (i + 1) = j by rw [hnn.out, HNi.out, if_neg hc])
        clear HNi hnn
        go_wp2_with fail
        (first | refine name_world ?_ | refine (show (∀ W, W = _ → Calls _ _ _ W _) → Calls _ _ _ _ _ from fun h => h _ rfl) ?_); intro W3 hW3
        have g3 : Gr w W3 := by rw [hW3]; exact gr_auto
        have gb3_wr : Gr wr W3 := by (try clear g3); rw [hW3]; exact gr_auto
        have k3_0 : W3.cell? ⟨w.heap.size, 0, none⟩ = some (.int .i64 px) := by rw [hW3]; first | (simp [go_sem, *]; done) | (refine Gr.at ?_ (by assumption); exact gr_auto)
        have b3_0 : w.heap.size < W3.heap.size := World.block_lt_of_cell? _ _ k3_0
        have k3_1 : W3.cell? ⟨w.heap.size, 1, none⟩ = some (.int .i64 py) := by rw [hW3]; first | (simp [go_sem, *]; done) | (refine Gr.at ?_ (by assumption); exact gr_auto)
        have k3_2 : W3.cell? ⟨gb, go + i * 3, none⟩ = some (.string di.nm) := by rw [hW3]; first | (simp [go_sem, *]; done) | (refine Gr.at ?_ (by assumption); exact gr_auto)
        have b3_2 : gb < W3.heap.size := World.block_lt_of_cell? _ _ k3_2
        have k3_3 : W3.cell? ⟨gb, go + i * 3 + 1, none⟩ = some (.int .i64 di.x) := by rw [hW3]; first | (simp [go_sem, *]; done) | (refine Gr.at ?_ (by assumption); exact gr_auto)
        have k3_4 : W3.cell? ⟨gb, go + i * 3 + 2, none⟩ = some (.int .i64 di.y) := by rw [hW3]; first | (simp [go_sem, *]; done) | (refine Gr.at ?_ (by assumption); exact gr_auto)
        have k3_5 : W3.cell? ⟨gb, go + j * 3, none⟩ = some (.string dj.nm) := by rw [hW3]; first | (simp [go_sem, *]; done) | (refine Gr.at ?_ (by assumption); exact gr_auto)
        have k3_6 : W3.cell? ⟨gb, go + j * 3 + 1, none⟩ = some (.int .i64 dj.x) := by rw [hW3]; first | (simp [go_sem, *]; done) | (refine Gr.at ?_ (by assumption); exact gr_auto)
        have k3_7 : W3.cell? ⟨gb, go + j * 3 + 2, none⟩ = some (.int .i64 dj.y) := by rw [hW3]; first | (simp [go_sem, *]; done) | (refine Gr.at ?_ (by assumption); exact gr_auto)
        clear hW3
        have s3_0 : ∀ gw : GW W3, gw.1.cell? ⟨w.heap.size, 0, none⟩ = some (.int .i64 px) := fun gw => Gr.at gw.2 k3_0
        have s3_1 : ∀ gw : GW W3, gw.1.cell? ⟨w.heap.size, 1, none⟩ = some (.int .i64 py) := fun gw => Gr.at gw.2 k3_1
        have s3_2 : ∀ gw : GW W3, gw.1.cell? ⟨gb, go + i * 3, none⟩ = some (.string di.nm) := fun gw => Gr.at gw.2 k3_2
        have s3_3 : ∀ gw : GW W3, gw.1.cell? ⟨gb, go + i * 3 + 1, none⟩ = some (.int .i64 di.x) := fun gw => Gr.at gw.2 k3_3
        have s3_4 : ∀ gw : GW W3, gw.1.cell? ⟨gb, go + i * 3 + 2, none⟩ = some (.int .i64 di.y) := fun gw => Gr.at gw.2 k3_4
        have s3_5 : ∀ gw : GW W3, gw.1.cell? ⟨gb, go + j * 3, none⟩ = some (.string dj.nm) := fun gw => Gr.at gw.2 k3_5
        have s3_6 : ∀ gw : GW W3, gw.1.cell? ⟨gb, go + j * 3 + 1, none⟩ = some (.int .i64 dj.x) := fun gw => Gr.at gw.2 k3_6
        have s3_7 : ∀ gw : GW W3, gw.1.cell? ⟨gb, go + j * 3 + 2, none⟩ = some (.int .i64 dj.y) := fun gw => Gr.at gw.2 k3_7
        have HS1 := Lib.hid (fun gw : GW W3 => gw_call (HI.out gw.1))
        have HS2 := Lib.hid (fun gw : GW W3 => gw_call (HJ.out gw.1))
        refine wp_region_gr (by kernel_rfl) (by kernel_rfl) ?_
        repeat (go_big_quiet_step (first | (go_at_call 140; with_reducible exact HS1.out _) | (go_at_call 140; with_reducible exact HS2.out _)))
        refine wpQuiet_nil ?_
        intro w4 hb4
        clear s3_0 s3_1 s3_2 s3_3 s3_4 s3_5 s3_6 s3_7
        have g4 : Gr w w4 := g3.trans hb4
        have k3_0 := Gr.at hb4 k3_0
        have k3_1 := Gr.at hb4 k3_1
        have k3_2 := Gr.at hb4 k3_2
        have k3_3 := Gr.at hb4 k3_3
        have k3_4 := Gr.at hb4 k3_4
        have k3_5 := Gr.at hb4 k3_5
        have k3_6 := Gr.at hb4 k3_6
        have k3_7 := Gr.at hb4 k3_7
        clear HS1 HS2
        go_wp2_with fail
        go_roundw
        case rel => exact ⟨i + 1, by omega, by go_num, by rw [HN.out], hg.trans (gb3_wr.trans hb4)⟩
        case measure => simp [intOf]; omega
    · obtain rfl : n = i := by omega
      clear HD HPT HNS HNL HN0 HSQ HB HP
      go_wp2_with fail
      go_ret
      exact ⟨rfl, gr⟩

end Go.Proofs.YtajhhplgcegodaaGreatDoor
