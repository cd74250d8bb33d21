/-
  Areal: the reference's Inverse. (Printed by mkm.py.)
-/
import Derived.Test.YtnfjebfmfjpepaaArD
import Derived.Test.YtnfjebfmfjpepaaArL
import Derived.Test.YtnfjebfmfjpepaaArH
import Derived.Test.YtnfjebfmfjpepaaArWf
set_option linter.unusedVariables false
set_option linter.unusedSimpArgs false
namespace Go.Proofs.Ytnfjebfmfjpepaa
open Go.RowKit
attribute [local go_sem ↓] Go.wp_at_zero Go.wp_at_succ
set_option maxHeartbeats 2000000 in
theorem rfloorof_any (n m d q : Int) (w : World) (n0 : -9223372036854775808 ≤ n) (n1 : n ≤ 9223372036854775807) (m0 : -9223372036854775808 ≤ m) (m1 : m ≤ 9223372036854775807) (d0 : 0 < d) (d1 : d ≤ 9223372036854775807) (hq : n * m / d = q) (q0 : 0 ≤ q) (q1 : q ≤ 9223372036854775807) : Calls Try.prog 42 #[.int .i64 n, .int .i64 m, .int .i64 d] w fun e w' => e = .returned (.int .i64 q) ∧ Gr w w' := by
  have mb := Wd.mul_bound (Wd.mag_le n0 n1) (Wd.mag_le m0 m1)
  have ph : Wd.hi (n * m) ≤ 18446744073709551614 := by have := Wd.mag_nonneg (n * m); unfold Wd.hi; omega
  have bh : Wd.hi d ≤ 18446744073709551615 := by have h1 := Wd.mag_le (show -9223372036854775808 ≤ d by omega) d1; have h2 := Wd.mag_nonneg d; unfold Wd.hi; omega
  have HT := Lib.hid (fun W => rtimes_any n m W n0 n1 m0 m1)
  have HO := Lib.hid (fun W => rofint_any d W (by omega) d1)
  have HD := Lib.hid (fun W => rdown_any (n * m) d W ph bh (by omega))
  have eq : Wd.flr (n * m) d = q := by unfold Wd.flr; rw [if_pos d0]; exact hq
  have HI := Lib.hid (fun W => risint_any q W)
  have fq : Wd.fits q = true := by unfold Wd.fits; simp; omega
  rw [Wd.low_fits fq, fq] at HI
  rw [eq] at HD
  clear mb ph bh n0 n1 m0 m1 d0 d1 eq fq hq
  generalize n * m = p at *
  go_enter Try.func42, Try.ntmps42
  go_wp2_with fail
  refine (HT.out _).mono ?_
  rintro e w1 ⟨rfl, hb1⟩
  go_wp2_with fail
  refine (HO.out _).mono ?_
  rintro e w2 ⟨rfl, hb2⟩
  go_wp2_with fail
  refine (HD.out _).mono ?_
  rintro e w3 ⟨rfl, hb3⟩
  go_wp2_with fail
  refine (HI.out _).mono ?_
  rintro e w4 ⟨rfl, hb4⟩
  clear HT HO HD HI
  go_wp2_with fail
  go_ret
  exact ⟨rfl, hb1.trans (hb2.trans (hb3.trans hb4))⟩
set_option maxRecDepth 100000 in
set_option maxHeartbeats 4000000 in
theorem rinv_no (G : Ba.SlGauge) (px py : Int) (w : World) (h : G.At w) (he : Ba.neE G px py ≠ 0) : Calls Try.prog 13 #[.slice G.A G.n G.c, .agg #[.int .i64 px, .int .i64 py]] w fun e w' => e = .returned (.tuple #[.slice none 0 0, .int .i64 1]) ∧ Gr w w' := by
  have HV := Lib.hid (fun W (hh : Gr w W) => rgvals_any G W (h.gr hh)); have HP := Lib.hid (fun W => rpvalid_any px py W)
  have hm := Nat.le_trans h.hc h.hb
  unfold Ba.neE at he
  cases t0 : Ba.gasB G
  · rw [t0] at HV
    clear he t0 h
    generalize G.A = A at *; generalize G.n = n at *; generalize G.c = c at *
    go_enter Try.func13, Try.ntmps13
    go_wp2_with fail
    (first | refine name_world ?_ | refine (show (∀ W, W = _ → Calls _ _ _ W _) → Calls _ _ _ _ _ from fun h => h _ rfl) ?_); intro W1 hW1
    have g1 : Gr w W1 := by rw [hW1]; exact gr_auto
    have k1_0 : W1.cell? ⟨w.heap.size, 0, none⟩ = some (.int .i64 px) := by rw [hW1]; first | (simp [go_sem, *]; done) | (refine Gr.at ?_ (by assumption); exact gr_auto)
    have b1_0 : w.heap.size < W1.heap.size := World.block_lt_of_cell? _ _ k1_0
    have k1_1 : W1.cell? ⟨w.heap.size, 1, none⟩ = some (.int .i64 py) := by rw [hW1]; first | (simp [go_sem, *]; done) | (refine Gr.at ?_ (by assumption); exact gr_auto)
    clear hW1
    refine (HV.out _ g1).mono ?_
    rintro e w2 ⟨rfl, hb2⟩
    have g2 := g1.trans hb2
    have d0 := Gr.at hb2 k1_0; have d1 := Gr.at hb2 k1_1
    clear HV k1_0 k1_1
    go_wp2_with fail
    refine bodyPost_ret (by simp [results, Try.results13, go_sem]; try rfl) rfl ?_
    exact ⟨rfl, g2⟩
  · have t1 : Ba.ptB px py = false := by
      cases t1 : Ba.ptB px py
      · rfl
      · rw [t0, t1] at he; exact absurd rfl he
    rw [t0] at HV
    rw [t1] at HP
    clear he t0 t1 h
    generalize G.A = A at *; generalize G.n = n at *; generalize G.c = c at *
    go_enter Try.func13, Try.ntmps13
    go_wp2_with fail
    (first | refine name_world ?_ | refine (show (∀ W, W = _ → Calls _ _ _ W _) → Calls _ _ _ _ _ from fun h => h _ rfl) ?_); intro W1 hW1
    have g1 : Gr w W1 := by rw [hW1]; exact gr_auto
    have k1_0 : W1.cell? ⟨w.heap.size, 0, none⟩ = some (.int .i64 px) := by rw [hW1]; first | (simp [go_sem, *]; done) | (refine Gr.at ?_ (by assumption); exact gr_auto)
    have b1_0 : w.heap.size < W1.heap.size := World.block_lt_of_cell? _ _ k1_0
    have k1_1 : W1.cell? ⟨w.heap.size, 1, none⟩ = some (.int .i64 py) := by rw [hW1]; first | (simp [go_sem, *]; done) | (refine Gr.at ?_ (by assumption); exact gr_auto)
    clear hW1
    refine (HV.out _ g1).mono ?_
    rintro e w2 ⟨rfl, hb2⟩
    have g2 := g1.trans hb2
    have d0 := Gr.at hb2 k1_0; have d1 := Gr.at hb2 k1_1
    clear HV k1_0 k1_1
    go_wp2_with fail
    refine (HP.out _).mono ?_
    rintro e w3 ⟨rfl, hb3⟩
    have g3 := g2.trans hb3
    replace d0 := Gr.at hb3 d0; replace d1 := Gr.at hb3 d1
    clear HP
    go_wp2_with fail
    refine bodyPost_ret (by simp [results, Try.results13, go_sem]; try rfl) rfl ?_
    exact ⟨rfl, g3⟩

set_option maxRecDepth 100000 in
set_option maxHeartbeats 4000000 in
theorem rinv_zero (G : Ba.SlGauge) (px py : Int) (w : World) (h : G.At w) (hv : Ba.gasB G = true) (hp : Ba.ptB px py = true) (h0 : Ba.sqG G px py (Ba.nst G px py G.n) = 0) : Calls Try.prog 13 #[.slice G.A G.n G.c, .agg #[.int .i64 px, .int .i64 py]] w (RetInv G px py w) := by
  have hq0 := Lib.hid h0
  clear h0
  obtain ⟨n1, n2, hpt⟩ := Ba.gas_parts hv
  have HV := Lib.hid (fun W (hh : Gr w W) => rgvals_any G W (h.gr hh)); have HP := Lib.hid (fun W => rpvalid_any px py W)
  have HNE := Lib.hid (fun W (hh : Gr w W) => rne_any G px py W (h.gr hh) hv hp)
  rw [hv] at HV
  rw [hp] at HP
  have hA := h.hA (by omega)
  have HD := Lib.hid h.hD; have hnc := h.hc; have hcb := h.hb
  have hj : Ba.nst G px py G.n < G.n := Ba.nst_lt n1 (Nat.le_refl _)
  have HSQ := Lib.hid (fun i (hi : i < G.n) W => rsq_any (G.D i).nm (G.D i).x (G.D i).y px py W (h.hD i hi).2.2.2 (hpt i hi) hp)
  have HB := Lib.hid (fun i (hi : i < G.n) => show 0 ≤ Ba.sqG G px py i ∧ Ba.sqG G px py i ≤ 2251799813685248 from Ba.sqI_bd (hpt i hi) hp)
  have HMN := Lib.hid (fun k (hk : k < G.n) => Ba.nst_min (G := G) (px := px) (py := py) G.n k hk)
  have HX := Lib.hid (fun i => show Ba.ivX G px py i = if Ba.sqG G px py (Ba.nst G px py G.n) = 0 then (if i = Ba.nst G px py G.n then 1073741824 else 0) else 1073741824 * Ba.sqG G px py (Ba.nst G px py G.n) / Ba.sqG G px py i from rfl)
  have HS2 := Lib.hid (fun i => show Ba.sqI (G.D i).x (G.D i).y px py = Ba.sqG G px py i from rfl)
  clear hv hpt h hp
  unfold RetInv
  rw [hA] at HV HNE ⊢
  generalize hns : Ba.nst G px py G.n = ns at *
  generalize Ba.sqG G px py = sq at *
  generalize Ba.ivX G px py = iv at *
  clear hA hns
  obtain ⟨A, n, c, gb, go, D⟩ := G
  simp only at *
  clear A
  have HSQ2 := Lib.hid (fun i (hi : i < n) W => by have z := HSQ.out i hi W; rw [HS2.out i] at z; exact z)
  clear HSQ HS2
  obtain ⟨i1, hi0, hz0, hz1, hz2⟩ := info_parts info_int
  have KI := Lib.hid hi0; have KZ0 := Lib.hid hz0; have KZ1 := Lib.hid hz1; have KZ2 := Lib.hid hz2
  clear hi0 hz0 hz1 hz2
  go_enter Try.func13, Try.ntmps13
  go_wp2_with fail
  (first | refine name_world ?_ | refine (show (∀ W, W = _ → Calls _ _ _ W _) → Calls _ _ _ _ _ from fun h => h _ rfl) ?_); intro W1 hW1
  have g1 : Gr w W1 := by rw [hW1]; exact gr_auto
  have k1_0 : W1.cell? ⟨w.heap.size, 0, none⟩ = some (.int .i64 px) := by rw [hW1]; first | (simp [go_sem, *]; done) | (refine Gr.at ?_ (by assumption); exact gr_auto)
  have b1_0 : w.heap.size < W1.heap.size := World.block_lt_of_cell? _ _ k1_0
  have k1_1 : W1.cell? ⟨w.heap.size, 1, none⟩ = some (.int .i64 py) := by rw [hW1]; first | (simp [go_sem, *]; done) | (refine Gr.at ?_ (by assumption); exact gr_auto)
  clear hW1
  refine (HV.out _ g1).mono ?_
  rintro e w2 ⟨rfl, hb2⟩
  have g2 := g1.trans hb2
  have d0 := Gr.at hb2 k1_0; have d1 := Gr.at hb2 k1_1
  clear HV k1_0 k1_1
  go_wp2_with fail
  refine (HP.out _).mono ?_
  rintro e w3 ⟨rfl, hb3⟩
  have g3 := g2.trans hb3
  replace d0 := Gr.at hb3 d0; replace d1 := Gr.at hb3 d1
  clear HP
  go_wp2_with fail
  refine (HNE.out _ g3).mono ?_
  rintro e w4 ⟨rfl, hb4⟩
  have g4 := g3.trans hb4
  replace d0 := Gr.at hb4 d0; replace d1 := Gr.at hb4 d1
  clear HNE
  have sj := HB.out ns hj
  obtain ⟨b0, b1, b2⟩ := (HD.out ns hj).1.gr g4
  have jb0 : (0 : Int) ≤ (ns : Int) := by omega
  have jb1 : (ns : Int) < (n : Int) := by omega
  have HJ := Lib.hid (HSQ2.out ns hj)
  obtain ⟨dj, hdj⟩ : ∃ z, D ns = z := ⟨_, rfl⟩
  rw [hdj] at b0 b1 b2 HJ
  clear hdj
  go_wp2_with fail
  (first | refine name_world ?_ | refine (show (∀ W, W = _ → Calls _ _ _ W _) → Calls _ _ _ _ _ from fun h => h _ rfl) ?_); intro W5 hW5
  have g5 : Gr w W5 := by rw [hW5]; exact gr_auto
  have gb5_w4 : Gr w4 W5 := by (try clear g5); rw [hW5]; exact gr_auto
  have k5_0 : W5.cell? ⟨w.heap.size, 0, none⟩ = some (.int .i64 px) := by rw [hW5]; first | (simp [go_sem, *]; done) | (refine Gr.at ?_ (by assumption); exact gr_auto)
  have b5_0 : w.heap.size < W5.heap.size := World.block_lt_of_cell? _ _ k5_0
  have k5_1 : W5.cell? ⟨w.heap.size, 1, none⟩ = some (.int .i64 py) := by rw [hW5]; first | (simp [go_sem, *]; done) | (refine Gr.at ?_ (by assumption); exact gr_auto)
  have k5_2 : W5.cell? ⟨gb, go + ns * 3, none⟩ = some (.string dj.nm) := by rw [hW5]; first | (simp [go_sem, *]; done) | (refine Gr.at ?_ (by assumption); exact gr_auto)
  have b5_2 : gb < W5.heap.size := World.block_lt_of_cell? _ _ k5_2
  have k5_3 : W5.cell? ⟨gb, go + ns * 3 + 1, none⟩ = some (.int .i64 dj.x) := by rw [hW5]; first | (simp [go_sem, *]; done) | (refine Gr.at ?_ (by assumption); exact gr_auto)
  have k5_4 : W5.cell? ⟨gb, go + ns * 3 + 2, none⟩ = some (.int .i64 dj.y) := by rw [hW5]; first | (simp [go_sem, *]; done) | (refine Gr.at ?_ (by assumption); exact gr_auto)
  clear hW5
  have s5_0 : ∀ gw : GW W5, gw.1.cell? ⟨w.heap.size, 0, none⟩ = some (.int .i64 px) := fun gw => Gr.at gw.2 k5_0
  have s5_1 : ∀ gw : GW W5, gw.1.cell? ⟨w.heap.size, 1, none⟩ = some (.int .i64 py) := fun gw => Gr.at gw.2 k5_1
  have s5_2 : ∀ gw : GW W5, gw.1.cell? ⟨gb, go + ns * 3, none⟩ = some (.string dj.nm) := fun gw => Gr.at gw.2 k5_2
  have s5_3 : ∀ gw : GW W5, gw.1.cell? ⟨gb, go + ns * 3 + 1, none⟩ = some (.int .i64 dj.x) := fun gw => Gr.at gw.2 k5_3
  have s5_4 : ∀ gw : GW W5, gw.1.cell? ⟨gb, go + ns * 3 + 2, none⟩ = some (.int .i64 dj.y) := fun gw => Gr.at gw.2 k5_4
  have HS1 := Lib.hid (fun gw : GW W5 => gw_call (HJ.out gw.1))
  refine wp_region_gr (by kernel_rfl) (by kernel_rfl) ?_
  repeat (go_big_quiet_step ((go_at_call 41; exact HS1.out _)))
  refine wpQuiet_nil ?_
  intro w6 hb6
  clear s5_0 s5_1 s5_2 s5_3 s5_4
  have g6 : Gr w w6 := g5.trans hb6
  have k5_0 := Gr.at hb6 k5_0
  have k5_1 := Gr.at hb6 k5_1
  have k5_2 := Gr.at hb6 k5_2
  have k5_3 := Gr.at hb6 k5_3
  have k5_4 := Gr.at hb6 k5_4
  clear HS1 HJ b0 b1 b2 d0 d1 k5_2 k5_3 k5_4
  obtain ⟨ls, hls⟩ : ∃ z, sq ns = z := ⟨_, rfl⟩
  rw [hls] at sj HMN HX ⊢
  replace hls := Lib.hid hls
  have hz := hls.out
  have ls0 : ls = 0 := by rw [← hq0.out, hz]
  subst ls0
  have HXX := Lib.hid (fun i => show iv i = if i = ns then 1073741824 else 0 from by rw [HX.out, if_pos rfl])
  have HQB := Lib.hid (fun i (hi : i < n) => show 0 ≤ iv i ∧ iv i ≤ 1073741824 from by rw [HXX.out]; split <;> omega)
  clear HX HMN hz hls hq0
  go_wp2_with fail
  go_loopw [8, 9] (fun vo x wr => ∃ i : Nat, i ≤ n ∧ x = .int .i64 (i : Int) ∧ Hid (wr.ownsRow w6.heap.size 3 1 vo i ((List.range i).map fun i => .int .i64 (iv i))) ∧ Gr w6 wr) (fun _ x _ => n - (intOf x).toNat)
  case atStart => exact ⟨0, Nat.zero_le _, rfl, Lib.hid ⟨rfl, Or.inl ⟨rfl, rfl⟩⟩, Gr.refl _⟩
  case round =>
    obtain ⟨i, hi, rfl, HO, hg⟩ := hrel
    have gw := g6.trans hg
    have x0 := Gr.at hg k5_0; have x1 := Gr.at hg k5_1
    by_cases hlt : i < n
    · obtain ⟨a0, a1, a2⟩ := (HD.out i hlt).1.gr gw
      have HSi := Lib.hid (HSQ2.out i hlt); have qb := HQB.out i hlt; have sb := HB.out i hlt; have HV2 := Lib.hid (HXX.out i)
      have ib0 : (0 : Int) ≤ (i : Int) := by omega
      have ib1 : (i : Int) < (n : Int) := by omega
      have hb6w := Gr.size hg
      clear HD HSQ2 HB HXX HQB
      obtain ⟨vi, hvi⟩ : ∃ z, iv i = z := ⟨_, rfl⟩
      have HVV := Lib.hid hvi
      rw [hvi] at qb HV2
      clear hvi
      generalize sq i = si at *
      generalize D i = di at *
      by_cases he : i = ns
      · have t1 : ((i : Int) == (ns : Int)) = true := by rw [he]; simp
        have e := HV2.out
        rw [if_pos he] at e
        subst e
        clear HV2 he
        go_wp2_with fail
        (first | refine name_world ?_ | refine (show (∀ W, W = _ → Calls _ _ _ W _) → Calls _ _ _ _ _ from fun h => h _ rfl) ?_); intro W7 hW7
        have g7 : Gr w W7 := by rw [hW7]; exact gr_auto
        have gb7_wr : Gr wr W7 := by (try clear g7); rw [hW7]; exact gr_auto
        have k7_0 : W7.cell? ⟨w.heap.size, 0, none⟩ = some (.int .i64 px) := by rw [hW7]; first | (simp [go_sem, *]; done) | (refine Gr.at ?_ (by assumption); exact gr_auto)
        have b7_0 : w.heap.size < W7.heap.size := World.block_lt_of_cell? _ _ k7_0
        have k7_1 : W7.cell? ⟨w.heap.size, 1, none⟩ = some (.int .i64 py) := by rw [hW7]; first | (simp [go_sem, *]; done) | (refine Gr.at ?_ (by assumption); exact gr_auto)
        have k7_2 : W7.cell? ⟨gb, go + i * 3, none⟩ = some (.string di.nm) := by rw [hW7]; first | (simp [go_sem, *]; done) | (refine Gr.at ?_ (by assumption); exact gr_auto)
        have b7_2 : gb < W7.heap.size := World.block_lt_of_cell? _ _ k7_2
        have k7_3 : W7.cell? ⟨gb, go + i * 3 + 1, none⟩ = some (.int .i64 di.x) := by rw [hW7]; first | (simp [go_sem, *]; done) | (refine Gr.at ?_ (by assumption); exact gr_auto)
        have k7_4 : W7.cell? ⟨gb, go + i * 3 + 2, none⟩ = some (.int .i64 di.y) := by rw [hW7]; first | (simp [go_sem, *]; done) | (refine Gr.at ?_ (by assumption); exact gr_auto)
        clear hW7
        have s7_0 : ∀ gw : GW W7, gw.1.cell? ⟨w.heap.size, 0, none⟩ = some (.int .i64 px) := fun gw => Gr.at gw.2 k7_0
        have s7_1 : ∀ gw : GW W7, gw.1.cell? ⟨w.heap.size, 1, none⟩ = some (.int .i64 py) := fun gw => Gr.at gw.2 k7_1
        have s7_2 : ∀ gw : GW W7, gw.1.cell? ⟨gb, go + i * 3, none⟩ = some (.string di.nm) := fun gw => Gr.at gw.2 k7_2
        have s7_3 : ∀ gw : GW W7, gw.1.cell? ⟨gb, go + i * 3 + 1, none⟩ = some (.int .i64 di.x) := fun gw => Gr.at gw.2 k7_3
        have s7_4 : ∀ gw : GW W7, gw.1.cell? ⟨gb, go + i * 3 + 2, none⟩ = some (.int .i64 di.y) := fun gw => Gr.at gw.2 k7_4
        have HS1 := Lib.hid (fun gw : GW W7 => gw_call (HSi.out gw.1))
        refine wp_region_gr (by kernel_rfl) (by kernel_rfl) ?_
        repeat (go_big_quiet_step ((go_at_call 41; exact HS1.out _)))
        refine wpQuiet_nil ?_
        intro w8 hb8
        clear s7_0 s7_1 s7_2 s7_3 s7_4
        have g8 : Gr w w8 := g7.trans hb8
        have k7_0 := Gr.at hb8 k7_0
        have k7_1 := Gr.at hb8 k7_1
        have k7_2 := Gr.at hb8 k7_2
        have k7_3 := Gr.at hb8 k7_3
        have k7_4 := Gr.at hb8 k7_4
        clear HS1 HSi k7_0 k7_1 k7_2 k7_3 k7_4 x0 x1 a0 a1 a2
        have gz8 : Gr wr w8 := gb7_wr.trans hb8
        have zz8 := Gr.size gz8
        go_wp2_with (at_builtin; refine wpList_append_own _ rfl _ _ 30 rfl w6.heap.size 3 i1 (.int .i64 0) 1 8 Try.underlying30 KI.out KZ0.out KZ1.out KZ2.out rfl (by decide) _ i ((List.range i).map fun i => .int .i64 (iv i)) rfl (ownsRow_gr HO.out (by exact gr_auto)) ⟨w8.heap.size, 0, none⟩ 1 1 [.int .i64 1073741824] rfl rfl (by intro p u hp; rcases p with _ | p <;> simp at hp <;> (try subst hp) <;> first | (simp [Addr.add, go_sem]; done) | (simp [Addr.add]; done)) (by intro u hu; simp at hu; subst hu; rfl) (by unfold maxLen; omega) (by omega) (by simp; omega) ?_)
        intro v' wA hown' hgrow hnil
        have HOn := Lib.hid (show wA.ownsRow w6.heap.size 3 1 v' (i + 1) ((List.range (i + 1)).map fun i => .int .i64 (iv i)) from by rw [List.range_succ, List.map_append, List.map_cons, List.map_nil, HVV.out]; exact hown')
        have HGn := Lib.hid (Gr.own (base := w6.heap.size) (show Gr w6 (w8.alloc (Obj.cells #[.int .i64 1073741824] 3)) from Gr.alloc (hg.trans gz8) _) (Nat.le_refl _) (ownsRow_gr HO.out (Gr.alloc gz8 _)) hgrow)
        clear hown' hgrow hnil HO
        go_wp2_with fail
        go_roundw
        case rel => exact ⟨i + 1, by omega, by go_num, HOn, HGn.out⟩
        case measure => simp [intOf]; omega
      · have t1 : ((i : Int) == (ns : Int)) = false := beq_eq_false_iff_ne.2 (by omega)
        have e := HV2.out
        rw [if_neg he] at e
        subst e
        clear HV2 he
        go_wp2_with fail
        (first | refine name_world ?_ | refine (show (∀ W, W = _ → Calls _ _ _ W _) → Calls _ _ _ _ _ from fun h => h _ rfl) ?_); intro W7 hW7
        have g7 : Gr w W7 := by rw [hW7]; exact gr_auto
        have gb7_wr : Gr wr W7 := by (try clear g7); rw [hW7]; exact gr_auto
        have k7_0 : W7.cell? ⟨w.heap.size, 0, none⟩ = some (.int .i64 px) := by rw [hW7]; first | (simp [go_sem, *]; done) | (refine Gr.at ?_ (by assumption); exact gr_auto)
        have b7_0 : w.heap.size < W7.heap.size := World.block_lt_of_cell? _ _ k7_0
        have k7_1 : W7.cell? ⟨w.heap.size, 1, none⟩ = some (.int .i64 py) := by rw [hW7]; first | (simp [go_sem, *]; done) | (refine Gr.at ?_ (by assumption); exact gr_auto)
        have k7_2 : W7.cell? ⟨gb, go + i * 3, none⟩ = some (.string di.nm) := by rw [hW7]; first | (simp [go_sem, *]; done) | (refine Gr.at ?_ (by assumption); exact gr_auto)
        have b7_2 : gb < W7.heap.size := World.block_lt_of_cell? _ _ k7_2
        have k7_3 : W7.cell? ⟨gb, go + i * 3 + 1, none⟩ = some (.int .i64 di.x) := by rw [hW7]; first | (simp [go_sem, *]; done) | (refine Gr.at ?_ (by assumption); exact gr_auto)
        have k7_4 : W7.cell? ⟨gb, go + i * 3 + 2, none⟩ = some (.int .i64 di.y) := by rw [hW7]; first | (simp [go_sem, *]; done) | (refine Gr.at ?_ (by assumption); exact gr_auto)
        clear hW7
        have s7_0 : ∀ gw : GW W7, gw.1.cell? ⟨w.heap.size, 0, none⟩ = some (.int .i64 px) := fun gw => Gr.at gw.2 k7_0
        have s7_1 : ∀ gw : GW W7, gw.1.cell? ⟨w.heap.size, 1, none⟩ = some (.int .i64 py) := fun gw => Gr.at gw.2 k7_1
        have s7_2 : ∀ gw : GW W7, gw.1.cell? ⟨gb, go + i * 3, none⟩ = some (.string di.nm) := fun gw => Gr.at gw.2 k7_2
        have s7_3 : ∀ gw : GW W7, gw.1.cell? ⟨gb, go + i * 3 + 1, none⟩ = some (.int .i64 di.x) := fun gw => Gr.at gw.2 k7_3
        have s7_4 : ∀ gw : GW W7, gw.1.cell? ⟨gb, go + i * 3 + 2, none⟩ = some (.int .i64 di.y) := fun gw => Gr.at gw.2 k7_4
        have HS1 := Lib.hid (fun gw : GW W7 => gw_call (HSi.out gw.1))
        refine wp_region_gr (by kernel_rfl) (by kernel_rfl) ?_
        repeat (go_big_quiet_step ((go_at_call 41; exact HS1.out _)))
        refine wpQuiet_nil ?_
        intro w8 hb8
        clear s7_0 s7_1 s7_2 s7_3 s7_4
        have g8 : Gr w w8 := g7.trans hb8
        have k7_0 := Gr.at hb8 k7_0
        have k7_1 := Gr.at hb8 k7_1
        have k7_2 := Gr.at hb8 k7_2
        have k7_3 := Gr.at hb8 k7_3
        have k7_4 := Gr.at hb8 k7_4
        clear HS1 HSi k7_0 k7_1 k7_2 k7_3 k7_4 x0 x1 a0 a1 a2
        have gz8 : Gr wr w8 := gb7_wr.trans hb8
        have zz8 := Gr.size gz8
        go_wp2_with (at_builtin; refine wpList_append_own _ rfl _ _ 30 rfl w6.heap.size 3 i1 (.int .i64 0) 1 8 Try.underlying30 KI.out KZ0.out KZ1.out KZ2.out rfl (by decide) _ i ((List.range i).map fun i => .int .i64 (iv i)) rfl (ownsRow_gr HO.out (by exact gr_auto)) ⟨w8.heap.size, 0, none⟩ 1 1 [.int .i64 0] rfl rfl (by intro p u hp; rcases p with _ | p <;> simp at hp <;> (try subst hp) <;> first | (simp [Addr.add, go_sem]; done) | (simp [Addr.add]; done)) (by intro u hu; simp at hu; subst hu; rfl) (by unfold maxLen; omega) (by omega) (by simp; omega) ?_)
        intro v' wA hown' hgrow hnil
        have HOn := Lib.hid (show wA.ownsRow w6.heap.size 3 1 v' (i + 1) ((List.range (i + 1)).map fun i => .int .i64 (iv i)) from by rw [List.range_succ, List.map_append, List.map_cons, List.map_nil, HVV.out]; exact hown')
        have HGn := Lib.hid (Gr.own (base := w6.heap.size) (show Gr w6 (w8.alloc (Obj.cells #[.int .i64 0] 3)) from Gr.alloc (hg.trans gz8) _) (Nat.le_refl _) (ownsRow_gr HO.out (Gr.alloc gz8 _)) hgrow)
        clear hown' hgrow hnil HO
        go_wp2_with fail
        go_roundw
        case rel => exact ⟨i + 1, by omega, by go_num, HOn, HGn.out⟩
        case measure => simp [intOf]; omega
    · obtain rfl : n = i := by omega
      have HRow := Lib.hid HO.out
      have hmb : ∀ i, i < n → Ba.i64 (iv i) := fun i hi => by have := HQB.out i hi; unfold Ba.i64; omega
      clear HD HSQ2 HB HXX HO HQB
      obtain ⟨r, rfl, r1, r2, r3, -⟩ := own_slin HRow.out hmb
      replace r1 := Lib.hid r1; replace r2 := Lib.hid r2; replace r3 := Lib.hid r3
      clear hmb HRow
      go_wp2_with fail
      refine bodyPost_ret (by simp [results, Try.results13, go_sem]; try rfl) rfl ?_
      exact ⟨r, rfl, r1.out, r2.out, fun i hi => r3.out i (by rw [r2.out]; exact hi), gw⟩

set_option maxRecDepth 100000 in
set_option maxHeartbeats 4000000 in
theorem rinv_ok (G : Ba.SlGauge) (px py : Int) (w : World) (h : G.At w) (hv : Ba.gasB G = true) (hp : Ba.ptB px py = true) (h0 : Ba.sqG G px py (Ba.nst G px py G.n) ≠ 0) : Calls Try.prog 13 #[.slice G.A G.n G.c, .agg #[.int .i64 px, .int .i64 py]] w (RetInv G px py w) := by
  have hq0 := Lib.hid h0
  clear h0
  obtain ⟨n1, n2, hpt⟩ := Ba.gas_parts hv
  have HV := Lib.hid (fun W (hh : Gr w W) => rgvals_any G W (h.gr hh)); have HP := Lib.hid (fun W => rpvalid_any px py W)
  have HNE := Lib.hid (fun W (hh : Gr w W) => rne_any G px py W (h.gr hh) hv hp)
  rw [hv] at HV
  rw [hp] at HP
  have hA := h.hA (by omega)
  have HD := Lib.hid h.hD; have hnc := h.hc; have hcb := h.hb
  have hj : Ba.nst G px py G.n < G.n := Ba.nst_lt n1 (Nat.le_refl _)
  have HSQ := Lib.hid (fun i (hi : i < G.n) W => rsq_any (G.D i).nm (G.D i).x (G.D i).y px py W (h.hD i hi).2.2.2 (hpt i hi) hp)
  have HB := Lib.hid (fun i (hi : i < G.n) => show 0 ≤ Ba.sqG G px py i ∧ Ba.sqG G px py i ≤ 2251799813685248 from Ba.sqI_bd (hpt i hi) hp)
  have HMN := Lib.hid (fun k (hk : k < G.n) => Ba.nst_min (G := G) (px := px) (py := py) G.n k hk)
  have HX := Lib.hid (fun i => show Ba.ivX G px py i = if Ba.sqG G px py (Ba.nst G px py G.n) = 0 then (if i = Ba.nst G px py G.n then 1073741824 else 0) else 1073741824 * Ba.sqG G px py (Ba.nst G px py G.n) / Ba.sqG G px py i from rfl)
  have HS2 := Lib.hid (fun i => show Ba.sqI (G.D i).x (G.D i).y px py = Ba.sqG G px py i from rfl)
  clear hv hpt h hp
  unfold RetInv
  rw [hA] at HV HNE ⊢
  generalize hns : Ba.nst G px py G.n = ns at *
  generalize Ba.sqG G px py = sq at *
  generalize Ba.ivX G px py = iv at *
  clear hA hns
  obtain ⟨A, n, c, gb, go, D⟩ := G
  simp only at *
  clear A
  have HSQ2 := Lib.hid (fun i (hi : i < n) W => by have z := HSQ.out i hi W; rw [HS2.out i] at z; exact z)
  clear HSQ HS2
  obtain ⟨i1, hi0, hz0, hz1, hz2⟩ := info_parts info_int
  have KI := Lib.hid hi0; have KZ0 := Lib.hid hz0; have KZ1 := Lib.hid hz1; have KZ2 := Lib.hid hz2
  clear hi0 hz0 hz1 hz2
  go_enter Try.func13, Try.ntmps13
  go_wp2_with fail
  (first | refine name_world ?_ | refine (show (∀ W, W = _ → Calls _ _ _ W _) → Calls _ _ _ _ _ from fun h => h _ rfl) ?_); intro W1 hW1
  have g1 : Gr w W1 := by rw [hW1]; exact gr_auto
  have k1_0 : W1.cell? ⟨w.heap.size, 0, none⟩ = some (.int .i64 px) := by rw [hW1]; first | (simp [go_sem, *]; done) | (refine Gr.at ?_ (by assumption); exact gr_auto)
  have b1_0 : w.heap.size < W1.heap.size := World.block_lt_of_cell? _ _ k1_0
  have k1_1 : W1.cell? ⟨w.heap.size, 1, none⟩ = some (.int .i64 py) := by rw [hW1]; first | (simp [go_sem, *]; done) | (refine Gr.at ?_ (by assumption); exact gr_auto)
  clear hW1
  refine (HV.out _ g1).mono ?_
  rintro e w2 ⟨rfl, hb2⟩
  have g2 := g1.trans hb2
  have d0 := Gr.at hb2 k1_0; have d1 := Gr.at hb2 k1_1
  clear HV k1_0 k1_1
  go_wp2_with fail
  refine (HP.out _).mono ?_
  rintro e w3 ⟨rfl, hb3⟩
  have g3 := g2.trans hb3
  replace d0 := Gr.at hb3 d0; replace d1 := Gr.at hb3 d1
  clear HP
  go_wp2_with fail
  refine (HNE.out _ g3).mono ?_
  rintro e w4 ⟨rfl, hb4⟩
  have g4 := g3.trans hb4
  replace d0 := Gr.at hb4 d0; replace d1 := Gr.at hb4 d1
  clear HNE
  have sj := HB.out ns hj
  obtain ⟨b0, b1, b2⟩ := (HD.out ns hj).1.gr g4
  have jb0 : (0 : Int) ≤ (ns : Int) := by omega
  have jb1 : (ns : Int) < (n : Int) := by omega
  have HJ := Lib.hid (HSQ2.out ns hj)
  obtain ⟨dj, hdj⟩ : ∃ z, D ns = z := ⟨_, rfl⟩
  rw [hdj] at b0 b1 b2 HJ
  clear hdj
  go_wp2_with fail
  (first | refine name_world ?_ | refine (show (∀ W, W = _ → Calls _ _ _ W _) → Calls _ _ _ _ _ from fun h => h _ rfl) ?_); intro W5 hW5
  have g5 : Gr w W5 := by rw [hW5]; exact gr_auto
  have gb5_w4 : Gr w4 W5 := by (try clear g5); rw [hW5]; exact gr_auto
  have k5_0 : W5.cell? ⟨w.heap.size, 0, none⟩ = some (.int .i64 px) := by rw [hW5]; first | (simp [go_sem, *]; done) | (refine Gr.at ?_ (by assumption); exact gr_auto)
  have b5_0 : w.heap.size < W5.heap.size := World.block_lt_of_cell? _ _ k5_0
  have k5_1 : W5.cell? ⟨w.heap.size, 1, none⟩ = some (.int .i64 py) := by rw [hW5]; first | (simp [go_sem, *]; done) | (refine Gr.at ?_ (by assumption); exact gr_auto)
  have k5_2 : W5.cell? ⟨gb, go + ns * 3, none⟩ = some (.string dj.nm) := by rw [hW5]; first | (simp [go_sem, *]; done) | (refine Gr.at ?_ (by assumption); exact gr_auto)
  have b5_2 : gb < W5.heap.size := World.block_lt_of_cell? _ _ k5_2
  have k5_3 : W5.cell? ⟨gb, go + ns * 3 + 1, none⟩ = some (.int .i64 dj.x) := by rw [hW5]; first | (simp [go_sem, *]; done) | (refine Gr.at ?_ (by assumption); exact gr_auto)
  have k5_4 : W5.cell? ⟨gb, go + ns * 3 + 2, none⟩ = some (.int .i64 dj.y) := by rw [hW5]; first | (simp [go_sem, *]; done) | (refine Gr.at ?_ (by assumption); exact gr_auto)
  clear hW5
  have s5_0 : ∀ gw : GW W5, gw.1.cell? ⟨w.heap.size, 0, none⟩ = some (.int .i64 px) := fun gw => Gr.at gw.2 k5_0
  have s5_1 : ∀ gw : GW W5, gw.1.cell? ⟨w.heap.size, 1, none⟩ = some (.int .i64 py) := fun gw => Gr.at gw.2 k5_1
  have s5_2 : ∀ gw : GW W5, gw.1.cell? ⟨gb, go + ns * 3, none⟩ = some (.string dj.nm) := fun gw => Gr.at gw.2 k5_2
  have s5_3 : ∀ gw : GW W5, gw.1.cell? ⟨gb, go + ns * 3 + 1, none⟩ = some (.int .i64 dj.x) := fun gw => Gr.at gw.2 k5_3
  have s5_4 : ∀ gw : GW W5, gw.1.cell? ⟨gb, go + ns * 3 + 2, none⟩ = some (.int .i64 dj.y) := fun gw => Gr.at gw.2 k5_4
  have HS1 := Lib.hid (fun gw : GW W5 => gw_call (HJ.out gw.1))
  refine wp_region_gr (by kernel_rfl) (by kernel_rfl) ?_
  repeat (go_big_quiet_step ((go_at_call 41; exact HS1.out _)))
  refine wpQuiet_nil ?_
  intro w6 hb6
  clear s5_0 s5_1 s5_2 s5_3 s5_4
  have g6 : Gr w w6 := g5.trans hb6
  have k5_0 := Gr.at hb6 k5_0
  have k5_1 := Gr.at hb6 k5_1
  have k5_2 := Gr.at hb6 k5_2
  have k5_3 := Gr.at hb6 k5_3
  have k5_4 := Gr.at hb6 k5_4
  clear HS1 HJ b0 b1 b2 d0 d1 k5_2 k5_3 k5_4
  obtain ⟨ls, hls⟩ : ∃ z, sq ns = z := ⟨_, rfl⟩
  rw [hls] at sj HMN HX ⊢
  replace hls := Lib.hid hls
  have hz := hls.out
  have ls0 : ls ≠ 0 := by rw [← hz]; exact hq0.out
  have t0 : decide (0 < ls) = true := decide_eq_true (by omega)
  have HXX := Lib.hid (fun i => show iv i = 1073741824 * ls / sq i by rw [HX.out, if_neg ls0])
  have HQB := Lib.hid (fun i (hi : i < n) => show 0 ≤ iv i ∧ iv i ≤ 1073741824 from by
    have a := HB.out i hi; have b := HMN.out i hi
    rw [HXX.out]
    exact ⟨Int.ediv_nonneg (by omega) (by omega), Int.ediv_le_of_le_mul (by omega) (by omega)⟩)
  have HFL := Lib.hid (fun i (hi : i < n) W => show Calls Try.prog 42 #[.int .i64 1073741824, .int .i64 ls, .int .i64 (sq i)] W fun e w' => e = .returned (.int .i64 (iv i)) ∧ Gr W w' from by have a := HB.out i hi; have b := HMN.out i hi; have q := HQB.out i hi; exact rfloorof_any 1073741824 ls (sq i) (iv i) W (by omega) (by omega) (by omega) (by omega) (by omega) (by omega) (HXX.out i).symm q.1 (by omega))
  clear HX HMN hz hls hq0
  go_wp2_with fail
  go_loopw [8, 9] (fun vo x wr => ∃ i : Nat, i ≤ n ∧ x = .int .i64 (i : Int) ∧ Hid (wr.ownsRow w6.heap.size 3 1 vo i ((List.range i).map fun i => .int .i64 (iv i))) ∧ Gr w6 wr) (fun _ x _ => n - (intOf x).toNat)
  case atStart => exact ⟨0, Nat.zero_le _, rfl, Lib.hid ⟨rfl, Or.inl ⟨rfl, rfl⟩⟩, Gr.refl _⟩
  case round =>
    obtain ⟨i, hi, rfl, HO, hg⟩ := hrel
    have gw := g6.trans hg
    have x0 := Gr.at hg k5_0; have x1 := Gr.at hg k5_1
    by_cases hlt : i < n
    · obtain ⟨a0, a1, a2⟩ := (HD.out i hlt).1.gr gw
      have HSi := Lib.hid (HSQ2.out i hlt); have qb := HQB.out i hlt; have sb := HB.out i hlt; have HV2 := Lib.hid (HXX.out i)
      have ib0 : (0 : Int) ≤ (i : Int) := by omega
      have ib1 : (i : Int) < (n : Int) := by omega
      have hb6w := Gr.size hg
      have HFi := Lib.hid (HFL.out i hlt)
      clear HD HSQ2 HB HXX HQB HV2 HFL
      obtain ⟨vi, hvi⟩ : ∃ z, iv i = z := ⟨_, rfl⟩
      have HVV := Lib.hid hvi
      rw [hvi] at qb HFi
      clear hvi
      generalize sq i = si at *
      generalize D i = di at *
      go_wp2_with fail
      (first | refine name_world ?_ | refine (show (∀ W, W = _ → Calls _ _ _ W _) → Calls _ _ _ _ _ from fun h => h _ rfl) ?_); intro W7 hW7
      have g7 : Gr w W7 := by rw [hW7]; exact gr_auto
      have gb7_wr : Gr wr W7 := by (try clear g7); rw [hW7]; exact gr_auto
      have k7_0 : W7.cell? ⟨w.heap.size, 0, none⟩ = some (.int .i64 px) := by rw [hW7]; first | (simp [go_sem, *]; done) | (refine Gr.at ?_ (by assumption); exact gr_auto)
      have b7_0 : w.heap.size < W7.heap.size := World.block_lt_of_cell? _ _ k7_0
      have k7_1 : W7.cell? ⟨w.heap.size, 1, none⟩ = some (.int .i64 py) := by rw [hW7]; first | (simp [go_sem, *]; done) | (refine Gr.at ?_ (by assumption); exact gr_auto)
      have k7_2 : W7.cell? ⟨gb, go + i * 3, none⟩ = some (.string di.nm) := by rw [hW7]; first | (simp [go_sem, *]; done) | (refine Gr.at ?_ (by assumption); exact gr_auto)
      have b7_2 : gb < W7.heap.size := World.block_lt_of_cell? _ _ k7_2
      have k7_3 : W7.cell? ⟨gb, go + i * 3 + 1, none⟩ = some (.int .i64 di.x) := by rw [hW7]; first | (simp [go_sem, *]; done) | (refine Gr.at ?_ (by assumption); exact gr_auto)
      have k7_4 : W7.cell? ⟨gb, go + i * 3 + 2, none⟩ = some (.int .i64 di.y) := by rw [hW7]; first | (simp [go_sem, *]; done) | (refine Gr.at ?_ (by assumption); exact gr_auto)
      clear hW7
      have s7_0 : ∀ gw : GW W7, gw.1.cell? ⟨w.heap.size, 0, none⟩ = some (.int .i64 px) := fun gw => Gr.at gw.2 k7_0
      have s7_1 : ∀ gw : GW W7, gw.1.cell? ⟨w.heap.size, 1, none⟩ = some (.int .i64 py) := fun gw => Gr.at gw.2 k7_1
      have s7_2 : ∀ gw : GW W7, gw.1.cell? ⟨gb, go + i * 3, none⟩ = some (.string di.nm) := fun gw => Gr.at gw.2 k7_2
      have s7_3 : ∀ gw : GW W7, gw.1.cell? ⟨gb, go + i * 3 + 1, none⟩ = some (.int .i64 di.x) := fun gw => Gr.at gw.2 k7_3
      have s7_4 : ∀ gw : GW W7, gw.1.cell? ⟨gb, go + i * 3 + 2, none⟩ = some (.int .i64 di.y) := fun gw => Gr.at gw.2 k7_4
      have HS1 := Lib.hid (fun gw : GW W7 => gw_call (HSi.out gw.1))
      refine wp_region_gr (by kernel_rfl) (by kernel_rfl) ?_
      repeat (go_big_quiet_step ((go_at_call 41; exact HS1.out _)))
      refine wpQuiet_nil ?_
      intro w8 hb8
      clear s7_0 s7_1 s7_2 s7_3 s7_4
      have g8 : Gr w w8 := g7.trans hb8
      have k7_0 := Gr.at hb8 k7_0
      have k7_1 := Gr.at hb8 k7_1
      have k7_2 := Gr.at hb8 k7_2
      have k7_3 := Gr.at hb8 k7_3
      have k7_4 := Gr.at hb8 k7_4
      clear HS1 HSi k7_0 k7_1 k7_2 k7_3 k7_4 x0 x1 a0 a1 a2
      have gz8 : Gr wr w8 := gb7_wr.trans hb8
      have zz8 := Gr.size gz8
      go_wp2_with fail
      refine (HFi.out _).mono ?_
      rintro e w9 ⟨rfl, hb9⟩
      have gz9 := gz8.trans hb9
      have zz9 := Gr.size gz9
      clear HFi
      go_wp2_with (at_builtin; refine wpList_append_own _ rfl _ _ 30 rfl w6.heap.size 3 i1 (.int .i64 0) 1 8 Try.underlying30 KI.out KZ0.out KZ1.out KZ2.out rfl (by decide) _ i ((List.range i).map fun i => .int .i64 (iv i)) rfl (ownsRow_gr HO.out (by exact gr_auto)) ⟨w9.heap.size, 0, none⟩ 1 1 [.int .i64 vi] rfl rfl (by intro p u hp; rcases p with _ | p <;> simp at hp <;> (try subst hp) <;> first | (simp [Addr.add, go_sem]; done) | (simp [Addr.add]; done)) (by intro u hu; simp at hu; subst hu; rfl) (by unfold maxLen; omega) (by omega) (by simp; omega) ?_)
      intro v' wA hown' hgrow hnil
      have HOn := Lib.hid (show wA.ownsRow w6.heap.size 3 1 v' (i + 1) ((List.range (i + 1)).map fun i => .int .i64 (iv i)) from by rw [List.range_succ, List.map_append, List.map_cons, List.map_nil, HVV.out]; exact hown')
      have HGn := Lib.hid (Gr.own (base := w6.heap.size) (show Gr w6 (w9.alloc (Obj.cells #[.int .i64 vi] 3)) from Gr.alloc (hg.trans (gz8.trans hb9)) _) (Nat.le_refl _) (ownsRow_gr HO.out (Gr.alloc (gz8.trans hb9) _)) hgrow)
      clear hown' hgrow hnil HO
      go_wp2_with fail
      go_roundw
      case rel => exact ⟨i + 1, by omega, by go_num, HOn, HGn.out⟩
      case measure => simp [intOf]; omega
    · obtain rfl : n = i := by omega
      have HRow := Lib.hid HO.out
      have hmb : ∀ i, i < n → Ba.i64 (iv i) := fun i hi => by have := HQB.out i hi; unfold Ba.i64; omega
      clear HD HSQ2 HB HXX HO HQB HFL
      obtain ⟨r, rfl, r1, r2, r3, -⟩ := own_slin HRow.out hmb
      replace r1 := Lib.hid r1; replace r2 := Lib.hid r2; replace r3 := Lib.hid r3
      clear hmb HRow
      go_wp2_with fail
      refine bodyPost_ret (by simp [results, Try.results13, go_sem]; try rfl) rfl ?_
      exact ⟨r, rfl, r1.out, r2.out, fun i hi => r3.out i (by rw [r2.out]; exact hi), gw⟩

theorem rinv_any (G : Ba.SlGauge) (px py : Int) (w : World) (h : G.At w) (hv : Ba.gasB G = true) (hp : Ba.ptB px py = true) : Calls Try.prog 13 #[.slice G.A G.n G.c, .agg #[.int .i64 px, .int .i64 py]] w (RetInv G px py w) := by
  by_cases h0 : Ba.sqG G px py (Ba.nst G px py G.n) = 0
  · exact rinv_zero G px py w h hv hp h0
  · exact rinv_ok G px py w h hv hp h0
end Go.Proofs.Ytnfjebfmfjpepaa
