/-
  Areal: areal.Nearest, areal.Inverse. (Printed by mkd.py.)
-/
import Derived.Test.YtajhhplgcegodaaGreatDoorArC
import Derived.Test.YtajhhplgcegodaaGreatDoorArWe
set_option linter.unusedVariables false
set_option linter.unusedSimpArgs false
namespace Go.Proofs.YtajhhplgcegodaaGreatDoor
open Go.RowKit
attribute [local go_sem ↓] Go.wp_at_zero Go.wp_at_succ
theorem info_int : (Tryz.prog.info? 3).map (fun i => (i.zero, i.size, i.bytes)) = some (some (.int .i64 0), 1, 8) := by kernel_rfl
namespace Ba
theorem nst_min {G : SlGauge} {px py : Int} : ∀ i k, k < i → sqG G px py (nst G px py i) ≤ sqG G px py k
  | 0, _, h => absurd h (by omega)
  | i + 1, k, h => by
    rw [nst]
    by_cases c : sqG G px py i < sqG G px py (nst G px py i)
    · rw [if_pos c]
      by_cases e : k = i
      · subst e; omega
      · have := nst_min (G := G) (px := px) (py := py) i k (by omega); omega
    · rw [if_neg c]
      by_cases e : k = i
      · subst e; omega
      · exact nst_min i k (by omega)
/-- The error; the weights. -/
def neE (G : SlGauge) (px py : Int) : Int := if gasB G = true then if ptB px py = true then 0 else 1 else 1
def ivX (G : SlGauge) (px py : Int) (i : Nat) : Int := if sqG G px py (nst G px py G.n) = 0 then (if i = nst G px py G.n then 1073741824 else 0) else 1073741824 * sqG G px py (nst G px py G.n) / sqG G px py i
theorem sc_of {p d q : Int} (hp : 0 ≤ p) (hd : 0 < d) (hq : p / d = q) (h0 : 0 ≤ q) (h1 : q ≤ 1073741824) : Wd.scLo p d = q ∧ Wd.scE p d = 0 := by
  have e1 : Wd.flr p d = q := by unfold Wd.flr; rw [if_pos hd]; exact hq
  have e2 : Wd.cel p d = -((-p) / d) := by unfold Wd.cel Wd.flr; rw [if_pos hd]
  have a := Int.mul_ediv_add_emod p d
  have b := Int.emod_lt_of_pos p hd
  rw [hq] at a
  have m1 : -(q + 1) ≤ (-p) / d := Int.le_ediv_of_mul_le hd (by rw [Int.neg_mul, Int.add_mul, Int.mul_comm q d]; omega)
  have m2 : (-p) / d ≤ 0 := by
    have := Int.ediv_le_ediv (a := -p) (b := 0) hd (by omega)
    rw [Int.zero_ediv] at this; exact this
  have f : Wd.scOK p d = true := by
    unfold Wd.scOK
    rw [e1, e2]
    unfold Wd.fits
    simp only [Bool.and_eq_true, decide_eq_true_eq]
    omega
  unfold Wd.scLo Wd.scE
  rw [if_neg (show ¬ d = 0 by omega), if_neg (show ¬ d = 0 by omega), if_pos f, if_pos f, e1]
  exact ⟨rfl, rfl⟩
end Ba

set_option maxRecDepth 100000 in
set_option maxHeartbeats 4000000 in
theorem ne_no (G : Ba.SlGauge) (px py : Int) (w : World) (h : G.At w) (he : Ba.neE G px py ≠ 0) : Calls Tryz.prog 26 #[.slice G.A G.n G.c, .agg #[.int .i64 px, .int .i64 py]] w fun e w' => e = .returned (.tuple #[.int .i64 0, .int .i64 1]) ∧ Gr w w' := by
  have HV := Lib.hid (fun W (hh : Gr w W) => gvals_any G W (h.gr hh)); have HP := Lib.hid (fun W => pvalid_any px py W)
  have hm := Nat.le_trans h.hc h.hb
  unfold Ba.neE at he
  cases t0 : Ba.gasB G
  · rw [t0] at HV
    clear he t0 h
    generalize G.A = A at *; generalize G.n = n at *; generalize G.c = c at *
    go_enter Tryz.func26, Tryz.ntmps26
    go_wp2_with fail
    (first | refine name_world ?_ | refine (show (∀ W, W = _ → Calls _ _ _ W _) → Calls _ _ _ _ _ from fun h => h _ rfl) ?_); intro W1 hW1
    have g1 : Gr w W1 := by rw [hW1]; exact gr_auto
    have k1_0 : W1.cell? ⟨w.heap.size, 0, none⟩ = some (.int .i64 px) := by rw [hW1]; first | (simp [go_sem, *]; done) | (refine Gr.at ?_ (by assumption); exact gr_auto)
    have b1_0 : w.heap.size < W1.heap.size := World.block_lt_of_cell? _ _ k1_0
    have k1_1 : W1.cell? ⟨w.heap.size, 1, none⟩ = some (.int .i64 py) := by rw [hW1]; first | (simp [go_sem, *]; done) | (refine Gr.at ?_ (by assumption); exact gr_auto)
    clear hW1
    refine (HV.out _ g1).mono ?_
    rintro e w2 ⟨rfl, hb2⟩
    have g2 := g1.trans hb2
    clear HV HP
    go_wp2_with fail
    refine bodyPost_ret (by simp [results, Tryz.results26, go_sem]; try rfl) rfl ?_
    exact ⟨rfl, g2⟩
  · have t1 : Ba.ptB px py = false := by
      cases t1 : Ba.ptB px py
      · rfl
      · rw [t0, t1] at he; exact absurd rfl he
    rw [t0] at HV
    rw [t1] at HP
    clear he t0 t1 h
    generalize G.A = A at *; generalize G.n = n at *; generalize G.c = c at *
    go_enter Tryz.func26, Tryz.ntmps26
    go_wp2_with fail
    (first | refine name_world ?_ | refine (show (∀ W, W = _ → Calls _ _ _ W _) → Calls _ _ _ _ _ from fun h => h _ rfl) ?_); intro W1 hW1
    have g1 : Gr w W1 := by rw [hW1]; exact gr_auto
    have k1_0 : W1.cell? ⟨w.heap.size, 0, none⟩ = some (.int .i64 px) := by rw [hW1]; first | (simp [go_sem, *]; done) | (refine Gr.at ?_ (by assumption); exact gr_auto)
    have b1_0 : w.heap.size < W1.heap.size := World.block_lt_of_cell? _ _ k1_0
    have k1_1 : W1.cell? ⟨w.heap.size, 1, none⟩ = some (.int .i64 py) := by rw [hW1]; first | (simp [go_sem, *]; done) | (refine Gr.at ?_ (by assumption); exact gr_auto)
    clear hW1
    refine (HV.out _ g1).mono ?_
    rintro e w2 ⟨rfl, hb2⟩
    have g2 := g1.trans hb2
    have d0 := Gr.at hb2 k1_0; have d1 := Gr.at hb2 k1_1
    clear HV k1_0 k1_1
    go_wp2_with fail
    refine (HP.out _).mono ?_
    rintro e w3 ⟨rfl, hb3⟩
    clear HP
    go_wp2_with fail
    refine bodyPost_ret (by simp [results, Tryz.results26, go_sem]; try rfl) rfl ?_
    exact ⟨rfl, g2.trans hb3⟩

set_option maxRecDepth 100000 in
set_option maxHeartbeats 4000000 in
theorem ne_ok (G : Ba.SlGauge) (px py : Int) (w : World) (h : G.At w) (hv : Ba.gasB G = true) (hp : Ba.ptB px py = true) : Calls Tryz.prog 26 #[.slice G.A G.n G.c, .agg #[.int .i64 px, .int .i64 py]] w fun e w' => e = .returned (.tuple #[.int .i64 (Ba.nst G px py G.n : Int), .int .i64 0]) ∧ Gr w w' := by
  have HV := Lib.hid (fun W (hh : Gr w W) => gvals_any G W (h.gr hh)); have HP := Lib.hid (fun W => pvalid_any px py W)
  have HN := Lib.hid (fun W (hh : Gr w W) => near_any G px py W (h.gr hh) hv hp)
  have hm := Nat.le_trans h.hc h.hb
  rw [hv] at HV
  rw [hp] at HP
  clear hv hp h
  generalize Ba.nst G px py G.n = ns at *
  generalize G.A = A at *; generalize G.n = n at *; generalize G.c = c at *
  go_enter Tryz.func26, Tryz.ntmps26
  go_wp2_with fail
  (first | refine name_world ?_ | refine (show (∀ W, W = _ → Calls _ _ _ W _) → Calls _ _ _ _ _ from fun h => h _ rfl) ?_); intro W1 hW1
  have g1 : Gr w W1 := by rw [hW1]; exact gr_auto
  have k1_0 : W1.cell? ⟨w.heap.size, 0, none⟩ = some (.int .i64 px) := by rw [hW1]; first | (simp [go_sem, *]; done) | (refine Gr.at ?_ (by assumption); exact gr_auto)
  have b1_0 : w.heap.size < W1.heap.size := World.block_lt_of_cell? _ _ k1_0
  have k1_1 : W1.cell? ⟨w.heap.size, 1, none⟩ = some (.int .i64 py) := by rw [hW1]; first | (simp [go_sem, *]; done) | (refine Gr.at ?_ (by assumption); exact gr_auto)
  clear hW1
  refine (HV.out _ g1).mono ?_
  rintro e w2 ⟨rfl, hb2⟩
  have g2 := g1.trans hb2
  have d0 := Gr.at hb2 k1_0; have d1 := Gr.at hb2 k1_1
  clear HV k1_0 k1_1
  go_wp2_with fail
  refine (HP.out _).mono ?_
  rintro e w3 ⟨rfl, hb3⟩
  have g3 := g2.trans hb3
  replace d0 := Gr.at hb3 d0; replace d1 := Gr.at hb3 d1
  clear HP
  go_wp2_with fail
  refine (HN.out _ g3).mono ?_
  rintro e w4 ⟨rfl, hb4⟩
  clear HN
  go_wp2_with fail
  refine bodyPost_ret (by simp [results, Tryz.results26, go_sem]; try rfl) rfl ?_
  exact ⟨rfl, g3.trans hb4⟩

set_option maxRecDepth 100000 in
set_option maxHeartbeats 4000000 in
theorem inv_no (G : Ba.SlGauge) (px py : Int) (w : World) (h : G.At w) (he : Ba.neE G px py ≠ 0) : Calls Tryz.prog 27 #[.slice G.A G.n G.c, .agg #[.int .i64 px, .int .i64 py]] w fun e w' => e = .returned (.tuple #[.slice none 0 0, .int .i64 1]) ∧ Gr w w' := by
  have HN := Lib.hid (fun W (hh : Gr w W) => ne_no G px py W (h.gr hh) he)
  have hm := Nat.le_trans h.hc h.hb
  clear he h
  generalize G.A = A at *; generalize G.n = n at *; generalize G.c = c at *
  go_enter Tryz.func27, Tryz.ntmps27
  go_wp2_with fail
  (first | refine name_world ?_ | refine (show (∀ W, W = _ → Calls _ _ _ W _) → Calls _ _ _ _ _ from fun h => h _ rfl) ?_); intro W1 hW1
  have g1 : Gr w W1 := by rw [hW1]; exact gr_auto
  have k1_0 : W1.cell? ⟨w.heap.size, 0, none⟩ = some (.int .i64 px) := by rw [hW1]; first | (simp [go_sem, *]; done) | (refine Gr.at ?_ (by assumption); exact gr_auto)
  have b1_0 : w.heap.size < W1.heap.size := World.block_lt_of_cell? _ _ k1_0
  have k1_1 : W1.cell? ⟨w.heap.size, 1, none⟩ = some (.int .i64 py) := by rw [hW1]; first | (simp [go_sem, *]; done) | (refine Gr.at ?_ (by assumption); exact gr_auto)
  clear hW1
  refine (HN.out _ g1).mono ?_
  rintro e w2 ⟨rfl, hb2⟩
  have g2 := g1.trans hb2
  clear HN
  go_wp2_with fail
  refine bodyPost_ret (by simp [results, Tryz.results27, go_sem]; try rfl) rfl ?_
  exact ⟨rfl, g2⟩

/-- What Inverse answers of what is right. -/
def RetInv (G : Ba.SlGauge) (px py : Int) (w : World) (e : Ending) (w' : World) : Prop := ∃ r : Ba.SlI, e = .returned (.tuple #[.slice r.A r.n r.c, .int .i64 0]) ∧ r.At w' ∧ r.n = G.n ∧ (∀ i, i < G.n → r.X i = Ba.ivX G px py i) ∧ Gr w w'
theorem row_sli {w : World} {R n : Nat} {X : Nat → Int} (h : Row w R n (fun j => .int .i64 (X j))) (hn : n ≤ 1000) (hb : ∀ j, j < n → Ba.i64 (X j)) : Ba.SlI.At w ⟨some ⟨R, 0, none⟩, n, n, R, 0, X⟩ := ⟨fun _ => rfl, Nat.le_refl _, by simp only; omega, fun i hi => by
  simp only [Nat.zero_add]
  exact ⟨(h i hi).1, hb i hi⟩⟩

set_option maxRecDepth 100000 in
set_option maxHeartbeats 4000000 in
theorem inv_zero (G : Ba.SlGauge) (px py : Int) (w : World) (h : G.At w) (hv : Ba.gasB G = true) (hp : Ba.ptB px py = true) (h0 : Ba.sqG G px py (Ba.nst G px py G.n) = 0) : Calls Tryz.prog 27 #[.slice G.A G.n G.c, .agg #[.int .i64 px, .int .i64 py]] w (RetInv G px py w) := by
  have hq0 := Lib.hid h0
  clear h0
  obtain ⟨n1, n2, hpt⟩ := Ba.gas_parts hv
  have hA := h.hA (by omega)
  have HNE := Lib.hid (fun W (hh : Gr w W) => ne_ok G px py W (h.gr hh) hv hp)
  have HD := Lib.hid h.hD; have hnc := h.hc; have hcb := h.hb
  have hj : Ba.nst G px py G.n < G.n := Ba.nst_lt n1 (Nat.le_refl _)
  have HSQ := Lib.hid (fun i (hi : i < G.n) W => sq_any (G.D i).nm (G.D i).x (G.D i).y px py W (h.hD i hi).2.2.2 (hpt i hi) hp)
  have HB := Lib.hid (fun i (hi : i < G.n) => show 0 ≤ Ba.sqG G px py i ∧ Ba.sqG G px py i ≤ 2251799813685248 from Ba.sqI_bd (hpt i hi) hp)
  have HMN := Lib.hid (fun k (hk : k < G.n) => Ba.nst_min (G := G) (px := px) (py := py) G.n k hk)
  have HX := Lib.hid (fun i => show Ba.ivX G px py i = if Ba.sqG G px py (Ba.nst G px py G.n) = 0 then (if i = Ba.nst G px py G.n then 1073741824 else 0) else 1073741824 * Ba.sqG G px py (Ba.nst G px py G.n) / Ba.sqG G px py i from rfl)
  have HS2 := Lib.hid (fun i => show Ba.sqI (G.D i).x (G.D i).y px py = Ba.sqG G px py i from rfl)
  clear hv hpt h hp
  unfold RetInv
  rw [hA] at HNE ⊢
  generalize hns : Ba.nst G px py G.n = ns at *
  generalize Ba.sqG G px py = sq at *
  generalize Ba.ivX G px py = iv at *
  clear hA hns
  obtain ⟨A, n, c, gb, go, D⟩ := G
  simp only at *
  clear A
  have HSQ2 := Lib.hid (fun i (hi : i < n) W => by have z := HSQ.out i hi W; rw [HS2.out i] at z; exact z)
  clear HSQ HS2
  obtain ⟨i1, hi0, hz0, hz1, hz2⟩ := info_parts info_int
  have KI := Lib.hid hi0; have KZ0 := Lib.hid hz0; have KZ1 := Lib.hid hz1; have KZ2 := Lib.hid hz2
  clear hi0 hz0 hz1 hz2
  go_enter Tryz.func27, Tryz.ntmps27
  go_wp2_with fail
  (first | refine name_world ?_ | refine (show (∀ W, W = _ → Calls _ _ _ W _) → Calls _ _ _ _ _ from fun h => h _ rfl) ?_); intro W1 hW1
  have g1 : Gr w W1 := by rw [hW1]; exact gr_auto
  have k1_0 : W1.cell? ⟨w.heap.size, 0, none⟩ = some (.int .i64 px) := by rw [hW1]; first | (simp [go_sem, *]; done) | (refine Gr.at ?_ (by assumption); exact gr_auto)
  have b1_0 : w.heap.size < W1.heap.size := World.block_lt_of_cell? _ _ k1_0
  have k1_1 : W1.cell? ⟨w.heap.size, 1, none⟩ = some (.int .i64 py) := by rw [hW1]; first | (simp [go_sem, *]; done) | (refine Gr.at ?_ (by assumption); exact gr_auto)
  clear hW1
  refine (HNE.out _ g1).mono ?_
  rintro e w2 ⟨rfl, hb2⟩
  have g2 := g1.trans hb2
  have d0 := Gr.at hb2 k1_0; have d1 := Gr.at hb2 k1_1
  clear HNE k1_0 k1_1
  -- @a
  go_wp2_with (at_make; refine wpList_make_full _ rfl _ _ _ rfl w.heap.size 3 i1 (.int .i64 0) 1 Tryz.underlying26 KI.out KZ0.out KZ1.out .i64 .i64 n n n rfl rfl rfl rfl ?d1 ?d2 ?d3 ?_)
  case d1 => rw [KZ2.out]; omega
  case d2 => unfold maxLen; omega
  case d3 => exact Gr.size g2
  intro w3 hown hgrow
  have hrow := Lib.hid (made_row hown)
  have zR : w.heap.size < w2.heap.size := World.block_lt_of_cell? _ _ d0
  have G23 : Gr w2 w3 := Gr.own (Gr.refl _) (Nat.le_refl _) (n := 0) (e := 3) (size := 1) (xs := []) (v := .slice none 0 0) ⟨rfl, Or.inl ⟨rfl, rfl⟩⟩ hgrow
  have g3 := g2.trans G23
  replace d0 := Gr.at G23 d0; replace d1 := Gr.at G23 d1
  obtain ⟨R, hR⟩ : ∃ R, w2.heap.size = R := ⟨_, rfl⟩
  rw [hR] at hrow zR ⊢
  clear hown hgrow hR KI KZ0 KZ1 KZ2
  have sj := HB.out ns hj
  obtain ⟨b0, b1, b2⟩ := (HD.out ns hj).1.gr g3
  have jb0 : (0 : Int) ≤ (ns : Int) := by omega
  have jb1 : (ns : Int) < (n : Int) := by omega
  have HJ := Lib.hid (HSQ2.out ns hj)
  obtain ⟨dj, hdj⟩ : ∃ z, D ns = z := ⟨_, rfl⟩
  rw [hdj] at b0 b1 b2 HJ
  clear hdj
  -- @b
  go_wp2_with fail
  (first | refine name_world ?_ | refine (show (∀ W, W = _ → Calls _ _ _ W _) → Calls _ _ _ _ _ from fun h => h _ rfl) ?_); intro W4 hW4
  have g4 : Gr w W4 := by rw [hW4]; exact gr_auto
  have gb4_w3 : Gr w3 W4 := by (try clear g4); rw [hW4]; exact gr_auto
  have k4_0 : W4.cell? ⟨w.heap.size, 0, none⟩ = some (.int .i64 px) := by rw [hW4]; first | (simp [go_sem, *]; done) | (refine Gr.at ?_ (by assumption); exact gr_auto)
  have b4_0 : w.heap.size < W4.heap.size := World.block_lt_of_cell? _ _ k4_0
  have k4_1 : W4.cell? ⟨w.heap.size, 1, none⟩ = some (.int .i64 py) := by rw [hW4]; first | (simp [go_sem, *]; done) | (refine Gr.at ?_ (by assumption); exact gr_auto)
  have k4_2 : W4.cell? ⟨gb, go + ns * 3, none⟩ = some (.string dj.nm) := by rw [hW4]; first | (simp [go_sem, *]; done) | (refine Gr.at ?_ (by assumption); exact gr_auto)
  have b4_2 : gb < W4.heap.size := World.block_lt_of_cell? _ _ k4_2
  have k4_3 : W4.cell? ⟨gb, go + ns * 3 + 1, none⟩ = some (.int .i64 dj.x) := by rw [hW4]; first | (simp [go_sem, *]; done) | (refine Gr.at ?_ (by assumption); exact gr_auto)
  have k4_4 : W4.cell? ⟨gb, go + ns * 3 + 2, none⟩ = some (.int .i64 dj.y) := by rw [hW4]; first | (simp [go_sem, *]; done) | (refine Gr.at ?_ (by assumption); exact gr_auto)
  clear hW4
  have s4_0 : ∀ gw : GW W4, gw.1.cell? ⟨w.heap.size, 0, none⟩ = some (.int .i64 px) := fun gw => Gr.at gw.2 k4_0
  have s4_1 : ∀ gw : GW W4, gw.1.cell? ⟨w.heap.size, 1, none⟩ = some (.int .i64 py) := fun gw => Gr.at gw.2 k4_1
  have s4_2 : ∀ gw : GW W4, gw.1.cell? ⟨gb, go + ns * 3, none⟩ = some (.string dj.nm) := fun gw => Gr.at gw.2 k4_2
  have s4_3 : ∀ gw : GW W4, gw.1.cell? ⟨gb, go + ns * 3 + 1, none⟩ = some (.int .i64 dj.x) := fun gw => Gr.at gw.2 k4_3
  have s4_4 : ∀ gw : GW W4, gw.1.cell? ⟨gb, go + ns * 3 + 2, none⟩ = some (.int .i64 dj.y) := fun gw => Gr.at gw.2 k4_4
  have HS1 := Lib.hid (fun gw : GW W4 => gw_call (HJ.out gw.1))
  refine wp_region_gr (by kernel_rfl) (by kernel_rfl) ?_
  repeat (go_big_quiet_step ((go_at_call 66; exact HS1.out _)))
  refine wpQuiet_nil ?_
  intro w5 hb5
  clear s4_0 s4_1 s4_2 s4_3 s4_4
  have g5 : Gr w w5 := g4.trans hb5
  have k4_0 := Gr.at hb5 k4_0
  have k4_1 := Gr.at hb5 k4_1
  have k4_2 := Gr.at hb5 k4_2
  have k4_3 := Gr.at hb5 k4_3
  have k4_4 := Gr.at hb5 k4_4
  have hrow5 := Lib.hid (hrow.out.gr (gb4_w3.trans hb5))
  clear HS1 HJ hrow b0 b1 b2 d0 d1 k4_2 k4_3 k4_4
  have hz := hq0.out
  rw [hz] at sj HMN HX ⊢
  clear hq0 hz
  -- @c
  have r0 := (hrow5.out ns hj).1; have r1 := (hrow5.out ns hj).2
  have hset := Lib.hid (fun (X : Nat → Int) (h1 : X ns = 1073741824) (h2 : ∀ j, j < n → j ≠ ns → X j = 0) => show Row (w5.setCell ⟨R, ns, none⟩ (.int .i64 1073741824)) R n (fun j => .int .i64 (X j)) from Row.set (k := ns) hrow5.out (by show Value.int .i64 _ = _; rw [h1]) (fun j hj' hn => by show Value.int .i64 _ = _; rw [h2 j hj' hn]))
  have hgs := Lib.hid (fun x => Gr.setCell (p := ⟨R, ns, none⟩) g5 (Nat.le_of_lt zR) x)
  have HXX := Lib.hid HX.out
  clear HD HMN HB HSQ2 HX hrow5 k4_0 k4_1
  go_wp2_with fail
  refine bodyPost_ret (by simp [results, Tryz.results27, go_sem]; try rfl) rfl ?_
  have e1 : iv ns = 1073741824 := by rw [HXX.out]; simp
  have e2 : ∀ j, j < n → j ≠ ns → iv j = 0 := fun j _ h => by rw [HXX.out]; simp [h]
  refine ⟨⟨some ⟨R, 0, none⟩, n, n, R, 0, iv⟩, rfl, row_sli (hset.out iv e1 e2) (by omega) (fun j hj' => ?_), rfl, fun _ _ => rfl, hgs.out _⟩
  by_cases e : j = ns
  · rw [e, e1]; unfold Ba.i64; omega
  · rw [e2 j hj' e]; unfold Ba.i64; omega

set_option maxRecDepth 100000 in
set_option maxHeartbeats 4000000 in
theorem inv_ok (G : Ba.SlGauge) (px py : Int) (w : World) (h : G.At w) (hv : Ba.gasB G = true) (hp : Ba.ptB px py = true) (h0 : Ba.sqG G px py (Ba.nst G px py G.n) ≠ 0) : Calls Tryz.prog 27 #[.slice G.A G.n G.c, .agg #[.int .i64 px, .int .i64 py]] w (RetInv G px py w) := by
  have hq0 := Lib.hid h0
  clear h0
  obtain ⟨n1, n2, hpt⟩ := Ba.gas_parts hv
  have hA := h.hA (by omega)
  have HNE := Lib.hid (fun W (hh : Gr w W) => ne_ok G px py W (h.gr hh) hv hp)
  have HD := Lib.hid h.hD; have hnc := h.hc; have hcb := h.hb
  have hj : Ba.nst G px py G.n < G.n := Ba.nst_lt n1 (Nat.le_refl _)
  have HSQ := Lib.hid (fun i (hi : i < G.n) W => sq_any (G.D i).nm (G.D i).x (G.D i).y px py W (h.hD i hi).2.2.2 (hpt i hi) hp)
  have HB := Lib.hid (fun i (hi : i < G.n) => show 0 ≤ Ba.sqG G px py i ∧ Ba.sqG G px py i ≤ 2251799813685248 from Ba.sqI_bd (hpt i hi) hp)
  have HMN := Lib.hid (fun k (hk : k < G.n) => Ba.nst_min (G := G) (px := px) (py := py) G.n k hk)
  have HX := Lib.hid (fun i => show Ba.ivX G px py i = if Ba.sqG G px py (Ba.nst G px py G.n) = 0 then (if i = Ba.nst G px py G.n then 1073741824 else 0) else 1073741824 * Ba.sqG G px py (Ba.nst G px py G.n) / Ba.sqG G px py i from rfl)
  have HS2 := Lib.hid (fun i => show Ba.sqI (G.D i).x (G.D i).y px py = Ba.sqG G px py i from rfl)
  clear hv hpt h hp
  unfold RetInv
  rw [hA] at HNE ⊢
  generalize hns : Ba.nst G px py G.n = ns at *
  generalize Ba.sqG G px py = sq at *
  generalize Ba.ivX G px py = iv at *
  clear hA hns
  obtain ⟨A, n, c, gb, go, D⟩ := G
  simp only at *
  clear A
  have HSQ2 := Lib.hid (fun i (hi : i < n) W => by have z := HSQ.out i hi W; rw [HS2.out i] at z; exact z)
  clear HSQ HS2
  obtain ⟨i1, hi0, hz0, hz1, hz2⟩ := info_parts info_int
  have KI := Lib.hid hi0; have KZ0 := Lib.hid hz0; have KZ1 := Lib.hid hz1; have KZ2 := Lib.hid hz2
  clear hi0 hz0 hz1 hz2
  go_enter Tryz.func27, Tryz.ntmps27
  go_wp2_with fail
  (first | refine name_world ?_ | refine (show (∀ W, W = _ → Calls _ _ _ W _) → Calls _ _ _ _ _ from fun h => h _ rfl) ?_); intro W1 hW1
  have g1 : Gr w W1 := by rw [hW1]; exact gr_auto
  have k1_0 : W1.cell? ⟨w.heap.size, 0, none⟩ = some (.int .i64 px) := by rw [hW1]; first | (simp [go_sem, *]; done) | (refine Gr.at ?_ (by assumption); exact gr_auto)
  have b1_0 : w.heap.size < W1.heap.size := World.block_lt_of_cell? _ _ k1_0
  have k1_1 : W1.cell? ⟨w.heap.size, 1, none⟩ = some (.int .i64 py) := by rw [hW1]; first | (simp [go_sem, *]; done) | (refine Gr.at ?_ (by assumption); exact gr_auto)
  clear hW1
  refine (HNE.out _ g1).mono ?_
  rintro e w2 ⟨rfl, hb2⟩
  have g2 := g1.trans hb2
  have d0 := Gr.at hb2 k1_0; have d1 := Gr.at hb2 k1_1
  clear HNE k1_0 k1_1
  -- @a
  go_wp2_with (at_make; refine wpList_make_full _ rfl _ _ _ rfl w.heap.size 3 i1 (.int .i64 0) 1 Tryz.underlying26 KI.out KZ0.out KZ1.out .i64 .i64 n n n rfl rfl rfl rfl ?d1 ?d2 ?d3 ?_)
  case d1 => rw [KZ2.out]; omega
  case d2 => unfold maxLen; omega
  case d3 => exact Gr.size g2
  intro w3 hown hgrow
  have hrow := Lib.hid (made_row hown)
  have zR : w.heap.size < w2.heap.size := World.block_lt_of_cell? _ _ d0
  have G23 : Gr w2 w3 := Gr.own (Gr.refl _) (Nat.le_refl _) (n := 0) (e := 3) (size := 1) (xs := []) (v := .slice none 0 0) ⟨rfl, Or.inl ⟨rfl, rfl⟩⟩ hgrow
  have g3 := g2.trans G23
  replace d0 := Gr.at G23 d0; replace d1 := Gr.at G23 d1
  obtain ⟨R, hR⟩ : ∃ R, w2.heap.size = R := ⟨_, rfl⟩
  rw [hR] at hrow zR ⊢
  clear hown hgrow hR KI KZ0 KZ1 KZ2
  have sj := HB.out ns hj
  obtain ⟨b0, b1, b2⟩ := (HD.out ns hj).1.gr g3
  have jb0 : (0 : Int) ≤ (ns : Int) := by omega
  have jb1 : (ns : Int) < (n : Int) := by omega
  have HJ := Lib.hid (HSQ2.out ns hj)
  obtain ⟨dj, hdj⟩ : ∃ z, D ns = z := ⟨_, rfl⟩
  rw [hdj] at b0 b1 b2 HJ
  clear hdj
  -- @b
  go_wp2_with fail
  (first | refine name_world ?_ | refine (show (∀ W, W = _ → Calls _ _ _ W _) → Calls _ _ _ _ _ from fun h => h _ rfl) ?_); intro W4 hW4
  have g4 : Gr w W4 := by rw [hW4]; exact gr_auto
  have gb4_w3 : Gr w3 W4 := by (try clear g4); rw [hW4]; exact gr_auto
  have k4_0 : W4.cell? ⟨w.heap.size, 0, none⟩ = some (.int .i64 px) := by rw [hW4]; first | (simp [go_sem, *]; done) | (refine Gr.at ?_ (by assumption); exact gr_auto)
  have b4_0 : w.heap.size < W4.heap.size := World.block_lt_of_cell? _ _ k4_0
  have k4_1 : W4.cell? ⟨w.heap.size, 1, none⟩ = some (.int .i64 py) := by rw [hW4]; first | (simp [go_sem, *]; done) | (refine Gr.at ?_ (by assumption); exact gr_auto)
  have k4_2 : W4.cell? ⟨gb, go + ns * 3, none⟩ = some (.string dj.nm) := by rw [hW4]; first | (simp [go_sem, *]; done) | (refine Gr.at ?_ (by assumption); exact gr_auto)
  have b4_2 : gb < W4.heap.size := World.block_lt_of_cell? _ _ k4_2
  have k4_3 : W4.cell? ⟨gb, go + ns * 3 + 1, none⟩ = some (.int .i64 dj.x) := by rw [hW4]; first | (simp [go_sem, *]; done) | (refine Gr.at ?_ (by assumption); exact gr_auto)
  have k4_4 : W4.cell? ⟨gb, go + ns * 3 + 2, none⟩ = some (.int .i64 dj.y) := by rw [hW4]; first | (simp [go_sem, *]; done) | (refine Gr.at ?_ (by assumption); exact gr_auto)
  clear hW4
  have s4_0 : ∀ gw : GW W4, gw.1.cell? ⟨w.heap.size, 0, none⟩ = some (.int .i64 px) := fun gw => Gr.at gw.2 k4_0
  have s4_1 : ∀ gw : GW W4, gw.1.cell? ⟨w.heap.size, 1, none⟩ = some (.int .i64 py) := fun gw => Gr.at gw.2 k4_1
  have s4_2 : ∀ gw : GW W4, gw.1.cell? ⟨gb, go + ns * 3, none⟩ = some (.string dj.nm) := fun gw => Gr.at gw.2 k4_2
  have s4_3 : ∀ gw : GW W4, gw.1.cell? ⟨gb, go + ns * 3 + 1, none⟩ = some (.int .i64 dj.x) := fun gw => Gr.at gw.2 k4_3
  have s4_4 : ∀ gw : GW W4, gw.1.cell? ⟨gb, go + ns * 3 + 2, none⟩ = some (.int .i64 dj.y) := fun gw => Gr.at gw.2 k4_4
  have HS1 := Lib.hid (fun gw : GW W4 => gw_call (HJ.out gw.1))
  refine wp_region_gr (by kernel_rfl) (by kernel_rfl) ?_
  repeat (go_big_quiet_step ((go_at_call 66; exact HS1.out _)))
  refine wpQuiet_nil ?_
  intro w5 hb5
  clear s4_0 s4_1 s4_2 s4_3 s4_4
  have g5 : Gr w w5 := g4.trans hb5
  have k4_0 := Gr.at hb5 k4_0
  have k4_1 := Gr.at hb5 k4_1
  have k4_2 := Gr.at hb5 k4_2
  have k4_3 := Gr.at hb5 k4_3
  have k4_4 := Gr.at hb5 k4_4
  have hrow5 := Lib.hid (hrow.out.gr (gb4_w3.trans hb5))
  clear HS1 HJ hrow b0 b1 b2 d0 d1 k4_2 k4_3 k4_4
  obtain ⟨ls, hls⟩ : ∃ z, sq ns = z := ⟨_, rfl⟩
  have hq := hq0.out
  rw [hls] at sj HMN HX hq ⊢
  clear hls hq0
  -- @c
  have hz1 : (ls == 0) = false := beq_eq_false_iff_ne.2 hq
  have HXX := Lib.hid (fun i => show iv i = 1073741824 * ls / sq i by rw [HX.out, if_neg hq])
  have hrow6 := Lib.hid (show Row w5 R n (fun j => .int .i64 (if j < 0 then iv j else 0)) from by rw [show (fun j => Value.int .i64 (if j < 0 then iv j else 0)) = fun _ => Value.int .i64 0 from funext fun j => by rw [if_neg (by omega)]]; exact hrow5.out)
  have HQB := Lib.hid (fun i (hi : i < n) => show 0 ≤ iv i ∧ iv i ≤ 1073741824 from by
    have a := HB.out i hi; have b := HMN.out i hi
    rw [HXX.out]
    exact ⟨Int.ediv_nonneg (by omega) (by omega), Int.ediv_le_of_le_mul (by omega) (by omega)⟩)
  have HSC := Lib.hid (fun i (hi : i < n) W => show Calls Tryz.prog 67 #[.int .i64 1073741824, .int .i64 ls, .int .i64 (sq i)] W fun e w' => e = .returned (.tuple #[.int .i64 (iv i), .int .i64 (Wd.scHi (1073741824 * ls) (sq i)), .int .i64 0]) ∧ Gr W w' from by
    have a := HB.out i hi; have b := HMN.out i hi; have q := HQB.out i hi
    have z := scale_any 1073741824 ls (sq i) W (by omega) (by omega) (by omega) (by omega) (by omega) (by omega)
    obtain ⟨s1, s2⟩ := Ba.sc_of (p := 1073741824 * ls) (d := sq i) (q := iv i) (by omega) (by omega) (HXX.out i).symm q.1 q.2
    rw [s1, s2] at z
    exact z)
  clear HX hrow5 HMN hj HXX
  go_wp2_with fail
  go_loopw [38] (fun x wr => ∃ i : Nat, i ≤ n ∧ x = .int .i64 (i : Int) ∧ Hid (Row wr R n (fun j => .int .i64 (if j < i then iv j else 0))) ∧ wr.cell? ⟨w.heap.size, 0, none⟩ = some (.int .i64 px) ∧ wr.cell? ⟨w.heap.size, 1, none⟩ = some (.int .i64 py) ∧ Gr w wr) (fun x _ => n - (intOf x).toNat)
  case atStart => exact ⟨0, Nat.zero_le _, rfl, hrow6, k4_0, k4_1, g5⟩
  case round =>
    clear hrow6 k4_0 k4_1
    obtain ⟨i, hi, rfl, HR, d0, d1, hg⟩ := hrel
    by_cases hlt : i < n
    · obtain ⟨a0, a1, a2⟩ := (HD.out i hlt).1.gr hg
      have HSi := Lib.hid (HSQ2.out i hlt); have HCi := Lib.hid (HSC.out i hlt); have qb := HQB.out i hlt; have sb := HB.out i hlt
      have ib0 : (0 : Int) ≤ (i : Int) := by omega
      have ib1 : (i : Int) < (n : Int) := by omega
      have HRs := Lib.hid (fun (W : World) (hW : Gr wr W) => show Row (W.setCell ⟨R, i, none⟩ (.int .i64 (iv i))) R n (fun j => .int .i64 (if j < i + 1 then iv j else 0)) from Row.set (k := i) (HR.out.gr hW) (by show Value.int .i64 _ = _; rw [if_pos (by omega)]) (fun j _ hj => by
        show Value.int .i64 _ = Value.int .i64 _
        by_cases e : j < i
        · rw [if_pos e, if_pos (by omega)]
        · rw [if_neg e, if_neg (by omega)]))
      have HRW := Lib.hid (fun (W : World) (hW : Gr wr W) => (HR.out i hlt).gr hW)
      have HGs := Lib.hid (fun (W : World) (hW : Gr wr W) x => Gr.setCell (p := ⟨R, i, none⟩) (hg.trans hW) (Nat.le_of_lt zR) x)
      have HDs := Lib.hid (fun (W : World) (hW : Gr wr W) x => show (W.setCell ⟨R, i, none⟩ x).cell? ⟨w.heap.size, 0, none⟩ = some (.int .i64 px) from by rw [World.cell?_setCell_other _ _ _ _ (fun e => by simp only [Addr.mk.injEq] at e; omega)]; exact Gr.at hW d0)
      have HDt := Lib.hid (fun (W : World) (hW : Gr wr W) x => show (W.setCell ⟨R, i, none⟩ x).cell? ⟨w.heap.size, 1, none⟩ = some (.int .i64 py) from by rw [World.cell?_setCell_other _ _ _ _ (fun e => by simp only [Addr.mk.injEq] at e; omega)]; exact Gr.at hW d1)
      clear HD HSQ2 HSC HQB HB HR
      generalize D i = di at *
      generalize sq i = si at *
      generalize iv i = v at *
      generalize Wd.scHi (1073741824 * ls) si = hh at *
      have hwb : w.heap.size < wr.heap.size := World.block_lt_of_cell? _ _ d0
      -- @d
      go_wp2_with fail
      (first | refine name_world ?_ | refine (show (∀ W, W = _ → Calls _ _ _ W _) → Calls _ _ _ _ _ from fun h => h _ rfl) ?_); intro W7 hW7
      have g7 : Gr w W7 := by rw [hW7]; exact gr_auto
      have gb7_wr : Gr wr W7 := by (try clear g7); rw [hW7]; exact gr_auto
      have k7_0 : W7.cell? ⟨w.heap.size, 0, none⟩ = some (.int .i64 px) := by rw [hW7]; first | (simp [go_sem, *]; done) | (refine Gr.at ?_ (by assumption); exact gr_auto)
      have b7_0 : w.heap.size < W7.heap.size := World.block_lt_of_cell? _ _ k7_0
      have k7_1 : W7.cell? ⟨w.heap.size, 1, none⟩ = some (.int .i64 py) := by rw [hW7]; first | (simp [go_sem, *]; done) | (refine Gr.at ?_ (by assumption); exact gr_auto)
      have k7_2 : W7.cell? ⟨wr.heap.size, 0, none⟩ = some (.string di.nm) := by rw [hW7]; first | (simp [go_sem, *]; done) | (refine Gr.at ?_ (by assumption); exact gr_auto)
      have b7_2 : wr.heap.size < W7.heap.size := World.block_lt_of_cell? _ _ k7_2
      have k7_3 : W7.cell? ⟨wr.heap.size, 1, none⟩ = some (.int .i64 di.x) := by rw [hW7]; first | (simp [go_sem, *]; done) | (refine Gr.at ?_ (by assumption); exact gr_auto)
      have k7_4 : W7.cell? ⟨wr.heap.size, 2, none⟩ = some (.int .i64 di.y) := by rw [hW7]; first | (simp [go_sem, *]; done) | (refine Gr.at ?_ (by assumption); exact gr_auto)
      clear hW7
      refine (HSi.out _).mono ?_
      rintro e w8 ⟨rfl, hb8⟩
      clear HSi k7_0 k7_1 k7_2 k7_3 k7_4
      go_wp2_with fail
      refine (HCi.out _).mono ?_
      rintro e w9 ⟨rfl, hb9⟩
      clear HCi
      have gz : Gr wr w9 := gb7_wr.trans (hb8.trans hb9)
      have r0 := (HRW.out _ gz).1; have r1 := (HRW.out _ gz).2
      clear HRW
      go_wp2_with fail
      go_roundw
      case rel => exact ⟨i + 1, by omega, by go_num, HRs.out _ gz, HDs.out _ gz _, HDt.out _ gz _, HGs.out _ gz _⟩
      case measure => simp [intOf]; omega
    · obtain rfl : n = i := by omega
      have HRF := Lib.hid (show Row wr R n (fun j => .int .i64 (if j < n then iv j else 0)) from HR.out)
      clear HD HSQ2 HSC HB HR
      go_wp2_with fail
      refine bodyPost_ret (by simp [results, Tryz.results27, go_sem]; try rfl) rfl ?_
      refine ⟨⟨some ⟨R, 0, none⟩, n, n, R, 0, fun j => if j < n then iv j else 0⟩, rfl, row_sli HRF.out (by omega) (fun j hj' => ?_), rfl, fun i hi => if_pos hi, hg⟩
      have := HQB.out j hj'
      rw [if_pos hj']
      unfold Ba.i64; omega

theorem inv_any (G : Ba.SlGauge) (px py : Int) (w : World) (h : G.At w) (hv : Ba.gasB G = true) (hp : Ba.ptB px py = true) : Calls Tryz.prog 27 #[.slice G.A G.n G.c, .agg #[.int .i64 px, .int .i64 py]] w (RetInv G px py w) := by
  by_cases h0 : Ba.sqG G px py (Ba.nst G px py G.n) = 0
  · exact inv_zero G px py w h hv hp h0
  · exact inv_ok G px py w h hv hp h0
end Go.Proofs.YtajhhplgcegodaaGreatDoor
