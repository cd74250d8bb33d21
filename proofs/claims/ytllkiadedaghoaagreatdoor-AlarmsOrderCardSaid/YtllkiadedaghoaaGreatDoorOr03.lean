/-
  
-/
import Derived.Test.YtllkiadedaghoaaGreatDoorOr02

set_option linter.unusedVariables false
set_option linter.unusedSimpArgs false
namespace Go.Proofs.YtllkiadedaghoaaGreatDoor
open Go.RowKit
theorem ck_quiet_eq {P : Program} {f : FuncId} {args : Array Value} {w : World} {n : Nat} {v : Value}
    (h : Calls P f args (w.drewN n) fun e w' => e = .returned v ∧ w.drewN n = w') : Calls P f args (w.drewN n) fun e w'' => e = .returned v ∧ ∃ m, w'' = w.drewN m :=
  h.mono fun _ _ ⟨he, hm⟩ => ⟨he, n, hm.symm⟩
set_option maxHeartbeats 800000 in
theorem dateof_bad (n : Int) (w : World) (h : n < -730119 ∨ 2921940 ≤ n) :
    Calls Tryz.prog 103 #[.int .i64 n] w fun e w' => e = .returned (.tuple #[.agg #[.int .i64 0, .int .i64 0, .int .i64 0], .int .i64 2]) ∧ Gr w w' := by
  have e1 := Ck.bef_lo
  have e2 := Ck.bef_hi
  rcases h with h | h
  · have d1 : decide (n < -730119) = true := decide_eq_true h
    clear h
    go_enter Tryz.func103, Tryz.ntmps103
    go_wp2_with fail
    go_quiet ((go_at_call 145; exact ck_quiet_eq (before_any _ _ (by omega) (by omega))))
    go_wp2
    refine bodyPost_ret (by simp [results, Tryz.results103, go_sem]; try rfl) rfl ?_
    exact ⟨by first | rfl | (simp; done), gr_auto⟩
  · have d1 : decide (n < -730119) = false := decide_eq_false (by omega)
    have d2 : decide (2921940 ≤ n) = true := decide_eq_true h
    clear h
    go_enter Tryz.func103, Tryz.ntmps103
    go_wp2_with fail
    go_quiet ((go_at_call 145; exact ck_quiet_eq (before_any _ _ (by omega) (by omega))))
    go_wp2
    refine bodyPost_ret (by simp [results, Tryz.results103, go_sem]; try rfl) rfl ?_
    exact ⟨by first | rfl | (simp; done), gr_auto⟩
/-- The world while the days are taken off: a date of the call's own at D, the result's block at R. -/
def DtSt (w wx : World) (D R : Nat) (y k e : Int) : Prop :=
  Gr w wx ∧ wx.cell? ⟨D, 0, none⟩ = some (.int .i64 y) ∧ wx.cell? ⟨D, 1, none⟩ = some (.int .i64 k) ∧ wx.cell? ⟨D, 2, none⟩ = some (.int .i64 e) ∧ wx.frozen? ⟨D, 1, none⟩ = false ∧ wx.frozen? ⟨D, 2, none⟩ = false ∧
  wx.cell? ⟨R, 0, none⟩ = some (.int .i64 0) ∧ wx.cell? ⟨R, 1, none⟩ = some (.int .i64 0) ∧ wx.cell? ⟨R, 2, none⟩ = some (.int .i64 0) ∧ wx.frozen? ⟨R, 0, none⟩ = false ∧ wx.frozen? ⟨R, 1, none⟩ = false ∧ wx.frozen? ⟨R, 2, none⟩ = false
theorem DtSt.grown {w wx w6 : World} {D R : Nat} {y k e : Int} (h : DtSt w wx D R y k e) (hb : Gr wx w6) : DtSt w w6 D R y k e := by
  obtain ⟨q0, q1, q2, q3, q4, q5, q6, q7, q8, q9, q10, q11⟩ := h
  exact ⟨q0.trans hb, Gr.at hb q1, Gr.at hb q2, Gr.at hb q3, Gr.free hb q2 q4, Gr.free hb q3 q5, Gr.at hb q6, Gr.at hb q7, Gr.at hb q8, Gr.free hb q6 q9, Gr.free hb q7 q10, Gr.free hb q8 q11⟩
theorem DtSt.day {w wx : World} {D R : Nat} {y k e : Int} (h : DtSt w wx D R y k e) (hD : w.heap.size ≤ D) (hne : D ≠ R) (e' : Int) : DtSt w (wx.setCell ⟨D, 2, none⟩ (.int .i64 e')) D R y k e' := by
  obtain ⟨q0, q1, q2, q3, q4, q5, q6, q7, q8, q9, q10, q11⟩ := h
  have hne' : R ≠ D := fun h => hne h.symm
  refine ⟨q0.setCell hD _, ?_, ?_, ?_, ?_, ?_, ?_, ?_, ?_, ?_, ?_, ?_⟩ <;> simp [go_sem, *]
theorem DtSt.mon {w wx : World} {D R : Nat} {y k e : Int} (h : DtSt w wx D R y k e) (hD : w.heap.size ≤ D) (hne : D ≠ R) (k' : Int) : DtSt w (wx.setCell ⟨D, 1, none⟩ (.int .i64 k')) D R y k' e := by
  obtain ⟨q0, q1, q2, q3, q4, q5, q6, q7, q8, q9, q10, q11⟩ := h
  have hne' : R ≠ D := fun h => hne h.symm
  refine ⟨q0.setCell hD _, ?_, ?_, ?_, ?_, ?_, ?_, ?_, ?_, ?_, ?_, ?_⟩ <;> simp [go_sem, *]
theorem DtSt.drew {w wx : World} {D R : Nat} {y k e : Int} (h : DtSt w wx D R y k e) : DtSt w wx.drew D R y k e := h.grown (Gr.drew (Gr.refl _))
theorem cellOf_of {w : World} {b o : Nat} {v : Value} (h : w.cell? ⟨b, o, none⟩ = some v) : cellOf w b o = v := by unfold cellOf; rw [h]; rfl
set_option maxHeartbeats 1600000 in
theorem dateof_any (n y m d : Int) (w : World) (hv : Ck.vld y m d = true) (hn : Ck.num y m d = n) :
    Calls Tryz.prog 103 #[.int .i64 n] w fun e w' => e = .returned (.tuple #[.agg #[.int .i64 y, .int .i64 m, .int .i64 d], .int .i64 0]) ∧ Gr w w' := by
  obtain ⟨v1, v2, v3, v4, v5, v6⟩ := (Ck.vld_iff y m d).1 hv
  obtain ⟨n0, n1⟩ := Ck.num_bd hv
  obtain ⟨n2, n3⟩ := Ck.num_year hv
  have hx : n - Ck.bef y + 1 = Ck.cum y m + d := by rw [← hn]; unfold Ck.num; omega
  rw [hn] at n0 n1 n2 n3
  obtain ⟨c0, c1⟩ := Ck.bef_bd y (by omega) (by omega)
  have s0 := Ck.cum_bd y m
  clear hv hn
  have HX := Lib.hid hx; clear hx
  have HS := Lib.hid (fun W hc => search_any w.heap.size n y W hc v1 v2 n2 n3)
  have e1 := Ck.bef_lo
  have e2 := Ck.bef_hi
  have d1 : decide (n < -730119) = false := decide_eq_false (by omega)
  have d2 : decide (2921940 ≤ n) = false := decide_eq_false (by omega)
  go_enter Tryz.func103, Tryz.ntmps103
  go_wp2_with fail
  go_quiet ((go_at_call 145; exact ck_quiet_eq (before_any _ _ (by omega) (by omega))))
  have bs := Ck.bef_succ y
  have lp := Ck.lp_01 y
  have x1 : IntKind.i64.wrap (n - Ck.bef y) = n - Ck.bef y := IntWalk.i64_in _ (by omega)
  have x2 : IntKind.i64.wrap (n - Ck.bef y + 1) = n - Ck.bef y + 1 := IntWalk.i64_in _ (by omega)
  have X1 := Lib.hid x1; have X2 := Lib.hid x2
  clear d1 d2 e1 e2 n0 n1 x1 x2 bs lp
  go_wp2_with fail
  refine (HS.out _ (by simp [go_sem])).mono ?_
  rintro e w1 ⟨rfl, hb1⟩
  obtain ⟨hc1, hf1⟩ := Gr.cells hb1; have hz1 := Gr.size hb1; (try simp at hz1); (try have hy1_0 : w.heap.size < w1.heap.size := by omega); (try have hy1_1 : w.heap.size + 1 < w1.heap.size := by omega); (try have hy1_2 : w.heap.size + 1 + 1 < w1.heap.size := by omega); (try have hy1_3 : w.heap.size + 1 + 1 + 1 < w1.heap.size := by omega); (try have hy1_4 : w.heap.size + 1 + 1 + 1 + 1 < w1.heap.size := by omega); (try have hy1_5 : w.heap.size + 1 + 1 + 1 + 1 + 1 < w1.heap.size := by omega)
  have kc1_0 := hc1 (w.heap.size) 0 (by first | omega | (simp; done) | (simp; omega))
  have kc1_1 := hc1 (w.heap.size + 1) 0 (by first | omega | (simp; done) | (simp; omega))
  have kc1_2 := hc1 (w.heap.size + 1) 1 (by first | omega | (simp; done) | (simp; omega))
  have kc1_3 := hc1 (w.heap.size + 1) 2 (by first | omega | (simp; done) | (simp; omega))
  clear hc1
  (try simp [go_sem, *] at kc1_0)
  (try simp [go_sem, *] at kc1_1)
  (try simp [go_sem, *] at kc1_2)
  (try simp [go_sem, *] at kc1_3)
  have g1 := hf1 (w.heap.size + 1) 0 (by simp; try omega)
  have g2 := hf1 (w.heap.size + 1) 1 (by simp; try omega)
  have g3 := hf1 (w.heap.size + 1) 2 (by simp; try omega)
  simp [go_sem] at g1 g2 g3
  clear hf1
  go_upto_region 4 with fail
  go_cut [5] (fun s5 wx => ∃ D : Nat, s5 = .pointer (some ⟨D, 0, none⟩) ∧ w.heap.size + 1 < D ∧ Gr w wx ∧ wx.cell? ⟨D, 0, none⟩ = some (.int .i64 y) ∧ wx.cell? ⟨D, 1, none⟩ = some (.int .i64 1) ∧ wx.cell? ⟨D, 2, none⟩ = some (.int .i64 (n - Ck.bef y + 1)) ∧ wx.frozen? ⟨D, 1, none⟩ = false ∧ wx.frozen? ⟨D, 2, none⟩ = false ∧
    wx.cell? ⟨w.heap.size + 1, 0, none⟩ = some (.int .i64 0) ∧ wx.cell? ⟨w.heap.size + 1, 1, none⟩ = some (.int .i64 0) ∧ wx.cell? ⟨w.heap.size + 1, 2, none⟩ = some (.int .i64 0) ∧ wx.frozen? ⟨w.heap.size + 1, 0, none⟩ = false ∧ wx.frozen? ⟨w.heap.size + 1, 1, none⟩ = false ∧ wx.frozen? ⟨w.heap.size + 1, 2, none⟩ = false)
  case first =>
    have x1 := X1.out; have x2 := X2.out
    refine name_world ?_; intro W2 hW2
    have g2 : Gr w W2 := by rw [hW2]; exact gr_auto
    have k2_0 : ∀ w', Gr W2 w' → w'.cell? ⟨w.heap.size, 0, none⟩ = some (.int .i64 n) := fun w' hgW => by first | exact (Gr.at hgW (by rw [hW2]; simp [go_sem, *]))
    have k2_1 : ∀ w', Gr W2 w' → w'.cell? ⟨w.heap.size + 1, 0, none⟩ = some (.int .i64 0) := fun w' hgW => by first | exact (Gr.at hgW (by rw [hW2]; simp [go_sem, *]))
    (first | (have j2_1 : ∀ w', Gr W2 w' → w'.frozen? ⟨w.heap.size + 1, 0, none⟩ = false := fun w' hgW => ((Gr.cells hgW).2 _ _ (World.block_lt_of_cell? W2 ⟨w.heap.size + 1, 0, none⟩ (k2_1 W2 (Gr.refl _)))).trans (by rw [hW2]; simp [go_sem, *]; done)) | skip)
    have k2_2 : ∀ w', Gr W2 w' → w'.cell? ⟨w.heap.size + 1, 1, none⟩ = some (.int .i64 0) := fun w' hgW => by first | exact (Gr.at hgW (by rw [hW2]; simp [go_sem, *]))
    (first | (have j2_2 : ∀ w', Gr W2 w' → w'.frozen? ⟨w.heap.size + 1, 1, none⟩ = false := fun w' hgW => ((Gr.cells hgW).2 _ _ (World.block_lt_of_cell? W2 ⟨w.heap.size + 1, 1, none⟩ (k2_2 W2 (Gr.refl _)))).trans (by rw [hW2]; simp [go_sem, *]; done)) | skip)
    have k2_3 : ∀ w', Gr W2 w' → w'.cell? ⟨w.heap.size + 1, 2, none⟩ = some (.int .i64 0) := fun w' hgW => by first | exact (Gr.at hgW (by rw [hW2]; simp [go_sem, *]))
    (first | (have j2_3 : ∀ w', Gr W2 w' → w'.frozen? ⟨w.heap.size + 1, 2, none⟩ = false := fun w' hgW => ((Gr.cells hgW).2 _ _ (World.block_lt_of_cell? W2 ⟨w.heap.size + 1, 2, none⟩ (k2_3 W2 (Gr.refl _)))).trans (by rw [hW2]; simp [go_sem, *]; done)) | skip)
    clear hW2
    have zW2 := Gr.size g2
    go_region_held3 (fun w' => Gr W2 w') (exact gr_auto) (first | (go_at_call 145; refine (before_any _ _ (by assumption) (by omega)).mono ?_; rintro e w' ⟨rfl, rfl⟩))
    all_goals
      have zz : w.heap.size + 1 < W2.heap.size := World.block_lt_of_cell? W2 ⟨w.heap.size + 1, 0, none⟩ (k2_1 W2 (Gr.refl _))
      go_wp2_with fail
      go_meet
      exact ⟨_, rfl, zz, gr_auto, (by first | (simp [go_sem, *]; done) | ((try simp [go_sem, *]); refine World.cell?_setCell_same' _ _ _ ?_; simp [go_sem, *]; done)), (by first | (simp [go_sem, *]; done) | ((try simp [go_sem, *]); refine World.cell?_setCell_same' _ _ _ ?_; simp [go_sem, *]; done)), (by first | (simp [go_sem, *]; done) | ((try simp [go_sem, *]); refine World.cell?_setCell_same' _ _ _ ?_; simp [go_sem, *]; done)), (by simp [go_sem, *]), (by simp [go_sem, *]), (by first | (simp [go_sem, *]; done) | ((try simp [go_sem, *]); refine World.cell?_setCell_same' _ _ _ ?_; simp [go_sem, *]; done)), (by first | (simp [go_sem, *]; done) | ((try simp [go_sem, *]); refine World.cell?_setCell_same' _ _ _ ?_; simp [go_sem, *]; done)), (by first | (simp [go_sem, *]; done) | ((try simp [go_sem, *]); refine World.cell?_setCell_same' _ _ _ ?_; simp [go_sem, *]; done)), (by simp [go_sem, *]), (by simp [go_sem, *]), (by simp [go_sem, *])⟩
  case rest =>
    obtain ⟨D, rfl, hD, hg, c0', c1', c2', f1', f2', r0, r1, r2, t0, t1, t2⟩ := hcut
    clear hb1 hz1 hy1_0 hy1_1 kc1_0 kc1_1 kc1_2 kc1_3 g1 g2 g3
    have hst : DtSt w wc D (w.heap.size + 1) y 1 (Ck.cum y m + d) := ⟨hg, c0', c1', by rw [← HX.out]; exact c2', f1', f2', r0, r1, r2, t0, t1, t2⟩
    have HST := Lib.hid hst
    clear hg c0' c1' c2' f1' f2' r0 r1 r2 t0 t1 t2 hst
    have hR : w.heap.size ≤ w.heap.size + 1 := Nat.le_succ _
    have hDw : w.heap.size ≤ D := by omega
    have hne : D ≠ w.heap.size + 1 := by omega
    generalize w.heap.size + 1 = R at *
    go_wp2
    go_loopw [31] (fun _ wr => ∃ k : Int, 1 ≤ k ∧ k ≤ m ∧ DtSt w wr D R y k (Ck.cum y m + d - Ck.cum y k)) (fun _ wr => (13 - intOf (cellOf wr D 1)).toNat)
    case atStart => exact ⟨1, by omega, by omega, by rw [Ck.cum_one, Int.sub_zero]; exact HST.out⟩
    case round =>
      obtain ⟨k, k1, k2, hst⟩ := hrel
      have hs := Ck.cum_succ y k k1 (by omega)
      have hm := Ck.mlen_bd y k
      have hb := Ck.cum_bd y k
      by_cases hk : k < m
      · have hmo := Ck.cum_mono y (a := k + 1) (b := m) (by omega) (by omega) (by omega)
        obtain ⟨e, he⟩ : ∃ e, Ck.cum y m + d - Ck.cum y k = e := ⟨_, rfl⟩
        have hnx : Ck.cum y m + d - Ck.cum y (k + 1) = e - Ck.mlen y k := by omega
        have e0 : Ck.mlen y k < e := by omega
        have hmm := Ck.mlen_bd y m
        have e1 : e ≤ 800 := by omega
        rw [he] at hst
        have HNX := Lib.hid hnx; have HE := Lib.hid he
        have dt : decide (Ck.mlen y k < e) = true := decide_eq_true e0
        have HM := Lib.hid (fun W => month_any y k W (by omega) (by omega) k1 (by omega))
        obtain ⟨l0, l1⟩ := hm
        clear hnx he hs hb hmo
        generalize Ck.mlen y k = l at *
        go_upto_region 5 with fail
        go_cut [31] (fun s31 wx => s31 = .bool true ∧ DtSt w wx D R y k e)
        case first =>
          have hst3 := hst
          obtain ⟨q0, q1, q2, q3, q4, q5, q6, q7, q8, q9, q10, q11⟩ := hst3
          refine name_world ?_; intro W5 hW5
          have g5 : Gr w W5 := by rw [hW5]; exact gr_auto
          have k5_0 : ∀ w', Gr W5 w' → w'.cell? ⟨D, 0, none⟩ = some (.int .i64 y) := fun w' hgW => by first | exact (Gr.at hgW (by rw [hW5]; simp [go_sem, *]))
          have k5_1 : ∀ w', Gr W5 w' → w'.cell? ⟨D, 1, none⟩ = some (.int .i64 k) := fun w' hgW => by first | exact (Gr.at hgW (by rw [hW5]; simp [go_sem, *]))
          (first | (have j5_1 : ∀ w', Gr W5 w' → w'.frozen? ⟨D, 1, none⟩ = false := fun w' hgW => ((Gr.cells hgW).2 _ _ (World.block_lt_of_cell? W5 ⟨D, 1, none⟩ (k5_1 W5 (Gr.refl _)))).trans (by rw [hW5]; simp [go_sem, *]; done)) | skip)
          have k5_2 : ∀ w', Gr W5 w' → w'.cell? ⟨D, 2, none⟩ = some (.int .i64 e) := fun w' hgW => by first | exact (Gr.at hgW (by rw [hW5]; simp [go_sem, *]))
          (first | (have j5_2 : ∀ w', Gr W5 w' → w'.frozen? ⟨D, 2, none⟩ = false := fun w' hgW => ((Gr.cells hgW).2 _ _ (World.block_lt_of_cell? W5 ⟨D, 2, none⟩ (k5_2 W5 (Gr.refl _)))).trans (by rw [hW5]; simp [go_sem, *]; done)) | skip)
          have k5_3 : ∀ w', Gr W5 w' → w'.cell? ⟨R, 0, none⟩ = some (.int .i64 0) := fun w' hgW => by first | exact (Gr.at hgW (by rw [hW5]; simp [go_sem, *]))
          (first | (have j5_3 : ∀ w', Gr W5 w' → w'.frozen? ⟨R, 0, none⟩ = false := fun w' hgW => ((Gr.cells hgW).2 _ _ (World.block_lt_of_cell? W5 ⟨R, 0, none⟩ (k5_3 W5 (Gr.refl _)))).trans (by rw [hW5]; simp [go_sem, *]; done)) | skip)
          have k5_4 : ∀ w', Gr W5 w' → w'.cell? ⟨R, 1, none⟩ = some (.int .i64 0) := fun w' hgW => by first | exact (Gr.at hgW (by rw [hW5]; simp [go_sem, *]))
          (first | (have j5_4 : ∀ w', Gr W5 w' → w'.frozen? ⟨R, 1, none⟩ = false := fun w' hgW => ((Gr.cells hgW).2 _ _ (World.block_lt_of_cell? W5 ⟨R, 1, none⟩ (k5_4 W5 (Gr.refl _)))).trans (by rw [hW5]; simp [go_sem, *]; done)) | skip)
          have k5_5 : ∀ w', Gr W5 w' → w'.cell? ⟨R, 2, none⟩ = some (.int .i64 0) := fun w' hgW => by first | exact (Gr.at hgW (by rw [hW5]; simp [go_sem, *]))
          (first | (have j5_5 : ∀ w', Gr W5 w' → w'.frozen? ⟨R, 2, none⟩ = false := fun w' hgW => ((Gr.cells hgW).2 _ _ (World.block_lt_of_cell? W5 ⟨R, 2, none⟩ (k5_5 W5 (Gr.refl _)))).trans (by rw [hW5]; simp [go_sem, *]; done)) | skip)
          clear hW5
          have zW5 := Gr.size g5
          go_region_held3 (fun w' => Gr W5 w') (exact gr_auto) (first | (go_at_call 148; refine (HM.out _).mono ?_; rintro e w6 ⟨rfl, hb6⟩; have q6 : Gr W5 w6 := gr_auto; have z6 := Gr.size q6; obtain ⟨hc6, hf6⟩ := Gr.cells hb6; have hz6 := Gr.size hb6; (try simp at hz6); (try have hy6_0 : w.heap.size < w6.heap.size := by omega); (try have hy6_1 : w.heap.size + 1 < w6.heap.size := by omega); (try have hy6_2 : w.heap.size + 1 + 1 < w6.heap.size := by omega); (try have hy6_3 : w.heap.size + 1 + 1 + 1 < w6.heap.size := by omega); (try have hy6_4 : w.heap.size + 1 + 1 + 1 + 1 < w6.heap.size := by omega); (try have hy6_5 : w.heap.size + 1 + 1 + 1 + 1 + 1 < w6.heap.size := by omega); (try have hy6_W5_0 : W5.heap.size < w6.heap.size := by omega); (try have hy6_W5_1 : W5.heap.size + 1 < w6.heap.size := by omega); (try have hy6_1_0 : w1.heap.size < w6.heap.size := by omega); (try have hy6_1_1 : w1.heap.size + 1 < w6.heap.size := by omega); (try have hy6_2_0 : w2.heap.size < w6.heap.size := by omega); (try have hy6_2_1 : w2.heap.size + 1 < w6.heap.size := by omega); (try have hy6_3_0 : w3.heap.size < w6.heap.size := by omega); (try have hy6_3_1 : w3.heap.size + 1 < w6.heap.size := by omega); (try have hy6_4_0 : w4.heap.size < w6.heap.size := by omega); (try have hy6_4_1 : w4.heap.size + 1 < w6.heap.size := by omega); (try have hy6_5_0 : w5.heap.size < w6.heap.size := by omega); (try have hy6_5_1 : w5.heap.size + 1 < w6.heap.size := by omega)))
          all_goals
            go_wp2_with fail
            go_meet
            exact ⟨rfl, gr_auto, (by first | (simp [go_sem, *]; done) | ((try simp [go_sem, *]); refine World.cell?_setCell_same' _ _ _ ?_; simp [go_sem, *]; done)), (by first | (simp [go_sem, *]; done) | ((try simp [go_sem, *]); refine World.cell?_setCell_same' _ _ _ ?_; simp [go_sem, *]; done)), (by first | (simp [go_sem, *]; done) | ((try simp [go_sem, *]); refine World.cell?_setCell_same' _ _ _ ?_; simp [go_sem, *]; done)), (by simp [go_sem, *]), (by simp [go_sem, *]), (by first | (simp [go_sem, *]; done) | ((try simp [go_sem, *]); refine World.cell?_setCell_same' _ _ _ ?_; simp [go_sem, *]; done)), (by first | (simp [go_sem, *]; done) | ((try simp [go_sem, *]); refine World.cell?_setCell_same' _ _ _ ?_; simp [go_sem, *]; done)), (by first | (simp [go_sem, *]; done) | ((try simp [go_sem, *]); refine World.cell?_setCell_same' _ _ _ ?_; simp [go_sem, *]; done)), (by simp [go_sem, *]), (by simp [go_sem, *]), (by simp [go_sem, *])⟩
        case rest =>
          obtain ⟨rfl, hst2⟩ := hcut
          go_upto_region 6 with fail
          go_cut [41] (fun _ wx => DtSt w wx D R y k (e - l))
          case first =>
            have hst3 := hst2
            obtain ⟨q0, q1, q2, q3, q4, q5, q6, q7, q8, q9, q10, q11⟩ := hst3
            have hDl := World.block_lt_of_cell? _ _ q1
            simp only at hDl
            go_region_with (go_at_call 148; refine (HM.out _).mono ?_; rintro e w6 ⟨rfl, hb6⟩; obtain ⟨hc6, hf6⟩ := Gr.cells hb6; have p0 := hc6 D 0 (by simpa using hDl); have p1 := hc6 D 1 (by simpa using hDl); have p2 := hc6 D 2 (by simpa using hDl); have p3 := hf6 D 2 (by simpa using hDl); simp [go_sem, q1, q2, q3, q4, q5] at p0 p1 p2 p3; clear hc6 hf6)
            all_goals
              have hb7 := DtSt.day (DtSt.grown hst2 (show Gr _ w6 by exact Gr.trans (show Gr _ _ by exact gr_auto) hb6)) hDw hne (e - l)
              go_wp2_with fail
              go_meet
              rw [IntWalk.i64_in (e - l) (by omega)]
              exact hb7
          case rest =>
            have hcc := hcut
            obtain ⟨q0, q1, q2, q3, q4, q5, q6, q7, q8, q9, q10, q11⟩ := hcut
            have hcut := hcc
            clear hcc
            go_wp2
            go_roundw
            case rel => exact ⟨k + 1, by omega, by omega, by rw [HNX.out]; exact DtSt.mon hcut hDw hne _⟩
            case measure => rw [cellOf_of (hst.2.2.1), cellOf_of ((DtSt.mon hcut hDw hne (k + 1)).2.2.1)]; simp [intOf]; omega
      · obtain rfl : k = m := by omega
        have dt : decide (Ck.mlen y k < d) = false := decide_eq_false (by omega)
        rw [show Ck.cum y k + d - Ck.cum y k = d by omega] at hst
        have HM := Lib.hid (fun W => month_any y k W (by omega) (by omega) k1 (by omega))
        clear hs hm hb
        generalize Ck.mlen y k = l at *
        obtain ⟨q0, q1, q2, q3, q4, q5, q6, q7, q8, q9, q10, q11⟩ := hst
        go_wp2_with fail
        refine name_world ?_; intro W5 hW5
        have g5 : Gr w W5 := by rw [hW5]; exact gr_auto
        have k5_0 : ∀ w', Gr W5 w' → w'.cell? ⟨D, 0, none⟩ = some (.int .i64 y) := fun w' hgW => by first | exact (Gr.at hgW (by rw [hW5]; simp [go_sem, *]))
        have k5_1 : ∀ w', Gr W5 w' → w'.cell? ⟨D, 1, none⟩ = some (.int .i64 k) := fun w' hgW => by first | exact (Gr.at hgW (by rw [hW5]; simp [go_sem, *]))
        (first | (have j5_1 : ∀ w', Gr W5 w' → w'.frozen? ⟨D, 1, none⟩ = false := fun w' hgW => ((Gr.cells hgW).2 _ _ (World.block_lt_of_cell? W5 ⟨D, 1, none⟩ (k5_1 W5 (Gr.refl _)))).trans (by rw [hW5]; simp [go_sem, *]; done)) | skip)
        have k5_2 : ∀ w', Gr W5 w' → w'.cell? ⟨D, 2, none⟩ = some (.int .i64 d) := fun w' hgW => by first | exact (Gr.at hgW (by rw [hW5]; simp [go_sem, *]))
        (first | (have j5_2 : ∀ w', Gr W5 w' → w'.frozen? ⟨D, 2, none⟩ = false := fun w' hgW => ((Gr.cells hgW).2 _ _ (World.block_lt_of_cell? W5 ⟨D, 2, none⟩ (k5_2 W5 (Gr.refl _)))).trans (by rw [hW5]; simp [go_sem, *]; done)) | skip)
        have k5_3 : ∀ w', Gr W5 w' → w'.cell? ⟨R, 0, none⟩ = some (.int .i64 0) := fun w' hgW => by first | exact (Gr.at hgW (by rw [hW5]; simp [go_sem, *]))
        (first | (have j5_3 : ∀ w', Gr W5 w' → w'.frozen? ⟨R, 0, none⟩ = false := fun w' hgW => ((Gr.cells hgW).2 _ _ (World.block_lt_of_cell? W5 ⟨R, 0, none⟩ (k5_3 W5 (Gr.refl _)))).trans (by rw [hW5]; simp [go_sem, *]; done)) | skip)
        have k5_4 : ∀ w', Gr W5 w' → w'.cell? ⟨R, 1, none⟩ = some (.int .i64 0) := fun w' hgW => by first | exact (Gr.at hgW (by rw [hW5]; simp [go_sem, *]))
        (first | (have j5_4 : ∀ w', Gr W5 w' → w'.frozen? ⟨R, 1, none⟩ = false := fun w' hgW => ((Gr.cells hgW).2 _ _ (World.block_lt_of_cell? W5 ⟨R, 1, none⟩ (k5_4 W5 (Gr.refl _)))).trans (by rw [hW5]; simp [go_sem, *]; done)) | skip)
        have k5_5 : ∀ w', Gr W5 w' → w'.cell? ⟨R, 2, none⟩ = some (.int .i64 0) := fun w' hgW => by first | exact (Gr.at hgW (by rw [hW5]; simp [go_sem, *]))
        (first | (have j5_5 : ∀ w', Gr W5 w' → w'.frozen? ⟨R, 2, none⟩ = false := fun w' hgW => ((Gr.cells hgW).2 _ _ (World.block_lt_of_cell? W5 ⟨R, 2, none⟩ (k5_5 W5 (Gr.refl _)))).trans (by rw [hW5]; simp [go_sem, *]; done)) | skip)
        clear hW5
        have zW5 := Gr.size g5
        go_region_held3 (fun w' => Gr W5 w') (exact gr_auto) (first | (go_at_call 148; refine (HM.out _).mono ?_; rintro e w6 ⟨rfl, hb6⟩; have q6 : Gr W5 w6 := gr_auto; have z6 := Gr.size q6; obtain ⟨hc6, hf6⟩ := Gr.cells hb6; have hz6 := Gr.size hb6; (try simp at hz6); (try have hy6_0 : w.heap.size < w6.heap.size := by omega); (try have hy6_1 : w.heap.size + 1 < w6.heap.size := by omega); (try have hy6_2 : w.heap.size + 1 + 1 < w6.heap.size := by omega); (try have hy6_3 : w.heap.size + 1 + 1 + 1 < w6.heap.size := by omega); (try have hy6_4 : w.heap.size + 1 + 1 + 1 + 1 < w6.heap.size := by omega); (try have hy6_5 : w.heap.size + 1 + 1 + 1 + 1 + 1 < w6.heap.size := by omega); (try have hy6_W5_0 : W5.heap.size < w6.heap.size := by omega); (try have hy6_W5_1 : W5.heap.size + 1 < w6.heap.size := by omega); (try have hy6_1_0 : w1.heap.size < w6.heap.size := by omega); (try have hy6_1_1 : w1.heap.size + 1 < w6.heap.size := by omega); (try have hy6_2_0 : w2.heap.size < w6.heap.size := by omega); (try have hy6_2_1 : w2.heap.size + 1 < w6.heap.size := by omega); (try have hy6_3_0 : w3.heap.size < w6.heap.size := by omega); (try have hy6_3_1 : w3.heap.size + 1 < w6.heap.size := by omega); (try have hy6_4_0 : w4.heap.size < w6.heap.size := by omega); (try have hy6_4_1 : w4.heap.size + 1 < w6.heap.size := by omega); (try have hy6_5_0 : w5.heap.size < w6.heap.size := by omega); (try have hy6_5_1 : w5.heap.size + 1 < w6.heap.size := by omega)))
        all_goals
          have z0 := k5_3 w6 q6
          have z1 := k5_4 w6 q6
          have z2 := k5_5 w6 q6
          go_wp2
          refine bodyPost_ret (by simp [results, Tryz.results103, go_sem, z0, z1, z2]; try rfl) rfl ?_
          exact ⟨by first | rfl | (simp; done), gr_auto⟩
end Go.Proofs.YtllkiadedaghoaaGreatDoor
