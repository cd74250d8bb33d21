/-
  Plain reading of a text after a pattern of digits: what clock.numbers computes, position by position. No program here.
-/
import Derived.Test.YtllkiadedaghoaaGreatDoorOr03
import Derived.WalkKit
set_option linter.unusedVariables false
set_option linter.unusedSimpArgs false
namespace Go.Proofs.YtllkiadedaghoaaGreatDoor
open Go.RowKit
set_option maxHeartbeats 1600000 in
theorem rdateof_any (n y m d : Int) (w : World) (hv : Ck.vld y m d = true) (hn : Ck.num y m d = n) :
    Calls Tryz.prog 119 #[.int .i64 n] w fun e w' => e = .returned (.agg #[.int .i64 y, .int .i64 m, .int .i64 d]) ∧ Gr w w' := by
  obtain ⟨v1, v2, v3, v4, v5, v6⟩ := (Ck.vld_iff y m d).1 hv
  obtain ⟨n0, n1⟩ := Ck.num_bd hv
  obtain ⟨n2, n3⟩ := Ck.num_year hv
  have hx : n - Ck.bef y = Ck.cum y m + d - 1 := by rw [← hn]; unfold Ck.num; omega
  rw [hn] at n0 n1 n2 n3
  obtain ⟨c0, c1⟩ := Ck.bef_bd y (by omega) (by omega)
  have s0 := Ck.cum_bd y m
  clear hv hn
  have HX := Lib.hid hx; clear hx
  have e2 := Ck.bef_2000
  go_enter Tryz.func119, Tryz.ntmps119
  go_wp2_with fail
  go_loop [3, 4] (fun p q => ∃ lo hi : Int, 1 ≤ lo ∧ lo ≤ y ∧ y ≤ hi ∧ hi ≤ 9999 ∧ p = .int .i64 lo ∧ q = .int .i64 hi) (fun p q => (intOf q - intOf p).toNat)
  case atStart => exact ⟨1, 9999, by omega, by omega, by omega, by omega, rfl, rfl⟩
  case round =>
    obtain ⟨lo, hi, l0, l1, l2, l3, rfl, rfl⟩ := hrel
    by_cases hlt : lo < hi
    · have hm : 1 ≤ (lo + hi + 1) / 2 ∧ (lo + hi + 1) / 2 ≤ 9999 := by omega
      obtain ⟨m0, m1⟩ := hm
      obtain ⟨g0, g1⟩ := Ck.bef_bd ((lo + hi + 1) / 2) (by omega) (by omega)
      by_cases hp : Ck.bef ((lo + hi + 1) / 2) ≤ n
      · have hy : (lo + hi + 1) / 2 ≤ y := by have := Ck.bef_inv (a := (lo + hi + 1) / 2) (b := y + 1) (by omega); omega
        have hd : decide (Ck.bef ((lo + hi + 1) / 2) ≤ n) = true := decide_eq_true hp
        go_wp2_with (go_at_call 159; refine (rbefore_any _ _ (by omega) (by omega)).mono ?_; rintro e w' ⟨rfl, rfl⟩)
        go_round
        case rel => exact ⟨(lo + hi + 1) / 2, hi, by omega, by omega, by omega, by omega, rfl, rfl⟩
        case measure => simp [intOf]; omega
      · have hy : y ≤ (lo + hi + 1) / 2 - 1 := by have := Ck.bef_inv (a := y) (b := (lo + hi + 1) / 2) (by omega); omega
        have hd : decide (Ck.bef ((lo + hi + 1) / 2) ≤ n) = false := decide_eq_false hp
        go_wp2_with (go_at_call 159; refine (rbefore_any _ _ (by omega) (by omega)).mono ?_; rintro e w' ⟨rfl, rfl⟩)
        go_round
        case rel => exact ⟨lo, (lo + hi + 1) / 2 - 1, by omega, by omega, by omega, by omega, rfl, by go_num⟩
        case measure => simp [intOf]; omega
    · obtain rfl : lo = y := by omega
      have bs := Ck.bef_succ lo
      have lp := Ck.lp_01 lo
      have BS := Lib.hid bs; clear bs
      have q0 : n - Ck.bef lo ≤ 366 := by have := BS.out; omega
      go_wp2_with (go_at_call 159; refine (rbefore_any _ _ (by omega) (by omega)).mono ?_; rintro e w' ⟨rfl, rfl⟩)
      go_loopw [6, 7] (fun p q wr => ∃ k : Int, 1 ≤ k ∧ k ≤ m ∧ q = .int .i64 k ∧ p = .int .i64 (Ck.cum lo m + d - 1 - Ck.cum lo k) ∧ Gr w wr ∧ wr.cell? ⟨w.heap.size, 0, none⟩ = some (.int .i64 0) ∧ wr.cell? ⟨w.heap.size, 1, none⟩ = some (.int .i64 0) ∧ wr.cell? ⟨w.heap.size, 2, none⟩ = some (.int .i64 0) ∧ wr.frozen? ⟨w.heap.size, 0, none⟩ = false ∧ wr.frozen? ⟨w.heap.size, 1, none⟩ = false ∧ wr.frozen? ⟨w.heap.size, 2, none⟩ = false) (fun _ q _ => (13 - intOf q).toNat)
      case atStart => exact ⟨1, by omega, by omega, rfl, by rw [Ck.cum_one]; exact congrArg (Value.int IntKind.i64) (by have := HX.out; go_arith), gr_auto, (by first | (simp [go_sem, *]; done) | ((try simp [go_sem, *]); refine World.cell?_setCell_same' _ _ _ ?_; simp [go_sem, *]; done)), (by first | (simp [go_sem, *]; done) | ((try simp [go_sem, *]); refine World.cell?_setCell_same' _ _ _ ?_; simp [go_sem, *]; done)), (by first | (simp [go_sem, *]; done) | ((try simp [go_sem, *]); refine World.cell?_setCell_same' _ _ _ ?_; simp [go_sem, *]; done)), (by simp [go_sem, *]), (by simp [go_sem, *]), (by simp [go_sem, *])⟩
      case round =>
        obtain ⟨k, k1, k2, rfl, rfl, hg, h0, h1, h2, f0, f1, f2⟩ := hrel
        have hlt2 := World.block_lt_of_cell? wr ⟨w.heap.size, 0, none⟩ h0
        simp only at hlt2
        have hs := Ck.cum_bd lo k
        obtain ⟨x0, x1⟩ := Ck.mlen_bd lo k
        have hcs := Ck.cum_succ lo k k1 (by omega)
        have hmm := Ck.mlen_bd lo m
        by_cases hk : k < m
        · have hmo := Ck.cum_mono lo (a := k + 1) (b := m) (by omega) (by omega) (by omega)
          have hd : decide (Ck.mlen lo k ≤ Ck.cum lo m + d - 1 - Ck.cum lo k) = true := decide_eq_true (by omega)
          have HCS := Lib.hid hcs; clear hcs hmo
          go_wp2_with (go_at_call 160; refine (rdays_any _ _ _ (by omega) (by omega) (by omega) (by omega)).mono ?_; rintro e w1 ⟨rfl, hb1⟩; obtain ⟨hcc, hff⟩ := Gr.cells hb1; have hz1 := Gr.size hb1; (try simp at hz1); have hlt3 : w.heap.size < w1.heap.size := by omega)
          go_roundw
          case rel => exact ⟨k + 1, by omega, by omega, by go_num, by rw [HCS.out]; exact congrArg (Value.int IntKind.i64) (by omega), gr_auto, (by first | (simp [go_sem, *]; done) | ((try simp [go_sem, *]); refine World.cell?_setCell_same' _ _ _ ?_; simp [go_sem, *]; done)), (by first | (simp [go_sem, *]; done) | ((try simp [go_sem, *]); refine World.cell?_setCell_same' _ _ _ ?_; simp [go_sem, *]; done)), (by first | (simp [go_sem, *]; done) | ((try simp [go_sem, *]); refine World.cell?_setCell_same' _ _ _ ?_; simp [go_sem, *]; done)), (by simp [go_sem, *]), (by simp [go_sem, *]), (by simp [go_sem, *])⟩
          case measure => simp [intOf]; omega
        · obtain rfl : k = m := by omega
          have hd : decide (Ck.mlen lo k ≤ Ck.cum lo k + d - 1 - Ck.cum lo k) = false := decide_eq_false (by omega)
          clear hcs
          go_wp2_with (go_at_call 160; refine (rdays_any _ _ _ (by omega) (by omega) (by omega) (by omega)).mono ?_; rintro e w1 ⟨rfl, hb1⟩; obtain ⟨hcc, hff⟩ := Gr.cells hb1; have hz1 := Gr.size hb1; (try simp at hz1); have hlt3 : w.heap.size < w1.heap.size := by omega)
          have z0 := Gr.at hb1 h0
          have z1 := Gr.at hb1 h1
          have z2 := Gr.at hb1 h2
          refine bodyPost_ret (by simp [results, Tryz.results119, go_sem, z0, z1, z2]; try rfl) rfl ?_
          exact ⟨by first | rfl | (simp; done) | (simp; omega), gr_auto⟩
def Ck.dated (n : Int) : Bool := decide (-730119 ≤ n) && decide (n ≤ 2921939)
theorem Ck.num_lo : Ck.num 1 1 1 = -730119 := by decide
theorem Ck.num_hi : Ck.num 9999 12 31 = 2921939 := by decide
set_option maxHeartbeats 400000 in
theorem rdated_any (n : Int) (w : World) :
    Calls Tryz.prog 118 #[.int .i64 n] w fun e w' => e = .returned (.bool (Ck.dated n)) ∧ Gr w w' := by
  have h1 := fun W => ck_rnumber_any 1 1 1 W (by decide)
  have h2 := fun W => ck_rnumber_any 9999 12 31 W (by decide)
  rw [Ck.num_lo] at h1
  rw [Ck.num_hi] at h2
  have H1 := Lib.hid h1; have H2 := Lib.hid h2; clear h1 h2
  have hl : Ck.dated n = (decide (-730119 ≤ n) && decide (n ≤ 2921939)) := rfl
  rw [hl]; clear hl
  cases a : decide (-730119 ≤ n)
  · go_enter Tryz.func118, Tryz.ntmps118
    go_wp2_with fail; refine (H1.out _).mono ?_; rintro e w1 ⟨rfl, hb1⟩; obtain ⟨hc1, hf1⟩ := Gr.cells hb1; have hz1 := Gr.size hb1; (try simp at hz1); (try have hy1_0 : w.heap.size < w1.heap.size := by omega); (try have hy1_1 : w.heap.size + 1 < w1.heap.size := by omega); (try have hy1_2 : w.heap.size + 1 + 1 < w1.heap.size := by omega); (try have hy1_3 : w.heap.size + 1 + 1 + 1 < w1.heap.size := by omega); (try have hy1_4 : w.heap.size + 1 + 1 + 1 + 1 < w1.heap.size := by omega); (try have hy1_5 : w.heap.size + 1 + 1 + 1 + 1 + 1 < w1.heap.size := by omega)
    go_wp2
    go_ret
    exact ⟨rfl, gr_auto⟩
  · go_enter Tryz.func118, Tryz.ntmps118
    go_wp2_with fail; refine (H1.out _).mono ?_; rintro e w1 ⟨rfl, hb1⟩; obtain ⟨hc1, hf1⟩ := Gr.cells hb1; have hz1 := Gr.size hb1; (try simp at hz1); (try have hy1_0 : w.heap.size < w1.heap.size := by omega); (try have hy1_1 : w.heap.size + 1 < w1.heap.size := by omega); (try have hy1_2 : w.heap.size + 1 + 1 < w1.heap.size := by omega); (try have hy1_3 : w.heap.size + 1 + 1 + 1 < w1.heap.size := by omega); (try have hy1_4 : w.heap.size + 1 + 1 + 1 + 1 < w1.heap.size := by omega); (try have hy1_5 : w.heap.size + 1 + 1 + 1 + 1 + 1 < w1.heap.size := by omega)
    go_wp2_with fail; refine (H2.out _).mono ?_; rintro e w2 ⟨rfl, hb2⟩; obtain ⟨hc2, hf2⟩ := Gr.cells hb2; have hz2 := Gr.size hb2; (try simp at hz2); (try have hy2_0 : w.heap.size < w2.heap.size := by omega); (try have hy2_1 : w.heap.size + 1 < w2.heap.size := by omega); (try have hy2_2 : w.heap.size + 1 + 1 < w2.heap.size := by omega); (try have hy2_3 : w.heap.size + 1 + 1 + 1 < w2.heap.size := by omega); (try have hy2_4 : w.heap.size + 1 + 1 + 1 + 1 < w2.heap.size := by omega); (try have hy2_5 : w.heap.size + 1 + 1 + 1 + 1 + 1 < w2.heap.size := by omega); (try have hy2_1_0 : w1.heap.size < w2.heap.size := by omega); (try have hy2_1_1 : w1.heap.size + 1 < w2.heap.size := by omega)
    go_wp2
    go_ret
    exact ⟨by simp, gr_auto⟩
end Go.Proofs.YtllkiadedaghoaaGreatDoor
set_option linter.unusedVariables false
set_option linter.unusedSimpArgs false
namespace Go.Proofs.YtllkiadedaghoaaGreatDoor
open Go.RowKit
set_option maxHeartbeats 400000 in
theorem split_bad (t : Int) (w : World) (hi : Ck.inst t = false) :
    Calls Tryz.prog 59 #[.int .i64 t] w fun e w' => e = .returned (.tuple #[.agg #[.int .i64 0, .int .i64 0, .int .i64 0], .int .i64 0, .int .i64 2]) ∧ Gr w w' := by
  go_enter Tryz.func59, Tryz.ntmps59
  go_wp2_with (go_at_call 101; refine (instant_any _ _).mono ?_; rintro e w' ⟨rfl, rfl⟩)
  refine bodyPost_ret (by simp [results, Tryz.results59, go_sem]; try rfl) rfl ?_
  exact ⟨by first | rfl | (simp; done), gr_auto⟩
set_option maxHeartbeats 400000 in
theorem rsplit_bad (t : Int) (w : World) (hi : Ck.inst t = false) :
    Calls Tryz.prog 85 #[.int .i64 t] w fun e w' => e = .returned (.tuple #[.agg #[.int .i64 0, .int .i64 0, .int .i64 0], .int .i64 0, .int .i64 2]) ∧ Gr w w' := by
  go_enter Tryz.func85, Tryz.ntmps85
  go_wp2_with (go_at_call 116; refine (rinstant_any _ _).mono ?_; rintro e w' ⟨rfl, rfl⟩)
  refine bodyPost_ret (by simp [results, Tryz.results85, go_sem]; try rfl) rfl ?_
  exact ⟨by first | rfl | (simp; done), gr_auto⟩
set_option maxHeartbeats 800000 in
theorem split_none (t : Int) (w : World) (hi : Ck.inst t = true) (hd : t / 86400 < -730119 ∨ 2921940 ≤ t / 86400) :
    Calls Tryz.prog 59 #[.int .i64 t] w fun e w' => e = .returned (.tuple #[.agg #[.int .i64 0, .int .i64 0, .int .i64 0], .int .i64 0, .int .i64 20]) ∧ Gr w w' := by
  obtain ⟨i0, i1⟩ := (Ck.inst_iff t).1 hi
  have HD := Lib.hid (fun W => dateof_bad (t / 86400) W hd)
  clear hd
  go_enter Tryz.func59, Tryz.ntmps59
  go_wp2_with (first | (go_at_call 101; refine (instant_any _ _).mono ?_; rintro e w' ⟨rfl, rfl⟩) | (go_at_call 102; refine (floor_any _ _ _ (by omega) (by omega) (by omega) (by omega)).mono ?_; rintro e w' ⟨rfl, rfl⟩) | (go_at_call 103; refine (HD.out _).mono ?_; rintro e w1 ⟨rfl, hb1⟩; obtain ⟨hc1, hf1⟩ := Gr.cells hb1; have hz1 := Gr.size hb1; (try simp at hz1); (try have hy1_0 : w.heap.size < w1.heap.size := by omega); (try have hy1_1 : w.heap.size + 1 < w1.heap.size := by omega); (try have hy1_2 : w.heap.size + 1 + 1 < w1.heap.size := by omega); (try have hy1_3 : w.heap.size + 1 + 1 + 1 < w1.heap.size := by omega); (try have hy1_4 : w.heap.size + 1 + 1 + 1 + 1 < w1.heap.size := by omega); (try have hy1_5 : w.heap.size + 1 + 1 + 1 + 1 + 1 < w1.heap.size := by omega)))
  have z0 : w1.cell? ⟨w.heap.size, 0, none⟩ = some (.int .i64 0) := Gr.at hb1 (by simp [go_sem])
  have z1 : w1.cell? ⟨w.heap.size, 1, none⟩ = some (.int .i64 0) := Gr.at hb1 (by simp [go_sem])
  have z2 : w1.cell? ⟨w.heap.size, 2, none⟩ = some (.int .i64 0) := Gr.at hb1 (by simp [go_sem])
  refine bodyPost_ret (by simp [results, Tryz.results59, go_sem, z0, z1, z2, hy1_0]; try rfl) rfl ?_
  exact ⟨by first | rfl | (simp; done), gr_auto⟩
set_option maxHeartbeats 800000 in
theorem split_any (t y m d : Int) (w : World) (hi : Ck.inst t = true) (hv : Ck.vld y m d = true) (hn : Ck.num y m d = t / 86400) :
    Calls Tryz.prog 59 #[.int .i64 t] w fun e w' => e = .returned (.tuple #[.agg #[.int .i64 y, .int .i64 m, .int .i64 d], .int .i64 (t - t / 86400 * 86400), .int .i64 0]) ∧ Gr w w' := by
  obtain ⟨i0, i1⟩ := (Ck.inst_iff t).1 hi
  have HD := Lib.hid (fun W => dateof_any (t / 86400) y m d W hv hn)
  clear hv hn
  go_enter Tryz.func59, Tryz.ntmps59
  go_wp2_with (first | (go_at_call 101; refine (instant_any _ _).mono ?_; rintro e w' ⟨rfl, rfl⟩) | (go_at_call 102; refine (floor_any _ _ _ (by omega) (by omega) (by omega) (by omega)).mono ?_; rintro e w' ⟨rfl, rfl⟩) | (go_at_call 103; refine (HD.out _).mono ?_; rintro e w1 ⟨rfl, hb1⟩; obtain ⟨hc1, hf1⟩ := Gr.cells hb1; have hz1 := Gr.size hb1; (try simp at hz1); (try have hy1_0 : w.heap.size < w1.heap.size := by omega); (try have hy1_1 : w.heap.size + 1 < w1.heap.size := by omega); (try have hy1_2 : w.heap.size + 1 + 1 < w1.heap.size := by omega); (try have hy1_3 : w.heap.size + 1 + 1 + 1 < w1.heap.size := by omega); (try have hy1_4 : w.heap.size + 1 + 1 + 1 + 1 < w1.heap.size := by omega); (try have hy1_5 : w.heap.size + 1 + 1 + 1 + 1 + 1 < w1.heap.size := by omega)))
  have z0 : w1.cell? ⟨w.heap.size, 0, none⟩ = some (.int .i64 0) := Gr.at hb1 (by simp [go_sem])
  have z1 : w1.cell? ⟨w.heap.size, 1, none⟩ = some (.int .i64 0) := Gr.at hb1 (by simp [go_sem])
  have z2 : w1.cell? ⟨w.heap.size, 2, none⟩ = some (.int .i64 0) := Gr.at hb1 (by simp [go_sem])
  refine bodyPost_ret (by simp [results, Tryz.results59, go_sem, z0, z1, z2, hy1_0]; try rfl) rfl ?_
  exact ⟨by first | rfl | (simp; done), gr_auto⟩
set_option maxHeartbeats 800000 in
theorem rsplit_none (t : Int) (w : World) (hi : Ck.inst t = true) (hd : Ck.dated (t / 86400) = false) :
    Calls Tryz.prog 85 #[.int .i64 t] w fun e w' => e = .returned (.tuple #[.agg #[.int .i64 0, .int .i64 0, .int .i64 0], .int .i64 0, .int .i64 20]) ∧ Gr w w' := by
  obtain ⟨i0, i1⟩ := (Ck.inst_iff t).1 hi
  have HD := Lib.hid (fun W => rdated_any (t / 86400) W)
  rw [hd] at HD
  clear hd
  go_enter Tryz.func85, Tryz.ntmps85
  go_wp2_with (first | (go_at_call 116; refine (rinstant_any _ _).mono ?_; rintro e w' ⟨rfl, rfl⟩) | (go_at_call 117; refine (rfloor_any _ _ _ (by omega) (by omega) (by omega) (by omega)).mono ?_; rintro e w' ⟨rfl, rfl⟩) | (go_at_call 118; refine (HD.out _).mono ?_; rintro e w1 ⟨rfl, hb1⟩; obtain ⟨hc1, hf1⟩ := Gr.cells hb1; have hz1 := Gr.size hb1; (try simp at hz1); (try have hy1_0 : w.heap.size < w1.heap.size := by omega); (try have hy1_1 : w.heap.size + 1 < w1.heap.size := by omega); (try have hy1_2 : w.heap.size + 1 + 1 < w1.heap.size := by omega); (try have hy1_3 : w.heap.size + 1 + 1 + 1 < w1.heap.size := by omega); (try have hy1_4 : w.heap.size + 1 + 1 + 1 + 1 < w1.heap.size := by omega); (try have hy1_5 : w.heap.size + 1 + 1 + 1 + 1 + 1 < w1.heap.size := by omega)))
  have z0 : w1.cell? ⟨w.heap.size, 0, none⟩ = some (.int .i64 0) := Gr.at hb1 (by simp [go_sem])
  have z1 : w1.cell? ⟨w.heap.size, 1, none⟩ = some (.int .i64 0) := Gr.at hb1 (by simp [go_sem])
  have z2 : w1.cell? ⟨w.heap.size, 2, none⟩ = some (.int .i64 0) := Gr.at hb1 (by simp [go_sem])
  refine bodyPost_ret (by simp [results, Tryz.results85, go_sem, z0, z1, z2, hy1_0]; try rfl) rfl ?_
  exact ⟨by first | rfl | (simp; done), gr_auto⟩
set_option maxHeartbeats 800000 in
theorem rsplit_any (t y m d : Int) (w : World) (hi : Ck.inst t = true) (hd : Ck.dated (t / 86400) = true) (hv : Ck.vld y m d = true) (hn : Ck.num y m d = t / 86400) :
    Calls Tryz.prog 85 #[.int .i64 t] w fun e w' => e = .returned (.tuple #[.agg #[.int .i64 y, .int .i64 m, .int .i64 d], .int .i64 (t - t / 86400 * 86400), .int .i64 0]) ∧ Gr w w' := by
  obtain ⟨i0, i1⟩ := (Ck.inst_iff t).1 hi
  have HD := Lib.hid (fun W => rdated_any (t / 86400) W)
  rw [hd] at HD
  have HE := Lib.hid (fun W => rdateof_any (t / 86400) y m d W hv hn)
  clear hd hv hn
  go_enter Tryz.func85, Tryz.ntmps85
  go_wp2_with (first | (go_at_call 116; refine (rinstant_any _ _).mono ?_; rintro e w' ⟨rfl, rfl⟩) | (go_at_call 117; refine (rfloor_any _ _ _ (by omega) (by omega) (by omega) (by omega)).mono ?_; rintro e w' ⟨rfl, rfl⟩) | (go_at_call 118; refine (HD.out _).mono ?_; rintro e w1 ⟨rfl, hb1⟩; obtain ⟨hc1, hf1⟩ := Gr.cells hb1; have hz1 := Gr.size hb1; (try simp at hz1); (try have hy1_0 : w.heap.size < w1.heap.size := by omega); (try have hy1_1 : w.heap.size + 1 < w1.heap.size := by omega); (try have hy1_2 : w.heap.size + 1 + 1 < w1.heap.size := by omega); (try have hy1_3 : w.heap.size + 1 + 1 + 1 < w1.heap.size := by omega); (try have hy1_4 : w.heap.size + 1 + 1 + 1 + 1 < w1.heap.size := by omega); (try have hy1_5 : w.heap.size + 1 + 1 + 1 + 1 + 1 < w1.heap.size := by omega)) | (go_at_call 119; refine (HE.out _).mono ?_; rintro e w2 ⟨rfl, hb2⟩; obtain ⟨hc2, hf2⟩ := Gr.cells hb2; have hz2 := Gr.size hb2; (try simp at hz2); (try have hy2_0 : w.heap.size < w2.heap.size := by omega); (try have hy2_1 : w.heap.size + 1 < w2.heap.size := by omega); (try have hy2_2 : w.heap.size + 1 + 1 < w2.heap.size := by omega); (try have hy2_3 : w.heap.size + 1 + 1 + 1 < w2.heap.size := by omega); (try have hy2_4 : w.heap.size + 1 + 1 + 1 + 1 < w2.heap.size := by omega); (try have hy2_5 : w.heap.size + 1 + 1 + 1 + 1 + 1 < w2.heap.size := by omega); (try have hy2_1_0 : w1.heap.size < w2.heap.size := by omega); (try have hy2_1_1 : w1.heap.size + 1 < w2.heap.size := by omega)))
  have y0 : w1.cell? ⟨w.heap.size, 0, none⟩ = some (.int .i64 0) := Gr.at hb1 (by simp [go_sem])
  have y1 : w1.cell? ⟨w.heap.size, 1, none⟩ = some (.int .i64 0) := Gr.at hb1 (by simp [go_sem])
  have y2 : w1.cell? ⟨w.heap.size, 2, none⟩ = some (.int .i64 0) := Gr.at hb1 (by simp [go_sem])
  have z0 := Gr.at hb2 y0; have z1 := Gr.at hb2 y1; have z2 := Gr.at hb2 y2
  refine bodyPost_ret (by simp [results, Tryz.results85, go_sem, z0, z1, z2, hy2_0]; try rfl) rfl ?_
  exact ⟨by first | rfl | (simp; done), gr_auto⟩
end Go.Proofs.YtllkiadedaghoaaGreatDoor
set_option linter.unusedVariables false
set_option linter.unusedSimpArgs false
namespace Go.Proofs.YtllkiadedaghoaaGreatDoor
namespace Ck
/-- One position: a byte of the pattern, a byte of the text, what has been read so far. -/
def stp (p c : Nat) (st : List Int × Int × Bool) : Option (List Int × Int × Bool) :=
  if p = 48 then (if c < 48 ∨ 57 < c then none else some (st.1, 10 * st.2.1 + ((c : Int) - 48), true))
  else (if c = p then some ((if st.2.2 then st.1 ++ [st.2.1] else st.1), 0, false) else none)
def run (pl sl : List UInt8) : Nat → Option (List Int × Int × Bool)
  | 0 => some ([], 0, false)
  | k + 1 => (run pl sl k).bind (stp (pl.getD k 0).toNat (sl.getD k 0).toNat)
theorem run_succ (pl sl : List UInt8) (k : Nat) : run pl sl (k + 1) = (run pl sl k).bind (stp (pl.getD k 0).toNat (sl.getD k 0).toNat) := rfl
theorem run_len {pl sl : List UInt8} : ∀ k L n o, run pl sl k = some (L, n, o) → L.length ≤ k
  | 0, L, n, o, h => by
    simp only [run, Option.some.injEq, Prod.mk.injEq] at h; obtain ⟨rfl, _, _⟩ := h; simp
  | k + 1, L, n, o, h => by
    rw [run_succ] at h
    cases hr : run pl sl k with
    | none => rw [hr] at h; cases h
    | some st =>
      obtain ⟨L', n', o'⟩ := st
      rw [hr] at h
      have ih := run_len k L' n' o' hr
      simp only [Option.bind_some, stp] at h
      split at h
      · split at h
        · cases h
        · simp only [Option.some.injEq, Prod.mk.injEq] at h; obtain ⟨rfl, _, _⟩ := h; omega
      · split at h
        · simp only [Option.some.injEq, Prod.mk.injEq] at h
          obtain ⟨rfl, _, _⟩ := h
          split
          · simp; omega
          · omega
        · cases h
end Ck
end Go.Proofs.YtllkiadedaghoaaGreatDoor
