import Derived.Test.YtlcbjkkcfenlmaaDoorCkWalkE
set_option linter.unusedVariables false
set_option linter.unusedSimpArgs false
namespace Go.Proofs.YtlcbjkkcfenlmaaDoor
open Go.RowKit
set_option maxHeartbeats 1600000 in
theorem rdateof_any (n y m d : Int) (w : World) (hv : Ck.vld y m d = true) (hn : Ck.num y m d = n) :
    Calls Tryd.prog 25 #[.int .i64 n] w fun e w' => e = .returned (.agg #[.int .i64 y, .int .i64 m, .int .i64 d]) ∧ Gr w w' := by
  obtain ⟨v1, v2, v3, v4, v5, v6⟩ := (Ck.vld_iff y m d).1 hv
  obtain ⟨n0, n1⟩ := Ck.num_bd hv
  obtain ⟨n2, n3⟩ := Ck.num_year hv
  have hx : n - Ck.bef y = Ck.cum y m + d - 1 := by rw [← hn]; unfold Ck.num; omega
  rw [hn] at n0 n1 n2 n3
  obtain ⟨c0, c1⟩ := Ck.bef_bd y (by omega) (by omega)
  have s0 := Ck.cum_bd y m
  clear hv hn
  have HX := Lib.hid hx; clear hx
  have e2 := Ck.bef_2000
  go_enter Tryd.func25, Tryd.ntmps25
  go_wp2_with fail
  go_loop [3, 4] (fun p q => ∃ lo hi : Int, 1 ≤ lo ∧ lo ≤ y ∧ y ≤ hi ∧ hi ≤ 9999 ∧ p = .int .i64 lo ∧ q = .int .i64 hi) (fun p q => (intOf q - intOf p).toNat)
  case atStart => exact ⟨1, 9999, by omega, by omega, by omega, by omega, rfl, rfl⟩
  case round =>
    obtain ⟨lo, hi, l0, l1, l2, l3, rfl, rfl⟩ := hrel
    by_cases hlt : lo < hi
    · have hm : 1 ≤ (lo + hi + 1) / 2 ∧ (lo + hi + 1) / 2 ≤ 9999 := by omega
      obtain ⟨m0, m1⟩ := hm
      obtain ⟨g0, g1⟩ := Ck.bef_bd ((lo + hi + 1) / 2) (by omega) (by omega)
      by_cases hp : Ck.bef ((lo + hi + 1) / 2) ≤ n
      · have hy : (lo + hi + 1) / 2 ≤ y := by have := Ck.bef_inv (a := (lo + hi + 1) / 2) (b := y + 1) (by omega); omega
        have hd : decide (Ck.bef ((lo + hi + 1) / 2) ≤ n) = true := decide_eq_true hp
        go_wp2_with (go_at_call 46; refine (rbefore_any _ _ (by omega) (by omega)).mono ?_; rintro e w' ⟨rfl, rfl⟩)
        go_round
        case rel => exact ⟨(lo + hi + 1) / 2, hi, by omega, by omega, by omega, by omega, rfl, rfl⟩
        case measure => simp [intOf]; omega
      · have hy : y ≤ (lo + hi + 1) / 2 - 1 := by have := Ck.bef_inv (a := y) (b := (lo + hi + 1) / 2) (by omega); omega
        have hd : decide (Ck.bef ((lo + hi + 1) / 2) ≤ n) = false := decide_eq_false hp
        go_wp2_with (go_at_call 46; refine (rbefore_any _ _ (by omega) (by omega)).mono ?_; rintro e w' ⟨rfl, rfl⟩)
        go_round
        case rel => exact ⟨lo, (lo + hi + 1) / 2 - 1, by omega, by omega, by omega, by omega, rfl, by go_num⟩
        case measure => simp [intOf]; omega
    · obtain rfl : lo = y := by omega
      have bs := Ck.bef_succ lo
      have lp := Ck.lp_01 lo
      have BS := Lib.hid bs; clear bs
      have q0 : n - Ck.bef lo ≤ 366 := by have := BS.out; omega
      go_wp2_with (go_at_call 46; refine (rbefore_any _ _ (by omega) (by omega)).mono ?_; rintro e w' ⟨rfl, rfl⟩)
      go_loopw [6, 7] (fun p q wr => ∃ k : Int, 1 ≤ k ∧ k ≤ m ∧ q = .int .i64 k ∧ p = .int .i64 (Ck.cum lo m + d - 1 - Ck.cum lo k) ∧ Gr w wr ∧ wr.cell? ⟨w.heap.size, 0, none⟩ = some (.int .i64 0) ∧ wr.cell? ⟨w.heap.size, 1, none⟩ = some (.int .i64 0) ∧ wr.cell? ⟨w.heap.size, 2, none⟩ = some (.int .i64 0) ∧ wr.frozen? ⟨w.heap.size, 0, none⟩ = false ∧ wr.frozen? ⟨w.heap.size, 1, none⟩ = false ∧ wr.frozen? ⟨w.heap.size, 2, none⟩ = false) (fun _ q _ => (13 - intOf q).toNat)
      case atStart => exact ⟨1, by omega, by omega, rfl, by rw [Ck.cum_one]; exact congrArg (Value.int IntKind.i64) (by have := HX.out; go_arith), (by repeat' (first | (with_reducible exact Gr.refl _) | (with_reducible assumption) | (with_reducible refine Gr.alloc ?_ _) | (with_reducible refine Gr.drew ?_) | (with_reducible refine Gr.drewN ?_ _) | (with_reducible refine Gr.setCell ?_ ?_ _) | (with_reducible refine Gr.trans ?_ (by with_reducible assumption)) | go_size)), (by first | (simp [go_sem, *]; done) | ((try simp [go_sem, *]); refine World.cell?_setCell_same' _ _ _ ?_; simp [go_sem, *]; done)), (by first | (simp [go_sem, *]; done) | ((try simp [go_sem, *]); refine World.cell?_setCell_same' _ _ _ ?_; simp [go_sem, *]; done)), (by first | (simp [go_sem, *]; done) | ((try simp [go_sem, *]); refine World.cell?_setCell_same' _ _ _ ?_; simp [go_sem, *]; done)), (by simp [go_sem, *]), (by simp [go_sem, *]), (by simp [go_sem, *])⟩
      case round =>
        obtain ⟨k, k1, k2, rfl, rfl, hg, h0, h1, h2, f0, f1, f2⟩ := hrel
        have hlt2 := World.block_lt_of_cell? wr ⟨w.heap.size, 0, none⟩ h0
        simp only at hlt2
        have hs := Ck.cum_bd lo k
        obtain ⟨x0, x1⟩ := Ck.mlen_bd lo k
        have hcs := Ck.cum_succ lo k k1 (by omega)
        have hmm := Ck.mlen_bd lo m
        by_cases hk : k < m
        · have hmo := Ck.cum_mono lo (a := k + 1) (b := m) (by omega) (by omega) (by omega)
          have hd : decide (Ck.mlen lo k ≤ Ck.cum lo m + d - 1 - Ck.cum lo k) = true := decide_eq_true (by omega)
          have HCS := Lib.hid hcs; clear hcs hmo
          go_wp2_with (go_at_call 45; refine (rdays_any _ _ _ (by omega) (by omega) (by omega) (by omega)).mono ?_; rintro e w1 ⟨rfl, hb1⟩; obtain ⟨hcc, hff⟩ := Gr.cells hb1; have hz1 := Gr.size hb1; (try simp at hz1); have hlt3 : w.heap.size < w1.heap.size := by omega)
          go_roundw
          case rel => exact ⟨k + 1, by omega, by omega, by go_num, by rw [HCS.out]; exact congrArg (Value.int IntKind.i64) (by omega), (by repeat' (first | (with_reducible exact Gr.refl _) | (with_reducible assumption) | (with_reducible refine Gr.alloc ?_ _) | (with_reducible refine Gr.drew ?_) | (with_reducible refine Gr.drewN ?_ _) | (with_reducible refine Gr.setCell ?_ ?_ _) | (with_reducible refine Gr.trans ?_ (by with_reducible assumption)) | go_size)), (by first | (simp [go_sem, *]; done) | ((try simp [go_sem, *]); refine World.cell?_setCell_same' _ _ _ ?_; simp [go_sem, *]; done)), (by first | (simp [go_sem, *]; done) | ((try simp [go_sem, *]); refine World.cell?_setCell_same' _ _ _ ?_; simp [go_sem, *]; done)), (by first | (simp [go_sem, *]; done) | ((try simp [go_sem, *]); refine World.cell?_setCell_same' _ _ _ ?_; simp [go_sem, *]; done)), (by simp [go_sem, *]), (by simp [go_sem, *]), (by simp [go_sem, *])⟩
          case measure => simp [intOf]; omega
        · obtain rfl : k = m := by omega
          have hd : decide (Ck.mlen lo k ≤ Ck.cum lo k + d - 1 - Ck.cum lo k) = false := decide_eq_false (by omega)
          clear hcs
          go_wp2_with (go_at_call 45; refine (rdays_any _ _ _ (by omega) (by omega) (by omega) (by omega)).mono ?_; rintro e w1 ⟨rfl, hb1⟩; obtain ⟨hcc, hff⟩ := Gr.cells hb1; have hz1 := Gr.size hb1; (try simp at hz1); have hlt3 : w.heap.size < w1.heap.size := by omega)
          have z0 := Gr.at hb1 h0
          have z1 := Gr.at hb1 h1
          have z2 := Gr.at hb1 h2
          refine bodyPost_ret (by simp [results, Tryd.results25, go_sem, z0, z1, z2]; try rfl) rfl ?_
          exact ⟨by first | rfl | (simp; done) | (simp; omega), (by repeat' (first | (with_reducible exact Gr.refl _) | (with_reducible assumption) | (with_reducible refine Gr.alloc ?_ _) | (with_reducible refine Gr.drew ?_) | (with_reducible refine Gr.drewN ?_ _) | (with_reducible refine Gr.setCell ?_ ?_ _) | (with_reducible refine Gr.trans ?_ (by with_reducible assumption)) | go_size))⟩
def Ck.dated (n : Int) : Bool := decide (-730119 ≤ n) && decide (n ≤ 2921939)
theorem Ck.num_lo : Ck.num 1 1 1 = -730119 := by decide
theorem Ck.num_hi : Ck.num 9999 12 31 = 2921939 := by decide
set_option maxHeartbeats 400000 in
theorem rdated_any (n : Int) (w : World) :
    Calls Tryd.prog 24 #[.int .i64 n] w fun e w' => e = .returned (.bool (Ck.dated n)) ∧ Gr w w' := by
  have h1 := fun W => rnumber_any 1 1 1 W (by decide)
  have h2 := fun W => rnumber_any 9999 12 31 W (by decide)
  rw [Ck.num_lo] at h1
  rw [Ck.num_hi] at h2
  have H1 := Lib.hid h1; have H2 := Lib.hid h2; clear h1 h2
  have hl : Ck.dated n = (decide (-730119 ≤ n) && decide (n ≤ 2921939)) := rfl
  rw [hl]; clear hl
  cases a : decide (-730119 ≤ n)
  · go_enter Tryd.func24, Tryd.ntmps24
    go_wp2_with fail; refine (H1.out _).mono ?_; rintro e w1 ⟨rfl, hb1⟩; obtain ⟨hc1, hf1⟩ := Gr.cells hb1; have hz1 := Gr.size hb1; (try simp at hz1); (try have hy1_0 : w.heap.size < w1.heap.size := by omega); (try have hy1_1 : w.heap.size + 1 < w1.heap.size := by omega); (try have hy1_2 : w.heap.size + 1 + 1 < w1.heap.size := by omega); (try have hy1_3 : w.heap.size + 1 + 1 + 1 < w1.heap.size := by omega); (try have hy1_4 : w.heap.size + 1 + 1 + 1 + 1 < w1.heap.size := by omega); (try have hy1_5 : w.heap.size + 1 + 1 + 1 + 1 + 1 < w1.heap.size := by omega)
    go_wp2
    go_ret
    exact ⟨rfl, (by repeat' (first | (with_reducible exact Gr.refl _) | (with_reducible assumption) | (with_reducible refine Gr.alloc ?_ _) | (with_reducible refine Gr.drew ?_) | (with_reducible refine Gr.drewN ?_ _) | (with_reducible refine Gr.setCell ?_ ?_ _) | (with_reducible refine Gr.trans ?_ (by with_reducible assumption)) | go_size))⟩
  · go_enter Tryd.func24, Tryd.ntmps24
    go_wp2_with fail; refine (H1.out _).mono ?_; rintro e w1 ⟨rfl, hb1⟩; obtain ⟨hc1, hf1⟩ := Gr.cells hb1; have hz1 := Gr.size hb1; (try simp at hz1); (try have hy1_0 : w.heap.size < w1.heap.size := by omega); (try have hy1_1 : w.heap.size + 1 < w1.heap.size := by omega); (try have hy1_2 : w.heap.size + 1 + 1 < w1.heap.size := by omega); (try have hy1_3 : w.heap.size + 1 + 1 + 1 < w1.heap.size := by omega); (try have hy1_4 : w.heap.size + 1 + 1 + 1 + 1 < w1.heap.size := by omega); (try have hy1_5 : w.heap.size + 1 + 1 + 1 + 1 + 1 < w1.heap.size := by omega)
    go_wp2_with fail; refine (H2.out _).mono ?_; rintro e w2 ⟨rfl, hb2⟩; obtain ⟨hc2, hf2⟩ := Gr.cells hb2; have hz2 := Gr.size hb2; (try simp at hz2); (try have hy2_0 : w.heap.size < w2.heap.size := by omega); (try have hy2_1 : w.heap.size + 1 < w2.heap.size := by omega); (try have hy2_2 : w.heap.size + 1 + 1 < w2.heap.size := by omega); (try have hy2_3 : w.heap.size + 1 + 1 + 1 < w2.heap.size := by omega); (try have hy2_4 : w.heap.size + 1 + 1 + 1 + 1 < w2.heap.size := by omega); (try have hy2_5 : w.heap.size + 1 + 1 + 1 + 1 + 1 < w2.heap.size := by omega); (try have hy2_1_0 : w1.heap.size < w2.heap.size := by omega); (try have hy2_1_1 : w1.heap.size + 1 < w2.heap.size := by omega)
    go_wp2
    go_ret
    exact ⟨by simp, (by repeat' (first | (with_reducible exact Gr.refl _) | (with_reducible assumption) | (with_reducible refine Gr.alloc ?_ _) | (with_reducible refine Gr.drew ?_) | (with_reducible refine Gr.drewN ?_ _) | (with_reducible refine Gr.setCell ?_ ?_ _) | (with_reducible refine Gr.trans ?_ (by with_reducible assumption)) | go_size))⟩
end Go.Proofs.YtlcbjkkcfenlmaaDoor
