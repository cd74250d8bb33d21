import Derived.Test.YtbaahlofabmljaaDoorWdRefA
set_option linter.unusedVariables false
set_option linter.unusedSimpArgs false
namespace Go.Proofs.YtbaahlofabmljaaDoor
open Go.RowKit
namespace Wd
theorem sg_neg (v : Int) : sg (neg v) (mag v) = v := by unfold sg neg mag; by_cases h : v < 0 <;> simp [h]
theorem sg_opp (v : Int) : sg (!neg v) (mag v) = -v := by unfold sg neg mag; by_cases h : v < 0 <;> simp [h]
theorem mag_zero {v : Int} : mag v = 0 ↔ v = 0 := by unfold mag; split <;> omega
theorem add_same {x y : Int} (h : neg x = neg y) : sg (neg x) (mag x + mag y) = x + y := by
  unfold sg neg mag at *; by_cases hx : x < 0 <;> by_cases hy : y < 0 <;> simp [hx, hy] at h ⊢ <;> omega
theorem add_less {x y : Int} (h : neg x ≠ neg y) : sg (neg y) (mag y - mag x) = x + y := by
  unfold sg neg mag at *; by_cases hx : x < 0 <;> by_cases hy : y < 0 <;> simp [hx, hy] at h ⊢ <;> omega
theorem add_more {x y : Int} (h : neg x ≠ neg y) : sg (neg x) (mag x - mag y) = x + y := by
  unfold sg neg mag at *; by_cases hx : x < 0 <;> by_cases hy : y < 0 <;> simp [hx, hy] at h ⊢ <;> omega
theorem hi_zero {v : Int} (h0 : 0 ≤ mag v) (h1 : mag v ≤ 18446744073709551615) : hi v = 0 ∧ lo v = mag v := by unfold hi lo; omega
/-- What IsInt returns as an int: the number, or the lowest bits of it. -/
def low (v : Int) : Int := if fits v then v else if neg v then wrap64 (IntKind.u64.wrap (0 - lo v)) else wrap64 (lo v)
theorem low_fits {v : Int} (h : fits v = true) : low v = v := by unfold low; rw [h]; rfl
theorem low_neg {v : Int} (h : v < 0) (hb : hi v = 0 → lo v ≤ 9223372036854775808 → fits v = true) : wrap64 (IntKind.u64.wrap (0 - lo v)) = low v := by
  unfold low
  by_cases hf : fits v = true
  · rw [hf]
    have e := hilo v
    rw [mag_of_neg h] at e
    unfold fits at hf
    simp only [Bool.and_eq_true, decide_eq_true_eq] at hf
    have l0 := lo_nonneg v
    have h0 := hi_nonneg v
    rw [IntKind.wrap_u64]; unfold wrap64; simp; omega
  · rw [if_neg hf, neg_of_neg h]; rfl
theorem low_pos {v : Int} (h : 0 ≤ v) : wrap64 (lo v) = low v := by
  unfold low
  by_cases hf : fits v = true
  · rw [hf]
    have e := hilo v
    rw [mag_of_nonneg h] at e
    unfold fits at hf
    simp only [Bool.and_eq_true, decide_eq_true_eq] at hf
    have l0 := lo_nonneg v
    have h0 := hi_nonneg v
    unfold wrap64; simp; omega
  · rw [if_neg hf, neg_of_nonneg h]; rfl
theorem fits_neg {v : Int} (h : v < 0) : fits v = (hi v == 0 && decide (lo v ≤ 9223372036854775808)) := by
  have e := hilo v; rw [mag_of_neg h] at e
  have l0 := lo_nonneg v; have l1 := lo_lt v; have h0 := hi_nonneg v
  unfold fits
  rw [Bool.eq_iff_iff]; simp only [Bool.and_eq_true, decide_eq_true_eq, beq_iff_eq]; omega
theorem fits_pos {v : Int} (h : 0 ≤ v) : fits v = (hi v == 0 && decide (lo v < 9223372036854775808)) := by
  have e := hilo v; rw [mag_of_nonneg h] at e
  have l0 := lo_nonneg v; have l1 := lo_lt v; have h0 := hi_nonneg v
  unfold fits
  rw [Bool.eq_iff_iff]; simp only [Bool.and_eq_true, decide_eq_true_eq, beq_iff_eq]; omega
end Wd
theorem rmade_v (v : Int) (b : Bool) (w : World) :
    Calls Tryd.prog 53 #[.agg #[.int .u64 (Wd.hi v), .int .u64 (Wd.lo v)], .bool b] w fun e w' => e = .returned (.agg #[.int .u64 (Wd.hi (Wd.sg b (Wd.mag v))), .int .u64 (Wd.lo (Wd.sg b (Wd.mag v))), .bool (Wd.neg (Wd.sg b (Wd.mag v)))]) ∧ Gr w w' := by
  have := rmade_any (Wd.mag v) b w (Wd.mag_nonneg v)
  rw [Wd.hi_mag, Wd.lo_mag] at this; exact this
set_option maxHeartbeats 400000 in
theorem rofint_any (n : Int) (w : World) (n0 : -9223372036854775808 ≤ n) (n1 : n ≤ 9223372036854775807) :
    Calls Tryd.prog 56 #[.int .i64 n] w fun e w' => e = .returned (.agg #[.int .u64 (Wd.hi n), .int .u64 (Wd.lo n), .bool (Wd.neg n)]) ∧ Gr w w' := by
  have m1 := Wd.mag_le n0 n1
  have m0 := Wd.mag_nonneg n
  obtain ⟨e1, e2⟩ := Wd.hi_zero (v := n) m0 (by omega)
  have hm : ∀ (W : World) (b : Bool), b = Wd.neg n → Calls Tryd.prog 53 #[.agg #[.int .u64 0, .int .u64 (Wd.mag n)], .bool b] W fun e w' => e = .returned (.agg #[.int .u64 (Wd.hi n), .int .u64 (Wd.lo n), .bool (Wd.neg n)]) ∧ Gr W w' := fun W b hb => by
    have := rmade_v n b W
    rw [hb, Wd.sg_neg] at this
    rw [hb]
    rw [e1, e2] at this ⊢
    exact this
  have HM := Lib.hid hm
  clear hm e1 e2
  by_cases hn : n < 0
  · have hn' : decide (n < 0) = true := decide_eq_true hn
    have HN := Lib.hid (Wd.neg_of_neg hn)
    go_enter Tryd.func56, Tryd.ntmps56
    go_wp2_with (first | (go_at_call 55; refine (rsize_any _ _ n0 n1).mono ?_; rintro e w' ⟨rfl, rfl⟩) | (go_at_call 53; refine (HM.out _ _ HN.out.symm).mono ?_; rintro e w1 ⟨rfl, hb1⟩; obtain ⟨hc1, hf1⟩ := Gr.cells hb1; have hz1 := Gr.size hb1; (try simp at hz1); (try have hy1_0 : w.heap.size < w1.heap.size := by omega); (try have hy1_1 : w.heap.size + 1 < w1.heap.size := by omega); (try have hy1_2 : w.heap.size + 1 + 1 < w1.heap.size := by omega); (try have hy1_3 : w.heap.size + 1 + 1 + 1 < w1.heap.size := by omega); (try have hy1_4 : w.heap.size + 1 + 1 + 1 + 1 < w1.heap.size := by omega); (try have hy1_5 : w.heap.size + 1 + 1 + 1 + 1 + 1 < w1.heap.size := by omega)))
    refine bodyPost_ret (by simp [results, Tryd.results56, go_sem, hc1, hz1, hy1_0]; try rfl) rfl ?_
    exact ⟨by first | rfl | (simp; done), (by repeat' (first | (with_reducible exact Gr.refl _) | (with_reducible assumption) | (with_reducible refine Gr.alloc ?_ _) | (with_reducible refine Gr.drew ?_) | (with_reducible refine Gr.drewN ?_ _) | (with_reducible refine Gr.setCell ?_ ?_ _) | (with_reducible refine Gr.trans ?_ (by with_reducible assumption)) | go_size))⟩
  · have hn' : decide (n < 0) = false := decide_eq_false hn
    have HN := Lib.hid (Wd.neg_of_nonneg (show 0 ≤ n by omega))
    go_enter Tryd.func56, Tryd.ntmps56
    go_wp2_with (first | (go_at_call 55; refine (rsize_any _ _ n0 n1).mono ?_; rintro e w' ⟨rfl, rfl⟩) | (go_at_call 53; refine (HM.out _ _ HN.out.symm).mono ?_; rintro e w1 ⟨rfl, hb1⟩; obtain ⟨hc1, hf1⟩ := Gr.cells hb1; have hz1 := Gr.size hb1; (try simp at hz1); (try have hy1_0 : w.heap.size < w1.heap.size := by omega); (try have hy1_1 : w.heap.size + 1 < w1.heap.size := by omega); (try have hy1_2 : w.heap.size + 1 + 1 < w1.heap.size := by omega); (try have hy1_3 : w.heap.size + 1 + 1 + 1 < w1.heap.size := by omega); (try have hy1_4 : w.heap.size + 1 + 1 + 1 + 1 < w1.heap.size := by omega); (try have hy1_5 : w.heap.size + 1 + 1 + 1 + 1 + 1 < w1.heap.size := by omega)))
    refine bodyPost_ret (by simp [results, Tryd.results56, go_sem, hc1, hz1, hy1_0]; try rfl) rfl ?_
    exact ⟨by first | rfl | (simp; done), (by repeat' (first | (with_reducible exact Gr.refl _) | (with_reducible assumption) | (with_reducible refine Gr.alloc ?_ _) | (with_reducible refine Gr.drew ?_) | (with_reducible refine Gr.drewN ?_ _) | (with_reducible refine Gr.setCell ?_ ?_ _) | (with_reducible refine Gr.trans ?_ (by with_reducible assumption)) | go_size))⟩
set_option maxHeartbeats 400000 in
theorem rsum_any (x y : Int) (w : World) (hx : Wd.hi x ≤ 18446744073709551615) (hy : Wd.hi y ≤ 18446744073709551615) (hxy : Wd.mag x + Wd.mag y ≤ 340282366920938463463374607431768211455) :
    Calls Tryd.prog 52 #[.agg #[.int .u64 (Wd.hi x), .int .u64 (Wd.lo x), .bool (Wd.neg x)], .agg #[.int .u64 (Wd.hi y), .int .u64 (Wd.lo y), .bool (Wd.neg y)]] w fun e w' => e = .returned (.agg #[.int .u64 (Wd.hi (x + y)), .int .u64 (Wd.lo (x + y)), .bool (Wd.neg (x + y))]) ∧ Gr w w' := by
  have mx := Wd.mag_nonneg x; have my := Wd.mag_nonneg y
  by_cases hs : Wd.neg x = Wd.neg y
  · have hp : ∀ W : World, Calls Tryd.prog 75 #[.agg #[.int .u64 (Wd.hi x), .int .u64 (Wd.lo x)], .agg #[.int .u64 (Wd.hi y), .int .u64 (Wd.lo y)]] W fun e w' => e = .returned (.agg #[.int .u64 (Wd.hi (Wd.mag x + Wd.mag y)), .int .u64 (Wd.lo (Wd.mag x + Wd.mag y))]) ∧ Gr W w' := fun W => rplus_any x y W hxy
    have hm : ∀ W : World, Calls Tryd.prog 53 #[.agg #[.int .u64 (Wd.hi (Wd.mag x + Wd.mag y)), .int .u64 (Wd.lo (Wd.mag x + Wd.mag y))], .bool (Wd.neg x)] W fun e w' => e = .returned (.agg #[.int .u64 (Wd.hi (x + y)), .int .u64 (Wd.lo (x + y)), .bool (Wd.neg (x + y))]) ∧ Gr W w' := fun W => by
      have := rmade_any (Wd.mag x + Wd.mag y) (Wd.neg x) W (by omega)
      rw [Wd.add_same hs] at this; exact this
    have HP := Lib.hid hp; have HM := Lib.hid hm
    clear hp hm
    rw [← hs] at *
    generalize Wd.neg x = s at *
    clear hs
    generalize Wd.neg (x + y) = t at *
    generalize x + y = z at *
    generalize Wd.mag x + Wd.mag y = m at *
    have hss : (s == s) = true := by simp
    go_enter Tryd.func52, Tryd.ntmps52
    go_wp2_with fail
    refine name_world ?_; intro W0 hW0
    have g0 : Gr w W0 := by rw [hW0]; exact (by repeat' (first | (with_reducible exact Gr.refl _) | (with_reducible assumption) | (with_reducible refine Gr.alloc ?_ _) | (with_reducible refine Gr.drew ?_) | (with_reducible refine Gr.drewN ?_ _) | (with_reducible refine Gr.setCell ?_ ?_ _) | (with_reducible refine Gr.trans ?_ (by with_reducible assumption)) | go_size))
    have k0_0 : ∀ w', GrX (w.heap.size + 1 + 1) W0 w' → w'.cell? ⟨w.heap.size, 0, none⟩ = some (.int .u64 (Wd.hi x)) := fun w' h => GrX.at h (by omega) (by rw [hW0]; simp [go_sem, *])
    have k0_1 : ∀ w', GrX (w.heap.size + 1 + 1) W0 w' → w'.cell? ⟨w.heap.size, 1, none⟩ = some (.int .u64 (Wd.lo x)) := fun w' h => GrX.at h (by omega) (by rw [hW0]; simp [go_sem, *])
    have k0_2 : ∀ w', GrX (w.heap.size + 1 + 1) W0 w' → w'.cell? ⟨w.heap.size, 2, none⟩ = some (.bool s) := fun w' h => GrX.at h (by omega) (by rw [hW0]; simp [go_sem, *])
    have k0_3 : ∀ w', GrX (w.heap.size + 1 + 1) W0 w' → w'.cell? ⟨w.heap.size + 1, 0, none⟩ = some (.int .u64 (Wd.hi y)) := fun w' h => GrX.at h (by omega) (by rw [hW0]; simp [go_sem, *])
    have k0_4 : ∀ w', GrX (w.heap.size + 1 + 1) W0 w' → w'.cell? ⟨w.heap.size + 1, 1, none⟩ = some (.int .u64 (Wd.lo y)) := fun w' h => GrX.at h (by omega) (by rw [hW0]; simp [go_sem, *])
    have k0_5 : ∀ w', GrX (w.heap.size + 1 + 1) W0 w' → w'.cell? ⟨w.heap.size + 1, 2, none⟩ = some (.bool s) := fun w' h => GrX.at h (by omega) (by rw [hW0]; simp [go_sem, *])
    have o0_0 : ∀ w', GrX (w.heap.size + 1 + 1) W0 w' → w'.cell? ⟨w.heap.size + 1 + 1, 0, none⟩ = some (cellOf w' (w.heap.size + 1 + 1) 0) := fun w' h => GrX.own h (by rw [hW0]; simp [go_sem, *])
    have f0_0 : ∀ w', GrX (w.heap.size + 1 + 1) W0 w' → w'.frozen? ⟨w.heap.size + 1 + 1, 0, none⟩ = false := fun w' h => GrX.unfrozen h (by rw [hW0]; simp [go_sem, *])
    have o0_1 : ∀ w', GrX (w.heap.size + 1 + 1) W0 w' → w'.cell? ⟨w.heap.size + 1 + 1, 1, none⟩ = some (cellOf w' (w.heap.size + 1 + 1) 1) := fun w' h => GrX.own h (by rw [hW0]; simp [go_sem, *])
    have f0_1 : ∀ w', GrX (w.heap.size + 1 + 1) W0 w' → w'.frozen? ⟨w.heap.size + 1 + 1, 1, none⟩ = false := fun w' h => GrX.unfrozen h (by rw [hW0]; simp [go_sem, *])
    have o0_2 : ∀ w', GrX (w.heap.size + 1 + 1) W0 w' → w'.cell? ⟨w.heap.size + 1 + 1, 2, none⟩ = some (cellOf w' (w.heap.size + 1 + 1) 2) := fun w' h => GrX.own h (by rw [hW0]; simp [go_sem, *])
    have f0_2 : ∀ w', GrX (w.heap.size + 1 + 1) W0 w' → w'.frozen? ⟨w.heap.size + 1 + 1, 2, none⟩ = false := fun w' h => GrX.unfrozen h (by rw [hW0]; simp [go_sem, *])
    clear hW0
    go_region_held3 (fun w' => GrX (w.heap.size + 1 + 1) W0 w') ((repeat' (first | (with_reducible assumption) | (with_reducible exact GrX.refl _ _) | (with_reducible refine GrX.drew ?_) | (with_reducible refine GrX.drewN ?_ _) | (with_reducible refine GrX.setCell ?_ ?_ _) | (rfl; done) | (with_reducible refine GrX.alloc ?_ _) | (with_reducible refine GrX.grown ?_ (by with_reducible assumption))))) (first | (go_at_call 75; refine (HP.out _).mono ?_; rintro e w1 ⟨rfl, hb1⟩; have q1 : GrX (w.heap.size + 1 + 1) W0 w1 := (by repeat' (first | (with_reducible assumption) | (with_reducible exact GrX.refl _ _) | (with_reducible refine GrX.drew ?_) | (with_reducible refine GrX.drewN ?_ _) | (with_reducible refine GrX.setCell ?_ ?_ _) | (rfl; done) | (with_reducible refine GrX.alloc ?_ _) | (with_reducible refine GrX.grown ?_ (by with_reducible assumption))))) | (go_at_call 53; refine (HM.out _).mono ?_; rintro e w2 ⟨rfl, hb2⟩; have q2 : GrX (w.heap.size + 1 + 1) W0 w2 := (by repeat' (first | (with_reducible assumption) | (with_reducible exact GrX.refl _ _) | (with_reducible refine GrX.drew ?_) | (with_reducible refine GrX.drewN ?_ _) | (with_reducible refine GrX.setCell ?_ ?_ _) | (rfl; done) | (with_reducible refine GrX.alloc ?_ _) | (with_reducible refine GrX.grown ?_ (by with_reducible assumption))))))
    go_wp2
    refine bodyPost_ret (by simp [results, Tryd.results52, go_sem, o0_0, o0_1, o0_2, q2]; try rfl) rfl ?_
    exact ⟨by first | rfl | (simp; done), GrX.gr (R := w.heap.size + 1 + 1) g0 (by omega) (by repeat' (first | (with_reducible assumption) | (with_reducible exact GrX.refl _ _) | (with_reducible refine GrX.drew ?_) | (with_reducible refine GrX.drewN ?_ _) | (with_reducible refine GrX.setCell ?_ ?_ _) | (rfl; done) | (with_reducible refine GrX.alloc ?_ _) | (with_reducible refine GrX.grown ?_ (by with_reducible assumption))))⟩
  · have hns : Wd.neg y = !(Wd.neg x) := by cases h1 : Wd.neg x <;> cases h2 : Wd.neg y <;> simp_all
    by_cases hl : Wd.mag x < Wd.mag y
    · have hle : ∀ W : World, Calls Tryd.prog 57 #[.agg #[.int .u64 (Wd.hi x), .int .u64 (Wd.lo x)], .agg #[.int .u64 (Wd.hi y), .int .u64 (Wd.lo y)]] W fun e w' => e = .returned (.bool true) ∧ Gr W w' := fun W => by
        have := rless_any x y W; rw [decide_eq_true hl] at this; exact this
      have hp : ∀ W : World, Calls Tryd.prog 59 #[.agg #[.int .u64 (Wd.hi y), .int .u64 (Wd.lo y)], .agg #[.int .u64 (Wd.hi x), .int .u64 (Wd.lo x)]] W fun e w' => e = .returned (.agg #[.int .u64 (Wd.hi (Wd.mag y - Wd.mag x)), .int .u64 (Wd.lo (Wd.mag y - Wd.mag x))]) ∧ Gr W w' := fun W => rminus_any y x W (by omega) hy
      have hm : ∀ W : World, Calls Tryd.prog 53 #[.agg #[.int .u64 (Wd.hi (Wd.mag y - Wd.mag x)), .int .u64 (Wd.lo (Wd.mag y - Wd.mag x))], .bool (!Wd.neg x)] W fun e w' => e = .returned (.agg #[.int .u64 (Wd.hi (x + y)), .int .u64 (Wd.lo (x + y)), .bool (Wd.neg (x + y))]) ∧ Gr W w' := fun W => by
        have := rmade_any (Wd.mag y - Wd.mag x) (Wd.neg y) W (by omega)
        rw [Wd.add_less hs, hns] at this; exact this
      have HL := Lib.hid hle; have HP := Lib.hid hp; have HM := Lib.hid hm
      clear hle hp hm
      rw [hns]
      generalize Wd.neg x = s at *
      clear hs hns
      generalize Wd.neg (x + y) = t at *
      generalize x + y = z at *
      generalize Wd.mag y - Wd.mag x = m at *
      have hss : (s == !s) = false := by cases s <;> rfl
      go_enter Tryd.func52, Tryd.ntmps52
      go_wp2_with fail
      refine (HL.out _).mono ?_; rintro e w1 ⟨rfl, hb1⟩; obtain ⟨hc1, hf1⟩ := Gr.cells hb1; have hz1 := Gr.size hb1; (try simp at hz1); (try have hy1_0 : w.heap.size < w1.heap.size := by omega); (try have hy1_1 : w.heap.size + 1 < w1.heap.size := by omega); (try have hy1_2 : w.heap.size + 1 + 1 < w1.heap.size := by omega); (try have hy1_3 : w.heap.size + 1 + 1 + 1 < w1.heap.size := by omega); (try have hy1_4 : w.heap.size + 1 + 1 + 1 + 1 < w1.heap.size := by omega); (try have hy1_5 : w.heap.size + 1 + 1 + 1 + 1 + 1 < w1.heap.size := by omega)
      go_wp2_with fail
      refine name_world ?_; intro W0 hW0
      have g0 : Gr w W0 := by rw [hW0]; exact (by repeat' (first | (with_reducible exact Gr.refl _) | (with_reducible assumption) | (with_reducible refine Gr.alloc ?_ _) | (with_reducible refine Gr.drew ?_) | (with_reducible refine Gr.drewN ?_ _) | (with_reducible refine Gr.setCell ?_ ?_ _) | (with_reducible refine Gr.trans ?_ (by with_reducible assumption)) | go_size))
      have k0_0 : ∀ w', GrX (w.heap.size + 1 + 1) W0 w' → w'.cell? ⟨w.heap.size, 0, none⟩ = some (.int .u64 (Wd.hi x)) := fun w' h => GrX.at h (by omega) (by rw [hW0]; simp [go_sem, *])
      have k0_1 : ∀ w', GrX (w.heap.size + 1 + 1) W0 w' → w'.cell? ⟨w.heap.size, 1, none⟩ = some (.int .u64 (Wd.lo x)) := fun w' h => GrX.at h (by omega) (by rw [hW0]; simp [go_sem, *])
      have k0_2 : ∀ w', GrX (w.heap.size + 1 + 1) W0 w' → w'.cell? ⟨w.heap.size, 2, none⟩ = some (.bool s) := fun w' h => GrX.at h (by omega) (by rw [hW0]; simp [go_sem, *])
      have k0_3 : ∀ w', GrX (w.heap.size + 1 + 1) W0 w' → w'.cell? ⟨w.heap.size + 1, 0, none⟩ = some (.int .u64 (Wd.hi y)) := fun w' h => GrX.at h (by omega) (by rw [hW0]; simp [go_sem, *])
      have k0_4 : ∀ w', GrX (w.heap.size + 1 + 1) W0 w' → w'.cell? ⟨w.heap.size + 1, 1, none⟩ = some (.int .u64 (Wd.lo y)) := fun w' h => GrX.at h (by omega) (by rw [hW0]; simp [go_sem, *])
      have k0_5 : ∀ w', GrX (w.heap.size + 1 + 1) W0 w' → w'.cell? ⟨w.heap.size + 1, 2, none⟩ = some (.bool (!s)) := fun w' h => GrX.at h (by omega) (by rw [hW0]; simp [go_sem, *])
      have o0_0 : ∀ w', GrX (w.heap.size + 1 + 1) W0 w' → w'.cell? ⟨w.heap.size + 1 + 1, 0, none⟩ = some (cellOf w' (w.heap.size + 1 + 1) 0) := fun w' h => GrX.own h (by rw [hW0]; simp [go_sem, *])
      have f0_0 : ∀ w', GrX (w.heap.size + 1 + 1) W0 w' → w'.frozen? ⟨w.heap.size + 1 + 1, 0, none⟩ = false := fun w' h => GrX.unfrozen h (by rw [hW0]; simp [go_sem, *])
      have o0_1 : ∀ w', GrX (w.heap.size + 1 + 1) W0 w' → w'.cell? ⟨w.heap.size + 1 + 1, 1, none⟩ = some (cellOf w' (w.heap.size + 1 + 1) 1) := fun w' h => GrX.own h (by rw [hW0]; simp [go_sem, *])
      have f0_1 : ∀ w', GrX (w.heap.size + 1 + 1) W0 w' → w'.frozen? ⟨w.heap.size + 1 + 1, 1, none⟩ = false := fun w' h => GrX.unfrozen h (by rw [hW0]; simp [go_sem, *])
      have o0_2 : ∀ w', GrX (w.heap.size + 1 + 1) W0 w' → w'.cell? ⟨w.heap.size + 1 + 1, 2, none⟩ = some (cellOf w' (w.heap.size + 1 + 1) 2) := fun w' h => GrX.own h (by rw [hW0]; simp [go_sem, *])
      have f0_2 : ∀ w', GrX (w.heap.size + 1 + 1) W0 w' → w'.frozen? ⟨w.heap.size + 1 + 1, 2, none⟩ = false := fun w' h => GrX.unfrozen h (by rw [hW0]; simp [go_sem, *])
      clear hW0
      go_region_held3 (fun w' => GrX (w.heap.size + 1 + 1) W0 w') ((repeat' (first | (with_reducible assumption) | (with_reducible exact GrX.refl _ _) | (with_reducible refine GrX.drew ?_) | (with_reducible refine GrX.drewN ?_ _) | (with_reducible refine GrX.setCell ?_ ?_ _) | (rfl; done) | (with_reducible refine GrX.alloc ?_ _) | (with_reducible refine GrX.grown ?_ (by with_reducible assumption))))) (first | (go_at_call 59; refine (HP.out _).mono ?_; rintro e w2 ⟨rfl, hb2⟩; have q2 : GrX (w.heap.size + 1 + 1) W0 w2 := (by repeat' (first | (with_reducible assumption) | (with_reducible exact GrX.refl _ _) | (with_reducible refine GrX.drew ?_) | (with_reducible refine GrX.drewN ?_ _) | (with_reducible refine GrX.setCell ?_ ?_ _) | (rfl; done) | (with_reducible refine GrX.alloc ?_ _) | (with_reducible refine GrX.grown ?_ (by with_reducible assumption))))) | (go_at_call 53; refine (HM.out _).mono ?_; rintro e w3 ⟨rfl, hb3⟩; have q3 : GrX (w.heap.size + 1 + 1) W0 w3 := (by repeat' (first | (with_reducible assumption) | (with_reducible exact GrX.refl _ _) | (with_reducible refine GrX.drew ?_) | (with_reducible refine GrX.drewN ?_ _) | (with_reducible refine GrX.setCell ?_ ?_ _) | (rfl; done) | (with_reducible refine GrX.alloc ?_ _) | (with_reducible refine GrX.grown ?_ (by with_reducible assumption))))))
      go_wp2
      refine bodyPost_ret (by simp [results, Tryd.results52, go_sem, o0_0, o0_1, o0_2, q3]; try rfl) rfl ?_
      exact ⟨by first | rfl | (simp; done), GrX.gr (R := w.heap.size + 1 + 1) g0 (by omega) (by repeat' (first | (with_reducible assumption) | (with_reducible exact GrX.refl _ _) | (with_reducible refine GrX.drew ?_) | (with_reducible refine GrX.drewN ?_ _) | (with_reducible refine GrX.setCell ?_ ?_ _) | (rfl; done) | (with_reducible refine GrX.alloc ?_ _) | (with_reducible refine GrX.grown ?_ (by with_reducible assumption))))⟩
    · have hle : ∀ W : World, Calls Tryd.prog 57 #[.agg #[.int .u64 (Wd.hi x), .int .u64 (Wd.lo x)], .agg #[.int .u64 (Wd.hi y), .int .u64 (Wd.lo y)]] W fun e w' => e = .returned (.bool false) ∧ Gr W w' := fun W => by
        have := rless_any x y W; rw [decide_eq_false hl] at this; exact this
      have hp : ∀ W : World, Calls Tryd.prog 59 #[.agg #[.int .u64 (Wd.hi x), .int .u64 (Wd.lo x)], .agg #[.int .u64 (Wd.hi y), .int .u64 (Wd.lo y)]] W fun e w' => e = .returned (.agg #[.int .u64 (Wd.hi (Wd.mag x - Wd.mag y)), .int .u64 (Wd.lo (Wd.mag x - Wd.mag y))]) ∧ Gr W w' := fun W => rminus_any x y W (by omega) hx
      have hm : ∀ W : World, Calls Tryd.prog 53 #[.agg #[.int .u64 (Wd.hi (Wd.mag x - Wd.mag y)), .int .u64 (Wd.lo (Wd.mag x - Wd.mag y))], .bool (Wd.neg x)] W fun e w' => e = .returned (.agg #[.int .u64 (Wd.hi (x + y)), .int .u64 (Wd.lo (x + y)), .bool (Wd.neg (x + y))]) ∧ Gr W w' := fun W => by
        have := rmade_any (Wd.mag x - Wd.mag y) (Wd.neg x) W (by omega)
        rw [Wd.add_more hs] at this; exact this
      have HL := Lib.hid hle; have HP := Lib.hid hp; have HM := Lib.hid hm
      clear hle hp hm
      rw [hns]
      generalize Wd.neg x = s at *
      clear hs hns
      generalize Wd.neg (x + y) = t at *
      generalize x + y = z at *
      generalize Wd.mag x - Wd.mag y = m at *
      have hss : (s == !s) = false := by cases s <;> rfl
      go_enter Tryd.func52, Tryd.ntmps52
      go_wp2_with fail
      refine (HL.out _).mono ?_; rintro e w1 ⟨rfl, hb1⟩; obtain ⟨hc1, hf1⟩ := Gr.cells hb1; have hz1 := Gr.size hb1; (try simp at hz1); (try have hy1_0 : w.heap.size < w1.heap.size := by omega); (try have hy1_1 : w.heap.size + 1 < w1.heap.size := by omega); (try have hy1_2 : w.heap.size + 1 + 1 < w1.heap.size := by omega); (try have hy1_3 : w.heap.size + 1 + 1 + 1 < w1.heap.size := by omega); (try have hy1_4 : w.heap.size + 1 + 1 + 1 + 1 < w1.heap.size := by omega); (try have hy1_5 : w.heap.size + 1 + 1 + 1 + 1 + 1 < w1.heap.size := by omega)
      go_wp2_with fail
      refine name_world ?_; intro W0 hW0
      have g0 : Gr w W0 := by rw [hW0]; exact (by repeat' (first | (with_reducible exact Gr.refl _) | (with_reducible assumption) | (with_reducible refine Gr.alloc ?_ _) | (with_reducible refine Gr.drew ?_) | (with_reducible refine Gr.drewN ?_ _) | (with_reducible refine Gr.setCell ?_ ?_ _) | (with_reducible refine Gr.trans ?_ (by with_reducible assumption)) | go_size))
      have k0_0 : ∀ w', GrX (w.heap.size + 1 + 1) W0 w' → w'.cell? ⟨w.heap.size, 0, none⟩ = some (.int .u64 (Wd.hi x)) := fun w' h => GrX.at h (by omega) (by rw [hW0]; simp [go_sem, *])
      have k0_1 : ∀ w', GrX (w.heap.size + 1 + 1) W0 w' → w'.cell? ⟨w.heap.size, 1, none⟩ = some (.int .u64 (Wd.lo x)) := fun w' h => GrX.at h (by omega) (by rw [hW0]; simp [go_sem, *])
      have k0_2 : ∀ w', GrX (w.heap.size + 1 + 1) W0 w' → w'.cell? ⟨w.heap.size, 2, none⟩ = some (.bool s) := fun w' h => GrX.at h (by omega) (by rw [hW0]; simp [go_sem, *])
      have k0_3 : ∀ w', GrX (w.heap.size + 1 + 1) W0 w' → w'.cell? ⟨w.heap.size + 1, 0, none⟩ = some (.int .u64 (Wd.hi y)) := fun w' h => GrX.at h (by omega) (by rw [hW0]; simp [go_sem, *])
      have k0_4 : ∀ w', GrX (w.heap.size + 1 + 1) W0 w' → w'.cell? ⟨w.heap.size + 1, 1, none⟩ = some (.int .u64 (Wd.lo y)) := fun w' h => GrX.at h (by omega) (by rw [hW0]; simp [go_sem, *])
      have k0_5 : ∀ w', GrX (w.heap.size + 1 + 1) W0 w' → w'.cell? ⟨w.heap.size + 1, 2, none⟩ = some (.bool (!s)) := fun w' h => GrX.at h (by omega) (by rw [hW0]; simp [go_sem, *])
      have o0_0 : ∀ w', GrX (w.heap.size + 1 + 1) W0 w' → w'.cell? ⟨w.heap.size + 1 + 1, 0, none⟩ = some (cellOf w' (w.heap.size + 1 + 1) 0) := fun w' h => GrX.own h (by rw [hW0]; simp [go_sem, *])
      have f0_0 : ∀ w', GrX (w.heap.size + 1 + 1) W0 w' → w'.frozen? ⟨w.heap.size + 1 + 1, 0, none⟩ = false := fun w' h => GrX.unfrozen h (by rw [hW0]; simp [go_sem, *])
      have o0_1 : ∀ w', GrX (w.heap.size + 1 + 1) W0 w' → w'.cell? ⟨w.heap.size + 1 + 1, 1, none⟩ = some (cellOf w' (w.heap.size + 1 + 1) 1) := fun w' h => GrX.own h (by rw [hW0]; simp [go_sem, *])
      have f0_1 : ∀ w', GrX (w.heap.size + 1 + 1) W0 w' → w'.frozen? ⟨w.heap.size + 1 + 1, 1, none⟩ = false := fun w' h => GrX.unfrozen h (by rw [hW0]; simp [go_sem, *])
      have o0_2 : ∀ w', GrX (w.heap.size + 1 + 1) W0 w' → w'.cell? ⟨w.heap.size + 1 + 1, 2, none⟩ = some (cellOf w' (w.heap.size + 1 + 1) 2) := fun w' h => GrX.own h (by rw [hW0]; simp [go_sem, *])
      have f0_2 : ∀ w', GrX (w.heap.size + 1 + 1) W0 w' → w'.frozen? ⟨w.heap.size + 1 + 1, 2, none⟩ = false := fun w' h => GrX.unfrozen h (by rw [hW0]; simp [go_sem, *])
      clear hW0
      go_region_held3 (fun w' => GrX (w.heap.size + 1 + 1) W0 w') ((repeat' (first | (with_reducible assumption) | (with_reducible exact GrX.refl _ _) | (with_reducible refine GrX.drew ?_) | (with_reducible refine GrX.drewN ?_ _) | (with_reducible refine GrX.setCell ?_ ?_ _) | (rfl; done) | (with_reducible refine GrX.alloc ?_ _) | (with_reducible refine GrX.grown ?_ (by with_reducible assumption))))) (first | (go_at_call 59; refine (HP.out _).mono ?_; rintro e w2 ⟨rfl, hb2⟩; have q2 : GrX (w.heap.size + 1 + 1) W0 w2 := (by repeat' (first | (with_reducible assumption) | (with_reducible exact GrX.refl _ _) | (with_reducible refine GrX.drew ?_) | (with_reducible refine GrX.drewN ?_ _) | (with_reducible refine GrX.setCell ?_ ?_ _) | (rfl; done) | (with_reducible refine GrX.alloc ?_ _) | (with_reducible refine GrX.grown ?_ (by with_reducible assumption))))) | (go_at_call 53; refine (HM.out _).mono ?_; rintro e w3 ⟨rfl, hb3⟩; have q3 : GrX (w.heap.size + 1 + 1) W0 w3 := (by repeat' (first | (with_reducible assumption) | (with_reducible exact GrX.refl _ _) | (with_reducible refine GrX.drew ?_) | (with_reducible refine GrX.drewN ?_ _) | (with_reducible refine GrX.setCell ?_ ?_ _) | (rfl; done) | (with_reducible refine GrX.alloc ?_ _) | (with_reducible refine GrX.grown ?_ (by with_reducible assumption))))))
      go_wp2
      refine bodyPost_ret (by simp [results, Tryd.results52, go_sem, o0_0, o0_1, o0_2, q3]; try rfl) rfl ?_
      exact ⟨by first | rfl | (simp; done), GrX.gr (R := w.heap.size + 1 + 1) g0 (by omega) (by repeat' (first | (with_reducible assumption) | (with_reducible exact GrX.refl _ _) | (with_reducible refine GrX.drew ?_) | (with_reducible refine GrX.drewN ?_ _) | (with_reducible refine GrX.setCell ?_ ?_ _) | (rfl; done) | (with_reducible refine GrX.alloc ?_ _) | (with_reducible refine GrX.grown ?_ (by with_reducible assumption))))⟩
end Go.Proofs.YtbaahlofabmljaaDoor
