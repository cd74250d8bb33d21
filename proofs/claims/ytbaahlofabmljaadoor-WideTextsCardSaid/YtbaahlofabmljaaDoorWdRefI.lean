import Derived.Test.YtbaahlofabmljaaDoorWdRefG
set_option linter.unusedVariables false
set_option linter.unusedSimpArgs false
namespace Go.Proofs.YtbaahlofabmljaaDoor
open Go.RowKit
namespace Wd
theorem mag_half : mag 1152921504606846976 = 1152921504606846976 := by decide
theorem half_nums : hi 1152921504606846976 = 0 ∧ lo 1152921504606846976 = 1152921504606846976 ∧ neg 1152921504606846976 = false := by decide
theorem sg_half (h : Int) (b : Bool) (hb : decide (h < 0) = b) : sg b (mag (h * 1152921504606846976)) = h * 1152921504606846976 := by
  subst hb; unfold sg mag; by_cases hh : h < 0
  · have : h * 1152921504606846976 < 0 := by omega
    simp [hh, this]
  · have : ¬ h * 1152921504606846976 < 0 := by omega
    simp [hh, this]
end Wd
set_option maxHeartbeats 1000000 in
theorem rofwide_any (h l : Int) (w : World) (h0 : -1152921504606846976 ≤ h) (h1 : h ≤ 1152921504606846975) (l0 : 0 ≤ l) (l1 : l ≤ 1152921504606846975) :
    Calls Tryd.prog 26 #[.agg #[.int .i64 h, .int .i64 l]] w fun e w' => e = .returned (.agg #[.int .u64 (Wd.hi (Wd.val h l)), .int .u64 (Wd.lo (Wd.val h l)), .bool (Wd.neg (Wd.val h l))]) ∧ Gr w w' := by
  have m1 := Wd.mag_le (a := h) (by omega) (by omega)
  have m0 := Wd.mag_nonneg h
  have hsz : ∀ W : World, Calls Tryd.prog 55 #[.int .i64 h] W fun e w' => e = .returned (.int .u64 (Wd.mag h)) ∧ W = w' := fun W => rsize_any h W (by omega) (by omega)
  have hmul : ∀ W : World, Calls Tryd.prog 54 #[.int .u64 (Wd.mag h), .int .u64 1152921504606846976] W fun e w' => e = .returned (.agg #[.int .u64 (Wd.hi (h * 1152921504606846976)), .int .u64 (Wd.lo (h * 1152921504606846976))]) ∧ Gr W w' := fun W => by
    have := rmul_any (Wd.mag h) 1152921504606846976 W m0 (by omega) (by omega) (by omega)
    have e : Wd.mag h * 1152921504606846976 = Wd.mag (h * 1152921504606846976) := by rw [← Wd.mag_mul, Wd.mag_half]
    rw [e, Wd.hi_mag, Wd.lo_mag] at this; exact this
  have hmade : ∀ (W : World) (b : Bool), decide (h < 0) = b → Calls Tryd.prog 53 #[.agg #[.int .u64 (Wd.hi (h * 1152921504606846976)), .int .u64 (Wd.lo (h * 1152921504606846976))], .bool b] W fun e w' => e = .returned (.agg #[.int .u64 (Wd.hi (h * 1152921504606846976)), .int .u64 (Wd.lo (h * 1152921504606846976)), .bool (Wd.neg (h * 1152921504606846976))]) ∧ Gr W w' := fun W b hb => by
    have := rmade_v (h * 1152921504606846976) b W
    rw [Wd.sg_half h b hb] at this; exact this
  have hof : ∀ W : World, Calls Tryd.prog 56 #[.int .i64 l] W fun e w' => e = .returned (.agg #[.int .u64 (Wd.hi l), .int .u64 (Wd.lo l), .bool (Wd.neg l)]) ∧ Gr W w' := fun W => rofint_any l W (by omega) (by omega)
  have hsum : ∀ W : World, Calls Tryd.prog 52 #[.agg #[.int .u64 (Wd.hi (h * 1152921504606846976)), .int .u64 (Wd.lo (h * 1152921504606846976)), .bool (Wd.neg (h * 1152921504606846976))], .agg #[.int .u64 (Wd.hi l), .int .u64 (Wd.lo l), .bool (Wd.neg l)]] W fun e w' => e = .returned (.agg #[.int .u64 (Wd.hi (Wd.val h l)), .int .u64 (Wd.lo (Wd.val h l)), .bool (Wd.neg (Wd.val h l))]) ∧ Gr W w' := fun W => by
    have a := Wd.hi_le (v := h * 1152921504606846976) (by omega) (by omega)
    have b := Wd.hi_le (v := l) (by omega) (by omega)
    have c := Wd.hilo (h * 1152921504606846976); have d := Wd.hilo l
    have e := Wd.lo_lt (h * 1152921504606846976); have f := Wd.lo_lt l
    exact rsum_any (h * 1152921504606846976) l W (by omega) (by omega) (by omega)
  obtain ⟨b, hb⟩ : ∃ b, decide (h < 0) = b := ⟨_, rfl⟩
  have hma := fun W => hmade W b hb
  have HZ := Lib.hid hsz; have HM := Lib.hid hmul; have HA := Lib.hid hma; have HO := Lib.hid hof; have HS := Lib.hid hsum
  clear hsz hmul hma hmade hof hsum m0 m1
  generalize Wd.val h l = v at *
  generalize h * 1152921504606846976 = p at *
  generalize Wd.mag h = m at *
  go_enter Tryd.func26, Tryd.ntmps26
  go_wp2_with fail
  refine name_world ?_; intro W0 hW0
  have g0 : Gr w W0 := by rw [hW0]; exact (by repeat' (first | (with_reducible exact Gr.refl _) | (with_reducible assumption) | (with_reducible refine Gr.alloc ?_ _) | (with_reducible refine Gr.drew ?_) | (with_reducible refine Gr.drewN ?_ _) | (with_reducible refine Gr.setCell ?_ ?_ _) | (with_reducible refine Gr.trans ?_ (by with_reducible assumption)) | go_size))
  have k0_0 : ∀ w', GrX (w.heap.size + 1) W0 w' → w'.cell? ⟨w.heap.size, 0, none⟩ = some (.int .i64 h) := fun w' h => GrX.at h (by omega) (by rw [hW0]; simp [go_sem, *])
  have k0_1 : ∀ w', GrX (w.heap.size + 1) W0 w' → w'.cell? ⟨w.heap.size, 1, none⟩ = some (.int .i64 l) := fun w' h => GrX.at h (by omega) (by rw [hW0]; simp [go_sem, *])
  have o0_0 : ∀ w', GrX (w.heap.size + 1) W0 w' → w'.cell? ⟨w.heap.size + 1, 0, none⟩ = some (cellOf w' (w.heap.size + 1) 0) := fun w' h => GrX.own h (by rw [hW0]; simp [go_sem, *])
  have f0_0 : ∀ w', GrX (w.heap.size + 1) W0 w' → w'.frozen? ⟨w.heap.size + 1, 0, none⟩ = false := fun w' h => GrX.unfrozen h (by rw [hW0]; simp [go_sem, *])
  have o0_1 : ∀ w', GrX (w.heap.size + 1) W0 w' → w'.cell? ⟨w.heap.size + 1, 1, none⟩ = some (cellOf w' (w.heap.size + 1) 1) := fun w' h => GrX.own h (by rw [hW0]; simp [go_sem, *])
  have f0_1 : ∀ w', GrX (w.heap.size + 1) W0 w' → w'.frozen? ⟨w.heap.size + 1, 1, none⟩ = false := fun w' h => GrX.unfrozen h (by rw [hW0]; simp [go_sem, *])
  have o0_2 : ∀ w', GrX (w.heap.size + 1) W0 w' → w'.cell? ⟨w.heap.size + 1, 2, none⟩ = some (cellOf w' (w.heap.size + 1) 2) := fun w' h => GrX.own h (by rw [hW0]; simp [go_sem, *])
  have f0_2 : ∀ w', GrX (w.heap.size + 1) W0 w' → w'.frozen? ⟨w.heap.size + 1, 2, none⟩ = false := fun w' h => GrX.unfrozen h (by rw [hW0]; simp [go_sem, *])
  clear hW0
  go_region_held3 (fun w' => GrX (w.heap.size + 1) W0 w') ((repeat' (first | (with_reducible assumption) | (with_reducible exact GrX.refl _ _) | (with_reducible refine GrX.drew ?_) | (with_reducible refine GrX.drewN ?_ _) | (with_reducible refine GrX.setCell ?_ ?_ _) | (rfl; done) | (with_reducible refine GrX.alloc ?_ _) | (with_reducible refine GrX.grown ?_ (by with_reducible assumption))))) (first | (go_at_call 55; refine (HZ.out _).mono ?_; rintro e w' ⟨rfl, rfl⟩) | (go_at_call 54; refine (HM.out _).mono ?_; rintro e w1 ⟨rfl, hb1⟩; have q1 : GrX (w.heap.size + 1) W0 w1 := (by repeat' (first | (with_reducible assumption) | (with_reducible exact GrX.refl _ _) | (with_reducible refine GrX.drew ?_) | (with_reducible refine GrX.drewN ?_ _) | (with_reducible refine GrX.setCell ?_ ?_ _) | (rfl; done) | (with_reducible refine GrX.alloc ?_ _) | (with_reducible refine GrX.grown ?_ (by with_reducible assumption))))) | (go_at_call 53; refine (HA.out _).mono ?_; rintro e w2 ⟨rfl, hb2⟩; have q2 : GrX (w.heap.size + 1) W0 w2 := (by repeat' (first | (with_reducible assumption) | (with_reducible exact GrX.refl _ _) | (with_reducible refine GrX.drew ?_) | (with_reducible refine GrX.drewN ?_ _) | (with_reducible refine GrX.setCell ?_ ?_ _) | (rfl; done) | (with_reducible refine GrX.alloc ?_ _) | (with_reducible refine GrX.grown ?_ (by with_reducible assumption))))) | (go_at_call 56; refine (HO.out _).mono ?_; rintro e w3 ⟨rfl, hb3⟩; have q3 : GrX (w.heap.size + 1) W0 w3 := (by repeat' (first | (with_reducible assumption) | (with_reducible exact GrX.refl _ _) | (with_reducible refine GrX.drew ?_) | (with_reducible refine GrX.drewN ?_ _) | (with_reducible refine GrX.setCell ?_ ?_ _) | (rfl; done) | (with_reducible refine GrX.alloc ?_ _) | (with_reducible refine GrX.grown ?_ (by with_reducible assumption))))) | (go_at_call 52; refine (HS.out _).mono ?_; rintro e w4 ⟨rfl, hb4⟩; have q4 : GrX (w.heap.size + 1) W0 w4 := (by repeat' (first | (with_reducible assumption) | (with_reducible exact GrX.refl _ _) | (with_reducible refine GrX.drew ?_) | (with_reducible refine GrX.drewN ?_ _) | (with_reducible refine GrX.setCell ?_ ?_ _) | (rfl; done) | (with_reducible refine GrX.alloc ?_ _) | (with_reducible refine GrX.grown ?_ (by with_reducible assumption))))))
  go_wp2
  refine bodyPost_ret (by simp [results, Tryd.results26, go_sem, o0_0, o0_1, o0_2, q4]; try rfl) rfl ?_
  exact ⟨by first | rfl | (simp; done), GrX.gr (R := w.heap.size + 1) g0 (by omega) (by repeat' (first | (with_reducible assumption) | (with_reducible exact GrX.refl _ _) | (with_reducible refine GrX.drew ?_) | (with_reducible refine GrX.drewN ?_ _) | (with_reducible refine GrX.setCell ?_ ?_ _) | (rfl; done) | (with_reducible refine GrX.alloc ?_ _) | (with_reducible refine GrX.grown ?_ (by with_reducible assumption))))⟩
end Go.Proofs.YtbaahlofabmljaaDoor
