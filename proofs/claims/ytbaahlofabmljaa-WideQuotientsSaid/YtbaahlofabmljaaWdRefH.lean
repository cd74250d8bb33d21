import Derived.Test.YtbaahlofabmljaaWdRefG
set_option linter.unusedVariables false
set_option linter.unusedSimpArgs false
namespace Go.Proofs.Ytbaahlofabmljaa
open Go.RowKit
set_option maxHeartbeats 1000000 in
theorem rup_any (x y : Int) (w : World) (hx : Wd.hi x ≤ 18446744073709551614) (hy : Wd.hi y ≤ 18446744073709551615) (hy0 : y ≠ 0) :
    Calls Try.prog 38 #[.agg #[.int .u64 (Wd.hi x), .int .u64 (Wd.lo x), .bool (Wd.neg x)], .agg #[.int .u64 (Wd.hi y), .int .u64 (Wd.lo y), .bool (Wd.neg y)]] w fun e w' => e = .returned (.agg #[.int .u64 (Wd.hi (Wd.cel x y)), .int .u64 (Wd.lo (Wd.cel x y)), .bool (Wd.neg (Wd.cel x y))]) ∧ Gr w w' := by
  have h1 : ∀ W : World, Calls Try.prog 32 #[.agg #[.int .u64 (Wd.hi x), .int .u64 (Wd.lo x), .bool (Wd.neg x)]] W fun e w' => e = .returned (.agg #[.int .u64 (Wd.hi (-x)), .int .u64 (Wd.lo (-x)), .bool (Wd.neg (-x))]) ∧ Gr W w' := fun W => ropp_any x W
  have h2 : ∀ W : World, Calls Try.prog 37 #[.agg #[.int .u64 (Wd.hi (-x)), .int .u64 (Wd.lo (-x)), .bool (Wd.neg (-x))], .agg #[.int .u64 (Wd.hi y), .int .u64 (Wd.lo y), .bool (Wd.neg y)]] W fun e w' => e = .returned (.agg #[.int .u64 (Wd.hi (Wd.flr (-x) y)), .int .u64 (Wd.lo (Wd.flr (-x) y)), .bool (Wd.neg (Wd.flr (-x) y))]) ∧ Gr W w' := fun W => rdown_any (-x) y W (by rw [Wd.hi_neg]; exact hx) hy hy0
  have h3 : ∀ W : World, Calls Try.prog 32 #[.agg #[.int .u64 (Wd.hi (Wd.flr (-x) y)), .int .u64 (Wd.lo (Wd.flr (-x) y)), .bool (Wd.neg (Wd.flr (-x) y))]] W fun e w' => e = .returned (.agg #[.int .u64 (Wd.hi (Wd.cel x y)), .int .u64 (Wd.lo (Wd.cel x y)), .bool (Wd.neg (Wd.cel x y))]) ∧ Gr W w' := fun W => ropp_any (Wd.flr (-x) y) W
  have H1 := Lib.hid h1; have H2 := Lib.hid h2; have H3 := Lib.hid h3
  clear h1 h2 h3 hx hy hy0
  generalize Wd.cel x y = c at *
  generalize Wd.flr (-x) y = d at *
  generalize -x = z at *
  go_enter Try.func38, Try.ntmps38
  go_wp2_with fail
  refine name_world ?_; intro W0 hW0
  have g0 : Gr w W0 := by rw [hW0]; exact (by repeat' (first | (with_reducible exact Gr.refl _) | (with_reducible assumption) | (with_reducible refine Gr.alloc ?_ _) | (with_reducible refine Gr.drew ?_) | (with_reducible refine Gr.drewN ?_ _) | (with_reducible refine Gr.setCell ?_ ?_ _) | (with_reducible refine Gr.trans ?_ (by with_reducible assumption)) | go_size))
  have k0_0 : ∀ w', GrX (w.heap.size + 1 + 1) W0 w' → w'.cell? ⟨w.heap.size, 0, none⟩ = some (.int .u64 (Wd.hi x)) := fun w' h => GrX.at h (by omega) (by rw [hW0]; simp [go_sem, *])
  have k0_1 : ∀ w', GrX (w.heap.size + 1 + 1) W0 w' → w'.cell? ⟨w.heap.size, 1, none⟩ = some (.int .u64 (Wd.lo x)) := fun w' h => GrX.at h (by omega) (by rw [hW0]; simp [go_sem, *])
  have k0_2 : ∀ w', GrX (w.heap.size + 1 + 1) W0 w' → w'.cell? ⟨w.heap.size, 2, none⟩ = some (.bool (Wd.neg x)) := fun w' h => GrX.at h (by omega) (by rw [hW0]; simp [go_sem, *])
  have k0_3 : ∀ w', GrX (w.heap.size + 1 + 1) W0 w' → w'.cell? ⟨w.heap.size + 1, 0, none⟩ = some (.int .u64 (Wd.hi y)) := fun w' h => GrX.at h (by omega) (by rw [hW0]; simp [go_sem, *])
  have k0_4 : ∀ w', GrX (w.heap.size + 1 + 1) W0 w' → w'.cell? ⟨w.heap.size + 1, 1, none⟩ = some (.int .u64 (Wd.lo y)) := fun w' h => GrX.at h (by omega) (by rw [hW0]; simp [go_sem, *])
  have k0_5 : ∀ w', GrX (w.heap.size + 1 + 1) W0 w' → w'.cell? ⟨w.heap.size + 1, 2, none⟩ = some (.bool (Wd.neg y)) := fun w' h => GrX.at h (by omega) (by rw [hW0]; simp [go_sem, *])
  have o0_0 : ∀ w', GrX (w.heap.size + 1 + 1) W0 w' → w'.cell? ⟨w.heap.size + 1 + 1, 0, none⟩ = some (cellOf w' (w.heap.size + 1 + 1) 0) := fun w' h => GrX.own h (by rw [hW0]; simp [go_sem, *])
  have f0_0 : ∀ w', GrX (w.heap.size + 1 + 1) W0 w' → w'.frozen? ⟨w.heap.size + 1 + 1, 0, none⟩ = false := fun w' h => GrX.unfrozen h (by rw [hW0]; simp [go_sem, *])
  have o0_1 : ∀ w', GrX (w.heap.size + 1 + 1) W0 w' → w'.cell? ⟨w.heap.size + 1 + 1, 1, none⟩ = some (cellOf w' (w.heap.size + 1 + 1) 1) := fun w' h => GrX.own h (by rw [hW0]; simp [go_sem, *])
  have f0_1 : ∀ w', GrX (w.heap.size + 1 + 1) W0 w' → w'.frozen? ⟨w.heap.size + 1 + 1, 1, none⟩ = false := fun w' h => GrX.unfrozen h (by rw [hW0]; simp [go_sem, *])
  have o0_2 : ∀ w', GrX (w.heap.size + 1 + 1) W0 w' → w'.cell? ⟨w.heap.size + 1 + 1, 2, none⟩ = some (cellOf w' (w.heap.size + 1 + 1) 2) := fun w' h => GrX.own h (by rw [hW0]; simp [go_sem, *])
  have f0_2 : ∀ w', GrX (w.heap.size + 1 + 1) W0 w' → w'.frozen? ⟨w.heap.size + 1 + 1, 2, none⟩ = false := fun w' h => GrX.unfrozen h (by rw [hW0]; simp [go_sem, *])
  clear hW0
  go_region_held3 (fun w' => GrX (w.heap.size + 1 + 1) W0 w') ((repeat' (first | (with_reducible assumption) | (with_reducible exact GrX.refl _ _) | (with_reducible refine GrX.drew ?_) | (with_reducible refine GrX.drewN ?_ _) | (with_reducible refine GrX.setCell ?_ ?_ _) | (rfl; done) | (with_reducible refine GrX.alloc ?_ _) | (with_reducible refine GrX.grown ?_ (by with_reducible assumption))))) (first | (go_at_call 32; refine (H1.out _).mono ?_; rintro e w1 ⟨rfl, hb1⟩; have q1 : GrX (w.heap.size + 1 + 1) W0 w1 := (by repeat' (first | (with_reducible assumption) | (with_reducible exact GrX.refl _ _) | (with_reducible refine GrX.drew ?_) | (with_reducible refine GrX.drewN ?_ _) | (with_reducible refine GrX.setCell ?_ ?_ _) | (rfl; done) | (with_reducible refine GrX.alloc ?_ _) | (with_reducible refine GrX.grown ?_ (by with_reducible assumption))))) | (go_at_call 37; refine (H2.out _).mono ?_; rintro e w2 ⟨rfl, hb2⟩; have q2 : GrX (w.heap.size + 1 + 1) W0 w2 := (by repeat' (first | (with_reducible assumption) | (with_reducible exact GrX.refl _ _) | (with_reducible refine GrX.drew ?_) | (with_reducible refine GrX.drewN ?_ _) | (with_reducible refine GrX.setCell ?_ ?_ _) | (rfl; done) | (with_reducible refine GrX.alloc ?_ _) | (with_reducible refine GrX.grown ?_ (by with_reducible assumption))))) | (go_at_call 32; refine (H3.out _).mono ?_; rintro e w3 ⟨rfl, hb3⟩; have q3 : GrX (w.heap.size + 1 + 1) W0 w3 := (by repeat' (first | (with_reducible assumption) | (with_reducible exact GrX.refl _ _) | (with_reducible refine GrX.drew ?_) | (with_reducible refine GrX.drewN ?_ _) | (with_reducible refine GrX.setCell ?_ ?_ _) | (rfl; done) | (with_reducible refine GrX.alloc ?_ _) | (with_reducible refine GrX.grown ?_ (by with_reducible assumption))))))
  go_wp2
  refine bodyPost_ret (by simp [results, Try.results38, go_sem, o0_0, o0_1, o0_2, q3]; try rfl) rfl ?_
  exact ⟨by first | rfl | (simp; done), GrX.gr (R := w.heap.size + 1 + 1) g0 (by omega) (by repeat' (first | (with_reducible assumption) | (with_reducible exact GrX.refl _ _) | (with_reducible refine GrX.drew ?_) | (with_reducible refine GrX.drewN ?_ _) | (with_reducible refine GrX.setCell ?_ ?_ _) | (rfl; done) | (with_reducible refine GrX.alloc ?_ _) | (with_reducible refine GrX.grown ?_ (by with_reducible assumption))))⟩
end Go.Proofs.Ytbaahlofabmljaa
