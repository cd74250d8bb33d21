import Derived.Test.YtbaahlofabmljaaWdWalkD
set_option linter.unusedVariables false
set_option linter.unusedSimpArgs false
namespace Go.Proofs.Ytbaahlofabmljaa
open Go.RowKit

set_option maxHeartbeats 400000 in
theorem int_bad (h l : Int) (w : World) (hv : Wd.vld h l = false) :
    Calls Try.prog 21 #[.agg #[.int .i64 h, .int .i64 l]] w fun e w' => e = .returned (.tuple #[.int .i64 0, .int .i64 1]) ∧ Gr w w' := by
  have hva : ∀ W : World, Calls Try.prog 30 #[.agg #[.int .i64 h, .int .i64 l]] W fun e w' => e = .returned (.bool false) ∧ Gr W w' := fun W => valid_false h l W hv
  have HV := Lib.hid hva; clear hva hv
  go_enter Try.func21, Try.ntmps21
  go_wp2_with (first | (go_at_call 30; refine (HV.out _).mono ?_; rintro e w1 ⟨rfl, hb1⟩; obtain ⟨hc1, hf1⟩ := Gr.cells hb1; have hz1 := Gr.size hb1; (try simp at hz1); (try have hy1_0 : w.heap.size < w1.heap.size := by omega); (try have hy1_1 : w.heap.size + 1 < w1.heap.size := by omega); (try have hy1_2 : w.heap.size + 1 + 1 < w1.heap.size := by omega); (try have hy1_3 : w.heap.size + 1 + 1 + 1 < w1.heap.size := by omega); (try have hy1_4 : w.heap.size + 1 + 1 + 1 + 1 < w1.heap.size := by omega); (try have hy1_5 : w.heap.size + 1 + 1 + 1 + 1 + 1 < w1.heap.size := by omega)))
  go_ret2
  exact ⟨rfl, (by repeat' (first | (with_reducible exact Gr.refl _) | (with_reducible assumption) | (with_reducible refine Gr.alloc ?_ _) | (with_reducible refine Gr.drew ?_) | (with_reducible refine Gr.drewN ?_ _) | (with_reducible refine Gr.setCell ?_ ?_ _) | (with_reducible refine Gr.trans ?_ (by with_reducible assumption)) | go_size))⟩
set_option maxHeartbeats 400000 in
theorem int_any (h l : Int) (w : World) (hv : Wd.vld h l = true) :
    Calls Try.prog 21 #[.agg #[.int .i64 h, .int .i64 l]] w fun e w' => e = .returned (.tuple #[.int .i64 (Wd.intQ (Wd.val h l)), .int .i64 (Wd.intE (Wd.val h l))]) ∧ Gr w w' := by
  obtain ⟨v0, v1, v2, v3⟩ := Wd.vld_true hv
  have hva : ∀ W : World, Calls Try.prog 30 #[.agg #[.int .i64 h, .int .i64 l]] W fun e w' => e = .returned (.bool true) ∧ Gr W w' := fun W => valid_true h l W hv
  have hval : ∀ W : World, Calls Try.prog 44 #[.agg #[.int .i64 h, .int .i64 l]] W fun e w' => e = .returned (.agg #[.int .u64 (Wd.hi (Wd.val h l)), .int .u64 (Wd.lo (Wd.val h l)), .bool (Wd.neg (Wd.val h l))]) ∧ Gr W w' := fun W => value_any h l W v0 v1 v2 v3
  have HV := Lib.hid hva; clear hva hv
  have HL := Lib.hid hval; clear hval
  generalize Wd.val h l = v at *
  have h0 := Wd.hi_nonneg v
  have hl := Wd.hilo v
  have l1 := Wd.lo_lt v
  have l0 := Wd.lo_nonneg v
  by_cases hz : 0 < Wd.hi v
  · have hz' : decide (0 < Wd.hi v) = true := by simpa using hz
    obtain ⟨f1, f2⟩ := Wd.fits_false (q := v) (by unfold Wd.mag at hl; split at hl <;> omega)
    rw [f1, f2]
    clear f1 f2 hl
    go_enter Try.func21, Try.ntmps21
    go_wp2_with (first | (go_at_call 30; refine (HV.out _).mono ?_; rintro e w1 ⟨rfl, hb1⟩; obtain ⟨hc1, hf1⟩ := Gr.cells hb1; have hz1 := Gr.size hb1; (try simp at hz1); (try have hy1_0 : w.heap.size < w1.heap.size := by omega); (try have hy1_1 : w.heap.size + 1 < w1.heap.size := by omega); (try have hy1_2 : w.heap.size + 1 + 1 < w1.heap.size := by omega); (try have hy1_3 : w.heap.size + 1 + 1 + 1 < w1.heap.size := by omega); (try have hy1_4 : w.heap.size + 1 + 1 + 1 + 1 < w1.heap.size := by omega); (try have hy1_5 : w.heap.size + 1 + 1 + 1 + 1 + 1 < w1.heap.size := by omega)) | (go_at_call 44; refine (HL.out _).mono ?_; rintro e w2 ⟨rfl, hb2⟩; obtain ⟨hc2, hf2⟩ := Gr.cells hb2; have hz2 := Gr.size hb2; (try simp at hz2); (try have hy2_0 : w.heap.size < w2.heap.size := by omega); (try have hy2_1 : w.heap.size + 1 < w2.heap.size := by omega); (try have hy2_2 : w.heap.size + 1 + 1 < w2.heap.size := by omega); (try have hy2_3 : w.heap.size + 1 + 1 + 1 < w2.heap.size := by omega); (try have hy2_4 : w.heap.size + 1 + 1 + 1 + 1 < w2.heap.size := by omega); (try have hy2_5 : w.heap.size + 1 + 1 + 1 + 1 + 1 < w2.heap.size := by omega)))
    go_ret2
    exact ⟨rfl, (by repeat' (first | (with_reducible exact Gr.refl _) | (with_reducible assumption) | (with_reducible refine Gr.alloc ?_ _) | (with_reducible refine Gr.drew ?_) | (with_reducible refine Gr.drewN ?_ _) | (with_reducible refine Gr.setCell ?_ ?_ _) | (with_reducible refine Gr.trans ?_ (by with_reducible assumption)) | go_size))⟩
  · have hz' : decide (0 < Wd.hi v) = false := by simpa using hz
    have hm : Wd.lo v = Wd.mag v := by omega
    have HM := Lib.hid hm
    clear hm hl
    go_enter Try.func21, Try.ntmps21
    go_wp2_with (first | (go_at_call 30; refine (HV.out _).mono ?_; rintro e w1 ⟨rfl, hb1⟩; obtain ⟨hc1, hf1⟩ := Gr.cells hb1; have hz1 := Gr.size hb1; (try simp at hz1); (try have hy1_0 : w.heap.size < w1.heap.size := by omega); (try have hy1_1 : w.heap.size + 1 < w1.heap.size := by omega); (try have hy1_2 : w.heap.size + 1 + 1 < w1.heap.size := by omega); (try have hy1_3 : w.heap.size + 1 + 1 + 1 < w1.heap.size := by omega); (try have hy1_4 : w.heap.size + 1 + 1 + 1 + 1 < w1.heap.size := by omega); (try have hy1_5 : w.heap.size + 1 + 1 + 1 + 1 + 1 < w1.heap.size := by omega)) | (go_at_call 44; refine (HL.out _).mono ?_; rintro e w2 ⟨rfl, hb2⟩; obtain ⟨hc2, hf2⟩ := Gr.cells hb2; have hz2 := Gr.size hb2; (try simp at hz2); (try have hy2_0 : w.heap.size < w2.heap.size := by omega); (try have hy2_1 : w.heap.size + 1 < w2.heap.size := by omega); (try have hy2_2 : w.heap.size + 1 + 1 < w2.heap.size := by omega); (try have hy2_3 : w.heap.size + 1 + 1 + 1 < w2.heap.size := by omega); (try have hy2_4 : w.heap.size + 1 + 1 + 1 + 1 < w2.heap.size := by omega); (try have hy2_5 : w.heap.size + 1 + 1 + 1 + 1 + 1 < w2.heap.size := by omega)) | (go_at_call 45; refine (whole_at v _ _ _ HM.out (by rw [← HM.out]; exact l1) rfl).mono ?_; rintro e w3 ⟨rfl, rfl⟩))
    go_ret2
    exact ⟨rfl, (by repeat' (first | (with_reducible exact Gr.refl _) | (with_reducible assumption) | (with_reducible refine Gr.alloc ?_ _) | (with_reducible refine Gr.drew ?_) | (with_reducible refine Gr.drewN ?_ _) | (with_reducible refine Gr.setCell ?_ ?_ _) | (with_reducible refine Gr.trans ?_ (by with_reducible assumption)) | go_size))⟩

set_option maxHeartbeats 400000 in
theorem add_bad (h l k m : Int) (w : World) (hv : Wd.vld h l = false ∨ Wd.vld h l = true ∧ Wd.vld k m = false) :
    Calls Try.prog 28 #[.agg #[.int .i64 h, .int .i64 l], .agg #[.int .i64 k, .int .i64 m]] w fun e w' => e = .returned (.tuple #[.agg #[.int .i64 0, .int .i64 0], .int .i64 1]) ∧ Gr w w' := by
  rcases hv with hv | ⟨hv, hv2⟩
  · go_enter Try.func28, Try.ntmps28
    go_wp2_with (first | (go_at_call 30; refine (valid_false h l _ (by assumption)).mono ?_; rintro e w1 ⟨rfl, hb1⟩; obtain ⟨hc1, hf1⟩ := Gr.cells hb1; have hz1 := Gr.size hb1; (try simp at hz1); (try have hy1_0 : w.heap.size < w1.heap.size := by omega); (try have hy1_1 : w.heap.size + 1 < w1.heap.size := by omega); (try have hy1_2 : w.heap.size + 1 + 1 < w1.heap.size := by omega); (try have hy1_3 : w.heap.size + 1 + 1 + 1 < w1.heap.size := by omega); (try have hy1_4 : w.heap.size + 1 + 1 + 1 + 1 < w1.heap.size := by omega); (try have hy1_5 : w.heap.size + 1 + 1 + 1 + 1 + 1 < w1.heap.size := by omega)))
    refine bodyPost_ret (by simp [results, Try.results28, go_sem, hc1, hz1, hy1_0, hy1_1, hy1_2]; try rfl) rfl ?_
    exact ⟨by first | rfl | (simp; done), (by repeat' (first | (with_reducible exact Gr.refl _) | (with_reducible assumption) | (with_reducible refine Gr.alloc ?_ _) | (with_reducible refine Gr.drew ?_) | (with_reducible refine Gr.drewN ?_ _) | (with_reducible refine Gr.setCell ?_ ?_ _) | (with_reducible refine Gr.trans ?_ (by with_reducible assumption)) | go_size))⟩
  · go_enter Try.func28, Try.ntmps28
    go_wp2_with fail
    refine (valid_true h l _ (by assumption)).mono ?_; rintro e w1 ⟨rfl, hb1⟩; obtain ⟨hc1, hf1⟩ := Gr.cells hb1; have hz1 := Gr.size hb1; (try simp at hz1); (try have hy1_0 : w.heap.size < w1.heap.size := by omega); (try have hy1_1 : w.heap.size + 1 < w1.heap.size := by omega); (try have hy1_2 : w.heap.size + 1 + 1 < w1.heap.size := by omega); (try have hy1_3 : w.heap.size + 1 + 1 + 1 < w1.heap.size := by omega); (try have hy1_4 : w.heap.size + 1 + 1 + 1 + 1 < w1.heap.size := by omega); (try have hy1_5 : w.heap.size + 1 + 1 + 1 + 1 + 1 < w1.heap.size := by omega)
    go_wp2_with fail
    refine (valid_false k m _ (by assumption)).mono ?_; rintro e w2 ⟨rfl, hb2⟩; obtain ⟨hc2, hf2⟩ := Gr.cells hb2; have hz2 := Gr.size hb2; (try simp at hz2); (try have hy2_0 : w.heap.size < w2.heap.size := by omega); (try have hy2_1 : w.heap.size + 1 < w2.heap.size := by omega); (try have hy2_2 : w.heap.size + 1 + 1 < w2.heap.size := by omega); (try have hy2_3 : w.heap.size + 1 + 1 + 1 < w2.heap.size := by omega); (try have hy2_4 : w.heap.size + 1 + 1 + 1 + 1 < w2.heap.size := by omega); (try have hy2_5 : w.heap.size + 1 + 1 + 1 + 1 + 1 < w2.heap.size := by omega)
    go_wp2
    refine bodyPost_ret (by simp [results, Try.results28, go_sem, hc1, hz1, hy1_0, hy1_1, hy1_2, hc2, hz2, hy2_0, hy2_1, hy2_2]; try rfl) rfl ?_
    exact ⟨by first | rfl | (simp; done), (by repeat' (first | (with_reducible exact Gr.refl _) | (with_reducible assumption) | (with_reducible refine Gr.alloc ?_ _) | (with_reducible refine Gr.drew ?_) | (with_reducible refine Gr.drewN ?_ _) | (with_reducible refine Gr.setCell ?_ ?_ _) | (with_reducible refine Gr.trans ?_ (by with_reducible assumption)) | go_size))⟩

theorem value_v (h l : Int) (w : World) (hv : Wd.vld h l = true) :
    Calls Try.prog 44 #[.agg #[.int .i64 h, .int .i64 l]] w fun e w' => e = .returned (.agg #[.int .u64 (Wd.hi (Wd.val h l)), .int .u64 (Wd.lo (Wd.val h l)), .bool (Wd.neg (Wd.val h l))]) ∧ Gr w w' := by
  obtain ⟨v0, v1, v2, v3⟩ := Wd.vld_true hv
  exact value_any h l w v0 v1 v2 v3
set_option maxHeartbeats 400000 in
theorem add_any (h l k m : Int) (w : World) (hv : Wd.vld h l = true) (hv2 : Wd.vld k m = true) :
    Calls Try.prog 28 #[.agg #[.int .i64 h, .int .i64 l], .agg #[.int .i64 k, .int .i64 m]] w fun e w' => e = .returned (.tuple #[.agg #[.int .i64 (Wd.wH (Wd.val h l + Wd.val k m)), .int .i64 (Wd.wL (Wd.val h l + Wd.val k m))], .int .i64 (Wd.wE (Wd.val h l + Wd.val k m))]) ∧ Gr w w' := by
  obtain ⟨x0, x1⟩ := Wd.val_bounds hv
  obtain ⟨y0, y1⟩ := Wd.val_bounds hv2
  have hx := Wd.hi_le (v := Wd.val h l) (by omega) (by omega)
  have hy := Wd.hi_le (v := Wd.val k m) (by omega) (by omega)
  have hxy : Wd.hi (Wd.val h l + Wd.val k m) ≤ 18446744073709551615 := by unfold Wd.hi Wd.mag; split <;> omega
  have HV := Lib.hid hv
  have HV2 := Lib.hid hv2
  clear hv hv2 x0 x1 y0 y1
  go_enter Try.func28, Try.ntmps28
  go_wp2_with fail
  refine (valid_true h l _ HV.out).mono ?_; rintro e w1 ⟨rfl, hb1⟩; obtain ⟨hc1, hf1⟩ := Gr.cells hb1; have hz1 := Gr.size hb1; (try simp at hz1); (try have hy1_0 : w.heap.size < w1.heap.size := by omega); (try have hy1_1 : w.heap.size + 1 < w1.heap.size := by omega); (try have hy1_2 : w.heap.size + 1 + 1 < w1.heap.size := by omega); (try have hy1_3 : w.heap.size + 1 + 1 + 1 < w1.heap.size := by omega); (try have hy1_4 : w.heap.size + 1 + 1 + 1 + 1 < w1.heap.size := by omega); (try have hy1_5 : w.heap.size + 1 + 1 + 1 + 1 + 1 < w1.heap.size := by omega)
  go_wp2_with fail
  refine (valid_true k m _ HV2.out).mono ?_; rintro e w2 ⟨rfl, hb2⟩; obtain ⟨hc2, hf2⟩ := Gr.cells hb2; have hz2 := Gr.size hb2; (try simp at hz2); (try have hy2_0 : w.heap.size < w2.heap.size := by omega); (try have hy2_1 : w.heap.size + 1 < w2.heap.size := by omega); (try have hy2_2 : w.heap.size + 1 + 1 < w2.heap.size := by omega); (try have hy2_3 : w.heap.size + 1 + 1 + 1 < w2.heap.size := by omega); (try have hy2_4 : w.heap.size + 1 + 1 + 1 + 1 < w2.heap.size := by omega); (try have hy2_5 : w.heap.size + 1 + 1 + 1 + 1 + 1 < w2.heap.size := by omega)
  go_wp2_with fail
  have k1 : w2.cell? ⟨w.heap.size, 0, none⟩ = some (.int .i64 h) := Gr.at hb2 (Gr.at hb1 (by simp [go_sem]))
  have k2 : w2.cell? ⟨w.heap.size, 1, none⟩ = some (.int .i64 l) := Gr.at hb2 (Gr.at hb1 (by simp [go_sem]))
  have k3 : w2.cell? ⟨w.heap.size + 1, 0, none⟩ = some (.int .i64 k) := Gr.at hb2 (Gr.at hb1 (by simp [go_sem]))
  have k4 : w2.cell? ⟨w.heap.size + 1, 1, none⟩ = some (.int .i64 m) := Gr.at hb2 (Gr.at hb1 (by simp [go_sem]))
  have k5 : w2.cell? ⟨w.heap.size + 1 + 1, 0, none⟩ = some (.int .i64 0) := Gr.at hb2 (Gr.at hb1 (by simp [go_sem]))
  have k6 : w2.cell? ⟨w.heap.size + 1 + 1, 1, none⟩ = some (.int .i64 0) := Gr.at hb2 (Gr.at hb1 (by simp [go_sem]))
  have f5 : w2.frozen? ⟨w.heap.size + 1 + 1, 0, none⟩ = false := by rw [hf2 _ _ hy1_2, hf1 _ _ (by simp)]; simp [go_sem]
  have f6 : w2.frozen? ⟨w.heap.size + 1 + 1, 1, none⟩ = false := by rw [hf2 _ _ hy1_2, hf1 _ _ (by simp)]; simp [go_sem]
  have g2 : Gr w w2 := (by repeat' (first | (with_reducible exact Gr.refl _) | (with_reducible assumption) | (with_reducible refine Gr.alloc ?_ _) | (with_reducible refine Gr.drew ?_) | (with_reducible refine Gr.drewN ?_ _) | (with_reducible refine Gr.setCell ?_ ?_ _) | (with_reducible refine Gr.trans ?_ (by with_reducible assumption)) | go_size))
  clear hb1 hc1 hf1 hb2 hc2 hf2 hz1 hz2 hy1_0 hy1_1 hy1_2
  go_region_held3 (fun w' => w'.cell? ⟨w.heap.size, 0, none⟩ = some (.int .i64 h) ∧ w'.cell? ⟨w.heap.size, 1, none⟩ = some (.int .i64 l) ∧ w'.cell? ⟨w.heap.size + 1, 0, none⟩ = some (.int .i64 k) ∧ w'.cell? ⟨w.heap.size + 1, 1, none⟩ = some (.int .i64 m)) (first | (refine ⟨?_, ?_, ?_, ?_⟩ <;> (first | (simp [k1, k2, k3, k4]; done) | (refine Gr.at (by with_reducible assumption) ?_; simp [*]; done))) | (refine ⟨?_, ?_, ?_, ?_⟩ <;> (rw [World.cell?_setCell_far _ _ _ _ (by dsimp only; omega), World.cell?_setCell_far _ _ _ _ (by dsimp only; omega)]; assumption)))
    (first
      | (go_at_call 44; refine (value_v _ _ _ (by first | exact HV.out | exact HV2.out)).mono ?_; rintro e w3 ⟨rfl, hb3⟩)
      | (go_at_call 51; refine (sum_any _ _ _ hx hy).mono ?_; rintro e w5 ⟨rfl, hb5⟩)
      | (go_at_call 43; refine (placed_any _ _ hxy).mono ?_; rintro e w6 ⟨rfl, hb6⟩; have q6 : Gr w2 w6 := (by repeat' (first | (with_reducible exact Gr.refl _) | (with_reducible assumption) | (with_reducible refine Gr.alloc ?_ _) | (with_reducible refine Gr.drew ?_) | (with_reducible refine Gr.drewN ?_ _) | (with_reducible refine Gr.setCell ?_ ?_ _) | (with_reducible refine Gr.trans ?_ (by with_reducible assumption)) | go_size)); have c1 := Gr.at q6 k1; have c2 := Gr.at q6 k2; have c3 := Gr.at q6 k3; have c4 := Gr.at q6 k4; have c5 := Gr.at q6 k5; have c6 := Gr.at q6 k6; have e5 := Gr.free q6 k5 f5; have e6 := Gr.free q6 k6 f6))
  go_wp2
  refine bodyPost_ret (by simp [results, Try.results28, go_sem, c5, c6]; try rfl) rfl ?_
  exact ⟨by first | rfl | (simp; done), (by repeat' (first | (with_reducible exact Gr.refl _) | (with_reducible assumption) | (with_reducible refine Gr.alloc ?_ _) | (with_reducible refine Gr.drew ?_) | (with_reducible refine Gr.drewN ?_ _) | (with_reducible refine Gr.setCell ?_ ?_ _) | (with_reducible refine Gr.trans ?_ (by with_reducible assumption)) | go_size))⟩
set_option maxHeartbeats 400000 in
theorem sub_bad (h l k m : Int) (w : World) (hv : Wd.vld h l = false ∨ Wd.vld h l = true ∧ Wd.vld k m = false) :
    Calls Try.prog 29 #[.agg #[.int .i64 h, .int .i64 l], .agg #[.int .i64 k, .int .i64 m]] w fun e w' => e = .returned (.tuple #[.agg #[.int .i64 0, .int .i64 0], .int .i64 1]) ∧ Gr w w' := by
  rcases hv with hv | ⟨hv, hv2⟩
  · go_enter Try.func29, Try.ntmps29
    go_wp2_with (first | (go_at_call 30; refine (valid_false h l _ (by assumption)).mono ?_; rintro e w1 ⟨rfl, hb1⟩; obtain ⟨hc1, hf1⟩ := Gr.cells hb1; have hz1 := Gr.size hb1; (try simp at hz1); (try have hy1_0 : w.heap.size < w1.heap.size := by omega); (try have hy1_1 : w.heap.size + 1 < w1.heap.size := by omega); (try have hy1_2 : w.heap.size + 1 + 1 < w1.heap.size := by omega); (try have hy1_3 : w.heap.size + 1 + 1 + 1 < w1.heap.size := by omega); (try have hy1_4 : w.heap.size + 1 + 1 + 1 + 1 < w1.heap.size := by omega); (try have hy1_5 : w.heap.size + 1 + 1 + 1 + 1 + 1 < w1.heap.size := by omega)))
    refine bodyPost_ret (by simp [results, Try.results29, go_sem, hc1, hz1, hy1_0, hy1_1, hy1_2]; try rfl) rfl ?_
    exact ⟨by first | rfl | (simp; done), (by repeat' (first | (with_reducible exact Gr.refl _) | (with_reducible assumption) | (with_reducible refine Gr.alloc ?_ _) | (with_reducible refine Gr.drew ?_) | (with_reducible refine Gr.drewN ?_ _) | (with_reducible refine Gr.setCell ?_ ?_ _) | (with_reducible refine Gr.trans ?_ (by with_reducible assumption)) | go_size))⟩
  · go_enter Try.func29, Try.ntmps29
    go_wp2_with fail
    refine (valid_true h l _ (by assumption)).mono ?_; rintro e w1 ⟨rfl, hb1⟩; obtain ⟨hc1, hf1⟩ := Gr.cells hb1; have hz1 := Gr.size hb1; (try simp at hz1); (try have hy1_0 : w.heap.size < w1.heap.size := by omega); (try have hy1_1 : w.heap.size + 1 < w1.heap.size := by omega); (try have hy1_2 : w.heap.size + 1 + 1 < w1.heap.size := by omega); (try have hy1_3 : w.heap.size + 1 + 1 + 1 < w1.heap.size := by omega); (try have hy1_4 : w.heap.size + 1 + 1 + 1 + 1 < w1.heap.size := by omega); (try have hy1_5 : w.heap.size + 1 + 1 + 1 + 1 + 1 < w1.heap.size := by omega)
    go_wp2_with fail
    refine (valid_false k m _ (by assumption)).mono ?_; rintro e w2 ⟨rfl, hb2⟩; obtain ⟨hc2, hf2⟩ := Gr.cells hb2; have hz2 := Gr.size hb2; (try simp at hz2); (try have hy2_0 : w.heap.size < w2.heap.size := by omega); (try have hy2_1 : w.heap.size + 1 < w2.heap.size := by omega); (try have hy2_2 : w.heap.size + 1 + 1 < w2.heap.size := by omega); (try have hy2_3 : w.heap.size + 1 + 1 + 1 < w2.heap.size := by omega); (try have hy2_4 : w.heap.size + 1 + 1 + 1 + 1 < w2.heap.size := by omega); (try have hy2_5 : w.heap.size + 1 + 1 + 1 + 1 + 1 < w2.heap.size := by omega)
    go_wp2
    refine bodyPost_ret (by simp [results, Try.results29, go_sem, hc1, hz1, hy1_0, hy1_1, hy1_2, hc2, hz2, hy2_0, hy2_1, hy2_2]; try rfl) rfl ?_
    exact ⟨by first | rfl | (simp; done), (by repeat' (first | (with_reducible exact Gr.refl _) | (with_reducible assumption) | (with_reducible refine Gr.alloc ?_ _) | (with_reducible refine Gr.drew ?_) | (with_reducible refine Gr.drewN ?_ _) | (with_reducible refine Gr.setCell ?_ ?_ _) | (with_reducible refine Gr.trans ?_ (by with_reducible assumption)) | go_size))⟩

set_option maxHeartbeats 400000 in
theorem sub_any (h l k m : Int) (w : World) (hv : Wd.vld h l = true) (hv2 : Wd.vld k m = true) :
    Calls Try.prog 29 #[.agg #[.int .i64 h, .int .i64 l], .agg #[.int .i64 k, .int .i64 m]] w fun e w' => e = .returned (.tuple #[.agg #[.int .i64 (Wd.wH (Wd.val h l - Wd.val k m)), .int .i64 (Wd.wL (Wd.val h l - Wd.val k m))], .int .i64 (Wd.wE (Wd.val h l - Wd.val k m))]) ∧ Gr w w' := by
  obtain ⟨x0, x1⟩ := Wd.val_bounds hv
  obtain ⟨y0, y1⟩ := Wd.val_bounds hv2
  have hx := Wd.hi_le (v := Wd.val h l) (by omega) (by omega)
  have hy := Wd.hi_le (v := Wd.val k m) (by omega) (by omega)
  have hxy : Wd.hi (Wd.val h l - Wd.val k m) ≤ 18446744073709551615 := by unfold Wd.hi Wd.mag; split <;> omega
  have hs : ∀ W : World, Calls Try.prog 51 #[.agg #[.int .u64 (Wd.hi (Wd.val h l)), .int .u64 (Wd.lo (Wd.val h l)), .bool (Wd.neg (Wd.val h l))], .agg #[.int .u64 (Wd.hi (-Wd.val k m)), .int .u64 (Wd.lo (-Wd.val k m)), .bool (Wd.neg (-Wd.val k m))]] W fun e w' => e = .returned (.agg #[.int .u64 (Wd.hi (Wd.val h l - Wd.val k m)), .int .u64 (Wd.lo (Wd.val h l - Wd.val k m)), .bool (Wd.neg (Wd.val h l - Wd.val k m))]) ∧ Gr W w' := fun W => by
    rw [Int.sub_eq_add_neg]; exact sum_any _ _ W hx (by rw [Wd.hi_neg]; exact hy)
  have HS := Lib.hid hs
  clear hs
  have HV := Lib.hid hv
  have HV2 := Lib.hid hv2
  clear hv hv2 x0 x1 y0 y1
  go_enter Try.func29, Try.ntmps29
  go_wp2_with fail
  refine (valid_true h l _ HV.out).mono ?_; rintro e w1 ⟨rfl, hb1⟩; obtain ⟨hc1, hf1⟩ := Gr.cells hb1; have hz1 := Gr.size hb1; (try simp at hz1); (try have hy1_0 : w.heap.size < w1.heap.size := by omega); (try have hy1_1 : w.heap.size + 1 < w1.heap.size := by omega); (try have hy1_2 : w.heap.size + 1 + 1 < w1.heap.size := by omega); (try have hy1_3 : w.heap.size + 1 + 1 + 1 < w1.heap.size := by omega); (try have hy1_4 : w.heap.size + 1 + 1 + 1 + 1 < w1.heap.size := by omega); (try have hy1_5 : w.heap.size + 1 + 1 + 1 + 1 + 1 < w1.heap.size := by omega)
  go_wp2_with fail
  refine (valid_true k m _ HV2.out).mono ?_; rintro e w2 ⟨rfl, hb2⟩; obtain ⟨hc2, hf2⟩ := Gr.cells hb2; have hz2 := Gr.size hb2; (try simp at hz2); (try have hy2_0 : w.heap.size < w2.heap.size := by omega); (try have hy2_1 : w.heap.size + 1 < w2.heap.size := by omega); (try have hy2_2 : w.heap.size + 1 + 1 < w2.heap.size := by omega); (try have hy2_3 : w.heap.size + 1 + 1 + 1 < w2.heap.size := by omega); (try have hy2_4 : w.heap.size + 1 + 1 + 1 + 1 < w2.heap.size := by omega); (try have hy2_5 : w.heap.size + 1 + 1 + 1 + 1 + 1 < w2.heap.size := by omega)
  go_wp2_with fail
  have k1 : w2.cell? ⟨w.heap.size, 0, none⟩ = some (.int .i64 h) := Gr.at hb2 (Gr.at hb1 (by simp [go_sem]))
  have k2 : w2.cell? ⟨w.heap.size, 1, none⟩ = some (.int .i64 l) := Gr.at hb2 (Gr.at hb1 (by simp [go_sem]))
  have k3 : w2.cell? ⟨w.heap.size + 1, 0, none⟩ = some (.int .i64 k) := Gr.at hb2 (Gr.at hb1 (by simp [go_sem]))
  have k4 : w2.cell? ⟨w.heap.size + 1, 1, none⟩ = some (.int .i64 m) := Gr.at hb2 (Gr.at hb1 (by simp [go_sem]))
  have k5 : w2.cell? ⟨w.heap.size + 1 + 1, 0, none⟩ = some (.int .i64 0) := Gr.at hb2 (Gr.at hb1 (by simp [go_sem]))
  have k6 : w2.cell? ⟨w.heap.size + 1 + 1, 1, none⟩ = some (.int .i64 0) := Gr.at hb2 (Gr.at hb1 (by simp [go_sem]))
  have f5 : w2.frozen? ⟨w.heap.size + 1 + 1, 0, none⟩ = false := by rw [hf2 _ _ hy1_2, hf1 _ _ (by simp)]; simp [go_sem]
  have f6 : w2.frozen? ⟨w.heap.size + 1 + 1, 1, none⟩ = false := by rw [hf2 _ _ hy1_2, hf1 _ _ (by simp)]; simp [go_sem]
  have g2 : Gr w w2 := (by repeat' (first | (with_reducible exact Gr.refl _) | (with_reducible assumption) | (with_reducible refine Gr.alloc ?_ _) | (with_reducible refine Gr.drew ?_) | (with_reducible refine Gr.drewN ?_ _) | (with_reducible refine Gr.setCell ?_ ?_ _) | (with_reducible refine Gr.trans ?_ (by with_reducible assumption)) | go_size))
  clear hb1 hc1 hf1 hb2 hc2 hf2 hz1 hz2 hy1_0 hy1_1 hy1_2
  go_region_held3 (fun w' => w'.cell? ⟨w.heap.size, 0, none⟩ = some (.int .i64 h) ∧ w'.cell? ⟨w.heap.size, 1, none⟩ = some (.int .i64 l) ∧ w'.cell? ⟨w.heap.size + 1, 0, none⟩ = some (.int .i64 k) ∧ w'.cell? ⟨w.heap.size + 1, 1, none⟩ = some (.int .i64 m)) (first | (refine ⟨?_, ?_, ?_, ?_⟩ <;> (first | (simp [k1, k2, k3, k4]; done) | (refine Gr.at (by with_reducible assumption) ?_; simp [*]; done))) | (refine ⟨?_, ?_, ?_, ?_⟩ <;> (rw [World.cell?_setCell_far _ _ _ _ (by dsimp only; omega), World.cell?_setCell_far _ _ _ _ (by dsimp only; omega)]; assumption)))
    (first
      | (go_at_call 44; refine (value_v _ _ _ (by first | exact HV.out | exact HV2.out)).mono ?_; rintro e w3 ⟨rfl, hb3⟩)
      | (go_at_call 52; refine (minus_any _ _ hy).mono ?_; rintro e w4 ⟨rfl, hb4⟩)
      | (go_at_call 51; refine (HS.out _).mono ?_; rintro e w5 ⟨rfl, hb5⟩)
      | (go_at_call 43; refine (placed_any _ _ hxy).mono ?_; rintro e w6 ⟨rfl, hb6⟩; have q6 : Gr w2 w6 := (by repeat' (first | (with_reducible exact Gr.refl _) | (with_reducible assumption) | (with_reducible refine Gr.alloc ?_ _) | (with_reducible refine Gr.drew ?_) | (with_reducible refine Gr.drewN ?_ _) | (with_reducible refine Gr.setCell ?_ ?_ _) | (with_reducible refine Gr.trans ?_ (by with_reducible assumption)) | go_size)); have c1 := Gr.at q6 k1; have c2 := Gr.at q6 k2; have c3 := Gr.at q6 k3; have c4 := Gr.at q6 k4; have c5 := Gr.at q6 k5; have c6 := Gr.at q6 k6; have e5 := Gr.free q6 k5 f5; have e6 := Gr.free q6 k6 f6))
  go_wp2
  refine bodyPost_ret (by simp [results, Try.results29, go_sem, c5, c6]; try rfl) rfl ?_
  exact ⟨by first | rfl | (simp; done), (by repeat' (first | (with_reducible exact Gr.refl _) | (with_reducible assumption) | (with_reducible refine Gr.alloc ?_ _) | (with_reducible refine Gr.drew ?_) | (with_reducible refine Gr.drewN ?_ _) | (with_reducible refine Gr.setCell ?_ ?_ _) | (with_reducible refine Gr.trans ?_ (by with_reducible assumption)) | go_size))⟩
end Go.Proofs.Ytbaahlofabmljaa
