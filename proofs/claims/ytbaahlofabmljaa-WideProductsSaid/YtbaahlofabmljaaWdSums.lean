import Derived.Test.YtbaahlofabmljaaWdRefK
set_option linter.unusedVariables false
set_option linter.unusedSimpArgs false
namespace Go.Proofs.Ytbaahlofabmljaa
open Go.RowKit
set_option maxHeartbeats 400000 in
theorem same_eq (h l e : Int) (w : World) :
    Calls Try.prog 23 #[.agg #[.int .i64 h, .int .i64 l], .int .i64 e, .agg #[.int .i64 h, .int .i64 l], .int .i64 e] w fun z w' => z = .returned (.bool true) ∧ Gr w w' := by
  have hh : (h == h) = true := by simp
  have hl : (l == l) = true := by simp
  have he : (e == e) = true := by simp
  go_enter Try.func23, Try.ntmps23
  go_wp2
  go_ret
  exact ⟨by first | rfl | (simp; done), (by repeat' (first | (with_reducible exact Gr.refl _) | (with_reducible assumption) | (with_reducible refine Gr.alloc ?_ _) | (with_reducible refine Gr.drew ?_) | (with_reducible refine Gr.drewN ?_ _) | (with_reducible refine Gr.setCell ?_ ?_ _) | (with_reducible refine Gr.trans ?_ (by with_reducible assumption)) | go_size))⟩
set_option maxRecDepth 100000 in
set_option maxHeartbeats 1000000 in
theorem sums_bad (h l k m : Int) (w : World) (hv : Wd.vld h l = false ∨ Wd.vld h l = true ∧ Wd.vld k m = false) :
    Calls Try.prog 7 #[.agg #[.int .i64 h, .int .i64 l], .agg #[.int .i64 k, .int .i64 m]] w fun e w' => e = .returned (.bool true) ∧ Gr w w' := by
  have HA := Lib.hid (fun W => add_bad h l k m W hv)
  have HS := Lib.hid (fun W => sub_bad h l k m W hv)
  have HC := Lib.hid (fun W => cmp_bad h l k m W hv)
  rcases hv with hv | ⟨hv, hv2⟩
  · have hw : ∀ W : World, Calls Try.prog 30 #[.agg #[.int .i64 h, .int .i64 l]] W fun e w' => e = .returned (.bool false) ∧ Gr W w' := fun W => valid_false h l W hv
    have hr : ∀ W : World, Calls Try.prog 14 #[.agg #[.int .i64 h, .int .i64 l]] W fun e w' => e = .returned (.bool false) ∧ Gr W w' := fun W => by
      have := rvalid_any h l W; rw [hv] at this; exact this
    have HW := Lib.hid hw; have HR := Lib.hid hr
    clear hw hr hv
    go_enter Try.func7, Try.ntmps7
    go_wp2_with fail; refine (awake_any _).mono ?_; rintro e w1 ⟨rfl, hb1⟩; obtain ⟨hc1, hf1⟩ := Gr.cells hb1; have hz1 := Gr.size hb1; (try simp at hz1); (try have hy1_0 : w.heap.size < w1.heap.size := by omega); (try have hy1_1 : w.heap.size + 1 < w1.heap.size := by omega); (try have hy1_2 : w.heap.size + 1 + 1 < w1.heap.size := by omega); (try have hy1_3 : w.heap.size + 1 + 1 + 1 < w1.heap.size := by omega); (try have hy1_4 : w.heap.size + 1 + 1 + 1 + 1 < w1.heap.size := by omega); (try have hy1_5 : w.heap.size + 1 + 1 + 1 + 1 + 1 < w1.heap.size := by omega)
    have kc1_0 := hc1 (w.heap.size) 0 (by first | omega | (simp; done) | (simp; omega))
    have kc1_1 := hc1 (w.heap.size) 1 (by first | omega | (simp; done) | (simp; omega))
    have kc1_2 := hc1 (w.heap.size + 1) 0 (by first | omega | (simp; done) | (simp; omega))
    have kc1_3 := hc1 (w.heap.size + 1) 1 (by first | omega | (simp; done) | (simp; omega))
    clear hc1
    (try simp [go_sem, *] at kc1_0)
    (try simp [go_sem, *] at kc1_1)
    (try simp [go_sem, *] at kc1_2)
    (try simp [go_sem, *] at kc1_3)
    go_wp2_with fail; refine (HA.out _).mono ?_; rintro e w2 ⟨rfl, hb2⟩; obtain ⟨hc2, hf2⟩ := Gr.cells hb2; have hz2 := Gr.size hb2; (try simp at hz2); (try have hy2_0 : w.heap.size < w2.heap.size := by omega); (try have hy2_1 : w.heap.size + 1 < w2.heap.size := by omega); (try have hy2_2 : w.heap.size + 1 + 1 < w2.heap.size := by omega); (try have hy2_3 : w.heap.size + 1 + 1 + 1 < w2.heap.size := by omega); (try have hy2_4 : w.heap.size + 1 + 1 + 1 + 1 < w2.heap.size := by omega); (try have hy2_5 : w.heap.size + 1 + 1 + 1 + 1 + 1 < w2.heap.size := by omega); (try have hy2_1_0 : w1.heap.size < w2.heap.size := by omega); (try have hy2_1_1 : w1.heap.size + 1 < w2.heap.size := by omega)
    have kc2_0 := hc2 (w.heap.size) 0 (by first | omega | (simp; done) | (simp; omega))
    have kc2_1 := hc2 (w.heap.size) 1 (by first | omega | (simp; done) | (simp; omega))
    have kc2_2 := hc2 (w.heap.size + 1) 0 (by first | omega | (simp; done) | (simp; omega))
    have kc2_3 := hc2 (w.heap.size + 1) 1 (by first | omega | (simp; done) | (simp; omega))
    clear hc2
    (try simp [go_sem, *] at kc2_0)
    (try simp [go_sem, *] at kc2_1)
    (try simp [go_sem, *] at kc2_2)
    (try simp [go_sem, *] at kc2_3)
    go_wp2_with fail; refine (HS.out _).mono ?_; rintro e w3 ⟨rfl, hb3⟩; obtain ⟨hc3, hf3⟩ := Gr.cells hb3; have hz3 := Gr.size hb3; (try simp at hz3); (try have hy3_0 : w.heap.size < w3.heap.size := by omega); (try have hy3_1 : w.heap.size + 1 < w3.heap.size := by omega); (try have hy3_2 : w.heap.size + 1 + 1 < w3.heap.size := by omega); (try have hy3_3 : w.heap.size + 1 + 1 + 1 < w3.heap.size := by omega); (try have hy3_4 : w.heap.size + 1 + 1 + 1 + 1 < w3.heap.size := by omega); (try have hy3_5 : w.heap.size + 1 + 1 + 1 + 1 + 1 < w3.heap.size := by omega); (try have hy3_1_0 : w1.heap.size < w3.heap.size := by omega); (try have hy3_1_1 : w1.heap.size + 1 < w3.heap.size := by omega); (try have hy3_2_0 : w2.heap.size < w3.heap.size := by omega); (try have hy3_2_1 : w2.heap.size + 1 < w3.heap.size := by omega)
    have kc3_0 := hc3 (w.heap.size) 0 (by first | omega | (simp; done) | (simp; omega))
    have kc3_1 := hc3 (w.heap.size) 1 (by first | omega | (simp; done) | (simp; omega))
    have kc3_2 := hc3 (w.heap.size + 1) 0 (by first | omega | (simp; done) | (simp; omega))
    have kc3_3 := hc3 (w.heap.size + 1) 1 (by first | omega | (simp; done) | (simp; omega))
    have kc3_4 := hc3 (w2.heap.size) 0 (by first | omega | (simp; done) | (simp; omega))
    have kc3_5 := hc3 (w2.heap.size) 1 (by first | omega | (simp; done) | (simp; omega))
    clear hc3
    (try simp [go_sem, *] at kc3_0)
    (try simp [go_sem, *] at kc3_1)
    (try simp [go_sem, *] at kc3_2)
    (try simp [go_sem, *] at kc3_3)
    (try simp [go_sem, *] at kc3_4)
    (try simp [go_sem, *] at kc3_5)
    go_wp2_with fail; refine (HC.out _).mono ?_; rintro e w4 ⟨rfl, hb4⟩; obtain ⟨hc4, hf4⟩ := Gr.cells hb4; have hz4 := Gr.size hb4; (try simp at hz4); (try have hy4_0 : w.heap.size < w4.heap.size := by omega); (try have hy4_1 : w.heap.size + 1 < w4.heap.size := by omega); (try have hy4_2 : w.heap.size + 1 + 1 < w4.heap.size := by omega); (try have hy4_3 : w.heap.size + 1 + 1 + 1 < w4.heap.size := by omega); (try have hy4_4 : w.heap.size + 1 + 1 + 1 + 1 < w4.heap.size := by omega); (try have hy4_5 : w.heap.size + 1 + 1 + 1 + 1 + 1 < w4.heap.size := by omega); (try have hy4_1_0 : w1.heap.size < w4.heap.size := by omega); (try have hy4_1_1 : w1.heap.size + 1 < w4.heap.size := by omega); (try have hy4_2_0 : w2.heap.size < w4.heap.size := by omega); (try have hy4_2_1 : w2.heap.size + 1 < w4.heap.size := by omega); (try have hy4_3_0 : w3.heap.size < w4.heap.size := by omega); (try have hy4_3_1 : w3.heap.size + 1 < w4.heap.size := by omega)
    have kc4_0 := hc4 (w.heap.size) 0 (by first | omega | (simp; done) | (simp; omega))
    have kc4_1 := hc4 (w.heap.size) 1 (by first | omega | (simp; done) | (simp; omega))
    have kc4_2 := hc4 (w.heap.size + 1) 0 (by first | omega | (simp; done) | (simp; omega))
    have kc4_3 := hc4 (w.heap.size + 1) 1 (by first | omega | (simp; done) | (simp; omega))
    have kc4_4 := hc4 (w2.heap.size) 0 (by first | omega | (simp; done) | (simp; omega))
    have kc4_5 := hc4 (w2.heap.size) 1 (by first | omega | (simp; done) | (simp; omega))
    have kc4_6 := hc4 (w3.heap.size) 0 (by first | omega | (simp; done) | (simp; omega))
    have kc4_7 := hc4 (w3.heap.size) 1 (by first | omega | (simp; done) | (simp; omega))
    clear hc4
    (try simp [go_sem, *] at kc4_0)
    (try simp [go_sem, *] at kc4_1)
    (try simp [go_sem, *] at kc4_2)
    (try simp [go_sem, *] at kc4_3)
    (try simp [go_sem, *] at kc4_4)
    (try simp [go_sem, *] at kc4_5)
    (try simp [go_sem, *] at kc4_6)
    (try simp [go_sem, *] at kc4_7)
    go_wp2_with fail
    refine name_world ?_; intro W0 hW0
    have g0 : Gr w W0 := by rw [hW0]; exact (by repeat' (first | (with_reducible exact Gr.refl _) | (with_reducible assumption) | (with_reducible refine Gr.alloc ?_ _) | (with_reducible refine Gr.drew ?_) | (with_reducible refine Gr.drewN ?_ _) | (with_reducible refine Gr.setCell ?_ ?_ _) | (with_reducible refine Gr.trans ?_ (by with_reducible assumption)) | go_size))
    have k0_0 : ∀ w', Gr W0 w' → w'.cell? ⟨w.heap.size, 0, none⟩ = some (.int .i64 h) := fun w' hgW => by first | exact (Gr.at hgW (by rw [hW0]; simp [go_sem, *]))
    have k0_1 : ∀ w', Gr W0 w' → w'.cell? ⟨w.heap.size, 1, none⟩ = some (.int .i64 l) := fun w' hgW => by first | exact (Gr.at hgW (by rw [hW0]; simp [go_sem, *]))
    have k0_2 : ∀ w', Gr W0 w' → w'.cell? ⟨w.heap.size + 1, 0, none⟩ = some (.int .i64 k) := fun w' hgW => by first | exact (Gr.at hgW (by rw [hW0]; simp [go_sem, *]))
    have k0_3 : ∀ w', Gr W0 w' → w'.cell? ⟨w.heap.size + 1, 1, none⟩ = some (.int .i64 m) := fun w' hgW => by first | exact (Gr.at hgW (by rw [hW0]; simp [go_sem, *]))
    have k0_4 : ∀ w', Gr W0 w' → w'.cell? ⟨w2.heap.size, 0, none⟩ = some (.int .i64 0) := fun w' hgW => by first | exact (Gr.at hgW (by rw [hW0]; simp [go_sem, *]))
    have k0_5 : ∀ w', Gr W0 w' → w'.cell? ⟨w2.heap.size, 1, none⟩ = some (.int .i64 0) := fun w' hgW => by first | exact (Gr.at hgW (by rw [hW0]; simp [go_sem, *]))
    have k0_6 : ∀ w', Gr W0 w' → w'.cell? ⟨w3.heap.size, 0, none⟩ = some (.int .i64 0) := fun w' hgW => by first | exact (Gr.at hgW (by rw [hW0]; simp [go_sem, *]))
    have k0_7 : ∀ w', Gr W0 w' → w'.cell? ⟨w3.heap.size, 1, none⟩ = some (.int .i64 0) := fun w' hgW => by first | exact (Gr.at hgW (by rw [hW0]; simp [go_sem, *]))
    clear hW0
    have zW0 := Gr.size g0
    go_region_held3 (fun w' => Gr W0 w') (repeat' (first | (with_reducible exact Gr.refl _) | (with_reducible assumption) | (with_reducible refine Gr.alloc ?_ _) | (with_reducible refine Gr.drew ?_) | (with_reducible refine Gr.drewN ?_ _) | (with_reducible refine Gr.setCell ?_ ?_ _) | (with_reducible refine Gr.trans ?_ (by with_reducible assumption)) | go_size)) (first | (go_at_call 30; refine (HW.out _).mono ?_; rintro e w5 ⟨rfl, hb5⟩; have q5 : Gr W0 w5 := (by repeat' (first | (with_reducible exact Gr.refl _) | (with_reducible assumption) | (with_reducible refine Gr.alloc ?_ _) | (with_reducible refine Gr.drew ?_) | (with_reducible refine Gr.drewN ?_ _) | (with_reducible refine Gr.setCell ?_ ?_ _) | (with_reducible refine Gr.trans ?_ (by with_reducible assumption)) | go_size)); have z5 := Gr.size q5; obtain ⟨hc5, hf5⟩ := Gr.cells hb5; have hz5 := Gr.size hb5; (try simp at hz5); (try have hy5_0 : w.heap.size < w5.heap.size := by omega); (try have hy5_1 : w.heap.size + 1 < w5.heap.size := by omega); (try have hy5_2 : w.heap.size + 1 + 1 < w5.heap.size := by omega); (try have hy5_3 : w.heap.size + 1 + 1 + 1 < w5.heap.size := by omega); (try have hy5_4 : w.heap.size + 1 + 1 + 1 + 1 < w5.heap.size := by omega); (try have hy5_5 : w.heap.size + 1 + 1 + 1 + 1 + 1 < w5.heap.size := by omega); (try have hy5_W0_0 : W0.heap.size < w5.heap.size := by omega); (try have hy5_W0_1 : W0.heap.size + 1 < w5.heap.size := by omega); (try have hy5_1_0 : w1.heap.size < w5.heap.size := by omega); (try have hy5_1_1 : w1.heap.size + 1 < w5.heap.size := by omega); (try have hy5_2_0 : w2.heap.size < w5.heap.size := by omega); (try have hy5_2_1 : w2.heap.size + 1 < w5.heap.size := by omega); (try have hy5_3_0 : w3.heap.size < w5.heap.size := by omega); (try have hy5_3_1 : w3.heap.size + 1 < w5.heap.size := by omega); (try have hy5_4_0 : w4.heap.size < w5.heap.size := by omega); (try have hy5_4_1 : w4.heap.size + 1 < w5.heap.size := by omega)) | (go_at_call 14; refine (HR.out _).mono ?_; rintro e w6 ⟨rfl, hb6⟩; have q6 : Gr W0 w6 := (by repeat' (first | (with_reducible exact Gr.refl _) | (with_reducible assumption) | (with_reducible refine Gr.alloc ?_ _) | (with_reducible refine Gr.drew ?_) | (with_reducible refine Gr.drewN ?_ _) | (with_reducible refine Gr.setCell ?_ ?_ _) | (with_reducible refine Gr.trans ?_ (by with_reducible assumption)) | go_size)); have z6 := Gr.size q6; obtain ⟨hc6, hf6⟩ := Gr.cells hb6; have hz6 := Gr.size hb6; (try simp at hz6); (try have hy6_0 : w.heap.size < w6.heap.size := by omega); (try have hy6_1 : w.heap.size + 1 < w6.heap.size := by omega); (try have hy6_2 : w.heap.size + 1 + 1 < w6.heap.size := by omega); (try have hy6_3 : w.heap.size + 1 + 1 + 1 < w6.heap.size := by omega); (try have hy6_4 : w.heap.size + 1 + 1 + 1 + 1 < w6.heap.size := by omega); (try have hy6_5 : w.heap.size + 1 + 1 + 1 + 1 + 1 < w6.heap.size := by omega); (try have hy6_W0_0 : W0.heap.size < w6.heap.size := by omega); (try have hy6_W0_1 : W0.heap.size + 1 < w6.heap.size := by omega); (try have hy6_1_0 : w1.heap.size < w6.heap.size := by omega); (try have hy6_1_1 : w1.heap.size + 1 < w6.heap.size := by omega); (try have hy6_2_0 : w2.heap.size < w6.heap.size := by omega); (try have hy6_2_1 : w2.heap.size + 1 < w6.heap.size := by omega); (try have hy6_3_0 : w3.heap.size < w6.heap.size := by omega); (try have hy6_3_1 : w3.heap.size + 1 < w6.heap.size := by omega); (try have hy6_4_0 : w4.heap.size < w6.heap.size := by omega); (try have hy6_4_1 : w4.heap.size + 1 < w6.heap.size := by omega); (try have hy6_5_0 : w5.heap.size < w6.heap.size := by omega); (try have hy6_5_1 : w5.heap.size + 1 < w6.heap.size := by omega)))
    all_goals
      go_wp2_with fail; refine (HR.out _).mono ?_; rintro e w7 ⟨rfl, hb7⟩; have q7_0 : Gr W0 w7 := (by repeat' (first | (with_reducible exact Gr.refl _) | (with_reducible assumption) | (with_reducible refine Gr.alloc ?_ _) | (with_reducible refine Gr.drew ?_) | (with_reducible refine Gr.drewN ?_ _) | (with_reducible refine Gr.setCell ?_ ?_ _) | (with_reducible refine Gr.trans ?_ (by with_reducible assumption)) | go_size)); have z7_0 := Gr.size q7_0
      go_wp2_with fail; refine (same_eq _ _ _ _).mono ?_; rintro e w8 ⟨rfl, hb8⟩; have q8_0 : Gr W0 w8 := (by repeat' (first | (with_reducible exact Gr.refl _) | (with_reducible assumption) | (with_reducible refine Gr.alloc ?_ _) | (with_reducible refine Gr.drew ?_) | (with_reducible refine Gr.drewN ?_ _) | (with_reducible refine Gr.setCell ?_ ?_ _) | (with_reducible refine Gr.trans ?_ (by with_reducible assumption)) | go_size)); have z8_0 := Gr.size q8_0
      go_wp2_with fail; refine (same_eq _ _ _ _).mono ?_; rintro e w9 ⟨rfl, hb9⟩; have q9_0 : Gr W0 w9 := (by repeat' (first | (with_reducible exact Gr.refl _) | (with_reducible assumption) | (with_reducible refine Gr.alloc ?_ _) | (with_reducible refine Gr.drew ?_) | (with_reducible refine Gr.drewN ?_ _) | (with_reducible refine Gr.setCell ?_ ?_ _) | (with_reducible refine Gr.trans ?_ (by with_reducible assumption)) | go_size)); have z9_0 := Gr.size q9_0
      go_wp2
      go_ret
      exact ⟨rfl, (by repeat' (first | (with_reducible exact Gr.refl _) | (with_reducible assumption) | (with_reducible refine Gr.alloc ?_ _) | (with_reducible refine Gr.drew ?_) | (with_reducible refine Gr.drewN ?_ _) | (with_reducible refine Gr.setCell ?_ ?_ _) | (with_reducible refine Gr.trans ?_ (by with_reducible assumption)) | go_size))⟩
  · have hw : ∀ W : World, Calls Try.prog 30 #[.agg #[.int .i64 h, .int .i64 l]] W fun e w' => e = .returned (.bool true) ∧ Gr W w' := fun W => valid_true h l W hv
    have hr : ∀ W : World, Calls Try.prog 14 #[.agg #[.int .i64 h, .int .i64 l]] W fun e w' => e = .returned (.bool true) ∧ Gr W w' := fun W => by
      have := rvalid_any h l W; rw [hv] at this; exact this
    have hr2 : ∀ W : World, Calls Try.prog 14 #[.agg #[.int .i64 k, .int .i64 m]] W fun e w' => e = .returned (.bool false) ∧ Gr W w' := fun W => by
      have := rvalid_any k m W; rw [hv2] at this; exact this
    have HW := Lib.hid hw; have HR := Lib.hid hr; have HR2 := Lib.hid hr2
    clear hw hr hr2 hv hv2
    go_enter Try.func7, Try.ntmps7
    go_wp2_with fail; refine (awake_any _).mono ?_; rintro e w1 ⟨rfl, hb1⟩; obtain ⟨hc1, hf1⟩ := Gr.cells hb1; have hz1 := Gr.size hb1; (try simp at hz1); (try have hy1_0 : w.heap.size < w1.heap.size := by omega); (try have hy1_1 : w.heap.size + 1 < w1.heap.size := by omega); (try have hy1_2 : w.heap.size + 1 + 1 < w1.heap.size := by omega); (try have hy1_3 : w.heap.size + 1 + 1 + 1 < w1.heap.size := by omega); (try have hy1_4 : w.heap.size + 1 + 1 + 1 + 1 < w1.heap.size := by omega); (try have hy1_5 : w.heap.size + 1 + 1 + 1 + 1 + 1 < w1.heap.size := by omega)
    have kc1_0 := hc1 (w.heap.size) 0 (by first | omega | (simp; done) | (simp; omega))
    have kc1_1 := hc1 (w.heap.size) 1 (by first | omega | (simp; done) | (simp; omega))
    have kc1_2 := hc1 (w.heap.size + 1) 0 (by first | omega | (simp; done) | (simp; omega))
    have kc1_3 := hc1 (w.heap.size + 1) 1 (by first | omega | (simp; done) | (simp; omega))
    clear hc1
    (try simp [go_sem, *] at kc1_0)
    (try simp [go_sem, *] at kc1_1)
    (try simp [go_sem, *] at kc1_2)
    (try simp [go_sem, *] at kc1_3)
    go_wp2_with fail; refine (HA.out _).mono ?_; rintro e w2 ⟨rfl, hb2⟩; obtain ⟨hc2, hf2⟩ := Gr.cells hb2; have hz2 := Gr.size hb2; (try simp at hz2); (try have hy2_0 : w.heap.size < w2.heap.size := by omega); (try have hy2_1 : w.heap.size + 1 < w2.heap.size := by omega); (try have hy2_2 : w.heap.size + 1 + 1 < w2.heap.size := by omega); (try have hy2_3 : w.heap.size + 1 + 1 + 1 < w2.heap.size := by omega); (try have hy2_4 : w.heap.size + 1 + 1 + 1 + 1 < w2.heap.size := by omega); (try have hy2_5 : w.heap.size + 1 + 1 + 1 + 1 + 1 < w2.heap.size := by omega); (try have hy2_1_0 : w1.heap.size < w2.heap.size := by omega); (try have hy2_1_1 : w1.heap.size + 1 < w2.heap.size := by omega)
    have kc2_0 := hc2 (w.heap.size) 0 (by first | omega | (simp; done) | (simp; omega))
    have kc2_1 := hc2 (w.heap.size) 1 (by first | omega | (simp; done) | (simp; omega))
    have kc2_2 := hc2 (w.heap.size + 1) 0 (by first | omega | (simp; done) | (simp; omega))
    have kc2_3 := hc2 (w.heap.size + 1) 1 (by first | omega | (simp; done) | (simp; omega))
    clear hc2
    (try simp [go_sem, *] at kc2_0)
    (try simp [go_sem, *] at kc2_1)
    (try simp [go_sem, *] at kc2_2)
    (try simp [go_sem, *] at kc2_3)
    go_wp2_with fail; refine (HS.out _).mono ?_; rintro e w3 ⟨rfl, hb3⟩; obtain ⟨hc3, hf3⟩ := Gr.cells hb3; have hz3 := Gr.size hb3; (try simp at hz3); (try have hy3_0 : w.heap.size < w3.heap.size := by omega); (try have hy3_1 : w.heap.size + 1 < w3.heap.size := by omega); (try have hy3_2 : w.heap.size + 1 + 1 < w3.heap.size := by omega); (try have hy3_3 : w.heap.size + 1 + 1 + 1 < w3.heap.size := by omega); (try have hy3_4 : w.heap.size + 1 + 1 + 1 + 1 < w3.heap.size := by omega); (try have hy3_5 : w.heap.size + 1 + 1 + 1 + 1 + 1 < w3.heap.size := by omega); (try have hy3_1_0 : w1.heap.size < w3.heap.size := by omega); (try have hy3_1_1 : w1.heap.size + 1 < w3.heap.size := by omega); (try have hy3_2_0 : w2.heap.size < w3.heap.size := by omega); (try have hy3_2_1 : w2.heap.size + 1 < w3.heap.size := by omega)
    have kc3_0 := hc3 (w.heap.size) 0 (by first | omega | (simp; done) | (simp; omega))
    have kc3_1 := hc3 (w.heap.size) 1 (by first | omega | (simp; done) | (simp; omega))
    have kc3_2 := hc3 (w.heap.size + 1) 0 (by first | omega | (simp; done) | (simp; omega))
    have kc3_3 := hc3 (w.heap.size + 1) 1 (by first | omega | (simp; done) | (simp; omega))
    have kc3_4 := hc3 (w2.heap.size) 0 (by first | omega | (simp; done) | (simp; omega))
    have kc3_5 := hc3 (w2.heap.size) 1 (by first | omega | (simp; done) | (simp; omega))
    clear hc3
    (try simp [go_sem, *] at kc3_0)
    (try simp [go_sem, *] at kc3_1)
    (try simp [go_sem, *] at kc3_2)
    (try simp [go_sem, *] at kc3_3)
    (try simp [go_sem, *] at kc3_4)
    (try simp [go_sem, *] at kc3_5)
    go_wp2_with fail; refine (HC.out _).mono ?_; rintro e w4 ⟨rfl, hb4⟩; obtain ⟨hc4, hf4⟩ := Gr.cells hb4; have hz4 := Gr.size hb4; (try simp at hz4); (try have hy4_0 : w.heap.size < w4.heap.size := by omega); (try have hy4_1 : w.heap.size + 1 < w4.heap.size := by omega); (try have hy4_2 : w.heap.size + 1 + 1 < w4.heap.size := by omega); (try have hy4_3 : w.heap.size + 1 + 1 + 1 < w4.heap.size := by omega); (try have hy4_4 : w.heap.size + 1 + 1 + 1 + 1 < w4.heap.size := by omega); (try have hy4_5 : w.heap.size + 1 + 1 + 1 + 1 + 1 < w4.heap.size := by omega); (try have hy4_1_0 : w1.heap.size < w4.heap.size := by omega); (try have hy4_1_1 : w1.heap.size + 1 < w4.heap.size := by omega); (try have hy4_2_0 : w2.heap.size < w4.heap.size := by omega); (try have hy4_2_1 : w2.heap.size + 1 < w4.heap.size := by omega); (try have hy4_3_0 : w3.heap.size < w4.heap.size := by omega); (try have hy4_3_1 : w3.heap.size + 1 < w4.heap.size := by omega)
    have kc4_0 := hc4 (w.heap.size) 0 (by first | omega | (simp; done) | (simp; omega))
    have kc4_1 := hc4 (w.heap.size) 1 (by first | omega | (simp; done) | (simp; omega))
    have kc4_2 := hc4 (w.heap.size + 1) 0 (by first | omega | (simp; done) | (simp; omega))
    have kc4_3 := hc4 (w.heap.size + 1) 1 (by first | omega | (simp; done) | (simp; omega))
    have kc4_4 := hc4 (w2.heap.size) 0 (by first | omega | (simp; done) | (simp; omega))
    have kc4_5 := hc4 (w2.heap.size) 1 (by first | omega | (simp; done) | (simp; omega))
    have kc4_6 := hc4 (w3.heap.size) 0 (by first | omega | (simp; done) | (simp; omega))
    have kc4_7 := hc4 (w3.heap.size) 1 (by first | omega | (simp; done) | (simp; omega))
    clear hc4
    (try simp [go_sem, *] at kc4_0)
    (try simp [go_sem, *] at kc4_1)
    (try simp [go_sem, *] at kc4_2)
    (try simp [go_sem, *] at kc4_3)
    (try simp [go_sem, *] at kc4_4)
    (try simp [go_sem, *] at kc4_5)
    (try simp [go_sem, *] at kc4_6)
    (try simp [go_sem, *] at kc4_7)
    go_wp2_with fail
    refine name_world ?_; intro W0 hW0
    have g0 : Gr w W0 := by rw [hW0]; exact (by repeat' (first | (with_reducible exact Gr.refl _) | (with_reducible assumption) | (with_reducible refine Gr.alloc ?_ _) | (with_reducible refine Gr.drew ?_) | (with_reducible refine Gr.drewN ?_ _) | (with_reducible refine Gr.setCell ?_ ?_ _) | (with_reducible refine Gr.trans ?_ (by with_reducible assumption)) | go_size))
    have k0_0 : ∀ w', Gr W0 w' → w'.cell? ⟨w.heap.size, 0, none⟩ = some (.int .i64 h) := fun w' hgW => by first | exact (Gr.at hgW (by rw [hW0]; simp [go_sem, *]))
    have k0_1 : ∀ w', Gr W0 w' → w'.cell? ⟨w.heap.size, 1, none⟩ = some (.int .i64 l) := fun w' hgW => by first | exact (Gr.at hgW (by rw [hW0]; simp [go_sem, *]))
    have k0_2 : ∀ w', Gr W0 w' → w'.cell? ⟨w.heap.size + 1, 0, none⟩ = some (.int .i64 k) := fun w' hgW => by first | exact (Gr.at hgW (by rw [hW0]; simp [go_sem, *]))
    have k0_3 : ∀ w', Gr W0 w' → w'.cell? ⟨w.heap.size + 1, 1, none⟩ = some (.int .i64 m) := fun w' hgW => by first | exact (Gr.at hgW (by rw [hW0]; simp [go_sem, *]))
    have k0_4 : ∀ w', Gr W0 w' → w'.cell? ⟨w2.heap.size, 0, none⟩ = some (.int .i64 0) := fun w' hgW => by first | exact (Gr.at hgW (by rw [hW0]; simp [go_sem, *]))
    have k0_5 : ∀ w', Gr W0 w' → w'.cell? ⟨w2.heap.size, 1, none⟩ = some (.int .i64 0) := fun w' hgW => by first | exact (Gr.at hgW (by rw [hW0]; simp [go_sem, *]))
    have k0_6 : ∀ w', Gr W0 w' → w'.cell? ⟨w3.heap.size, 0, none⟩ = some (.int .i64 0) := fun w' hgW => by first | exact (Gr.at hgW (by rw [hW0]; simp [go_sem, *]))
    have k0_7 : ∀ w', Gr W0 w' → w'.cell? ⟨w3.heap.size, 1, none⟩ = some (.int .i64 0) := fun w' hgW => by first | exact (Gr.at hgW (by rw [hW0]; simp [go_sem, *]))
    clear hW0
    have zW0 := Gr.size g0
    go_region_held3 (fun w' => Gr W0 w') (repeat' (first | (with_reducible exact Gr.refl _) | (with_reducible assumption) | (with_reducible refine Gr.alloc ?_ _) | (with_reducible refine Gr.drew ?_) | (with_reducible refine Gr.drewN ?_ _) | (with_reducible refine Gr.setCell ?_ ?_ _) | (with_reducible refine Gr.trans ?_ (by with_reducible assumption)) | go_size)) (first | (go_at_call 30; refine (HW.out _).mono ?_; rintro e w5 ⟨rfl, hb5⟩; have q5 : Gr W0 w5 := (by repeat' (first | (with_reducible exact Gr.refl _) | (with_reducible assumption) | (with_reducible refine Gr.alloc ?_ _) | (with_reducible refine Gr.drew ?_) | (with_reducible refine Gr.drewN ?_ _) | (with_reducible refine Gr.setCell ?_ ?_ _) | (with_reducible refine Gr.trans ?_ (by with_reducible assumption)) | go_size)); have z5 := Gr.size q5; obtain ⟨hc5, hf5⟩ := Gr.cells hb5; have hz5 := Gr.size hb5; (try simp at hz5); (try have hy5_0 : w.heap.size < w5.heap.size := by omega); (try have hy5_1 : w.heap.size + 1 < w5.heap.size := by omega); (try have hy5_2 : w.heap.size + 1 + 1 < w5.heap.size := by omega); (try have hy5_3 : w.heap.size + 1 + 1 + 1 < w5.heap.size := by omega); (try have hy5_4 : w.heap.size + 1 + 1 + 1 + 1 < w5.heap.size := by omega); (try have hy5_5 : w.heap.size + 1 + 1 + 1 + 1 + 1 < w5.heap.size := by omega); (try have hy5_W0_0 : W0.heap.size < w5.heap.size := by omega); (try have hy5_W0_1 : W0.heap.size + 1 < w5.heap.size := by omega); (try have hy5_1_0 : w1.heap.size < w5.heap.size := by omega); (try have hy5_1_1 : w1.heap.size + 1 < w5.heap.size := by omega); (try have hy5_2_0 : w2.heap.size < w5.heap.size := by omega); (try have hy5_2_1 : w2.heap.size + 1 < w5.heap.size := by omega); (try have hy5_3_0 : w3.heap.size < w5.heap.size := by omega); (try have hy5_3_1 : w3.heap.size + 1 < w5.heap.size := by omega); (try have hy5_4_0 : w4.heap.size < w5.heap.size := by omega); (try have hy5_4_1 : w4.heap.size + 1 < w5.heap.size := by omega)) | (go_at_call 14; refine (HR.out _).mono ?_; rintro e w6 ⟨rfl, hb6⟩; have q6 : Gr W0 w6 := (by repeat' (first | (with_reducible exact Gr.refl _) | (with_reducible assumption) | (with_reducible refine Gr.alloc ?_ _) | (with_reducible refine Gr.drew ?_) | (with_reducible refine Gr.drewN ?_ _) | (with_reducible refine Gr.setCell ?_ ?_ _) | (with_reducible refine Gr.trans ?_ (by with_reducible assumption)) | go_size)); have z6 := Gr.size q6; obtain ⟨hc6, hf6⟩ := Gr.cells hb6; have hz6 := Gr.size hb6; (try simp at hz6); (try have hy6_0 : w.heap.size < w6.heap.size := by omega); (try have hy6_1 : w.heap.size + 1 < w6.heap.size := by omega); (try have hy6_2 : w.heap.size + 1 + 1 < w6.heap.size := by omega); (try have hy6_3 : w.heap.size + 1 + 1 + 1 < w6.heap.size := by omega); (try have hy6_4 : w.heap.size + 1 + 1 + 1 + 1 < w6.heap.size := by omega); (try have hy6_5 : w.heap.size + 1 + 1 + 1 + 1 + 1 < w6.heap.size := by omega); (try have hy6_W0_0 : W0.heap.size < w6.heap.size := by omega); (try have hy6_W0_1 : W0.heap.size + 1 < w6.heap.size := by omega); (try have hy6_1_0 : w1.heap.size < w6.heap.size := by omega); (try have hy6_1_1 : w1.heap.size + 1 < w6.heap.size := by omega); (try have hy6_2_0 : w2.heap.size < w6.heap.size := by omega); (try have hy6_2_1 : w2.heap.size + 1 < w6.heap.size := by omega); (try have hy6_3_0 : w3.heap.size < w6.heap.size := by omega); (try have hy6_3_1 : w3.heap.size + 1 < w6.heap.size := by omega); (try have hy6_4_0 : w4.heap.size < w6.heap.size := by omega); (try have hy6_4_1 : w4.heap.size + 1 < w6.heap.size := by omega); (try have hy6_5_0 : w5.heap.size < w6.heap.size := by omega); (try have hy6_5_1 : w5.heap.size + 1 < w6.heap.size := by omega)))
    all_goals
      go_wp2_with fail; refine (HR.out _).mono ?_; rintro e w7 ⟨rfl, hb7⟩; have q7_0 : Gr W0 w7 := (by repeat' (first | (with_reducible exact Gr.refl _) | (with_reducible assumption) | (with_reducible refine Gr.alloc ?_ _) | (with_reducible refine Gr.drew ?_) | (with_reducible refine Gr.drewN ?_ _) | (with_reducible refine Gr.setCell ?_ ?_ _) | (with_reducible refine Gr.trans ?_ (by with_reducible assumption)) | go_size)); have z7_0 := Gr.size q7_0
      go_wp2_with fail; refine (HR2.out _).mono ?_; rintro e w8 ⟨rfl, hb8⟩; have q8_0 : Gr W0 w8 := (by repeat' (first | (with_reducible exact Gr.refl _) | (with_reducible assumption) | (with_reducible refine Gr.alloc ?_ _) | (with_reducible refine Gr.drew ?_) | (with_reducible refine Gr.drewN ?_ _) | (with_reducible refine Gr.setCell ?_ ?_ _) | (with_reducible refine Gr.trans ?_ (by with_reducible assumption)) | go_size)); have z8_0 := Gr.size q8_0
      go_wp2_with fail; refine (same_eq _ _ _ _).mono ?_; rintro e w9 ⟨rfl, hb9⟩; have q9_0 : Gr W0 w9 := (by repeat' (first | (with_reducible exact Gr.refl _) | (with_reducible assumption) | (with_reducible refine Gr.alloc ?_ _) | (with_reducible refine Gr.drew ?_) | (with_reducible refine Gr.drewN ?_ _) | (with_reducible refine Gr.setCell ?_ ?_ _) | (with_reducible refine Gr.trans ?_ (by with_reducible assumption)) | go_size)); have z9_0 := Gr.size q9_0
      go_wp2_with fail; refine (same_eq _ _ _ _).mono ?_; rintro e w10 ⟨rfl, hb10⟩; have q10_0 : Gr W0 w10 := (by repeat' (first | (with_reducible exact Gr.refl _) | (with_reducible assumption) | (with_reducible refine Gr.alloc ?_ _) | (with_reducible refine Gr.drew ?_) | (with_reducible refine Gr.drewN ?_ _) | (with_reducible refine Gr.setCell ?_ ?_ _) | (with_reducible refine Gr.trans ?_ (by with_reducible assumption)) | go_size)); have z10_0 := Gr.size q10_0
      go_wp2
      go_ret
      exact ⟨rfl, (by repeat' (first | (with_reducible exact Gr.refl _) | (with_reducible assumption) | (with_reducible refine Gr.alloc ?_ _) | (with_reducible refine Gr.drew ?_) | (with_reducible refine Gr.drewN ?_ _) | (with_reducible refine Gr.setCell ?_ ?_ _) | (with_reducible refine Gr.trans ?_ (by with_reducible assumption)) | go_size))⟩
end Go.Proofs.Ytbaahlofabmljaa
