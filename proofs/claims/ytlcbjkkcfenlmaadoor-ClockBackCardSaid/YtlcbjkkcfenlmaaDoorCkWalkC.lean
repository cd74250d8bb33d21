import Derived.Test.YtlcbjkkcfenlmaaDoorCkWalkB
import Derived.Deep.RegionHeld3
set_option linter.unusedVariables false
set_option linter.unusedSimpArgs false
namespace Go.Proofs.YtlcbjkkcfenlmaaDoor
open Go.RowKit
set_option maxHeartbeats 800000 in
theorem rdays_any (y m : Int) (w : World) (h0 : 0 ≤ y) (h1 : y ≤ 100000) (m1 : 1 ≤ m) (m2 : m ≤ 12) :
    Calls Tryd.prog 45 #[.int .i64 y, .int .i64 m] w fun e w' => e = .returned (.int .i64 (Ck.mlen y m)) ∧ Gr w w' := by
  have HL := Lib.hid (fun W => rleap_any y W h0 h1)
  cases hb : Ck.lpB y
  · rw [tab_no (m := m) fun _ => hb]
    rw [hb] at HL
    rcases Ck.months m1 m2 with rfl | rfl | rfl | rfl | rfl | rfl | rfl | rfl | rfl | rfl | rfl | rfl
    all_goals
      clear hb h0 h1 m1 m2
      go_enter Tryd.func45, Tryd.ntmps45
      go_wp2_with (go_at_call 54; refine (HL.out _).mono ?_; rintro e w' ⟨rfl, rfl⟩)
      go_ret
      exact ⟨ret_int' rfl, (by repeat' (first | (with_reducible exact Gr.refl _) | (with_reducible assumption) | (with_reducible refine Gr.alloc ?_ _) | (with_reducible refine Gr.drew ?_) | (with_reducible refine Gr.drewN ?_ _) | (with_reducible refine Gr.setCell ?_ ?_ _) | (with_reducible refine Gr.trans ?_ (by with_reducible assumption)) | go_size))⟩
  · rw [hb] at HL
    by_cases hm : m = 2
    · subst hm
      rw [tab_lp hb]
      clear hb h0 h1 m1 m2
      go_enter Tryd.func45, Tryd.ntmps45
      go_wp2_with (go_at_call 54; refine (HL.out _).mono ?_; rintro e w' ⟨rfl, rfl⟩)
      go_ret
      exact ⟨rfl, (by repeat' (first | (with_reducible exact Gr.refl _) | (with_reducible assumption) | (with_reducible refine Gr.alloc ?_ _) | (with_reducible refine Gr.drew ?_) | (with_reducible refine Gr.drewN ?_ _) | (with_reducible refine Gr.setCell ?_ ?_ _) | (with_reducible refine Gr.trans ?_ (by with_reducible assumption)) | go_size))⟩
    · rw [tab_no fun h => absurd h hm]
      rcases Ck.months m1 m2 with rfl | rfl | rfl | rfl | rfl | rfl | rfl | rfl | rfl | rfl | rfl | rfl
      all_goals
        clear hb h0 h1 m1 m2
        first
        | (exact absurd rfl hm)
        | (clear hm
           go_enter Tryd.func45, Tryd.ntmps45
           go_wp2_with (go_at_call 54; refine (HL.out _).mono ?_; rintro e w' ⟨rfl, rfl⟩)
           go_ret
           exact ⟨ret_int' rfl, (by repeat' (first | (with_reducible exact Gr.refl _) | (with_reducible assumption) | (with_reducible refine Gr.alloc ?_ _) | (with_reducible refine Gr.drew ?_) | (with_reducible refine Gr.drewN ?_ _) | (with_reducible refine Gr.setCell ?_ ?_ _) | (with_reducible refine Gr.trans ?_ (by with_reducible assumption)) | go_size))⟩)
set_option maxHeartbeats 400000 in
theorem rbefore_any (y : Int) (w : World) (h0 : 1 ≤ y) (h1 : y ≤ 10002) :
    Calls Tryd.prog 46 #[.int .i64 y] w fun e w' => e = .returned (.int .i64 (Ck.bef y + 730119)) ∧ w = w' := by
  have HE := Lib.hid (show Ck.bef y + 730119 = 365 * (y - 1) + (y - 1) / 4 - (y - 1) / 100 + (y - 1) / 400 by unfold Ck.bef; omega)
  go_enter Tryd.func46, Tryd.ntmps46
  go_wp2
  go_ret
  exact ⟨ret_int HE.out.symm, rfl⟩
set_option maxHeartbeats 800000 in
theorem valid_any (y m d : Int) (w : World) :
    Calls Tryd.prog 22 #[.agg #[.int .i64 y, .int .i64 m, .int .i64 d]] w fun e w' => e = .returned (.bool (Ck.vld y m d)) ∧ Gr w w' := by
  have hv : Ck.vld y m d = (decide (1 ≤ y) && decide (y ≤ 9999) && decide (1 ≤ m) && decide (m ≤ 12) && decide (1 ≤ d) && decide (d ≤ Ck.mlen y m)) := rfl
  rw [hv]; clear hv
  by_cases a1 : 1 ≤ y
  case neg =>
    have a1' : decide (1 ≤ y) = false := decide_eq_false a1
    simp only [a1', Bool.true_and, Bool.false_and, Bool.and_false]
    clear a1
    go_enter Tryd.func22, Tryd.ntmps22
    go_wp2_with fail
    go_quiet (fail)
    go_wp2
    go_ret
    exact ⟨rfl, (by repeat' (first | (with_reducible exact Gr.refl _) | (with_reducible assumption) | (with_reducible refine Gr.alloc ?_ _) | (with_reducible refine Gr.drew ?_) | (with_reducible refine Gr.drewN ?_ _) | (with_reducible refine Gr.setCell ?_ ?_ _) | (with_reducible refine Gr.trans ?_ (by with_reducible assumption)) | go_size))⟩
  by_cases a2 : y ≤ 9999
  case neg =>
    have a2' : decide (y ≤ 9999) = false := decide_eq_false a2
    have a1' : decide (1 ≤ y) = true := decide_eq_true a1
    simp only [a2', a1', Bool.true_and, Bool.false_and, Bool.and_false]
    clear a2 a1
    go_enter Tryd.func22, Tryd.ntmps22
    go_wp2_with fail
    go_quiet (fail)
    go_wp2
    go_ret
    exact ⟨rfl, (by repeat' (first | (with_reducible exact Gr.refl _) | (with_reducible assumption) | (with_reducible refine Gr.alloc ?_ _) | (with_reducible refine Gr.drew ?_) | (with_reducible refine Gr.drewN ?_ _) | (with_reducible refine Gr.setCell ?_ ?_ _) | (with_reducible refine Gr.trans ?_ (by with_reducible assumption)) | go_size))⟩
  by_cases a3 : 1 ≤ m
  case neg =>
    have a3' : decide (1 ≤ m) = false := decide_eq_false a3
    have a1' : decide (1 ≤ y) = true := decide_eq_true a1
    have a2' : decide (y ≤ 9999) = true := decide_eq_true a2
    simp only [a3', a1', a2', Bool.true_and, Bool.false_and, Bool.and_false]
    clear a3 a1 a2
    go_enter Tryd.func22, Tryd.ntmps22
    go_wp2_with fail
    go_quiet (fail)
    go_wp2
    go_ret
    exact ⟨rfl, (by repeat' (first | (with_reducible exact Gr.refl _) | (with_reducible assumption) | (with_reducible refine Gr.alloc ?_ _) | (with_reducible refine Gr.drew ?_) | (with_reducible refine Gr.drewN ?_ _) | (with_reducible refine Gr.setCell ?_ ?_ _) | (with_reducible refine Gr.trans ?_ (by with_reducible assumption)) | go_size))⟩
  by_cases a4 : m ≤ 12
  case neg =>
    have a4' : decide (m ≤ 12) = false := decide_eq_false a4
    have a1' : decide (1 ≤ y) = true := decide_eq_true a1
    have a2' : decide (y ≤ 9999) = true := decide_eq_true a2
    have a3' : decide (1 ≤ m) = true := decide_eq_true a3
    simp only [a4', a1', a2', a3', Bool.true_and, Bool.false_and, Bool.and_false]
    clear a4 a1 a2 a3
    go_enter Tryd.func22, Tryd.ntmps22
    go_wp2_with fail
    go_quiet (fail)
    go_wp2
    go_ret
    exact ⟨rfl, (by repeat' (first | (with_reducible exact Gr.refl _) | (with_reducible assumption) | (with_reducible refine Gr.alloc ?_ _) | (with_reducible refine Gr.drew ?_) | (with_reducible refine Gr.drewN ?_ _) | (with_reducible refine Gr.setCell ?_ ?_ _) | (with_reducible refine Gr.trans ?_ (by with_reducible assumption)) | go_size))⟩
  by_cases a5 : 1 ≤ d
  case neg =>
    have a5' : decide (1 ≤ d) = false := decide_eq_false a5
    have a1' : decide (1 ≤ y) = true := decide_eq_true a1
    have a2' : decide (y ≤ 9999) = true := decide_eq_true a2
    have a3' : decide (1 ≤ m) = true := decide_eq_true a3
    have a4' : decide (m ≤ 12) = true := decide_eq_true a4
    simp only [a5', a1', a2', a3', a4', Bool.true_and, Bool.false_and, Bool.and_false]
    clear a5 a1 a2 a3 a4
    go_enter Tryd.func22, Tryd.ntmps22
    go_wp2_with fail
    go_quiet (fail)
    go_wp2
    go_ret
    exact ⟨rfl, (by repeat' (first | (with_reducible exact Gr.refl _) | (with_reducible assumption) | (with_reducible refine Gr.alloc ?_ _) | (with_reducible refine Gr.drew ?_) | (with_reducible refine Gr.drewN ?_ _) | (with_reducible refine Gr.setCell ?_ ?_ _) | (with_reducible refine Gr.trans ?_ (by with_reducible assumption)) | go_size))⟩
  have a1' : decide (1 ≤ y) = true := decide_eq_true a1
  have a2' : decide (y ≤ 9999) = true := decide_eq_true a2
  have a3' : decide (1 ≤ m) = true := decide_eq_true a3
  have a4' : decide (m ≤ 12) = true := decide_eq_true a4
  have a5' : decide (1 ≤ d) = true := decide_eq_true a5
  simp only [a1', a2', a3', a4', a5', Bool.true_and]
  have HM := Lib.hid (fun W => month_any y m W (by omega) (by omega) a3 a4)
  obtain ⟨x, hx⟩ : ∃ x, Ck.mlen y m = x := ⟨_, rfl⟩
  rw [hx] at HM ⊢
  clear hx a1 a2 a3 a4 a5
  go_enter Tryd.func22, Tryd.ntmps22
  go_wp2_with fail
  refine name_world ?_; intro W0 hW0
  have g0 : Gr w W0 := by rw [hW0]; exact (by repeat' (first | (with_reducible exact Gr.refl _) | (with_reducible assumption) | (with_reducible refine Gr.alloc ?_ _) | (with_reducible refine Gr.drew ?_) | (with_reducible refine Gr.drewN ?_ _) | (with_reducible refine Gr.setCell ?_ ?_ _) | (with_reducible refine Gr.trans ?_ (by with_reducible assumption)) | go_size))
  have k0_0 : ∀ w', Gr W0 w' → w'.cell? ⟨w.heap.size, 0, none⟩ = some (.int .i64 y) := fun w' hgW => by first | exact (Gr.at hgW (by rw [hW0]; simp [go_sem, *]))
  have k0_1 : ∀ w', Gr W0 w' → w'.cell? ⟨w.heap.size, 1, none⟩ = some (.int .i64 m) := fun w' hgW => by first | exact (Gr.at hgW (by rw [hW0]; simp [go_sem, *]))
  have k0_2 : ∀ w', Gr W0 w' → w'.cell? ⟨w.heap.size, 2, none⟩ = some (.int .i64 d) := fun w' hgW => by first | exact (Gr.at hgW (by rw [hW0]; simp [go_sem, *]))
  clear hW0
  have zW0 := Gr.size g0
  go_region_held3 (fun w' => Gr W0 w') (repeat' (first | (with_reducible exact Gr.refl _) | (with_reducible assumption) | (with_reducible refine Gr.alloc ?_ _) | (with_reducible refine Gr.drew ?_) | (with_reducible refine Gr.drewN ?_ _) | (with_reducible refine Gr.setCell ?_ ?_ _) | (with_reducible refine Gr.trans ?_ (by with_reducible assumption)) | go_size)) (first | (go_at_call 42; refine (HM.out _).mono ?_; rintro e w1 ⟨rfl, hb1⟩; have q1 : Gr W0 w1 := (by repeat' (first | (with_reducible exact Gr.refl _) | (with_reducible assumption) | (with_reducible refine Gr.alloc ?_ _) | (with_reducible refine Gr.drew ?_) | (with_reducible refine Gr.drewN ?_ _) | (with_reducible refine Gr.setCell ?_ ?_ _) | (with_reducible refine Gr.trans ?_ (by with_reducible assumption)) | go_size)); have z1 := Gr.size q1; obtain ⟨hc1, hf1⟩ := Gr.cells hb1; have hz1 := Gr.size hb1; (try simp at hz1); (try have hy1_0 : w.heap.size < w1.heap.size := by omega); (try have hy1_1 : w.heap.size + 1 < w1.heap.size := by omega); (try have hy1_2 : w.heap.size + 1 + 1 < w1.heap.size := by omega); (try have hy1_3 : w.heap.size + 1 + 1 + 1 < w1.heap.size := by omega); (try have hy1_4 : w.heap.size + 1 + 1 + 1 + 1 < w1.heap.size := by omega); (try have hy1_5 : w.heap.size + 1 + 1 + 1 + 1 + 1 < w1.heap.size := by omega); (try have hy1_W0_0 : W0.heap.size < w1.heap.size := by omega); (try have hy1_W0_1 : W0.heap.size + 1 < w1.heap.size := by omega)))
  all_goals
    go_wp2
    go_ret
    exact ⟨rfl, (by repeat' (first | (with_reducible exact Gr.refl _) | (with_reducible assumption) | (with_reducible refine Gr.alloc ?_ _) | (with_reducible refine Gr.drew ?_) | (with_reducible refine Gr.drewN ?_ _) | (with_reducible refine Gr.setCell ?_ ?_ _) | (with_reducible refine Gr.trans ?_ (by with_reducible assumption)) | go_size))⟩
set_option maxHeartbeats 800000 in
theorem rvalid_any (y m d : Int) (w : World) :
    Calls Tryd.prog 21 #[.agg #[.int .i64 y, .int .i64 m, .int .i64 d]] w fun e w' => e = .returned (.bool (Ck.vld y m d)) ∧ Gr w w' := by
  have hv : Ck.vld y m d = (decide (1 ≤ y) && decide (y ≤ 9999) && decide (1 ≤ m) && decide (m ≤ 12) && decide (1 ≤ d) && decide (d ≤ Ck.mlen y m)) := rfl
  rw [hv]; clear hv
  by_cases a1 : 1 ≤ y
  case neg =>
    have a1' : decide (1 ≤ y) = false := decide_eq_false a1
    simp only [a1', Bool.true_and, Bool.false_and, Bool.and_false]
    clear a1
    go_enter Tryd.func21, Tryd.ntmps21
    go_wp2_with fail
    go_quiet (fail)
    go_wp2
    go_ret
    exact ⟨rfl, (by repeat' (first | (with_reducible exact Gr.refl _) | (with_reducible assumption) | (with_reducible refine Gr.alloc ?_ _) | (with_reducible refine Gr.drew ?_) | (with_reducible refine Gr.drewN ?_ _) | (with_reducible refine Gr.setCell ?_ ?_ _) | (with_reducible refine Gr.trans ?_ (by with_reducible assumption)) | go_size))⟩
  by_cases a2 : y ≤ 9999
  case neg =>
    have a2' : decide (y ≤ 9999) = false := decide_eq_false a2
    have a1' : decide (1 ≤ y) = true := decide_eq_true a1
    simp only [a2', a1', Bool.true_and, Bool.false_and, Bool.and_false]
    clear a2 a1
    go_enter Tryd.func21, Tryd.ntmps21
    go_wp2_with fail
    go_quiet (fail)
    go_wp2
    go_ret
    exact ⟨rfl, (by repeat' (first | (with_reducible exact Gr.refl _) | (with_reducible assumption) | (with_reducible refine Gr.alloc ?_ _) | (with_reducible refine Gr.drew ?_) | (with_reducible refine Gr.drewN ?_ _) | (with_reducible refine Gr.setCell ?_ ?_ _) | (with_reducible refine Gr.trans ?_ (by with_reducible assumption)) | go_size))⟩
  by_cases a3 : 1 ≤ m
  case neg =>
    have a3' : decide (1 ≤ m) = false := decide_eq_false a3
    have a1' : decide (1 ≤ y) = true := decide_eq_true a1
    have a2' : decide (y ≤ 9999) = true := decide_eq_true a2
    simp only [a3', a1', a2', Bool.true_and, Bool.false_and, Bool.and_false]
    clear a3 a1 a2
    go_enter Tryd.func21, Tryd.ntmps21
    go_wp2_with fail
    go_quiet (fail)
    go_wp2
    go_ret
    exact ⟨rfl, (by repeat' (first | (with_reducible exact Gr.refl _) | (with_reducible assumption) | (with_reducible refine Gr.alloc ?_ _) | (with_reducible refine Gr.drew ?_) | (with_reducible refine Gr.drewN ?_ _) | (with_reducible refine Gr.setCell ?_ ?_ _) | (with_reducible refine Gr.trans ?_ (by with_reducible assumption)) | go_size))⟩
  by_cases a4 : m ≤ 12
  case neg =>
    have a4' : decide (m ≤ 12) = false := decide_eq_false a4
    have a1' : decide (1 ≤ y) = true := decide_eq_true a1
    have a2' : decide (y ≤ 9999) = true := decide_eq_true a2
    have a3' : decide (1 ≤ m) = true := decide_eq_true a3
    simp only [a4', a1', a2', a3', Bool.true_and, Bool.false_and, Bool.and_false]
    clear a4 a1 a2 a3
    go_enter Tryd.func21, Tryd.ntmps21
    go_wp2_with fail
    go_quiet (fail)
    go_wp2
    go_ret
    exact ⟨rfl, (by repeat' (first | (with_reducible exact Gr.refl _) | (with_reducible assumption) | (with_reducible refine Gr.alloc ?_ _) | (with_reducible refine Gr.drew ?_) | (with_reducible refine Gr.drewN ?_ _) | (with_reducible refine Gr.setCell ?_ ?_ _) | (with_reducible refine Gr.trans ?_ (by with_reducible assumption)) | go_size))⟩
  by_cases a5 : 1 ≤ d
  case neg =>
    have a5' : decide (1 ≤ d) = false := decide_eq_false a5
    have a1' : decide (1 ≤ y) = true := decide_eq_true a1
    have a2' : decide (y ≤ 9999) = true := decide_eq_true a2
    have a3' : decide (1 ≤ m) = true := decide_eq_true a3
    have a4' : decide (m ≤ 12) = true := decide_eq_true a4
    simp only [a5', a1', a2', a3', a4', Bool.true_and, Bool.false_and, Bool.and_false]
    clear a5 a1 a2 a3 a4
    go_enter Tryd.func21, Tryd.ntmps21
    go_wp2_with fail
    go_quiet (fail)
    go_wp2
    go_ret
    exact ⟨rfl, (by repeat' (first | (with_reducible exact Gr.refl _) | (with_reducible assumption) | (with_reducible refine Gr.alloc ?_ _) | (with_reducible refine Gr.drew ?_) | (with_reducible refine Gr.drewN ?_ _) | (with_reducible refine Gr.setCell ?_ ?_ _) | (with_reducible refine Gr.trans ?_ (by with_reducible assumption)) | go_size))⟩
  have a1' : decide (1 ≤ y) = true := decide_eq_true a1
  have a2' : decide (y ≤ 9999) = true := decide_eq_true a2
  have a3' : decide (1 ≤ m) = true := decide_eq_true a3
  have a4' : decide (m ≤ 12) = true := decide_eq_true a4
  have a5' : decide (1 ≤ d) = true := decide_eq_true a5
  simp only [a1', a2', a3', a4', a5', Bool.true_and]
  have HM := Lib.hid (fun W => rdays_any y m W (by omega) (by omega) a3 a4)
  obtain ⟨x, hx⟩ : ∃ x, Ck.mlen y m = x := ⟨_, rfl⟩
  rw [hx] at HM ⊢
  clear hx a1 a2 a3 a4 a5
  go_enter Tryd.func21, Tryd.ntmps21
  go_wp2_with fail
  refine name_world ?_; intro W0 hW0
  have g0 : Gr w W0 := by rw [hW0]; exact (by repeat' (first | (with_reducible exact Gr.refl _) | (with_reducible assumption) | (with_reducible refine Gr.alloc ?_ _) | (with_reducible refine Gr.drew ?_) | (with_reducible refine Gr.drewN ?_ _) | (with_reducible refine Gr.setCell ?_ ?_ _) | (with_reducible refine Gr.trans ?_ (by with_reducible assumption)) | go_size))
  have k0_0 : ∀ w', Gr W0 w' → w'.cell? ⟨w.heap.size, 0, none⟩ = some (.int .i64 y) := fun w' hgW => by first | exact (Gr.at hgW (by rw [hW0]; simp [go_sem, *]))
  have k0_1 : ∀ w', Gr W0 w' → w'.cell? ⟨w.heap.size, 1, none⟩ = some (.int .i64 m) := fun w' hgW => by first | exact (Gr.at hgW (by rw [hW0]; simp [go_sem, *]))
  have k0_2 : ∀ w', Gr W0 w' → w'.cell? ⟨w.heap.size, 2, none⟩ = some (.int .i64 d) := fun w' hgW => by first | exact (Gr.at hgW (by rw [hW0]; simp [go_sem, *]))
  clear hW0
  have zW0 := Gr.size g0
  go_region_held3 (fun w' => Gr W0 w') (repeat' (first | (with_reducible exact Gr.refl _) | (with_reducible assumption) | (with_reducible refine Gr.alloc ?_ _) | (with_reducible refine Gr.drew ?_) | (with_reducible refine Gr.drewN ?_ _) | (with_reducible refine Gr.setCell ?_ ?_ _) | (with_reducible refine Gr.trans ?_ (by with_reducible assumption)) | go_size)) (first | (go_at_call 45; refine (HM.out _).mono ?_; rintro e w1 ⟨rfl, hb1⟩; have q1 : Gr W0 w1 := (by repeat' (first | (with_reducible exact Gr.refl _) | (with_reducible assumption) | (with_reducible refine Gr.alloc ?_ _) | (with_reducible refine Gr.drew ?_) | (with_reducible refine Gr.drewN ?_ _) | (with_reducible refine Gr.setCell ?_ ?_ _) | (with_reducible refine Gr.trans ?_ (by with_reducible assumption)) | go_size)); have z1 := Gr.size q1; obtain ⟨hc1, hf1⟩ := Gr.cells hb1; have hz1 := Gr.size hb1; (try simp at hz1); (try have hy1_0 : w.heap.size < w1.heap.size := by omega); (try have hy1_1 : w.heap.size + 1 < w1.heap.size := by omega); (try have hy1_2 : w.heap.size + 1 + 1 < w1.heap.size := by omega); (try have hy1_3 : w.heap.size + 1 + 1 + 1 < w1.heap.size := by omega); (try have hy1_4 : w.heap.size + 1 + 1 + 1 + 1 < w1.heap.size := by omega); (try have hy1_5 : w.heap.size + 1 + 1 + 1 + 1 + 1 < w1.heap.size := by omega); (try have hy1_W0_0 : W0.heap.size < w1.heap.size := by omega); (try have hy1_W0_1 : W0.heap.size + 1 < w1.heap.size := by omega)))
  all_goals
    go_wp2
    go_ret
    exact ⟨rfl, (by repeat' (first | (with_reducible exact Gr.refl _) | (with_reducible assumption) | (with_reducible refine Gr.alloc ?_ _) | (with_reducible refine Gr.drew ?_) | (with_reducible refine Gr.drewN ?_ _) | (with_reducible refine Gr.setCell ?_ ?_ _) | (with_reducible refine Gr.trans ?_ (by with_reducible assumption)) | go_size))⟩
end Go.Proofs.YtlcbjkkcfenlmaaDoor
