import Derived.Test.YtbaahlofabmljaaDoorWdWalkE
set_option linter.unusedVariables false
set_option linter.unusedSimpArgs false
namespace Go.Proofs.YtbaahlofabmljaaDoor
open Go.RowKit
namespace Wd
/-- The order of two integers. -/
def ord (x y : Int) : Int := if x < y then -1 else if y < x then 1 else 0
/-- The first that is not zero. -/
def orI (x y : Int) : Int := if x = 0 then y else x
theorem ord_lt {x y : Int} (h : x < y) : ord x y = -1 := by unfold ord; rw [if_pos h]
theorem ord_gt {x y : Int} (h : y < x) : ord x y = 1 := by unfold ord; rw [if_neg (by omega), if_pos h]
theorem ord_eq (x : Int) : ord x x = 0 := by unfold ord; rw [if_neg (by omega), if_neg (by omega)]
theorem ord_val {h l k m : Int} (hv : vld h l = true) (hv2 : vld k m = true) : orI (ord h k) (ord l m) = ord (val h l) (val k m) := by
  obtain ⟨a, b, c, d⟩ := vld_true hv
  obtain ⟨a', b', c', d'⟩ := vld_true hv2
  unfold orI ord val
  by_cases h1 : h < k
  · simp [h1]; omega
  · by_cases h2 : k < h
    · simp [h1, h2]; omega
    · obtain rfl : h = k := by omega
      simp
end Wd
set_option maxHeartbeats 400000 in
theorem nan_any (x : Int) (w : World) : Calls Tryd.prog 60 #[.int .i64 x] w fun e w' => e = .returned (.bool false) ∧ w = w' := by
  have hx : (x != x) = false := by simp
  go_enter Tryd.func60, Tryd.ntmps60
  go_wp2
  go_ret
  exact ⟨by first | rfl | (simp; done), rfl⟩
set_option maxHeartbeats 400000 in
theorem compare_any (x y : Int) (w : World) : Calls Tryd.prog 30 #[.int .i64 x, .int .i64 y] w fun e w' => e = .returned (.int .i64 (Wd.ord x y)) ∧ w = w' := by
  by_cases h : x < y
  · rw [Wd.ord_lt h]
    go_enter Tryd.func30, Tryd.ntmps30
    go_wp2_with (go_at_call 60; refine (nan_any _ _).mono ?_; rintro e w' ⟨rfl, rfl⟩)
    go_ret
    exact ⟨rfl, rfl⟩
  · by_cases h2 : y < x
    · rw [Wd.ord_gt h2]
      go_enter Tryd.func30, Tryd.ntmps30
      go_wp2_with (go_at_call 60; refine (nan_any _ _).mono ?_; rintro e w' ⟨rfl, rfl⟩)
      go_ret
      exact ⟨rfl, rfl⟩
    · obtain rfl : x = y := by omega
      rw [Wd.ord_eq]
      go_enter Tryd.func30, Tryd.ntmps30
      go_wp2_with (go_at_call 60; refine (nan_any _ _).mono ?_; rintro e w' ⟨rfl, rfl⟩)
      go_ret
      exact ⟨rfl, rfl⟩
set_option maxHeartbeats 400000 in
theorem or2_any (b : Nat) (x y : Int) (w : World) (hx : w.cell? ⟨b, 0, none⟩ = some (.int .i64 x)) (hy : w.cell? ⟨b, 1, none⟩ = some (.int .i64 y)) :
    Calls Tryd.prog 29 #[.slice (some ⟨b, 0, none⟩) 2 2] w fun e w' => e = .returned (.int .i64 (Wd.orI x y)) ∧ w = w' := by
  by_cases h : x = 0
  · subst h
    have e0 : Wd.orI 0 y = y := rfl
    rw [e0]
    by_cases h2 : y = 0
    · subst h2
      go_enter Tryd.func29, Tryd.ntmps29
      go_wp2
      go_rounds 3
      go_ret
      exact ⟨rfl, rfl⟩
    · have h2' : (y != 0) = true := by simpa using h2
      clear h2
      go_enter Tryd.func29, Tryd.ntmps29
      go_wp2
      go_rounds 3
      go_ret
      exact ⟨rfl, rfl⟩
  · have e0 : Wd.orI x y = x := by unfold Wd.orI; rw [if_neg h]
    rw [e0]
    have h2' : (x != 0) = true := by simpa using h
    clear h e0
    go_enter Tryd.func29, Tryd.ntmps29
    go_wp2
    go_rounds 3
    go_ret
    exact ⟨rfl, rfl⟩

set_option maxHeartbeats 400000 in
theorem cmp_bad (h l k m : Int) (w : World) (hv : Wd.vld h l = false ∨ Wd.vld h l = true ∧ Wd.vld k m = false) :
    Calls Tryd.prog 12 #[.agg #[.int .i64 h, .int .i64 l], .agg #[.int .i64 k, .int .i64 m]] w fun e w' => e = .returned (.tuple #[.int .i64 0, .int .i64 1]) ∧ Gr w w' := by
  rcases hv with hv | ⟨hv, hv2⟩
  · go_enter Tryd.func12, Tryd.ntmps12
    go_wp2_with (first | (go_at_call 11; refine (valid_false h l _ (by assumption)).mono ?_; rintro e w1 ⟨rfl, hb1⟩; obtain ⟨hc1, hf1⟩ := Gr.cells hb1; have hz1 := Gr.size hb1; (try simp at hz1); (try have hy1_0 : w.heap.size < w1.heap.size := by omega); (try have hy1_1 : w.heap.size + 1 < w1.heap.size := by omega); (try have hy1_2 : w.heap.size + 1 + 1 < w1.heap.size := by omega); (try have hy1_3 : w.heap.size + 1 + 1 + 1 < w1.heap.size := by omega); (try have hy1_4 : w.heap.size + 1 + 1 + 1 + 1 < w1.heap.size := by omega); (try have hy1_5 : w.heap.size + 1 + 1 + 1 + 1 + 1 < w1.heap.size := by omega)))
    go_ret2
    exact ⟨rfl, (by repeat' (first | (with_reducible exact Gr.refl _) | (with_reducible assumption) | (with_reducible refine Gr.alloc ?_ _) | (with_reducible refine Gr.drew ?_) | (with_reducible refine Gr.drewN ?_ _) | (with_reducible refine Gr.setCell ?_ ?_ _) | (with_reducible refine Gr.trans ?_ (by with_reducible assumption)) | go_size))⟩
  · go_enter Tryd.func12, Tryd.ntmps12
    go_wp2_with fail
    refine (valid_true h l _ (by assumption)).mono ?_; rintro e w1 ⟨rfl, hb1⟩; obtain ⟨hc1, hf1⟩ := Gr.cells hb1; have hz1 := Gr.size hb1; (try simp at hz1); (try have hy1_0 : w.heap.size < w1.heap.size := by omega); (try have hy1_1 : w.heap.size + 1 < w1.heap.size := by omega); (try have hy1_2 : w.heap.size + 1 + 1 < w1.heap.size := by omega); (try have hy1_3 : w.heap.size + 1 + 1 + 1 < w1.heap.size := by omega); (try have hy1_4 : w.heap.size + 1 + 1 + 1 + 1 < w1.heap.size := by omega); (try have hy1_5 : w.heap.size + 1 + 1 + 1 + 1 + 1 < w1.heap.size := by omega)
    go_wp2_with fail
    refine (valid_false k m _ (by assumption)).mono ?_; rintro e w2 ⟨rfl, hb2⟩; obtain ⟨hc2, hf2⟩ := Gr.cells hb2; have hz2 := Gr.size hb2; (try simp at hz2); (try have hy2_0 : w.heap.size < w2.heap.size := by omega); (try have hy2_1 : w.heap.size + 1 < w2.heap.size := by omega); (try have hy2_2 : w.heap.size + 1 + 1 < w2.heap.size := by omega); (try have hy2_3 : w.heap.size + 1 + 1 + 1 < w2.heap.size := by omega); (try have hy2_4 : w.heap.size + 1 + 1 + 1 + 1 < w2.heap.size := by omega); (try have hy2_5 : w.heap.size + 1 + 1 + 1 + 1 + 1 < w2.heap.size := by omega)
    go_wp2
    go_ret2
    exact ⟨rfl, (by repeat' (first | (with_reducible exact Gr.refl _) | (with_reducible assumption) | (with_reducible refine Gr.alloc ?_ _) | (with_reducible refine Gr.drew ?_) | (with_reducible refine Gr.drewN ?_ _) | (with_reducible refine Gr.setCell ?_ ?_ _) | (with_reducible refine Gr.trans ?_ (by with_reducible assumption)) | go_size))⟩

set_option maxHeartbeats 400000 in
theorem cmp_any (h l k m : Int) (w : World) (hv : Wd.vld h l = true) (hv2 : Wd.vld k m = true) :
    Calls Tryd.prog 12 #[.agg #[.int .i64 h, .int .i64 l], .agg #[.int .i64 k, .int .i64 m]] w fun e w' => e = .returned (.tuple #[.int .i64 (Wd.ord (Wd.val h l) (Wd.val k m)), .int .i64 0]) ∧ Gr w w' := by
  have HV := Lib.hid hv
  have HV2 := Lib.hid hv2
  rw [← Wd.ord_val hv hv2]
  clear hv hv2
  go_enter Tryd.func12, Tryd.ntmps12
  go_wp2_with fail
  refine (valid_true h l _ HV.out).mono ?_; rintro e w1 ⟨rfl, hb1⟩; obtain ⟨hc1, hf1⟩ := Gr.cells hb1; have hz1 := Gr.size hb1; (try simp at hz1); (try have hy1_0 : w.heap.size < w1.heap.size := by omega); (try have hy1_1 : w.heap.size + 1 < w1.heap.size := by omega); (try have hy1_2 : w.heap.size + 1 + 1 < w1.heap.size := by omega); (try have hy1_3 : w.heap.size + 1 + 1 + 1 < w1.heap.size := by omega); (try have hy1_4 : w.heap.size + 1 + 1 + 1 + 1 < w1.heap.size := by omega); (try have hy1_5 : w.heap.size + 1 + 1 + 1 + 1 + 1 < w1.heap.size := by omega)
  go_wp2_with fail
  refine (valid_true k m _ HV2.out).mono ?_; rintro e w2 ⟨rfl, hb2⟩; obtain ⟨hc2, hf2⟩ := Gr.cells hb2; have hz2 := Gr.size hb2; (try simp at hz2); (try have hy2_0 : w.heap.size < w2.heap.size := by omega); (try have hy2_1 : w.heap.size + 1 < w2.heap.size := by omega); (try have hy2_2 : w.heap.size + 1 + 1 < w2.heap.size := by omega); (try have hy2_3 : w.heap.size + 1 + 1 + 1 < w2.heap.size := by omega); (try have hy2_4 : w.heap.size + 1 + 1 + 1 + 1 < w2.heap.size := by omega); (try have hy2_5 : w.heap.size + 1 + 1 + 1 + 1 + 1 < w2.heap.size := by omega)
  go_wp2_with fail
  have k1 : w2.cell? ⟨w.heap.size, 0, none⟩ = some (.int .i64 h) := Gr.at hb2 (Gr.at hb1 (by simp [go_sem]))
  have k2 : w2.cell? ⟨w.heap.size, 1, none⟩ = some (.int .i64 l) := Gr.at hb2 (Gr.at hb1 (by simp [go_sem]))
  have k3 : w2.cell? ⟨w.heap.size + 1, 0, none⟩ = some (.int .i64 k) := Gr.at hb2 (Gr.at hb1 (by simp [go_sem]))
  have k4 : w2.cell? ⟨w.heap.size + 1, 1, none⟩ = some (.int .i64 m) := Gr.at hb2 (Gr.at hb1 (by simp [go_sem]))
  have g2 : Gr w w2 := (by repeat' (first | (with_reducible exact Gr.refl _) | (with_reducible assumption) | (with_reducible refine Gr.alloc ?_ _) | (with_reducible refine Gr.drew ?_) | (with_reducible refine Gr.drewN ?_ _) | (with_reducible refine Gr.setCell ?_ ?_ _) | (with_reducible refine Gr.trans ?_ (by with_reducible assumption)) | go_size))
  clear hb1 hc1 hf1 hb2 hc2 hf2 hz1 hz2
  go_region_held3 (fun w' => w'.cell? ⟨w.heap.size, 0, none⟩ = some (.int .i64 h) ∧ w'.cell? ⟨w.heap.size, 1, none⟩ = some (.int .i64 l) ∧ w'.cell? ⟨w.heap.size + 1, 0, none⟩ = some (.int .i64 k) ∧ w'.cell? ⟨w.heap.size + 1, 1, none⟩ = some (.int .i64 m)) (go_keep)
    (first
      | (go_at_call 30; refine (compare_any _ _ _).mono ?_; rintro e w3 ⟨rfl, rfl⟩)
      | (go_at_call 29; refine (or2_any _ (Wd.ord h k) (Wd.ord l m) _ ?_ ?_).mono ?_; (simp [go_sem]); (simp [go_sem]); rintro e w5 ⟨rfl, rfl⟩))
  go_wp2
  go_ret2
  exact ⟨rfl, (by repeat' (first | (with_reducible exact Gr.refl _) | (with_reducible assumption) | (with_reducible refine Gr.alloc ?_ _) | (with_reducible refine Gr.drew ?_) | (with_reducible refine Gr.drewN ?_ _) | (with_reducible refine Gr.setCell ?_ ?_ _) | (with_reducible refine Gr.trans ?_ (by with_reducible assumption)) | go_size))⟩
end Go.Proofs.YtbaahlofabmljaaDoor
