import Derived.Test.YtbaahlofabmljaaWdRefB
set_option linter.unusedVariables false
set_option linter.unusedSimpArgs false
namespace Go.Proofs.Ytbaahlofabmljaa
open Go.RowKit
namespace Wd
theorem ord_sub (x y : Int) : ord x y = if neg (x - y) then -1 else if hi (x - y) = 0 ∧ lo (x - y) = 0 then 0 else 1 := by
  have e := hilo (x - y)
  have l0 := lo_nonneg (x - y); have l1 := lo_lt (x - y); have h0 := hi_nonneg (x - y)
  unfold ord neg
  unfold mag at e
  by_cases h : x < y
  · rw [if_pos h]; have : x - y < 0 := by omega
    simp [this]
  · rw [if_neg h]; have : ¬ x - y < 0 := by omega
    simp only [this, decide_false, Bool.false_eq_true, if_false] at e ⊢
    by_cases h2 : y < x
    · rw [if_pos h2, if_neg (by omega)]
    · rw [if_neg h2, if_pos (by omega)]
end Wd
set_option maxHeartbeats 1000000 in
theorem rorder_any (x y : Int) (w : World) (hx : Wd.hi x ≤ 72057594037927936) (hy : Wd.hi y ≤ 72057594037927936) :
    Calls Try.prog 33 #[.agg #[.int .u64 (Wd.hi x), .int .u64 (Wd.lo x), .bool (Wd.neg x)], .agg #[.int .u64 (Wd.hi y), .int .u64 (Wd.lo y), .bool (Wd.neg y)]] w fun e w' => e = .returned (.int .i64 (Wd.ord x y)) ∧ Gr w w' := by
  have ho : ∀ W : World, Calls Try.prog 32 #[.agg #[.int .u64 (Wd.hi y), .int .u64 (Wd.lo y), .bool (Wd.neg y)]] W fun e w' => e = .returned (.agg #[.int .u64 (Wd.hi (-y)), .int .u64 (Wd.lo (-y)), .bool (Wd.neg (-y))]) ∧ Gr W w' := fun W => ropp_any y W
  have hs : ∀ W : World, Calls Try.prog 31 #[.agg #[.int .u64 (Wd.hi x), .int .u64 (Wd.lo x), .bool (Wd.neg x)], .agg #[.int .u64 (Wd.hi (-y)), .int .u64 (Wd.lo (-y)), .bool (Wd.neg (-y))]] W fun e w' => e = .returned (.agg #[.int .u64 (Wd.hi (x - y)), .int .u64 (Wd.lo (x - y)), .bool (Wd.neg (x - y))]) ∧ Gr W w' := fun W => by
    have a := Wd.hilo x; have b := Wd.hilo y; have c := Wd.lo_lt x; have d := Wd.lo_lt y
    have := rsum_any x (-y) W (by omega) (by rw [Wd.hi_neg]; omega) (by rw [Wd.mag_neg]; omega)
    rw [← Int.sub_eq_add_neg] at this; exact this
  have HO := Lib.hid ho; have HS := Lib.hid hs
  clear ho hs
  rw [Wd.ord_sub]
  generalize Wd.neg x = s1 at *
  generalize Wd.neg y = s2 at *
  generalize x - y = z at *
  cases hn : Wd.neg z
  · rw [hn] at HS
    simp only [Bool.false_eq_true, if_false]
    by_cases h1 : Wd.hi z = 0
    · rw [h1] at HS ⊢
      by_cases h2 : Wd.lo z = 0
      · rw [h2] at HS ⊢
        clear hn h1 h2
        simp only [and_self, if_true]
        go_enter Try.func33, Try.ntmps33
        go_wp2_with fail
        refine name_world ?_; intro W0 hW0
        have g0 : Gr w W0 := by rw [hW0]; exact (by repeat' (first | (with_reducible exact Gr.refl _) | (with_reducible assumption) | (with_reducible refine Gr.alloc ?_ _) | (with_reducible refine Gr.drew ?_) | (with_reducible refine Gr.drewN ?_ _) | (with_reducible refine Gr.setCell ?_ ?_ _) | (with_reducible refine Gr.trans ?_ (by with_reducible assumption)) | go_size))
        have k0_0 : ∀ w', Gr W0 w' → w'.cell? ⟨w.heap.size, 0, none⟩ = some (.int .u64 (Wd.hi x)) := fun w' hgW => by first | exact (Gr.at hgW (by rw [hW0]; simp [go_sem, *]))
        have k0_1 : ∀ w', Gr W0 w' → w'.cell? ⟨w.heap.size, 1, none⟩ = some (.int .u64 (Wd.lo x)) := fun w' hgW => by first | exact (Gr.at hgW (by rw [hW0]; simp [go_sem, *]))
        have k0_2 : ∀ w', Gr W0 w' → w'.cell? ⟨w.heap.size, 2, none⟩ = some (.bool s1) := fun w' hgW => by first | exact (Gr.at hgW (by rw [hW0]; simp [go_sem, *]))
        have k0_3 : ∀ w', Gr W0 w' → w'.cell? ⟨w.heap.size + 1, 0, none⟩ = some (.int .u64 (Wd.hi y)) := fun w' hgW => by first | exact (Gr.at hgW (by rw [hW0]; simp [go_sem, *]))
        have k0_4 : ∀ w', Gr W0 w' → w'.cell? ⟨w.heap.size + 1, 1, none⟩ = some (.int .u64 (Wd.lo y)) := fun w' hgW => by first | exact (Gr.at hgW (by rw [hW0]; simp [go_sem, *]))
        have k0_5 : ∀ w', Gr W0 w' → w'.cell? ⟨w.heap.size + 1, 2, none⟩ = some (.bool s2) := fun w' hgW => by first | exact (Gr.at hgW (by rw [hW0]; simp [go_sem, *]))
        clear hW0
        have zW0 := Gr.size g0
        go_region_held3 (fun w' => Gr W0 w') (repeat' (first | (with_reducible exact Gr.refl _) | (with_reducible assumption) | (with_reducible refine Gr.alloc ?_ _) | (with_reducible refine Gr.drew ?_) | (with_reducible refine Gr.drewN ?_ _) | (with_reducible refine Gr.setCell ?_ ?_ _) | (with_reducible refine Gr.trans ?_ (by with_reducible assumption)) | go_size)) (first | (go_at_call 32; refine (HO.out _).mono ?_; rintro e w1 ⟨rfl, hb1⟩; have q1 : Gr W0 w1 := (by repeat' (first | (with_reducible exact Gr.refl _) | (with_reducible assumption) | (with_reducible refine Gr.alloc ?_ _) | (with_reducible refine Gr.drew ?_) | (with_reducible refine Gr.drewN ?_ _) | (with_reducible refine Gr.setCell ?_ ?_ _) | (with_reducible refine Gr.trans ?_ (by with_reducible assumption)) | go_size)); have z1 := Gr.size q1; obtain ⟨hc1, hf1⟩ := Gr.cells hb1; have hz1 := Gr.size hb1; (try simp at hz1); (try have hy1_0 : w.heap.size < w1.heap.size := by omega); (try have hy1_1 : w.heap.size + 1 < w1.heap.size := by omega); (try have hy1_2 : w.heap.size + 1 + 1 < w1.heap.size := by omega); (try have hy1_3 : w.heap.size + 1 + 1 + 1 < w1.heap.size := by omega); (try have hy1_4 : w.heap.size + 1 + 1 + 1 + 1 < w1.heap.size := by omega); (try have hy1_5 : w.heap.size + 1 + 1 + 1 + 1 + 1 < w1.heap.size := by omega); (try have hy1_W0_0 : W0.heap.size < w1.heap.size := by omega); (try have hy1_W0_1 : W0.heap.size + 1 < w1.heap.size := by omega)) | (go_at_call 31; refine (HS.out _).mono ?_; rintro e w2 ⟨rfl, hb2⟩; have q2 : Gr W0 w2 := (by repeat' (first | (with_reducible exact Gr.refl _) | (with_reducible assumption) | (with_reducible refine Gr.alloc ?_ _) | (with_reducible refine Gr.drew ?_) | (with_reducible refine Gr.drewN ?_ _) | (with_reducible refine Gr.setCell ?_ ?_ _) | (with_reducible refine Gr.trans ?_ (by with_reducible assumption)) | go_size)); have z2 := Gr.size q2; obtain ⟨hc2, hf2⟩ := Gr.cells hb2; have hz2 := Gr.size hb2; (try simp at hz2); (try have hy2_0 : w.heap.size < w2.heap.size := by omega); (try have hy2_1 : w.heap.size + 1 < w2.heap.size := by omega); (try have hy2_2 : w.heap.size + 1 + 1 < w2.heap.size := by omega); (try have hy2_3 : w.heap.size + 1 + 1 + 1 < w2.heap.size := by omega); (try have hy2_4 : w.heap.size + 1 + 1 + 1 + 1 < w2.heap.size := by omega); (try have hy2_5 : w.heap.size + 1 + 1 + 1 + 1 + 1 < w2.heap.size := by omega); (try have hy2_W0_0 : W0.heap.size < w2.heap.size := by omega); (try have hy2_W0_1 : W0.heap.size + 1 < w2.heap.size := by omega); (try have hy2_1_0 : w1.heap.size < w2.heap.size := by omega); (try have hy2_1_1 : w1.heap.size + 1 < w2.heap.size := by omega)))
        all_goals
          go_wp2
          go_ret
          exact ⟨rfl, (by repeat' (first | (with_reducible exact Gr.refl _) | (with_reducible assumption) | (with_reducible refine Gr.alloc ?_ _) | (with_reducible refine Gr.drew ?_) | (with_reducible refine Gr.drewN ?_ _) | (with_reducible refine Gr.setCell ?_ ?_ _) | (with_reducible refine Gr.trans ?_ (by with_reducible assumption)) | go_size))⟩
      · have h2' : (Wd.lo z == 0) = false := by simpa using h2
        rw [if_neg (by intro h; exact h2 h.2)]
        clear hn h1 h2
        go_enter Try.func33, Try.ntmps33
        go_wp2_with fail
        refine name_world ?_; intro W0 hW0
        have g0 : Gr w W0 := by rw [hW0]; exact (by repeat' (first | (with_reducible exact Gr.refl _) | (with_reducible assumption) | (with_reducible refine Gr.alloc ?_ _) | (with_reducible refine Gr.drew ?_) | (with_reducible refine Gr.drewN ?_ _) | (with_reducible refine Gr.setCell ?_ ?_ _) | (with_reducible refine Gr.trans ?_ (by with_reducible assumption)) | go_size))
        have k0_0 : ∀ w', Gr W0 w' → w'.cell? ⟨w.heap.size, 0, none⟩ = some (.int .u64 (Wd.hi x)) := fun w' hgW => by first | exact (Gr.at hgW (by rw [hW0]; simp [go_sem, *]))
        have k0_1 : ∀ w', Gr W0 w' → w'.cell? ⟨w.heap.size, 1, none⟩ = some (.int .u64 (Wd.lo x)) := fun w' hgW => by first | exact (Gr.at hgW (by rw [hW0]; simp [go_sem, *]))
        have k0_2 : ∀ w', Gr W0 w' → w'.cell? ⟨w.heap.size, 2, none⟩ = some (.bool s1) := fun w' hgW => by first | exact (Gr.at hgW (by rw [hW0]; simp [go_sem, *]))
        have k0_3 : ∀ w', Gr W0 w' → w'.cell? ⟨w.heap.size + 1, 0, none⟩ = some (.int .u64 (Wd.hi y)) := fun w' hgW => by first | exact (Gr.at hgW (by rw [hW0]; simp [go_sem, *]))
        have k0_4 : ∀ w', Gr W0 w' → w'.cell? ⟨w.heap.size + 1, 1, none⟩ = some (.int .u64 (Wd.lo y)) := fun w' hgW => by first | exact (Gr.at hgW (by rw [hW0]; simp [go_sem, *]))
        have k0_5 : ∀ w', Gr W0 w' → w'.cell? ⟨w.heap.size + 1, 2, none⟩ = some (.bool s2) := fun w' hgW => by first | exact (Gr.at hgW (by rw [hW0]; simp [go_sem, *]))
        clear hW0
        have zW0 := Gr.size g0
        go_region_held3 (fun w' => Gr W0 w') (repeat' (first | (with_reducible exact Gr.refl _) | (with_reducible assumption) | (with_reducible refine Gr.alloc ?_ _) | (with_reducible refine Gr.drew ?_) | (with_reducible refine Gr.drewN ?_ _) | (with_reducible refine Gr.setCell ?_ ?_ _) | (with_reducible refine Gr.trans ?_ (by with_reducible assumption)) | go_size)) (first | (go_at_call 32; refine (HO.out _).mono ?_; rintro e w1 ⟨rfl, hb1⟩; have q1 : Gr W0 w1 := (by repeat' (first | (with_reducible exact Gr.refl _) | (with_reducible assumption) | (with_reducible refine Gr.alloc ?_ _) | (with_reducible refine Gr.drew ?_) | (with_reducible refine Gr.drewN ?_ _) | (with_reducible refine Gr.setCell ?_ ?_ _) | (with_reducible refine Gr.trans ?_ (by with_reducible assumption)) | go_size)); have z1 := Gr.size q1; obtain ⟨hc1, hf1⟩ := Gr.cells hb1; have hz1 := Gr.size hb1; (try simp at hz1); (try have hy1_0 : w.heap.size < w1.heap.size := by omega); (try have hy1_1 : w.heap.size + 1 < w1.heap.size := by omega); (try have hy1_2 : w.heap.size + 1 + 1 < w1.heap.size := by omega); (try have hy1_3 : w.heap.size + 1 + 1 + 1 < w1.heap.size := by omega); (try have hy1_4 : w.heap.size + 1 + 1 + 1 + 1 < w1.heap.size := by omega); (try have hy1_5 : w.heap.size + 1 + 1 + 1 + 1 + 1 < w1.heap.size := by omega); (try have hy1_W0_0 : W0.heap.size < w1.heap.size := by omega); (try have hy1_W0_1 : W0.heap.size + 1 < w1.heap.size := by omega)) | (go_at_call 31; refine (HS.out _).mono ?_; rintro e w2 ⟨rfl, hb2⟩; have q2 : Gr W0 w2 := (by repeat' (first | (with_reducible exact Gr.refl _) | (with_reducible assumption) | (with_reducible refine Gr.alloc ?_ _) | (with_reducible refine Gr.drew ?_) | (with_reducible refine Gr.drewN ?_ _) | (with_reducible refine Gr.setCell ?_ ?_ _) | (with_reducible refine Gr.trans ?_ (by with_reducible assumption)) | go_size)); have z2 := Gr.size q2; obtain ⟨hc2, hf2⟩ := Gr.cells hb2; have hz2 := Gr.size hb2; (try simp at hz2); (try have hy2_0 : w.heap.size < w2.heap.size := by omega); (try have hy2_1 : w.heap.size + 1 < w2.heap.size := by omega); (try have hy2_2 : w.heap.size + 1 + 1 < w2.heap.size := by omega); (try have hy2_3 : w.heap.size + 1 + 1 + 1 < w2.heap.size := by omega); (try have hy2_4 : w.heap.size + 1 + 1 + 1 + 1 < w2.heap.size := by omega); (try have hy2_5 : w.heap.size + 1 + 1 + 1 + 1 + 1 < w2.heap.size := by omega); (try have hy2_W0_0 : W0.heap.size < w2.heap.size := by omega); (try have hy2_W0_1 : W0.heap.size + 1 < w2.heap.size := by omega); (try have hy2_1_0 : w1.heap.size < w2.heap.size := by omega); (try have hy2_1_1 : w1.heap.size + 1 < w2.heap.size := by omega)))
        all_goals
          go_wp2
          go_ret
          exact ⟨rfl, (by repeat' (first | (with_reducible exact Gr.refl _) | (with_reducible assumption) | (with_reducible refine Gr.alloc ?_ _) | (with_reducible refine Gr.drew ?_) | (with_reducible refine Gr.drewN ?_ _) | (with_reducible refine Gr.setCell ?_ ?_ _) | (with_reducible refine Gr.trans ?_ (by with_reducible assumption)) | go_size))⟩
    · have h1' : (Wd.hi z == 0) = false := by simpa using h1
      rw [if_neg (by intro h; exact h1 h.1)]
      clear hn h1
      go_enter Try.func33, Try.ntmps33
      go_wp2_with fail
      refine name_world ?_; intro W0 hW0
      have g0 : Gr w W0 := by rw [hW0]; exact (by repeat' (first | (with_reducible exact Gr.refl _) | (with_reducible assumption) | (with_reducible refine Gr.alloc ?_ _) | (with_reducible refine Gr.drew ?_) | (with_reducible refine Gr.drewN ?_ _) | (with_reducible refine Gr.setCell ?_ ?_ _) | (with_reducible refine Gr.trans ?_ (by with_reducible assumption)) | go_size))
      have k0_0 : ∀ w', Gr W0 w' → w'.cell? ⟨w.heap.size, 0, none⟩ = some (.int .u64 (Wd.hi x)) := fun w' hgW => by first | exact (Gr.at hgW (by rw [hW0]; simp [go_sem, *]))
      have k0_1 : ∀ w', Gr W0 w' → w'.cell? ⟨w.heap.size, 1, none⟩ = some (.int .u64 (Wd.lo x)) := fun w' hgW => by first | exact (Gr.at hgW (by rw [hW0]; simp [go_sem, *]))
      have k0_2 : ∀ w', Gr W0 w' → w'.cell? ⟨w.heap.size, 2, none⟩ = some (.bool s1) := fun w' hgW => by first | exact (Gr.at hgW (by rw [hW0]; simp [go_sem, *]))
      have k0_3 : ∀ w', Gr W0 w' → w'.cell? ⟨w.heap.size + 1, 0, none⟩ = some (.int .u64 (Wd.hi y)) := fun w' hgW => by first | exact (Gr.at hgW (by rw [hW0]; simp [go_sem, *]))
      have k0_4 : ∀ w', Gr W0 w' → w'.cell? ⟨w.heap.size + 1, 1, none⟩ = some (.int .u64 (Wd.lo y)) := fun w' hgW => by first | exact (Gr.at hgW (by rw [hW0]; simp [go_sem, *]))
      have k0_5 : ∀ w', Gr W0 w' → w'.cell? ⟨w.heap.size + 1, 2, none⟩ = some (.bool s2) := fun w' hgW => by first | exact (Gr.at hgW (by rw [hW0]; simp [go_sem, *]))
      clear hW0
      have zW0 := Gr.size g0
      go_region_held3 (fun w' => Gr W0 w') (repeat' (first | (with_reducible exact Gr.refl _) | (with_reducible assumption) | (with_reducible refine Gr.alloc ?_ _) | (with_reducible refine Gr.drew ?_) | (with_reducible refine Gr.drewN ?_ _) | (with_reducible refine Gr.setCell ?_ ?_ _) | (with_reducible refine Gr.trans ?_ (by with_reducible assumption)) | go_size)) (first | (go_at_call 32; refine (HO.out _).mono ?_; rintro e w1 ⟨rfl, hb1⟩; have q1 : Gr W0 w1 := (by repeat' (first | (with_reducible exact Gr.refl _) | (with_reducible assumption) | (with_reducible refine Gr.alloc ?_ _) | (with_reducible refine Gr.drew ?_) | (with_reducible refine Gr.drewN ?_ _) | (with_reducible refine Gr.setCell ?_ ?_ _) | (with_reducible refine Gr.trans ?_ (by with_reducible assumption)) | go_size)); have z1 := Gr.size q1; obtain ⟨hc1, hf1⟩ := Gr.cells hb1; have hz1 := Gr.size hb1; (try simp at hz1); (try have hy1_0 : w.heap.size < w1.heap.size := by omega); (try have hy1_1 : w.heap.size + 1 < w1.heap.size := by omega); (try have hy1_2 : w.heap.size + 1 + 1 < w1.heap.size := by omega); (try have hy1_3 : w.heap.size + 1 + 1 + 1 < w1.heap.size := by omega); (try have hy1_4 : w.heap.size + 1 + 1 + 1 + 1 < w1.heap.size := by omega); (try have hy1_5 : w.heap.size + 1 + 1 + 1 + 1 + 1 < w1.heap.size := by omega); (try have hy1_W0_0 : W0.heap.size < w1.heap.size := by omega); (try have hy1_W0_1 : W0.heap.size + 1 < w1.heap.size := by omega)) | (go_at_call 31; refine (HS.out _).mono ?_; rintro e w2 ⟨rfl, hb2⟩; have q2 : Gr W0 w2 := (by repeat' (first | (with_reducible exact Gr.refl _) | (with_reducible assumption) | (with_reducible refine Gr.alloc ?_ _) | (with_reducible refine Gr.drew ?_) | (with_reducible refine Gr.drewN ?_ _) | (with_reducible refine Gr.setCell ?_ ?_ _) | (with_reducible refine Gr.trans ?_ (by with_reducible assumption)) | go_size)); have z2 := Gr.size q2; obtain ⟨hc2, hf2⟩ := Gr.cells hb2; have hz2 := Gr.size hb2; (try simp at hz2); (try have hy2_0 : w.heap.size < w2.heap.size := by omega); (try have hy2_1 : w.heap.size + 1 < w2.heap.size := by omega); (try have hy2_2 : w.heap.size + 1 + 1 < w2.heap.size := by omega); (try have hy2_3 : w.heap.size + 1 + 1 + 1 < w2.heap.size := by omega); (try have hy2_4 : w.heap.size + 1 + 1 + 1 + 1 < w2.heap.size := by omega); (try have hy2_5 : w.heap.size + 1 + 1 + 1 + 1 + 1 < w2.heap.size := by omega); (try have hy2_W0_0 : W0.heap.size < w2.heap.size := by omega); (try have hy2_W0_1 : W0.heap.size + 1 < w2.heap.size := by omega); (try have hy2_1_0 : w1.heap.size < w2.heap.size := by omega); (try have hy2_1_1 : w1.heap.size + 1 < w2.heap.size := by omega)))
      all_goals
        go_wp2
        go_ret
        exact ⟨rfl, (by repeat' (first | (with_reducible exact Gr.refl _) | (with_reducible assumption) | (with_reducible refine Gr.alloc ?_ _) | (with_reducible refine Gr.drew ?_) | (with_reducible refine Gr.drewN ?_ _) | (with_reducible refine Gr.setCell ?_ ?_ _) | (with_reducible refine Gr.trans ?_ (by with_reducible assumption)) | go_size))⟩
  · rw [hn] at HS
    simp only [if_true]
    clear hn
    go_enter Try.func33, Try.ntmps33
    go_wp2_with fail
    refine name_world ?_; intro W0 hW0
    have g0 : Gr w W0 := by rw [hW0]; exact (by repeat' (first | (with_reducible exact Gr.refl _) | (with_reducible assumption) | (with_reducible refine Gr.alloc ?_ _) | (with_reducible refine Gr.drew ?_) | (with_reducible refine Gr.drewN ?_ _) | (with_reducible refine Gr.setCell ?_ ?_ _) | (with_reducible refine Gr.trans ?_ (by with_reducible assumption)) | go_size))
    have k0_0 : ∀ w', Gr W0 w' → w'.cell? ⟨w.heap.size, 0, none⟩ = some (.int .u64 (Wd.hi x)) := fun w' hgW => by first | exact (Gr.at hgW (by rw [hW0]; simp [go_sem, *]))
    have k0_1 : ∀ w', Gr W0 w' → w'.cell? ⟨w.heap.size, 1, none⟩ = some (.int .u64 (Wd.lo x)) := fun w' hgW => by first | exact (Gr.at hgW (by rw [hW0]; simp [go_sem, *]))
    have k0_2 : ∀ w', Gr W0 w' → w'.cell? ⟨w.heap.size, 2, none⟩ = some (.bool s1) := fun w' hgW => by first | exact (Gr.at hgW (by rw [hW0]; simp [go_sem, *]))
    have k0_3 : ∀ w', Gr W0 w' → w'.cell? ⟨w.heap.size + 1, 0, none⟩ = some (.int .u64 (Wd.hi y)) := fun w' hgW => by first | exact (Gr.at hgW (by rw [hW0]; simp [go_sem, *]))
    have k0_4 : ∀ w', Gr W0 w' → w'.cell? ⟨w.heap.size + 1, 1, none⟩ = some (.int .u64 (Wd.lo y)) := fun w' hgW => by first | exact (Gr.at hgW (by rw [hW0]; simp [go_sem, *]))
    have k0_5 : ∀ w', Gr W0 w' → w'.cell? ⟨w.heap.size + 1, 2, none⟩ = some (.bool s2) := fun w' hgW => by first | exact (Gr.at hgW (by rw [hW0]; simp [go_sem, *]))
    clear hW0
    have zW0 := Gr.size g0
    go_region_held3 (fun w' => Gr W0 w') (repeat' (first | (with_reducible exact Gr.refl _) | (with_reducible assumption) | (with_reducible refine Gr.alloc ?_ _) | (with_reducible refine Gr.drew ?_) | (with_reducible refine Gr.drewN ?_ _) | (with_reducible refine Gr.setCell ?_ ?_ _) | (with_reducible refine Gr.trans ?_ (by with_reducible assumption)) | go_size)) (first | (go_at_call 32; refine (HO.out _).mono ?_; rintro e w1 ⟨rfl, hb1⟩; have q1 : Gr W0 w1 := (by repeat' (first | (with_reducible exact Gr.refl _) | (with_reducible assumption) | (with_reducible refine Gr.alloc ?_ _) | (with_reducible refine Gr.drew ?_) | (with_reducible refine Gr.drewN ?_ _) | (with_reducible refine Gr.setCell ?_ ?_ _) | (with_reducible refine Gr.trans ?_ (by with_reducible assumption)) | go_size)); have z1 := Gr.size q1; obtain ⟨hc1, hf1⟩ := Gr.cells hb1; have hz1 := Gr.size hb1; (try simp at hz1); (try have hy1_0 : w.heap.size < w1.heap.size := by omega); (try have hy1_1 : w.heap.size + 1 < w1.heap.size := by omega); (try have hy1_2 : w.heap.size + 1 + 1 < w1.heap.size := by omega); (try have hy1_3 : w.heap.size + 1 + 1 + 1 < w1.heap.size := by omega); (try have hy1_4 : w.heap.size + 1 + 1 + 1 + 1 < w1.heap.size := by omega); (try have hy1_5 : w.heap.size + 1 + 1 + 1 + 1 + 1 < w1.heap.size := by omega); (try have hy1_W0_0 : W0.heap.size < w1.heap.size := by omega); (try have hy1_W0_1 : W0.heap.size + 1 < w1.heap.size := by omega)) | (go_at_call 31; refine (HS.out _).mono ?_; rintro e w2 ⟨rfl, hb2⟩; have q2 : Gr W0 w2 := (by repeat' (first | (with_reducible exact Gr.refl _) | (with_reducible assumption) | (with_reducible refine Gr.alloc ?_ _) | (with_reducible refine Gr.drew ?_) | (with_reducible refine Gr.drewN ?_ _) | (with_reducible refine Gr.setCell ?_ ?_ _) | (with_reducible refine Gr.trans ?_ (by with_reducible assumption)) | go_size)); have z2 := Gr.size q2; obtain ⟨hc2, hf2⟩ := Gr.cells hb2; have hz2 := Gr.size hb2; (try simp at hz2); (try have hy2_0 : w.heap.size < w2.heap.size := by omega); (try have hy2_1 : w.heap.size + 1 < w2.heap.size := by omega); (try have hy2_2 : w.heap.size + 1 + 1 < w2.heap.size := by omega); (try have hy2_3 : w.heap.size + 1 + 1 + 1 < w2.heap.size := by omega); (try have hy2_4 : w.heap.size + 1 + 1 + 1 + 1 < w2.heap.size := by omega); (try have hy2_5 : w.heap.size + 1 + 1 + 1 + 1 + 1 < w2.heap.size := by omega); (try have hy2_W0_0 : W0.heap.size < w2.heap.size := by omega); (try have hy2_W0_1 : W0.heap.size + 1 < w2.heap.size := by omega); (try have hy2_1_0 : w1.heap.size < w2.heap.size := by omega); (try have hy2_1_1 : w1.heap.size + 1 < w2.heap.size := by omega)))
    all_goals
      go_wp2
      go_ret
      exact ⟨rfl, (by repeat' (first | (with_reducible exact Gr.refl _) | (with_reducible assumption) | (with_reducible refine Gr.alloc ?_ _) | (with_reducible refine Gr.drew ?_) | (with_reducible refine Gr.drewN ?_ _) | (with_reducible refine Gr.setCell ?_ ?_ _) | (with_reducible refine Gr.trans ?_ (by with_reducible assumption)) | go_size))⟩
end Go.Proofs.Ytbaahlofabmljaa
