import Derived.Test.YtbaahlofabmljaaWdRefF
set_option linter.unusedVariables false
set_option linter.unusedSimpArgs false
namespace Go.Proofs.Ytbaahlofabmljaa
open Go.RowKit
namespace Wd
theorem flr_same {x y : Int} (hy : y ≠ 0) (h : neg x = neg y) : sg false (mag x / mag y) = flr x y := by
  rw [flr_mag x y hy, h]; simp [sg]
theorem flr_even {x y : Int} (hy : y ≠ 0) (h : neg x ≠ neg y) (hr : mag x % mag y = 0) : sg true (mag x / mag y) = flr x y := by
  rw [flr_mag x y hy]
  have : (neg x != neg y) = true := by cases h1 : neg x <;> cases h2 : neg y <;> simp_all
  rw [this]; unfold inc sg; simp [hr]
theorem flr_odd {x y : Int} (hy : y ≠ 0) (h : neg x ≠ neg y) (hr : 0 < mag x % mag y) : sg true (mag x / mag y + 1) = flr x y := by
  rw [flr_mag x y hy]
  have : (neg x != neg y) = true := by cases h1 : neg x <;> cases h2 : neg y <;> simp_all
  rw [this]; unfold inc sg; simp [hr]
theorem hi_one : hi 1 = 0 ∧ lo 1 = 1 ∧ mag 1 = 1 := by decide
theorem div_le {m d : Int} (hm : 0 ≤ m) (hd : 0 < d) : 0 ≤ m / d ∧ m / d ≤ m := by
  refine ⟨Int.ediv_nonneg hm (by omega), ?_⟩
  exact Int.ediv_le_self _ hm
end Wd
set_option maxHeartbeats 1000000 in
theorem rdown_any (x y : Int) (w : World) (hx : Wd.hi x ≤ 18446744073709551614) (hy : Wd.hi y ≤ 18446744073709551615) (hy0 : y ≠ 0) :
    Calls Try.prog 37 #[.agg #[.int .u64 (Wd.hi x), .int .u64 (Wd.lo x), .bool (Wd.neg x)], .agg #[.int .u64 (Wd.hi y), .int .u64 (Wd.lo y), .bool (Wd.neg y)]] w fun e w' => e = .returned (.agg #[.int .u64 (Wd.hi (Wd.flr x y)), .int .u64 (Wd.lo (Wd.flr x y)), .bool (Wd.neg (Wd.flr x y))]) ∧ Gr w w' := by
  have my := Wd.mag_nonneg y
  have mx := Wd.mag_nonneg x
  have my0 : Wd.mag y ≠ 0 := fun h => hy0 (Wd.mag_zero.1 h)
  have hd : ∀ W : World, Calls Try.prog 57 #[.agg #[.int .u64 (Wd.hi x), .int .u64 (Wd.lo x)], .agg #[.int .u64 (Wd.hi y), .int .u64 (Wd.lo y)]] W fun e w' => e = .returned (.tuple #[.agg #[.int .u64 (Wd.hi (Wd.mag x / Wd.mag y)), .int .u64 (Wd.lo (Wd.mag x / Wd.mag y))], .agg #[.int .u64 (Wd.hi (Wd.mag x % Wd.mag y)), .int .u64 (Wd.lo (Wd.mag x % Wd.mag y))]]) ∧ Gr W w' := fun W => rdiv_any x y W (by omega) hy (by omega)
  obtain ⟨d0, d1⟩ := Wd.div_le mx (show 0 < Wd.mag y by omega)
  have r0 := Int.emod_nonneg (Wd.mag x) my0
  have hm : ∀ W b, Calls Try.prog 40 #[.agg #[.int .u64 (Wd.hi (Wd.mag x / Wd.mag y)), .int .u64 (Wd.lo (Wd.mag x / Wd.mag y))], .bool b] W fun e w' => e = .returned (.agg #[.int .u64 (Wd.hi (Wd.sg b (Wd.mag x / Wd.mag y))), .int .u64 (Wd.lo (Wd.sg b (Wd.mag x / Wd.mag y))), .bool (Wd.neg (Wd.sg b (Wd.mag x / Wd.mag y)))]) ∧ Gr W w' := fun W b => rmade_any _ b W d0
  by_cases hs : Wd.neg x = Wd.neg y
  · have hm1 := fun W => hm W false
    rw [Wd.flr_same hy0 hs] at hm1
    have HD := Lib.hid hd; have HM := Lib.hid hm1
    clear hd hm hm1 r0 d0 d1 mx my my0
    generalize Wd.mag x / Wd.mag y = q at *
    generalize Wd.mag x % Wd.mag y = r at *
    have hss : (Wd.neg x == Wd.neg y) = true := by simp [hs]
    generalize Wd.neg x = s at *
    generalize Wd.neg y = t at *
    clear hs
    go_enter Try.func37, Try.ntmps37
    go_wp2_with fail; refine (HD.out _).mono ?_; rintro e w1 ⟨rfl, hb1⟩; obtain ⟨hc1, hf1⟩ := Gr.cells hb1; have hz1 := Gr.size hb1; (try simp at hz1); (try have hy1_0 : w.heap.size < w1.heap.size := by omega); (try have hy1_1 : w.heap.size + 1 < w1.heap.size := by omega); (try have hy1_2 : w.heap.size + 1 + 1 < w1.heap.size := by omega); (try have hy1_3 : w.heap.size + 1 + 1 + 1 < w1.heap.size := by omega); (try have hy1_4 : w.heap.size + 1 + 1 + 1 + 1 < w1.heap.size := by omega); (try have hy1_5 : w.heap.size + 1 + 1 + 1 + 1 + 1 < w1.heap.size := by omega)
    have kc1_0 := hc1 (w.heap.size) 0 (by first | omega | (simp; done) | (simp; omega))
    have kc1_1 := hc1 (w.heap.size) 1 (by first | omega | (simp; done) | (simp; omega))
    have kc1_2 := hc1 (w.heap.size) 2 (by first | omega | (simp; done) | (simp; omega))
    have kc1_3 := hc1 (w.heap.size + 1) 0 (by first | omega | (simp; done) | (simp; omega))
    have kc1_4 := hc1 (w.heap.size + 1) 1 (by first | omega | (simp; done) | (simp; omega))
    have kc1_5 := hc1 (w.heap.size + 1) 2 (by first | omega | (simp; done) | (simp; omega))
    have kc1_6 := hc1 (w.heap.size + 1 + 1) 0 (by first | omega | (simp; done) | (simp; omega))
    have kc1_7 := hc1 (w.heap.size + 1 + 1) 1 (by first | omega | (simp; done) | (simp; omega))
    have kc1_8 := hc1 (w.heap.size + 1 + 1) 2 (by first | omega | (simp; done) | (simp; omega))
    clear hc1
    (try simp [go_sem, *] at kc1_0)
    (try simp [go_sem, *] at kc1_1)
    (try simp [go_sem, *] at kc1_2)
    (try simp [go_sem, *] at kc1_3)
    (try simp [go_sem, *] at kc1_4)
    (try simp [go_sem, *] at kc1_5)
    (try simp [go_sem, *] at kc1_6)
    (try simp [go_sem, *] at kc1_7)
    (try simp [go_sem, *] at kc1_8)
    go_wp2_with fail; refine (HM.out _).mono ?_; rintro e w2 ⟨rfl, hb2⟩; obtain ⟨hc2, hf2⟩ := Gr.cells hb2; have hz2 := Gr.size hb2; (try simp at hz2); (try have hy2_0 : w.heap.size < w2.heap.size := by omega); (try have hy2_1 : w.heap.size + 1 < w2.heap.size := by omega); (try have hy2_2 : w.heap.size + 1 + 1 < w2.heap.size := by omega); (try have hy2_3 : w.heap.size + 1 + 1 + 1 < w2.heap.size := by omega); (try have hy2_4 : w.heap.size + 1 + 1 + 1 + 1 < w2.heap.size := by omega); (try have hy2_5 : w.heap.size + 1 + 1 + 1 + 1 + 1 < w2.heap.size := by omega); (try have hy2_1_0 : w1.heap.size < w2.heap.size := by omega); (try have hy2_1_1 : w1.heap.size + 1 < w2.heap.size := by omega)
    have kc2_0 := hc2 (w.heap.size + 1 + 1) 0 (by first | omega | (simp; done) | (simp; omega))
    have kc2_1 := hc2 (w.heap.size + 1 + 1) 1 (by first | omega | (simp; done) | (simp; omega))
    have kc2_2 := hc2 (w.heap.size + 1 + 1) 2 (by first | omega | (simp; done) | (simp; omega))
    clear hc2
    (try simp [go_sem, *] at kc2_0)
    (try simp [go_sem, *] at kc2_1)
    (try simp [go_sem, *] at kc2_2)
    go_wp2
    refine bodyPost_ret (by simp [results, Try.results37, go_sem, kc2_0, kc2_1, kc2_2]; try rfl) rfl ?_
    exact ⟨by first | rfl | (simp; done), (by repeat' (first | (with_reducible exact Gr.refl _) | (with_reducible assumption) | (with_reducible refine Gr.alloc ?_ _) | (with_reducible refine Gr.drew ?_) | (with_reducible refine Gr.drewN ?_ _) | (with_reducible refine Gr.setCell ?_ ?_ _) | (with_reducible refine Gr.trans ?_ (by with_reducible assumption)) | go_size))⟩
  · have hss : (Wd.neg x == Wd.neg y) = false := by simpa using hs
    by_cases hr : Wd.mag x % Wd.mag y = 0
    · have hm1 := fun W => hm W true
      rw [Wd.flr_even hy0 hs hr] at hm1
      have hz : Wd.hi 0 = 0 ∧ Wd.lo 0 = 0 := by decide
      rw [hr, hz.1, hz.2] at hd
      have HD := Lib.hid hd; have HM := Lib.hid hm1
      clear hd hm hm1 r0 d0 d1 mx my my0 hs hr hz
      generalize Wd.mag x / Wd.mag y = q at *
      generalize Wd.neg x = s at *
      generalize Wd.neg y = t at *
      go_enter Try.func37, Try.ntmps37
      go_wp2_with fail; refine (HD.out _).mono ?_; rintro e w1 ⟨rfl, hb1⟩; obtain ⟨hc1, hf1⟩ := Gr.cells hb1; have hz1 := Gr.size hb1; (try simp at hz1); (try have hy1_0 : w.heap.size < w1.heap.size := by omega); (try have hy1_1 : w.heap.size + 1 < w1.heap.size := by omega); (try have hy1_2 : w.heap.size + 1 + 1 < w1.heap.size := by omega); (try have hy1_3 : w.heap.size + 1 + 1 + 1 < w1.heap.size := by omega); (try have hy1_4 : w.heap.size + 1 + 1 + 1 + 1 < w1.heap.size := by omega); (try have hy1_5 : w.heap.size + 1 + 1 + 1 + 1 + 1 < w1.heap.size := by omega)
      have kc1_0 := hc1 (w.heap.size) 0 (by first | omega | (simp; done) | (simp; omega))
      have kc1_1 := hc1 (w.heap.size) 1 (by first | omega | (simp; done) | (simp; omega))
      have kc1_2 := hc1 (w.heap.size) 2 (by first | omega | (simp; done) | (simp; omega))
      have kc1_3 := hc1 (w.heap.size + 1) 0 (by first | omega | (simp; done) | (simp; omega))
      have kc1_4 := hc1 (w.heap.size + 1) 1 (by first | omega | (simp; done) | (simp; omega))
      have kc1_5 := hc1 (w.heap.size + 1) 2 (by first | omega | (simp; done) | (simp; omega))
      have kc1_6 := hc1 (w.heap.size + 1 + 1) 0 (by first | omega | (simp; done) | (simp; omega))
      have kc1_7 := hc1 (w.heap.size + 1 + 1) 1 (by first | omega | (simp; done) | (simp; omega))
      have kc1_8 := hc1 (w.heap.size + 1 + 1) 2 (by first | omega | (simp; done) | (simp; omega))
      clear hc1
      (try simp [go_sem, *] at kc1_0)
      (try simp [go_sem, *] at kc1_1)
      (try simp [go_sem, *] at kc1_2)
      (try simp [go_sem, *] at kc1_3)
      (try simp [go_sem, *] at kc1_4)
      (try simp [go_sem, *] at kc1_5)
      (try simp [go_sem, *] at kc1_6)
      (try simp [go_sem, *] at kc1_7)
      (try simp [go_sem, *] at kc1_8)
      go_wp2_with fail; refine (HM.out _).mono ?_; rintro e w2 ⟨rfl, hb2⟩; obtain ⟨hc2, hf2⟩ := Gr.cells hb2; have hz2 := Gr.size hb2; (try simp at hz2); (try have hy2_0 : w.heap.size < w2.heap.size := by omega); (try have hy2_1 : w.heap.size + 1 < w2.heap.size := by omega); (try have hy2_2 : w.heap.size + 1 + 1 < w2.heap.size := by omega); (try have hy2_3 : w.heap.size + 1 + 1 + 1 < w2.heap.size := by omega); (try have hy2_4 : w.heap.size + 1 + 1 + 1 + 1 < w2.heap.size := by omega); (try have hy2_5 : w.heap.size + 1 + 1 + 1 + 1 + 1 < w2.heap.size := by omega); (try have hy2_1_0 : w1.heap.size < w2.heap.size := by omega); (try have hy2_1_1 : w1.heap.size + 1 < w2.heap.size := by omega)
      have kc2_0 := hc2 (w.heap.size + 1 + 1) 0 (by first | omega | (simp; done) | (simp; omega))
      have kc2_1 := hc2 (w.heap.size + 1 + 1) 1 (by first | omega | (simp; done) | (simp; omega))
      have kc2_2 := hc2 (w.heap.size + 1 + 1) 2 (by first | omega | (simp; done) | (simp; omega))
      clear hc2
      (try simp [go_sem, *] at kc2_0)
      (try simp [go_sem, *] at kc2_1)
      (try simp [go_sem, *] at kc2_2)
      go_wp2
      refine bodyPost_ret (by simp [results, Try.results37, go_sem, kc2_0, kc2_1, kc2_2]; try rfl) rfl ?_
      exact ⟨by first | rfl | (simp; done), (by repeat' (first | (with_reducible exact Gr.refl _) | (with_reducible assumption) | (with_reducible refine Gr.alloc ?_ _) | (with_reducible refine Gr.drew ?_) | (with_reducible refine Gr.drewN ?_ _) | (with_reducible refine Gr.setCell ?_ ?_ _) | (with_reducible refine Gr.trans ?_ (by with_reducible assumption)) | go_size))⟩
    · have e1 := Wd.hilo x
      have l1 := Wd.lo_lt x
      have hp : ∀ W : World, Calls Try.prog 53 #[.agg #[.int .u64 (Wd.hi (Wd.mag x / Wd.mag y)), .int .u64 (Wd.lo (Wd.mag x / Wd.mag y))], .agg #[.int .u64 0, .int .u64 1]] W fun e w' => e = .returned (.agg #[.int .u64 (Wd.hi (Wd.mag x / Wd.mag y + 1)), .int .u64 (Wd.lo (Wd.mag x / Wd.mag y + 1))]) ∧ Gr W w' := fun W => by
        have := rplus_any (Wd.mag x / Wd.mag y) 1 W (by rw [Wd.mag_of_nonneg d0, Wd.hi_one.2.2]; omega)
        rw [Wd.mag_of_nonneg d0, Wd.hi_one.2.2, Wd.hi_one.1, Wd.hi_one.2.1] at this; exact this
      have hm1 : ∀ W, Calls Try.prog 40 #[.agg #[.int .u64 (Wd.hi (Wd.mag x / Wd.mag y + 1)), .int .u64 (Wd.lo (Wd.mag x / Wd.mag y + 1))], .bool true] W fun e w' => e = .returned (.agg #[.int .u64 (Wd.hi (Wd.flr x y)), .int .u64 (Wd.lo (Wd.flr x y)), .bool (Wd.neg (Wd.flr x y))]) ∧ Gr W w' := fun W => by
        have := rmade_any (Wd.mag x / Wd.mag y + 1) true W (by omega)
        rw [Wd.flr_odd hy0 hs (by omega)] at this; exact this
      have er := Wd.hilo (Wd.mag x % Wd.mag y)
      rw [Wd.mag_of_nonneg r0] at er
      have HD := Lib.hid hd; have HM := Lib.hid hm1; have HP := Lib.hid hp
      by_cases hh : Wd.hi (Wd.mag x % Wd.mag y) = 0
      · have hl : (Wd.lo (Wd.mag x % Wd.mag y) == 0) = false := by simp; omega
        rw [hh] at HD
        clear hd hm hm1 hp r0 d0 d1 mx my my0 hs hr er e1 l1 hh
        generalize Wd.mag x / Wd.mag y = q at *
        generalize Wd.mag x % Wd.mag y = r at *
        generalize Wd.neg x = s at *
        generalize Wd.neg y = t at *
        go_enter Try.func37, Try.ntmps37
        go_wp2_with fail; refine (HD.out _).mono ?_; rintro e w1 ⟨rfl, hb1⟩; obtain ⟨hc1, hf1⟩ := Gr.cells hb1; have hz1 := Gr.size hb1; (try simp at hz1); (try have hy1_0 : w.heap.size < w1.heap.size := by omega); (try have hy1_1 : w.heap.size + 1 < w1.heap.size := by omega); (try have hy1_2 : w.heap.size + 1 + 1 < w1.heap.size := by omega); (try have hy1_3 : w.heap.size + 1 + 1 + 1 < w1.heap.size := by omega); (try have hy1_4 : w.heap.size + 1 + 1 + 1 + 1 < w1.heap.size := by omega); (try have hy1_5 : w.heap.size + 1 + 1 + 1 + 1 + 1 < w1.heap.size := by omega)
        have kc1_0 := hc1 (w.heap.size) 0 (by first | omega | (simp; done) | (simp; omega))
        have kc1_1 := hc1 (w.heap.size) 1 (by first | omega | (simp; done) | (simp; omega))
        have kc1_2 := hc1 (w.heap.size) 2 (by first | omega | (simp; done) | (simp; omega))
        have kc1_3 := hc1 (w.heap.size + 1) 0 (by first | omega | (simp; done) | (simp; omega))
        have kc1_4 := hc1 (w.heap.size + 1) 1 (by first | omega | (simp; done) | (simp; omega))
        have kc1_5 := hc1 (w.heap.size + 1) 2 (by first | omega | (simp; done) | (simp; omega))
        have kc1_6 := hc1 (w.heap.size + 1 + 1) 0 (by first | omega | (simp; done) | (simp; omega))
        have kc1_7 := hc1 (w.heap.size + 1 + 1) 1 (by first | omega | (simp; done) | (simp; omega))
        have kc1_8 := hc1 (w.heap.size + 1 + 1) 2 (by first | omega | (simp; done) | (simp; omega))
        clear hc1
        (try simp [go_sem, *] at kc1_0)
        (try simp [go_sem, *] at kc1_1)
        (try simp [go_sem, *] at kc1_2)
        (try simp [go_sem, *] at kc1_3)
        (try simp [go_sem, *] at kc1_4)
        (try simp [go_sem, *] at kc1_5)
        (try simp [go_sem, *] at kc1_6)
        (try simp [go_sem, *] at kc1_7)
        (try simp [go_sem, *] at kc1_8)
        go_wp2_with fail; refine (HP.out _).mono ?_; rintro e w2 ⟨rfl, hb2⟩; obtain ⟨hc2, hf2⟩ := Gr.cells hb2; have hz2 := Gr.size hb2; (try simp at hz2); (try have hy2_0 : w.heap.size < w2.heap.size := by omega); (try have hy2_1 : w.heap.size + 1 < w2.heap.size := by omega); (try have hy2_2 : w.heap.size + 1 + 1 < w2.heap.size := by omega); (try have hy2_3 : w.heap.size + 1 + 1 + 1 < w2.heap.size := by omega); (try have hy2_4 : w.heap.size + 1 + 1 + 1 + 1 < w2.heap.size := by omega); (try have hy2_5 : w.heap.size + 1 + 1 + 1 + 1 + 1 < w2.heap.size := by omega); (try have hy2_1_0 : w1.heap.size < w2.heap.size := by omega); (try have hy2_1_1 : w1.heap.size + 1 < w2.heap.size := by omega)
        have kc2_0 := hc2 (w.heap.size) 0 (by first | omega | (simp; done) | (simp; omega))
        have kc2_1 := hc2 (w.heap.size) 1 (by first | omega | (simp; done) | (simp; omega))
        have kc2_2 := hc2 (w.heap.size) 2 (by first | omega | (simp; done) | (simp; omega))
        have kc2_3 := hc2 (w.heap.size + 1) 0 (by first | omega | (simp; done) | (simp; omega))
        have kc2_4 := hc2 (w.heap.size + 1) 1 (by first | omega | (simp; done) | (simp; omega))
        have kc2_5 := hc2 (w.heap.size + 1) 2 (by first | omega | (simp; done) | (simp; omega))
        have kc2_6 := hc2 (w.heap.size + 1 + 1) 0 (by first | omega | (simp; done) | (simp; omega))
        have kc2_7 := hc2 (w.heap.size + 1 + 1) 1 (by first | omega | (simp; done) | (simp; omega))
        have kc2_8 := hc2 (w.heap.size + 1 + 1) 2 (by first | omega | (simp; done) | (simp; omega))
        have kc2_9 := hc2 (w1.heap.size) 0 (by first | omega | (simp; done) | (simp; omega))
        have kc2_10 := hc2 (w1.heap.size) 1 (by first | omega | (simp; done) | (simp; omega))
        have kc2_11 := hc2 (w1.heap.size + 1) 0 (by first | omega | (simp; done) | (simp; omega))
        have kc2_12 := hc2 (w1.heap.size + 1) 1 (by first | omega | (simp; done) | (simp; omega))
        clear hc2
        (try simp [go_sem, *] at kc2_0)
        (try simp [go_sem, *] at kc2_1)
        (try simp [go_sem, *] at kc2_2)
        (try simp [go_sem, *] at kc2_3)
        (try simp [go_sem, *] at kc2_4)
        (try simp [go_sem, *] at kc2_5)
        (try simp [go_sem, *] at kc2_6)
        (try simp [go_sem, *] at kc2_7)
        (try simp [go_sem, *] at kc2_8)
        (try simp [go_sem, *] at kc2_9)
        (try simp [go_sem, *] at kc2_10)
        (try simp [go_sem, *] at kc2_11)
        (try simp [go_sem, *] at kc2_12)
        go_wp2_with fail; refine (HM.out _).mono ?_; rintro e w3 ⟨rfl, hb3⟩; obtain ⟨hc3, hf3⟩ := Gr.cells hb3; have hz3 := Gr.size hb3; (try simp at hz3); (try have hy3_0 : w.heap.size < w3.heap.size := by omega); (try have hy3_1 : w.heap.size + 1 < w3.heap.size := by omega); (try have hy3_2 : w.heap.size + 1 + 1 < w3.heap.size := by omega); (try have hy3_3 : w.heap.size + 1 + 1 + 1 < w3.heap.size := by omega); (try have hy3_4 : w.heap.size + 1 + 1 + 1 + 1 < w3.heap.size := by omega); (try have hy3_5 : w.heap.size + 1 + 1 + 1 + 1 + 1 < w3.heap.size := by omega); (try have hy3_1_0 : w1.heap.size < w3.heap.size := by omega); (try have hy3_1_1 : w1.heap.size + 1 < w3.heap.size := by omega); (try have hy3_2_0 : w2.heap.size < w3.heap.size := by omega); (try have hy3_2_1 : w2.heap.size + 1 < w3.heap.size := by omega)
        have kc3_0 := hc3 (w.heap.size + 1 + 1) 0 (by first | omega | (simp; done) | (simp; omega))
        have kc3_1 := hc3 (w.heap.size + 1 + 1) 1 (by first | omega | (simp; done) | (simp; omega))
        have kc3_2 := hc3 (w.heap.size + 1 + 1) 2 (by first | omega | (simp; done) | (simp; omega))
        clear hc3
        (try simp [go_sem, *] at kc3_0)
        (try simp [go_sem, *] at kc3_1)
        (try simp [go_sem, *] at kc3_2)
        go_wp2
        refine bodyPost_ret (by simp [results, Try.results37, go_sem, kc3_0, kc3_1, kc3_2]; try rfl) rfl ?_
        exact ⟨by first | rfl | (simp; done), (by repeat' (first | (with_reducible exact Gr.refl _) | (with_reducible assumption) | (with_reducible refine Gr.alloc ?_ _) | (with_reducible refine Gr.drew ?_) | (with_reducible refine Gr.drewN ?_ _) | (with_reducible refine Gr.setCell ?_ ?_ _) | (with_reducible refine Gr.trans ?_ (by with_reducible assumption)) | go_size))⟩
      · have hl : (Wd.hi (Wd.mag x % Wd.mag y) == 0) = false := by simpa using hh
        clear hd hm hm1 hp r0 d0 d1 mx my my0 hs hr er e1 l1 hh
        generalize Wd.mag x / Wd.mag y = q at *
        generalize Wd.mag x % Wd.mag y = r at *
        generalize Wd.neg x = s at *
        generalize Wd.neg y = t at *
        go_enter Try.func37, Try.ntmps37
        go_wp2_with fail; refine (HD.out _).mono ?_; rintro e w1 ⟨rfl, hb1⟩; obtain ⟨hc1, hf1⟩ := Gr.cells hb1; have hz1 := Gr.size hb1; (try simp at hz1); (try have hy1_0 : w.heap.size < w1.heap.size := by omega); (try have hy1_1 : w.heap.size + 1 < w1.heap.size := by omega); (try have hy1_2 : w.heap.size + 1 + 1 < w1.heap.size := by omega); (try have hy1_3 : w.heap.size + 1 + 1 + 1 < w1.heap.size := by omega); (try have hy1_4 : w.heap.size + 1 + 1 + 1 + 1 < w1.heap.size := by omega); (try have hy1_5 : w.heap.size + 1 + 1 + 1 + 1 + 1 < w1.heap.size := by omega)
        have kc1_0 := hc1 (w.heap.size) 0 (by first | omega | (simp; done) | (simp; omega))
        have kc1_1 := hc1 (w.heap.size) 1 (by first | omega | (simp; done) | (simp; omega))
        have kc1_2 := hc1 (w.heap.size) 2 (by first | omega | (simp; done) | (simp; omega))
        have kc1_3 := hc1 (w.heap.size + 1) 0 (by first | omega | (simp; done) | (simp; omega))
        have kc1_4 := hc1 (w.heap.size + 1) 1 (by first | omega | (simp; done) | (simp; omega))
        have kc1_5 := hc1 (w.heap.size + 1) 2 (by first | omega | (simp; done) | (simp; omega))
        have kc1_6 := hc1 (w.heap.size + 1 + 1) 0 (by first | omega | (simp; done) | (simp; omega))
        have kc1_7 := hc1 (w.heap.size + 1 + 1) 1 (by first | omega | (simp; done) | (simp; omega))
        have kc1_8 := hc1 (w.heap.size + 1 + 1) 2 (by first | omega | (simp; done) | (simp; omega))
        clear hc1
        (try simp [go_sem, *] at kc1_0)
        (try simp [go_sem, *] at kc1_1)
        (try simp [go_sem, *] at kc1_2)
        (try simp [go_sem, *] at kc1_3)
        (try simp [go_sem, *] at kc1_4)
        (try simp [go_sem, *] at kc1_5)
        (try simp [go_sem, *] at kc1_6)
        (try simp [go_sem, *] at kc1_7)
        (try simp [go_sem, *] at kc1_8)
        go_wp2_with fail; refine (HP.out _).mono ?_; rintro e w2 ⟨rfl, hb2⟩; obtain ⟨hc2, hf2⟩ := Gr.cells hb2; have hz2 := Gr.size hb2; (try simp at hz2); (try have hy2_0 : w.heap.size < w2.heap.size := by omega); (try have hy2_1 : w.heap.size + 1 < w2.heap.size := by omega); (try have hy2_2 : w.heap.size + 1 + 1 < w2.heap.size := by omega); (try have hy2_3 : w.heap.size + 1 + 1 + 1 < w2.heap.size := by omega); (try have hy2_4 : w.heap.size + 1 + 1 + 1 + 1 < w2.heap.size := by omega); (try have hy2_5 : w.heap.size + 1 + 1 + 1 + 1 + 1 < w2.heap.size := by omega); (try have hy2_1_0 : w1.heap.size < w2.heap.size := by omega); (try have hy2_1_1 : w1.heap.size + 1 < w2.heap.size := by omega)
        have kc2_0 := hc2 (w.heap.size) 0 (by first | omega | (simp; done) | (simp; omega))
        have kc2_1 := hc2 (w.heap.size) 1 (by first | omega | (simp; done) | (simp; omega))
        have kc2_2 := hc2 (w.heap.size) 2 (by first | omega | (simp; done) | (simp; omega))
        have kc2_3 := hc2 (w.heap.size + 1) 0 (by first | omega | (simp; done) | (simp; omega))
        have kc2_4 := hc2 (w.heap.size + 1) 1 (by first | omega | (simp; done) | (simp; omega))
        have kc2_5 := hc2 (w.heap.size + 1) 2 (by first | omega | (simp; done) | (simp; omega))
        have kc2_6 := hc2 (w.heap.size + 1 + 1) 0 (by first | omega | (simp; done) | (simp; omega))
        have kc2_7 := hc2 (w.heap.size + 1 + 1) 1 (by first | omega | (simp; done) | (simp; omega))
        have kc2_8 := hc2 (w.heap.size + 1 + 1) 2 (by first | omega | (simp; done) | (simp; omega))
        have kc2_9 := hc2 (w1.heap.size) 0 (by first | omega | (simp; done) | (simp; omega))
        have kc2_10 := hc2 (w1.heap.size) 1 (by first | omega | (simp; done) | (simp; omega))
        have kc2_11 := hc2 (w1.heap.size + 1) 0 (by first | omega | (simp; done) | (simp; omega))
        have kc2_12 := hc2 (w1.heap.size + 1) 1 (by first | omega | (simp; done) | (simp; omega))
        clear hc2
        (try simp [go_sem, *] at kc2_0)
        (try simp [go_sem, *] at kc2_1)
        (try simp [go_sem, *] at kc2_2)
        (try simp [go_sem, *] at kc2_3)
        (try simp [go_sem, *] at kc2_4)
        (try simp [go_sem, *] at kc2_5)
        (try simp [go_sem, *] at kc2_6)
        (try simp [go_sem, *] at kc2_7)
        (try simp [go_sem, *] at kc2_8)
        (try simp [go_sem, *] at kc2_9)
        (try simp [go_sem, *] at kc2_10)
        (try simp [go_sem, *] at kc2_11)
        (try simp [go_sem, *] at kc2_12)
        go_wp2_with fail; refine (HM.out _).mono ?_; rintro e w3 ⟨rfl, hb3⟩; obtain ⟨hc3, hf3⟩ := Gr.cells hb3; have hz3 := Gr.size hb3; (try simp at hz3); (try have hy3_0 : w.heap.size < w3.heap.size := by omega); (try have hy3_1 : w.heap.size + 1 < w3.heap.size := by omega); (try have hy3_2 : w.heap.size + 1 + 1 < w3.heap.size := by omega); (try have hy3_3 : w.heap.size + 1 + 1 + 1 < w3.heap.size := by omega); (try have hy3_4 : w.heap.size + 1 + 1 + 1 + 1 < w3.heap.size := by omega); (try have hy3_5 : w.heap.size + 1 + 1 + 1 + 1 + 1 < w3.heap.size := by omega); (try have hy3_1_0 : w1.heap.size < w3.heap.size := by omega); (try have hy3_1_1 : w1.heap.size + 1 < w3.heap.size := by omega); (try have hy3_2_0 : w2.heap.size < w3.heap.size := by omega); (try have hy3_2_1 : w2.heap.size + 1 < w3.heap.size := by omega)
        have kc3_0 := hc3 (w.heap.size + 1 + 1) 0 (by first | omega | (simp; done) | (simp; omega))
        have kc3_1 := hc3 (w.heap.size + 1 + 1) 1 (by first | omega | (simp; done) | (simp; omega))
        have kc3_2 := hc3 (w.heap.size + 1 + 1) 2 (by first | omega | (simp; done) | (simp; omega))
        clear hc3
        (try simp [go_sem, *] at kc3_0)
        (try simp [go_sem, *] at kc3_1)
        (try simp [go_sem, *] at kc3_2)
        go_wp2
        refine bodyPost_ret (by simp [results, Try.results37, go_sem, kc3_0, kc3_1, kc3_2]; try rfl) rfl ?_
        exact ⟨by first | rfl | (simp; done), (by repeat' (first | (with_reducible exact Gr.refl _) | (with_reducible assumption) | (with_reducible refine Gr.alloc ?_ _) | (with_reducible refine Gr.drew ?_) | (with_reducible refine Gr.drewN ?_ _) | (with_reducible refine Gr.setCell ?_ ?_ _) | (with_reducible refine Gr.trans ?_ (by with_reducible assumption)) | go_size))⟩
end Go.Proofs.Ytbaahlofabmljaa
