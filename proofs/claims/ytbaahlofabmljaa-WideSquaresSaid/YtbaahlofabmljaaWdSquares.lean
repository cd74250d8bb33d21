import Derived.Test.YtbaahlofabmljaaWdUse
namespace Go.Proofs.Ytbaahlofabmljaa
open Go.RowKit
namespace Wd
theorem sq_has {n : Int} (h0 : -2147483648 ≤ n) (h1 : n ≤ 2147483647) : has (n * n) = true ∧ 0 ≤ n * n ∧ root (n * n) = mag n := by
  have e : mag n * mag n = n * n := by unfold mag; split; rw [Int.neg_mul_neg]; rfl
  have m0 := mag_nonneg n
  have m1 : mag n ≤ 2147483648 := by unfold mag; split <;> omega
  have p := Int.mul_le_mul m1 m1 m0 (by decide)
  have p0 := Int.mul_nonneg m0 m0
  have p2 : mag n * mag n ≤ 4611686018427387904 := by simpa using p
  have r := root_sq (r := mag n) m0 (by omega)
  rw [e] at p2 p0 r
  exact ⟨has_of (by omega) (by omega), p0, r⟩
end Wd
set_option maxRecDepth 100000 in
set_option maxHeartbeats 1000000 in
theorem squares_any (h l n : Int) (w : World) (h0 : -9223372036854775808 ≤ h) (h1 : h ≤ 9223372036854775807) (n0 : -2147483648 ≤ n) (n1 : n ≤ 2147483647) :
    Calls Try.prog 5 #[.agg #[.int .i64 h, .int .i64 l], .int .i32 n] w fun e w' => e = .returned (.bool true) ∧ Gr w w' := by
  obtain ⟨q1, q2, q3⟩ := Wd.sq_has n0 n1
  have hpr : ∀ W : World, Calls Try.prog 19 #[.int .i64 n, .int .i64 n] W fun e w' => e = .returned (.tuple #[.agg #[.int .i64 (Wd.wH (n * n)), .int .i64 (Wd.wL (n * n))], .int .i64 0]) ∧ Gr W w' := fun W => by
    have := product_any n n W (by omega) (by omega) (by omega) (by omega)
    rw [Wd.wE_has q1] at this; exact this
  have hrt : ∀ W : World, Calls Try.prog 26 #[.agg #[.int .i64 (Wd.wH (n * n)), .int .i64 (Wd.wL (n * n))]] W fun e w' => e = .returned (.tuple #[.int .i64 (Wd.mag n), .int .i64 0]) ∧ Gr W w' := fun W => by
    have := root_w (n * n) W q1 q2
    rw [q3] at this; exact this
  have HP := Lib.hid hpr; have HR := Lib.hid hrt
  clear hpr hrt q1 q2 q3
  generalize n * n = sq at *
  have hmx : (Wd.mag n != max n (-n)) = false := by
    have : Wd.mag n = max n (-n) := by unfold Wd.mag; split <;> omega
    rw [this]; simp
  cases hv : Wd.vld h l
  · have HV := Lib.hid hv; clear hv
    go_enter Try.func5, Try.ntmps5
    go_wp2_with fail
    refine (awake_any _).mono ?_; rintro e w1 ⟨rfl, hb1⟩; obtain ⟨hc1, hf1⟩ := Gr.cells hb1; have hz1 := Gr.size hb1; (try simp at hz1); (try have hy1_0 : w.heap.size < w1.heap.size := by omega); (try have hy1_1 : w.heap.size + 1 < w1.heap.size := by omega); (try have hy1_2 : w.heap.size + 1 + 1 < w1.heap.size := by omega); (try have hy1_3 : w.heap.size + 1 + 1 + 1 < w1.heap.size := by omega)
    go_wp2_with fail
    refine (HP.out _).mono ?_; rintro e w2 ⟨rfl, hb2⟩; obtain ⟨hc2, hf2⟩ := Gr.cells hb2; have hz2 := Gr.size hb2; (try simp at hz2); (try have hy2_0 : w.heap.size < w2.heap.size := by omega); (try have hy2_1 : w.heap.size + 1 < w2.heap.size := by omega); (try have hy2_2 : w.heap.size + 1 + 1 < w2.heap.size := by omega); (try have hy2_3 : w.heap.size + 1 + 1 + 1 < w2.heap.size := by omega); (try have hy2_1_0 : w1.heap.size < w2.heap.size := by omega); (try have hy2_1_1 : w1.heap.size + 1 < w2.heap.size := by omega)
    go_wp2_with fail
    refine (HR.out _).mono ?_; rintro e w3 ⟨rfl, hb3⟩; obtain ⟨hc3, hf3⟩ := Gr.cells hb3; have hz3 := Gr.size hb3; (try simp at hz3); (try have hy3_0 : w.heap.size < w3.heap.size := by omega); (try have hy3_1 : w.heap.size + 1 < w3.heap.size := by omega); (try have hy3_2 : w.heap.size + 1 + 1 < w3.heap.size := by omega); (try have hy3_3 : w.heap.size + 1 + 1 + 1 < w3.heap.size := by omega); (try have hy3_1_0 : w1.heap.size < w3.heap.size := by omega); (try have hy3_1_1 : w1.heap.size + 1 < w3.heap.size := by omega); (try have hy3_2_0 : w2.heap.size < w3.heap.size := by omega); (try have hy3_2_1 : w2.heap.size + 1 < w3.heap.size := by omega)
    go_wp2_with fail
    refine (root_bad _ _ _ HV.out).mono ?_; rintro e w4 ⟨rfl, hb4⟩; obtain ⟨hc4, hf4⟩ := Gr.cells hb4; have hz4 := Gr.size hb4; (try simp at hz4); (try have hy4_0 : w.heap.size < w4.heap.size := by omega); (try have hy4_1 : w.heap.size + 1 < w4.heap.size := by omega); (try have hy4_2 : w.heap.size + 1 + 1 < w4.heap.size := by omega); (try have hy4_3 : w.heap.size + 1 + 1 + 1 < w4.heap.size := by omega); (try have hy4_1_0 : w1.heap.size < w4.heap.size := by omega); (try have hy4_1_1 : w1.heap.size + 1 < w4.heap.size := by omega); (try have hy4_2_0 : w2.heap.size < w4.heap.size := by omega); (try have hy4_2_1 : w2.heap.size + 1 < w4.heap.size := by omega); (try have hy4_3_0 : w3.heap.size < w4.heap.size := by omega); (try have hy4_3_1 : w3.heap.size + 1 < w4.heap.size := by omega)
    go_wp2
    go_ret
    exact ⟨rfl, (by repeat' (first | (with_reducible exact Gr.refl _) | (with_reducible assumption) | (with_reducible refine Gr.alloc ?_ _) | (with_reducible refine Gr.drew ?_) | (with_reducible refine Gr.drewN ?_ _) | (with_reducible refine Gr.setCell ?_ ?_ _) | (with_reducible refine Gr.trans ?_ (by with_reducible assumption)) | go_size))⟩
  · obtain ⟨v, hv', rfl, rfl⟩ := Wd.w_val hv
    obtain ⟨x0, x1⟩ := Wd.has_bounds hv'
    have HV := Lib.hid hv'; clear hv hv'
    by_cases hn : v < 0
    · have hw : Wd.wH v < 0 := by
        obtain ⟨e1, e2, e3⟩ := Wd.has_true x0 x1
        rw [e1]; omega
      have hw' : decide (Wd.wH v < 0) = true := decide_eq_true hw
      go_enter Try.func5, Try.ntmps5
      go_wp2_with fail
      refine (awake_any _).mono ?_; rintro e w1 ⟨rfl, hb1⟩; obtain ⟨hc1, hf1⟩ := Gr.cells hb1; have hz1 := Gr.size hb1; (try simp at hz1); (try have hy1_0 : w.heap.size < w1.heap.size := by omega); (try have hy1_1 : w.heap.size + 1 < w1.heap.size := by omega); (try have hy1_2 : w.heap.size + 1 + 1 < w1.heap.size := by omega); (try have hy1_3 : w.heap.size + 1 + 1 + 1 < w1.heap.size := by omega)
      go_wp2_with fail
      refine (HP.out _).mono ?_; rintro e w2 ⟨rfl, hb2⟩; obtain ⟨hc2, hf2⟩ := Gr.cells hb2; have hz2 := Gr.size hb2; (try simp at hz2); (try have hy2_0 : w.heap.size < w2.heap.size := by omega); (try have hy2_1 : w.heap.size + 1 < w2.heap.size := by omega); (try have hy2_2 : w.heap.size + 1 + 1 < w2.heap.size := by omega); (try have hy2_3 : w.heap.size + 1 + 1 + 1 < w2.heap.size := by omega); (try have hy2_1_0 : w1.heap.size < w2.heap.size := by omega); (try have hy2_1_1 : w1.heap.size + 1 < w2.heap.size := by omega)
      go_wp2_with fail
      refine (HR.out _).mono ?_; rintro e w3 ⟨rfl, hb3⟩; obtain ⟨hc3, hf3⟩ := Gr.cells hb3; have hz3 := Gr.size hb3; (try simp at hz3); (try have hy3_0 : w.heap.size < w3.heap.size := by omega); (try have hy3_1 : w.heap.size + 1 < w3.heap.size := by omega); (try have hy3_2 : w.heap.size + 1 + 1 < w3.heap.size := by omega); (try have hy3_3 : w.heap.size + 1 + 1 + 1 < w3.heap.size := by omega); (try have hy3_1_0 : w1.heap.size < w3.heap.size := by omega); (try have hy3_1_1 : w1.heap.size + 1 < w3.heap.size := by omega); (try have hy3_2_0 : w2.heap.size < w3.heap.size := by omega); (try have hy3_2_1 : w2.heap.size + 1 < w3.heap.size := by omega)
      go_wp2_with fail
      refine (rootn_w _ _ HV.out hn).mono ?_; rintro e w4 ⟨rfl, hb4⟩; obtain ⟨hc4, hf4⟩ := Gr.cells hb4; have hz4 := Gr.size hb4; (try simp at hz4); (try have hy4_0 : w.heap.size < w4.heap.size := by omega); (try have hy4_1 : w.heap.size + 1 < w4.heap.size := by omega); (try have hy4_2 : w.heap.size + 1 + 1 < w4.heap.size := by omega); (try have hy4_3 : w.heap.size + 1 + 1 + 1 < w4.heap.size := by omega); (try have hy4_1_0 : w1.heap.size < w4.heap.size := by omega); (try have hy4_1_1 : w1.heap.size + 1 < w4.heap.size := by omega); (try have hy4_2_0 : w2.heap.size < w4.heap.size := by omega); (try have hy4_2_1 : w2.heap.size + 1 < w4.heap.size := by omega); (try have hy4_3_0 : w3.heap.size < w4.heap.size := by omega); (try have hy4_3_1 : w3.heap.size + 1 < w4.heap.size := by omega)
      go_wp2
      go_ret
      exact ⟨rfl, (by repeat' (first | (with_reducible exact Gr.refl _) | (with_reducible assumption) | (with_reducible refine Gr.alloc ?_ _) | (with_reducible refine Gr.drew ?_) | (with_reducible refine Gr.drewN ?_ _) | (with_reducible refine Gr.setCell ?_ ?_ _) | (with_reducible refine Gr.trans ?_ (by with_reducible assumption)) | go_size))⟩
    · have hn' : 0 ≤ v := by omega
      obtain ⟨r0, r1, r2, r3⟩ := Wd.root_spec hn' x1
      have hlow : Wd.has (Wd.root v * Wd.root v) = true := Wd.has_of (by have := Int.mul_nonneg r0 r0; omega) (by omega)
      have hpl : ∀ W : World, Calls Try.prog 19 #[.int .i64 (Wd.root v), .int .i64 (Wd.root v)] W fun e w' => e = .returned (.tuple #[.agg #[.int .i64 (Wd.wH (Wd.root v * Wd.root v)), .int .i64 (Wd.wL (Wd.root v * Wd.root v))], .int .i64 0]) ∧ Gr W w' := fun W => by
        have := product_any (Wd.root v) (Wd.root v) W (by omega) (by omega) (by omega) (by omega)
        rw [Wd.wE_has hlow] at this; exact this
      have hph : ∀ W : World, Calls Try.prog 19 #[.int .i64 (Wd.root v + 1), .int .i64 (Wd.root v + 1)] W fun e w' => e = .returned (.tuple #[.agg #[.int .i64 (Wd.wH ((Wd.root v + 1) * (Wd.root v + 1))), .int .i64 (Wd.wL ((Wd.root v + 1) * (Wd.root v + 1)))], .int .i64 (Wd.wE ((Wd.root v + 1) * (Wd.root v + 1)))]) ∧ Gr W w' := fun W =>
        product_any (Wd.root v + 1) (Wd.root v + 1) W (by omega) (by omega) (by omega) (by omega)
      have hcl : ∀ W : World, Calls Try.prog 27 #[.agg #[.int .i64 (Wd.wH (Wd.root v * Wd.root v)), .int .i64 (Wd.wL (Wd.root v * Wd.root v))], .agg #[.int .i64 (Wd.wH v), .int .i64 (Wd.wL v)]] W fun e w' => e = .returned (.tuple #[.int .i64 (Wd.ord (Wd.root v * Wd.root v) v), .int .i64 0]) ∧ Gr W w' := fun W => cmp_w _ _ W hlow HV.out
      have hrt : ∀ W : World, Calls Try.prog 26 #[.agg #[.int .i64 (Wd.wH v), .int .i64 (Wd.wL v)]] W fun e w' => e = .returned (.tuple #[.int .i64 (Wd.root v), .int .i64 0]) ∧ Gr W w' := fun W => root_w v W HV.out hn'
      have ho : Wd.ord (Wd.root v * Wd.root v) v ≤ 0 := by unfold Wd.ord; split; omega; rw [if_neg (by omega)]; omega
      have hch : Wd.has ((Wd.root v + 1) * (Wd.root v + 1)) = true → ∀ W : World, Calls Try.prog 27 #[.agg #[.int .i64 (Wd.wH v), .int .i64 (Wd.wL v)], .agg #[.int .i64 (Wd.wH ((Wd.root v + 1) * (Wd.root v + 1))), .int .i64 (Wd.wL ((Wd.root v + 1) * (Wd.root v + 1)))]] W fun e w' => e = .returned (.tuple #[.int .i64 (-1), .int .i64 0]) ∧ Gr W w' := fun hh W => by
        have := cmp_w _ _ W HV.out hh
        rw [Wd.ord_lt r3] at this; exact this
      have HPL := Lib.hid hpl; have HPH := Lib.hid hph; have HCL := Lib.hid hcl; have HRT := Lib.hid hrt; have HCH := Lib.hid hch
      clear hpl hph hcl hrt hch hlow r2 r3
      generalize Wd.root v * Wd.root v = lo at *
      generalize hhi : (Wd.root v + 1) * (Wd.root v + 1) = hi at *
      clear hhi
      generalize Wd.root v = r at *
      generalize Wd.ord lo v = o at *
      cases hh : Wd.has hi
      · obtain ⟨e1, e2, e3⟩ := Wd.wE_not hh
        have HX := HPH.out
        rw [e1, e2, e3] at HX
        have HPX := Lib.hid HX
        clear HX e1 e2 e3 hh
        go_enter Try.func5, Try.ntmps5
        go_wp2_with fail
        refine (awake_any _).mono ?_; rintro e w1 ⟨rfl, hb1⟩; obtain ⟨hc1, hf1⟩ := Gr.cells hb1; have hz1 := Gr.size hb1; (try simp at hz1); (try have hy1_0 : w.heap.size < w1.heap.size := by omega); (try have hy1_1 : w.heap.size + 1 < w1.heap.size := by omega); (try have hy1_2 : w.heap.size + 1 + 1 < w1.heap.size := by omega); (try have hy1_3 : w.heap.size + 1 + 1 + 1 < w1.heap.size := by omega)
        go_wp2_with fail
        refine (HP.out _).mono ?_; rintro e w2 ⟨rfl, hb2⟩; obtain ⟨hc2, hf2⟩ := Gr.cells hb2; have hz2 := Gr.size hb2; (try simp at hz2); (try have hy2_0 : w.heap.size < w2.heap.size := by omega); (try have hy2_1 : w.heap.size + 1 < w2.heap.size := by omega); (try have hy2_2 : w.heap.size + 1 + 1 < w2.heap.size := by omega); (try have hy2_3 : w.heap.size + 1 + 1 + 1 < w2.heap.size := by omega); (try have hy2_1_0 : w1.heap.size < w2.heap.size := by omega); (try have hy2_1_1 : w1.heap.size + 1 < w2.heap.size := by omega)
        go_wp2_with fail
        refine (HR.out _).mono ?_; rintro e w3 ⟨rfl, hb3⟩; obtain ⟨hc3, hf3⟩ := Gr.cells hb3; have hz3 := Gr.size hb3; (try simp at hz3); (try have hy3_0 : w.heap.size < w3.heap.size := by omega); (try have hy3_1 : w.heap.size + 1 < w3.heap.size := by omega); (try have hy3_2 : w.heap.size + 1 + 1 < w3.heap.size := by omega); (try have hy3_3 : w.heap.size + 1 + 1 + 1 < w3.heap.size := by omega); (try have hy3_1_0 : w1.heap.size < w3.heap.size := by omega); (try have hy3_1_1 : w1.heap.size + 1 < w3.heap.size := by omega); (try have hy3_2_0 : w2.heap.size < w3.heap.size := by omega); (try have hy3_2_1 : w2.heap.size + 1 < w3.heap.size := by omega)
        go_wp2_with fail
        refine (HRT.out _).mono ?_; rintro e w4 ⟨rfl, hb4⟩; obtain ⟨hc4, hf4⟩ := Gr.cells hb4; have hz4 := Gr.size hb4; (try simp at hz4); (try have hy4_0 : w.heap.size < w4.heap.size := by omega); (try have hy4_1 : w.heap.size + 1 < w4.heap.size := by omega); (try have hy4_2 : w.heap.size + 1 + 1 < w4.heap.size := by omega); (try have hy4_3 : w.heap.size + 1 + 1 + 1 < w4.heap.size := by omega); (try have hy4_1_0 : w1.heap.size < w4.heap.size := by omega); (try have hy4_1_1 : w1.heap.size + 1 < w4.heap.size := by omega); (try have hy4_2_0 : w2.heap.size < w4.heap.size := by omega); (try have hy4_2_1 : w2.heap.size + 1 < w4.heap.size := by omega); (try have hy4_3_0 : w3.heap.size < w4.heap.size := by omega); (try have hy4_3_1 : w3.heap.size + 1 < w4.heap.size := by omega)
        go_wp2_with fail
        refine (HPL.out _).mono ?_; rintro e w5 ⟨rfl, hb5⟩; obtain ⟨hc5, hf5⟩ := Gr.cells hb5; have hz5 := Gr.size hb5; (try simp at hz5); (try have hy5_0 : w.heap.size < w5.heap.size := by omega); (try have hy5_1 : w.heap.size + 1 < w5.heap.size := by omega); (try have hy5_2 : w.heap.size + 1 + 1 < w5.heap.size := by omega); (try have hy5_3 : w.heap.size + 1 + 1 + 1 < w5.heap.size := by omega); (try have hy5_1_0 : w1.heap.size < w5.heap.size := by omega); (try have hy5_1_1 : w1.heap.size + 1 < w5.heap.size := by omega); (try have hy5_2_0 : w2.heap.size < w5.heap.size := by omega); (try have hy5_2_1 : w2.heap.size + 1 < w5.heap.size := by omega); (try have hy5_3_0 : w3.heap.size < w5.heap.size := by omega); (try have hy5_3_1 : w3.heap.size + 1 < w5.heap.size := by omega); (try have hy5_4_0 : w4.heap.size < w5.heap.size := by omega); (try have hy5_4_1 : w4.heap.size + 1 < w5.heap.size := by omega)
        go_wp2_with fail
        refine (HCL.out _).mono ?_; rintro e w6 ⟨rfl, hb6⟩; obtain ⟨hc6, hf6⟩ := Gr.cells hb6; have hz6 := Gr.size hb6; (try simp at hz6); (try have hy6_0 : w.heap.size < w6.heap.size := by omega); (try have hy6_1 : w.heap.size + 1 < w6.heap.size := by omega); (try have hy6_2 : w.heap.size + 1 + 1 < w6.heap.size := by omega); (try have hy6_3 : w.heap.size + 1 + 1 + 1 < w6.heap.size := by omega); (try have hy6_1_0 : w1.heap.size < w6.heap.size := by omega); (try have hy6_1_1 : w1.heap.size + 1 < w6.heap.size := by omega); (try have hy6_2_0 : w2.heap.size < w6.heap.size := by omega); (try have hy6_2_1 : w2.heap.size + 1 < w6.heap.size := by omega); (try have hy6_3_0 : w3.heap.size < w6.heap.size := by omega); (try have hy6_3_1 : w3.heap.size + 1 < w6.heap.size := by omega); (try have hy6_4_0 : w4.heap.size < w6.heap.size := by omega); (try have hy6_4_1 : w4.heap.size + 1 < w6.heap.size := by omega); (try have hy6_5_0 : w5.heap.size < w6.heap.size := by omega); (try have hy6_5_1 : w5.heap.size + 1 < w6.heap.size := by omega)
        go_wp2_with fail
        refine (HPX.out _).mono ?_; rintro e w7 ⟨rfl, hb7⟩; obtain ⟨hc7, hf7⟩ := Gr.cells hb7; have hz7 := Gr.size hb7; (try simp at hz7); (try have hy7_0 : w.heap.size < w7.heap.size := by omega); (try have hy7_1 : w.heap.size + 1 < w7.heap.size := by omega); (try have hy7_2 : w.heap.size + 1 + 1 < w7.heap.size := by omega); (try have hy7_3 : w.heap.size + 1 + 1 + 1 < w7.heap.size := by omega); (try have hy7_1_0 : w1.heap.size < w7.heap.size := by omega); (try have hy7_1_1 : w1.heap.size + 1 < w7.heap.size := by omega); (try have hy7_2_0 : w2.heap.size < w7.heap.size := by omega); (try have hy7_2_1 : w2.heap.size + 1 < w7.heap.size := by omega); (try have hy7_3_0 : w3.heap.size < w7.heap.size := by omega); (try have hy7_3_1 : w3.heap.size + 1 < w7.heap.size := by omega); (try have hy7_4_0 : w4.heap.size < w7.heap.size := by omega); (try have hy7_4_1 : w4.heap.size + 1 < w7.heap.size := by omega); (try have hy7_5_0 : w5.heap.size < w7.heap.size := by omega); (try have hy7_5_1 : w5.heap.size + 1 < w7.heap.size := by omega); (try have hy7_6_0 : w6.heap.size < w7.heap.size := by omega); (try have hy7_6_1 : w6.heap.size + 1 < w7.heap.size := by omega)
        go_wp2
        go_ret
        exact ⟨rfl, (by repeat' (first | (with_reducible exact Gr.refl _) | (with_reducible assumption) | (with_reducible refine Gr.alloc ?_ _) | (with_reducible refine Gr.drew ?_) | (with_reducible refine Gr.drewN ?_ _) | (with_reducible refine Gr.setCell ?_ ?_ _) | (with_reducible refine Gr.trans ?_ (by with_reducible assumption)) | go_size))⟩
      · have HX := HPH.out
        rw [Wd.wE_has hh] at HX
        have HPX := Lib.hid HX
        have HH := Lib.hid hh
        clear HX hh
        go_enter Try.func5, Try.ntmps5
        go_wp2_with fail
        refine (awake_any _).mono ?_; rintro e w1 ⟨rfl, hb1⟩; obtain ⟨hc1, hf1⟩ := Gr.cells hb1; have hz1 := Gr.size hb1; (try simp at hz1); (try have hy1_0 : w.heap.size < w1.heap.size := by omega); (try have hy1_1 : w.heap.size + 1 < w1.heap.size := by omega); (try have hy1_2 : w.heap.size + 1 + 1 < w1.heap.size := by omega); (try have hy1_3 : w.heap.size + 1 + 1 + 1 < w1.heap.size := by omega)
        go_wp2_with fail
        refine (HP.out _).mono ?_; rintro e w2 ⟨rfl, hb2⟩; obtain ⟨hc2, hf2⟩ := Gr.cells hb2; have hz2 := Gr.size hb2; (try simp at hz2); (try have hy2_0 : w.heap.size < w2.heap.size := by omega); (try have hy2_1 : w.heap.size + 1 < w2.heap.size := by omega); (try have hy2_2 : w.heap.size + 1 + 1 < w2.heap.size := by omega); (try have hy2_3 : w.heap.size + 1 + 1 + 1 < w2.heap.size := by omega); (try have hy2_1_0 : w1.heap.size < w2.heap.size := by omega); (try have hy2_1_1 : w1.heap.size + 1 < w2.heap.size := by omega)
        go_wp2_with fail
        refine (HR.out _).mono ?_; rintro e w3 ⟨rfl, hb3⟩; obtain ⟨hc3, hf3⟩ := Gr.cells hb3; have hz3 := Gr.size hb3; (try simp at hz3); (try have hy3_0 : w.heap.size < w3.heap.size := by omega); (try have hy3_1 : w.heap.size + 1 < w3.heap.size := by omega); (try have hy3_2 : w.heap.size + 1 + 1 < w3.heap.size := by omega); (try have hy3_3 : w.heap.size + 1 + 1 + 1 < w3.heap.size := by omega); (try have hy3_1_0 : w1.heap.size < w3.heap.size := by omega); (try have hy3_1_1 : w1.heap.size + 1 < w3.heap.size := by omega); (try have hy3_2_0 : w2.heap.size < w3.heap.size := by omega); (try have hy3_2_1 : w2.heap.size + 1 < w3.heap.size := by omega)
        go_wp2_with fail
        refine (HRT.out _).mono ?_; rintro e w4 ⟨rfl, hb4⟩; obtain ⟨hc4, hf4⟩ := Gr.cells hb4; have hz4 := Gr.size hb4; (try simp at hz4); (try have hy4_0 : w.heap.size < w4.heap.size := by omega); (try have hy4_1 : w.heap.size + 1 < w4.heap.size := by omega); (try have hy4_2 : w.heap.size + 1 + 1 < w4.heap.size := by omega); (try have hy4_3 : w.heap.size + 1 + 1 + 1 < w4.heap.size := by omega); (try have hy4_1_0 : w1.heap.size < w4.heap.size := by omega); (try have hy4_1_1 : w1.heap.size + 1 < w4.heap.size := by omega); (try have hy4_2_0 : w2.heap.size < w4.heap.size := by omega); (try have hy4_2_1 : w2.heap.size + 1 < w4.heap.size := by omega); (try have hy4_3_0 : w3.heap.size < w4.heap.size := by omega); (try have hy4_3_1 : w3.heap.size + 1 < w4.heap.size := by omega)
        go_wp2_with fail
        refine (HPL.out _).mono ?_; rintro e w5 ⟨rfl, hb5⟩; obtain ⟨hc5, hf5⟩ := Gr.cells hb5; have hz5 := Gr.size hb5; (try simp at hz5); (try have hy5_0 : w.heap.size < w5.heap.size := by omega); (try have hy5_1 : w.heap.size + 1 < w5.heap.size := by omega); (try have hy5_2 : w.heap.size + 1 + 1 < w5.heap.size := by omega); (try have hy5_3 : w.heap.size + 1 + 1 + 1 < w5.heap.size := by omega); (try have hy5_1_0 : w1.heap.size < w5.heap.size := by omega); (try have hy5_1_1 : w1.heap.size + 1 < w5.heap.size := by omega); (try have hy5_2_0 : w2.heap.size < w5.heap.size := by omega); (try have hy5_2_1 : w2.heap.size + 1 < w5.heap.size := by omega); (try have hy5_3_0 : w3.heap.size < w5.heap.size := by omega); (try have hy5_3_1 : w3.heap.size + 1 < w5.heap.size := by omega); (try have hy5_4_0 : w4.heap.size < w5.heap.size := by omega); (try have hy5_4_1 : w4.heap.size + 1 < w5.heap.size := by omega)
        go_wp2_with fail
        refine (HCL.out _).mono ?_; rintro e w6 ⟨rfl, hb6⟩; obtain ⟨hc6, hf6⟩ := Gr.cells hb6; have hz6 := Gr.size hb6; (try simp at hz6); (try have hy6_0 : w.heap.size < w6.heap.size := by omega); (try have hy6_1 : w.heap.size + 1 < w6.heap.size := by omega); (try have hy6_2 : w.heap.size + 1 + 1 < w6.heap.size := by omega); (try have hy6_3 : w.heap.size + 1 + 1 + 1 < w6.heap.size := by omega); (try have hy6_1_0 : w1.heap.size < w6.heap.size := by omega); (try have hy6_1_1 : w1.heap.size + 1 < w6.heap.size := by omega); (try have hy6_2_0 : w2.heap.size < w6.heap.size := by omega); (try have hy6_2_1 : w2.heap.size + 1 < w6.heap.size := by omega); (try have hy6_3_0 : w3.heap.size < w6.heap.size := by omega); (try have hy6_3_1 : w3.heap.size + 1 < w6.heap.size := by omega); (try have hy6_4_0 : w4.heap.size < w6.heap.size := by omega); (try have hy6_4_1 : w4.heap.size + 1 < w6.heap.size := by omega); (try have hy6_5_0 : w5.heap.size < w6.heap.size := by omega); (try have hy6_5_1 : w5.heap.size + 1 < w6.heap.size := by omega)
        go_wp2_with fail
        refine (HPX.out _).mono ?_; rintro e w7 ⟨rfl, hb7⟩; obtain ⟨hc7, hf7⟩ := Gr.cells hb7; have hz7 := Gr.size hb7; (try simp at hz7); (try have hy7_0 : w.heap.size < w7.heap.size := by omega); (try have hy7_1 : w.heap.size + 1 < w7.heap.size := by omega); (try have hy7_2 : w.heap.size + 1 + 1 < w7.heap.size := by omega); (try have hy7_3 : w.heap.size + 1 + 1 + 1 < w7.heap.size := by omega); (try have hy7_1_0 : w1.heap.size < w7.heap.size := by omega); (try have hy7_1_1 : w1.heap.size + 1 < w7.heap.size := by omega); (try have hy7_2_0 : w2.heap.size < w7.heap.size := by omega); (try have hy7_2_1 : w2.heap.size + 1 < w7.heap.size := by omega); (try have hy7_3_0 : w3.heap.size < w7.heap.size := by omega); (try have hy7_3_1 : w3.heap.size + 1 < w7.heap.size := by omega); (try have hy7_4_0 : w4.heap.size < w7.heap.size := by omega); (try have hy7_4_1 : w4.heap.size + 1 < w7.heap.size := by omega); (try have hy7_5_0 : w5.heap.size < w7.heap.size := by omega); (try have hy7_5_1 : w5.heap.size + 1 < w7.heap.size := by omega); (try have hy7_6_0 : w6.heap.size < w7.heap.size := by omega); (try have hy7_6_1 : w6.heap.size + 1 < w7.heap.size := by omega)
        go_wp2_with fail
        refine (HCH.out HH.out _).mono ?_; rintro e w8 ⟨rfl, hb8⟩; obtain ⟨hc8, hf8⟩ := Gr.cells hb8; have hz8 := Gr.size hb8; (try simp at hz8); (try have hy8_0 : w.heap.size < w8.heap.size := by omega); (try have hy8_1 : w.heap.size + 1 < w8.heap.size := by omega); (try have hy8_2 : w.heap.size + 1 + 1 < w8.heap.size := by omega); (try have hy8_3 : w.heap.size + 1 + 1 + 1 < w8.heap.size := by omega); (try have hy8_1_0 : w1.heap.size < w8.heap.size := by omega); (try have hy8_1_1 : w1.heap.size + 1 < w8.heap.size := by omega); (try have hy8_2_0 : w2.heap.size < w8.heap.size := by omega); (try have hy8_2_1 : w2.heap.size + 1 < w8.heap.size := by omega); (try have hy8_3_0 : w3.heap.size < w8.heap.size := by omega); (try have hy8_3_1 : w3.heap.size + 1 < w8.heap.size := by omega); (try have hy8_4_0 : w4.heap.size < w8.heap.size := by omega); (try have hy8_4_1 : w4.heap.size + 1 < w8.heap.size := by omega); (try have hy8_5_0 : w5.heap.size < w8.heap.size := by omega); (try have hy8_5_1 : w5.heap.size + 1 < w8.heap.size := by omega); (try have hy8_6_0 : w6.heap.size < w8.heap.size := by omega); (try have hy8_6_1 : w6.heap.size + 1 < w8.heap.size := by omega); (try have hy8_7_0 : w7.heap.size < w8.heap.size := by omega); (try have hy8_7_1 : w7.heap.size + 1 < w8.heap.size := by omega)
        go_wp2
        go_ret
        exact ⟨rfl, (by repeat' (first | (with_reducible exact Gr.refl _) | (with_reducible assumption) | (with_reducible refine Gr.alloc ?_ _) | (with_reducible refine Gr.drew ?_) | (with_reducible refine Gr.drewN ?_ _) | (with_reducible refine Gr.setCell ?_ ?_ _) | (with_reducible refine Gr.trans ?_ (by with_reducible assumption)) | go_size))⟩
end Go.Proofs.Ytbaahlofabmljaa
