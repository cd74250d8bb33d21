import Derived.Test.YtbaahlofabmljaaDoorWdRefE
set_option linter.unusedVariables false
set_option linter.unusedSimpArgs false
namespace Go.Proofs.YtbaahlofabmljaaDoor
open Go.RowKit
namespace Wd
/-- The cells of the long division's own blocks: n0 the dividend, n0 + 1 the divisor, n0 + 2 and n0 + 3 the results' variables, n0 + 4 the quotient, n0 + 5 the remainder. -/
def DSt (w wr : World) (a y q r : Int) : Prop :=
  Gr w wr ∧ w.heap.size + 1 + 1 + 1 + 1 + 1 < wr.heap.size ∧
  (wr.cell? ⟨w.heap.size, 0, none⟩ = some (.int .u64 (hi a)) ∧ wr.cell? ⟨w.heap.size, 1, none⟩ = some (.int .u64 (lo a))) ∧
  (wr.cell? ⟨w.heap.size + 1, 0, none⟩ = some (.int .u64 (hi y)) ∧ wr.cell? ⟨w.heap.size + 1, 1, none⟩ = some (.int .u64 (lo y))) ∧
  (wr.cell? ⟨w.heap.size + 1 + 1, 0, none⟩ = some (.int .u64 0) ∧ wr.cell? ⟨w.heap.size + 1 + 1, 1, none⟩ = some (.int .u64 0)) ∧
  (wr.cell? ⟨w.heap.size + 1 + 1 + 1, 0, none⟩ = some (.int .u64 0) ∧ wr.cell? ⟨w.heap.size + 1 + 1 + 1, 1, none⟩ = some (.int .u64 0)) ∧
  (wr.cell? ⟨w.heap.size + 1 + 1 + 1 + 1, 0, none⟩ = some (.int .u64 (hi q)) ∧ wr.cell? ⟨w.heap.size + 1 + 1 + 1 + 1, 1, none⟩ = some (.int .u64 (lo q))) ∧
  (wr.cell? ⟨w.heap.size + 1 + 1 + 1 + 1 + 1, 0, none⟩ = some (.int .u64 (hi r)) ∧ wr.cell? ⟨w.heap.size + 1 + 1 + 1 + 1 + 1, 1, none⟩ = some (.int .u64 (lo r))) ∧
  (∀ o, wr.frozen? ⟨w.heap.size, o, none⟩ = false) ∧ (∀ o, wr.frozen? ⟨w.heap.size + 1 + 1, o, none⟩ = false) ∧ (∀ o, wr.frozen? ⟨w.heap.size + 1 + 1 + 1, o, none⟩ = false) ∧
  (∀ o, wr.frozen? ⟨w.heap.size + 1 + 1 + 1 + 1, o, none⟩ = false) ∧ (∀ o, wr.frozen? ⟨w.heap.size + 1 + 1 + 1 + 1 + 1, o, none⟩ = false)
theorem lo_twice {q : Int} (h0 : 0 ≤ q) (h1 : 2 * q ≤ 340282366920938463463374607431768211455) : hi (2 * q + 1) = hi (2 * q) ∧ lo (2 * q + 1) = lo (2 * q) + 1 ∧ lo (2 * q) + 1 ≤ 18446744073709551615 := by
  obtain ⟨a, b⟩ := words (n := 2 * q) (by omega)
  obtain ⟨c, d⟩ := words (n := 2 * q + 1) (by omega)
  rw [a, b, c, d]; omega
end Wd
set_option maxRecDepth 100000 in
set_option maxHeartbeats 4000000 in
theorem rdiv_any (x y : Int) (w : World) (hx : Wd.hi x ≤ 18446744073709551615) (hy : Wd.hi y ≤ 18446744073709551615) (hy0 : 0 < Wd.mag y) :
    Calls Tryd.prog 28 #[.agg #[.int .u64 (Wd.hi x), .int .u64 (Wd.lo x)], .agg #[.int .u64 (Wd.hi y), .int .u64 (Wd.lo y)]] w fun e w' => e = .returned (.tuple #[.agg #[.int .u64 (Wd.hi (Wd.mag x / Wd.mag y)), .int .u64 (Wd.lo (Wd.mag x / Wd.mag y))], .agg #[.int .u64 (Wd.hi (Wd.mag x % Wd.mag y)), .int .u64 (Wd.lo (Wd.mag x % Wd.mag y))]]) ∧ Gr w w' := by
  have ex := Wd.hilo x; have ey := Wd.hilo y
  have lx := Wd.lo_lt x; have ly := Wd.lo_lt y
  have mx := Wd.mag_nonneg x
  have st := Wd.dinv_start (Wd.mag x) (Wd.mag y) mx (by omega)
  have ST := Lib.hid st
  have MX : Hid (0 ≤ Wd.mag x ∧ Wd.mag x < 340282366920938463463374607431768211456 ∧ 0 < Wd.mag y ∧ Wd.mag y ≤ 340282366920938463463374607431768211455) := ⟨mx, by omega, hy0, by omega⟩
  clear st ex ey lx ly mx hy0
  have hz : Wd.hi 0 = 0 ∧ Wd.lo 0 = 0 := by decide
  obtain ⟨z1, z2⟩ := hz
  have HXX : Hid (Wd.hi (Wd.mag x) = Wd.hi x ∧ Wd.lo (Wd.mag x) = Wd.lo x) := ⟨Wd.hi_mag x, Wd.lo_mag x⟩
  go_enter Tryd.func28, Tryd.ntmps28
  go_wp2_with fail
  go_loopw [8] (fun s8 wr => ∃ (i : Nat) (a q r : Int), i ≤ 128 ∧ s8 = .int .i64 i ∧ Hid (Wd.DInv (Wd.mag x) (Wd.mag y) i a q r) ∧ Wd.DSt w wr a y q r) (fun s8 _ => 128 - (intOf s8).toNat)
  case atStart =>
    refine ⟨0, Wd.mag x, 0, 0, by omega, rfl, ST.out, ?_⟩
    unfold Wd.DSt
    rw [HXX.out.1, HXX.out.2, z1, z2]
    refine ⟨(by repeat' (first | (with_reducible exact Gr.refl _) | (with_reducible assumption) | (with_reducible refine Gr.alloc ?_ _) | (with_reducible refine Gr.drew ?_) | (with_reducible refine Gr.drewN ?_ _) | (with_reducible refine Gr.setCell ?_ ?_ _) | (with_reducible refine Gr.trans ?_ (by with_reducible assumption)) | go_size)), by simp, ?_⟩
    simp [go_sem]
  case round =>
    obtain ⟨i, a, q, r, hi, rfl, hd, hst⟩ := hrel
    unfold Wd.DSt at hst
    obtain ⟨g, sz, ⟨a0, a1⟩, ⟨b0, b1⟩, ⟨e0, e1⟩, ⟨f0, f1⟩, ⟨q0, q1⟩, ⟨r0, r1⟩, fa, fe, ff, fq, fr⟩ := hst
    have sz0 : w.heap.size < wr.heap.size := by omega
    have sz1 : w.heap.size + 1 < wr.heap.size := by omega
    have sz2 : w.heap.size + 1 + 1 < wr.heap.size := by omega
    have sz3 : w.heap.size + 1 + 1 + 1 < wr.heap.size := by omega
    have sz4 : w.heap.size + 1 + 1 + 1 + 1 < wr.heap.size := by omega
    by_cases hlt : i < 128
    · obtain ⟨c0, c1, c2, c3⟩ := MX.out
      obtain ⟨bt0, bt1, h1, h2⟩ := Wd.dinv_step _ _ _ _ _ _ hlt c0 c2 hd.out
      obtain ⟨d0, d1, d2, d3, d4, d5⟩ := Wd.dinv_q c0 c1 c2 hd.out
      have wa := (Wd.words d0).1
      have wr' := (Wd.words d4).1
      obtain ⟨bit, hbit⟩ : ∃ b, a / 170141183460469231731687303715884105728 = b := ⟨_, rfl⟩
      have hbit' : Wd.hi a / 9223372036854775808 = bit := by rw [wa]; omega
      rw [hbit] at bt0 bt1 h1 h2
      obtain ⟨ov, hov⟩ : ∃ o, Wd.hi r / 9223372036854775808 = o := ⟨_, rfl⟩
      have hov' : ov = r / 170141183460469231731687303715884105728 := by rw [← hov, wr']; omega
      have HS1 : Hid (∀ W : World, Calls Tryd.prog 58 #[.agg #[.int .u64 (Wd.hi a), .int .u64 (Wd.lo a)], .int .u64 0] W fun e w' => e = .returned (.agg #[.int .u64 (Wd.hi (a * 2 % 340282366920938463463374607431768211456)), .int .u64 (Wd.lo (a * 2 % 340282366920938463463374607431768211456))]) ∧ Gr W w') := fun W => by
        have := rshift_u a 0 W d0 d1 (by omega) (by omega)
        rw [show (2 * a + 0) = a * 2 by omega] at this; exact this
      have HS2 : Hid (∀ W : World, Calls Tryd.prog 58 #[.agg #[.int .u64 (Wd.hi r), .int .u64 (Wd.lo r)], .int .u64 bit] W fun e w' => e = .returned (.agg #[.int .u64 (Wd.hi ((2 * r + bit) % 340282366920938463463374607431768211456)), .int .u64 (Wd.lo ((2 * r + bit) % 340282366920938463463374607431768211456))]) ∧ Gr W w') := fun W => rshift_u r bit W d4 (by omega) bt0 bt1
      have hq2 : 2 * q + 1 ≤ 340282366920938463463374607431768211455 := by
        by_cases hle : Wd.mag y ≤ 2 * r + bit
        · exact (Wd.dinv_q c0 c1 c2 (h1 hle)).2.2.2.1
        · have := (Wd.dinv_q c0 c1 c2 (h2 (by omega))).2.2.2.1; omega
      have HS3 : Hid (∀ W : World, Calls Tryd.prog 58 #[.agg #[.int .u64 (Wd.hi q), .int .u64 (Wd.lo q)], .int .u64 0] W fun e w' => e = .returned (.agg #[.int .u64 (Wd.hi (2 * q)), .int .u64 (Wd.lo (2 * q))]) ∧ Gr W w') := fun W => by
        have := rshift_u q 0 W d2 d3 (by omega) (by omega)
        rw [show (2 * q + 0) % 340282366920938463463374607431768211456 = 2 * q by omega] at this; exact this
      obtain ⟨t1, t2, t3⟩ := Wd.lo_twice d2 (by omega)
      have T1 := Lib.hid t1; have T2 := Lib.hid t2
      have t4 := Wd.lo_nonneg (2 * q)
      obtain ⟨R1, hR1⟩ : ∃ R, (2 * r + bit) % 340282366920938463463374607431768211456 = R := ⟨_, rfl⟩
      have hm1 : Wd.mag R1 = R1 := Wd.mag_of_nonneg (by omega)
      have hi1 : Wd.hi R1 ≤ 18446744073709551615 := by rw [(Wd.words (n := R1) (by omega)).1]; omega
      have HMN0 : ∀ W : World, Calls Tryd.prog 59 #[.agg #[.int .u64 (Wd.hi R1), .int .u64 (Wd.lo R1)], .agg #[.int .u64 (Wd.hi y), .int .u64 (Wd.lo y)]] W fun e w' => e = .returned (.agg #[.int .u64 (Wd.hi ((Wd.mag R1 - Wd.mag y) % 340282366920938463463374607431768211456)), .int .u64 (Wd.lo ((Wd.mag R1 - Wd.mag y) % 340282366920938463463374607431768211456))]) ∧ Gr W w' := fun W => rminus_mod R1 y W hi1 hy
      have HL0 : ∀ W : World, Calls Tryd.prog 57 #[.agg #[.int .u64 (Wd.hi R1), .int .u64 (Wd.lo R1)], .agg #[.int .u64 (Wd.hi y), .int .u64 (Wd.lo y)]] W fun e w' => e = .returned (.bool (decide (Wd.mag R1 < Wd.mag y))) ∧ Gr W w' := fun W => rless_any R1 y W
      rw [hm1] at HMN0 HL0
      rw [hR1] at HS2
      by_cases ho : 0 < ov
      · have ho' : decide (0 < ov) = true := decide_eq_true ho
        have HX : Hid (Wd.DInv (Wd.mag x) (Wd.mag y) (i + 1) (a * 2 % 340282366920938463463374607431768211456) (2 * q + 1) (2 * r + bit - Wd.mag y)) := h1 (by omega)
        rw [show (R1 - Wd.mag y) % 340282366920938463463374607431768211456 = 2 * r + bit - Wd.mag y by omega] at HMN0
        have HMN := Lib.hid HMN0
        clear h1 h2 HMN0 HL0 hR1 hm1 wa wr' hov' hbit hd t1 t2 d5
        go_wp2_with fail
        refine (HS1.out _).mono ?_; rintro e w1 ⟨rfl, hb1⟩; obtain ⟨hc1, hf1⟩ := Gr.cells hb1; have hz1 := Gr.size hb1; (try simp at hz1); (try have hy1_0 : w.heap.size < w1.heap.size := by omega); (try have hy1_1 : w.heap.size + 1 < w1.heap.size := by omega); (try have hy1_2 : w.heap.size + 1 + 1 < w1.heap.size := by omega); (try have hy1_3 : w.heap.size + 1 + 1 + 1 < w1.heap.size := by omega); (try have hy1_4 : w.heap.size + 1 + 1 + 1 + 1 < w1.heap.size := by omega); (try have hy1_5 : w.heap.size + 1 + 1 + 1 + 1 + 1 < w1.heap.size := by omega)
        have kc1_0 := hc1 (w.heap.size) 0 (by first | omega | (simp; done) | (simp; omega))
        have kc1_1 := hc1 (w.heap.size) 1 (by first | omega | (simp; done) | (simp; omega))
        have kc1_2 := hc1 (w.heap.size + 1) 0 (by first | omega | (simp; done) | (simp; omega))
        have kc1_3 := hc1 (w.heap.size + 1) 1 (by first | omega | (simp; done) | (simp; omega))
        have kc1_4 := hc1 (w.heap.size + 1 + 1) 0 (by first | omega | (simp; done) | (simp; omega))
        have kc1_5 := hc1 (w.heap.size + 1 + 1) 1 (by first | omega | (simp; done) | (simp; omega))
        have kc1_6 := hc1 (w.heap.size + 1 + 1 + 1) 0 (by first | omega | (simp; done) | (simp; omega))
        have kc1_7 := hc1 (w.heap.size + 1 + 1 + 1) 1 (by first | omega | (simp; done) | (simp; omega))
        have kc1_8 := hc1 (w.heap.size + 1 + 1 + 1 + 1) 0 (by first | omega | (simp; done) | (simp; omega))
        have kc1_9 := hc1 (w.heap.size + 1 + 1 + 1 + 1) 1 (by first | omega | (simp; done) | (simp; omega))
        have kc1_10 := hc1 (w.heap.size + 1 + 1 + 1 + 1 + 1) 0 (by first | omega | (simp; done) | (simp; omega))
        have kc1_11 := hc1 (w.heap.size + 1 + 1 + 1 + 1 + 1) 1 (by first | omega | (simp; done) | (simp; omega))
        clear hc1
        (try simp [go_sem, *] at kc1_0)
        (try simp [go_sem, *] at kc1_1)
        (try simp [go_sem, *] at kc1_2)
        (try simp [go_sem, *] at kc1_3)
        (try simp [go_sem, *] at kc1_4)
        (try simp [go_sem, *] at kc1_5)
        (try simp [go_sem, *] at kc1_6)
        (try simp [go_sem, *] at kc1_7)
        (try simp [go_sem, *] at kc1_8)
        (try simp [go_sem, *] at kc1_9)
        (try simp [go_sem, *] at kc1_10)
        (try simp [go_sem, *] at kc1_11)
        go_wp2_with fail
        refine (HS2.out _).mono ?_; rintro e w2 ⟨rfl, hb2⟩; obtain ⟨hc2, hf2⟩ := Gr.cells hb2; have hz2 := Gr.size hb2; (try simp at hz2); (try have hy2_0 : w.heap.size < w2.heap.size := by omega); (try have hy2_1 : w.heap.size + 1 < w2.heap.size := by omega); (try have hy2_2 : w.heap.size + 1 + 1 < w2.heap.size := by omega); (try have hy2_3 : w.heap.size + 1 + 1 + 1 < w2.heap.size := by omega); (try have hy2_4 : w.heap.size + 1 + 1 + 1 + 1 < w2.heap.size := by omega); (try have hy2_5 : w.heap.size + 1 + 1 + 1 + 1 + 1 < w2.heap.size := by omega); (try have hy2_1_0 : w1.heap.size < w2.heap.size := by omega); (try have hy2_1_1 : w1.heap.size + 1 < w2.heap.size := by omega)
        have kc2_0 := hc2 (w.heap.size) 0 (by first | omega | (simp; done) | (simp; omega))
        have kc2_1 := hc2 (w.heap.size) 1 (by first | omega | (simp; done) | (simp; omega))
        have kc2_2 := hc2 (w.heap.size + 1) 0 (by first | omega | (simp; done) | (simp; omega))
        have kc2_3 := hc2 (w.heap.size + 1) 1 (by first | omega | (simp; done) | (simp; omega))
        have kc2_4 := hc2 (w.heap.size + 1 + 1) 0 (by first | omega | (simp; done) | (simp; omega))
        have kc2_5 := hc2 (w.heap.size + 1 + 1) 1 (by first | omega | (simp; done) | (simp; omega))
        have kc2_6 := hc2 (w.heap.size + 1 + 1 + 1) 0 (by first | omega | (simp; done) | (simp; omega))
        have kc2_7 := hc2 (w.heap.size + 1 + 1 + 1) 1 (by first | omega | (simp; done) | (simp; omega))
        have kc2_8 := hc2 (w.heap.size + 1 + 1 + 1 + 1) 0 (by first | omega | (simp; done) | (simp; omega))
        have kc2_9 := hc2 (w.heap.size + 1 + 1 + 1 + 1) 1 (by first | omega | (simp; done) | (simp; omega))
        have kc2_10 := hc2 (w.heap.size + 1 + 1 + 1 + 1 + 1) 0 (by first | omega | (simp; done) | (simp; omega))
        have kc2_11 := hc2 (w.heap.size + 1 + 1 + 1 + 1 + 1) 1 (by first | omega | (simp; done) | (simp; omega))
        clear hc2
        (try simp [go_sem, *] at kc2_0)
        (try simp [go_sem, *] at kc2_1)
        (try simp [go_sem, *] at kc2_2)
        (try simp [go_sem, *] at kc2_3)
        (try simp [go_sem, *] at kc2_4)
        (try simp [go_sem, *] at kc2_5)
        (try simp [go_sem, *] at kc2_6)
        (try simp [go_sem, *] at kc2_7)
        (try simp [go_sem, *] at kc2_8)
        (try simp [go_sem, *] at kc2_9)
        (try simp [go_sem, *] at kc2_10)
        (try simp [go_sem, *] at kc2_11)
        go_wp2_with fail
        refine (HS3.out _).mono ?_; rintro e w3 ⟨rfl, hb3⟩; obtain ⟨hc3, hf3⟩ := Gr.cells hb3; have hz3 := Gr.size hb3; (try simp at hz3); (try have hy3_0 : w.heap.size < w3.heap.size := by omega); (try have hy3_1 : w.heap.size + 1 < w3.heap.size := by omega); (try have hy3_2 : w.heap.size + 1 + 1 < w3.heap.size := by omega); (try have hy3_3 : w.heap.size + 1 + 1 + 1 < w3.heap.size := by omega); (try have hy3_4 : w.heap.size + 1 + 1 + 1 + 1 < w3.heap.size := by omega); (try have hy3_5 : w.heap.size + 1 + 1 + 1 + 1 + 1 < w3.heap.size := by omega); (try have hy3_1_0 : w1.heap.size < w3.heap.size := by omega); (try have hy3_1_1 : w1.heap.size + 1 < w3.heap.size := by omega); (try have hy3_2_0 : w2.heap.size < w3.heap.size := by omega); (try have hy3_2_1 : w2.heap.size + 1 < w3.heap.size := by omega)
        have kc3_0 := hc3 (w.heap.size) 0 (by first | omega | (simp; done) | (simp; omega))
        have kc3_1 := hc3 (w.heap.size) 1 (by first | omega | (simp; done) | (simp; omega))
        have kc3_2 := hc3 (w.heap.size + 1) 0 (by first | omega | (simp; done) | (simp; omega))
        have kc3_3 := hc3 (w.heap.size + 1) 1 (by first | omega | (simp; done) | (simp; omega))
        have kc3_4 := hc3 (w.heap.size + 1 + 1) 0 (by first | omega | (simp; done) | (simp; omega))
        have kc3_5 := hc3 (w.heap.size + 1 + 1) 1 (by first | omega | (simp; done) | (simp; omega))
        have kc3_6 := hc3 (w.heap.size + 1 + 1 + 1) 0 (by first | omega | (simp; done) | (simp; omega))
        have kc3_7 := hc3 (w.heap.size + 1 + 1 + 1) 1 (by first | omega | (simp; done) | (simp; omega))
        have kc3_8 := hc3 (w.heap.size + 1 + 1 + 1 + 1) 0 (by first | omega | (simp; done) | (simp; omega))
        have kc3_9 := hc3 (w.heap.size + 1 + 1 + 1 + 1) 1 (by first | omega | (simp; done) | (simp; omega))
        have kc3_10 := hc3 (w.heap.size + 1 + 1 + 1 + 1 + 1) 0 (by first | omega | (simp; done) | (simp; omega))
        have kc3_11 := hc3 (w.heap.size + 1 + 1 + 1 + 1 + 1) 1 (by first | omega | (simp; done) | (simp; omega))
        clear hc3
        (try simp [go_sem, *] at kc3_0)
        (try simp [go_sem, *] at kc3_1)
        (try simp [go_sem, *] at kc3_2)
        (try simp [go_sem, *] at kc3_3)
        (try simp [go_sem, *] at kc3_4)
        (try simp [go_sem, *] at kc3_5)
        (try simp [go_sem, *] at kc3_6)
        (try simp [go_sem, *] at kc3_7)
        (try simp [go_sem, *] at kc3_8)
        (try simp [go_sem, *] at kc3_9)
        (try simp [go_sem, *] at kc3_10)
        (try simp [go_sem, *] at kc3_11)
        go_wp2_with fail
        refine (HMN.out _).mono ?_; rintro e w4 ⟨rfl, hb4⟩; obtain ⟨hc4, hf4⟩ := Gr.cells hb4; have hz4 := Gr.size hb4; (try simp at hz4); (try have hy4_0 : w.heap.size < w4.heap.size := by omega); (try have hy4_1 : w.heap.size + 1 < w4.heap.size := by omega); (try have hy4_2 : w.heap.size + 1 + 1 < w4.heap.size := by omega); (try have hy4_3 : w.heap.size + 1 + 1 + 1 < w4.heap.size := by omega); (try have hy4_4 : w.heap.size + 1 + 1 + 1 + 1 < w4.heap.size := by omega); (try have hy4_5 : w.heap.size + 1 + 1 + 1 + 1 + 1 < w4.heap.size := by omega); (try have hy4_1_0 : w1.heap.size < w4.heap.size := by omega); (try have hy4_1_1 : w1.heap.size + 1 < w4.heap.size := by omega); (try have hy4_2_0 : w2.heap.size < w4.heap.size := by omega); (try have hy4_2_1 : w2.heap.size + 1 < w4.heap.size := by omega); (try have hy4_3_0 : w3.heap.size < w4.heap.size := by omega); (try have hy4_3_1 : w3.heap.size + 1 < w4.heap.size := by omega)
        have kc4_0 := hc4 (w.heap.size) 0 (by first | omega | (simp; done) | (simp; omega))
        have kc4_1 := hc4 (w.heap.size) 1 (by first | omega | (simp; done) | (simp; omega))
        have kc4_2 := hc4 (w.heap.size + 1) 0 (by first | omega | (simp; done) | (simp; omega))
        have kc4_3 := hc4 (w.heap.size + 1) 1 (by first | omega | (simp; done) | (simp; omega))
        have kc4_4 := hc4 (w.heap.size + 1 + 1) 0 (by first | omega | (simp; done) | (simp; omega))
        have kc4_5 := hc4 (w.heap.size + 1 + 1) 1 (by first | omega | (simp; done) | (simp; omega))
        have kc4_6 := hc4 (w.heap.size + 1 + 1 + 1) 0 (by first | omega | (simp; done) | (simp; omega))
        have kc4_7 := hc4 (w.heap.size + 1 + 1 + 1) 1 (by first | omega | (simp; done) | (simp; omega))
        have kc4_8 := hc4 (w.heap.size + 1 + 1 + 1 + 1) 0 (by first | omega | (simp; done) | (simp; omega))
        have kc4_9 := hc4 (w.heap.size + 1 + 1 + 1 + 1) 1 (by first | omega | (simp; done) | (simp; omega))
        have kc4_10 := hc4 (w.heap.size + 1 + 1 + 1 + 1 + 1) 0 (by first | omega | (simp; done) | (simp; omega))
        have kc4_11 := hc4 (w.heap.size + 1 + 1 + 1 + 1 + 1) 1 (by first | omega | (simp; done) | (simp; omega))
        clear hc4
        (try simp [go_sem, *] at kc4_0)
        (try simp [go_sem, *] at kc4_1)
        (try simp [go_sem, *] at kc4_2)
        (try simp [go_sem, *] at kc4_3)
        (try simp [go_sem, *] at kc4_4)
        (try simp [go_sem, *] at kc4_5)
        (try simp [go_sem, *] at kc4_6)
        (try simp [go_sem, *] at kc4_7)
        (try simp [go_sem, *] at kc4_8)
        (try simp [go_sem, *] at kc4_9)
        (try simp [go_sem, *] at kc4_10)
        (try simp [go_sem, *] at kc4_11)
        go_wp2
        go_roundw
        case rel =>
          refine ⟨i + 1, _, _, _, by omega, by go_num, HX, ?_⟩
          unfold Wd.DSt
          rw [T1.out, T2.out]
          refine ⟨(by repeat' (first | (with_reducible exact Gr.refl _) | (with_reducible assumption) | (with_reducible refine Gr.alloc ?_ _) | (with_reducible refine Gr.drew ?_) | (with_reducible refine Gr.drewN ?_ _) | (with_reducible refine Gr.setCell ?_ ?_ _) | (with_reducible refine Gr.trans ?_ (by with_reducible assumption)) | go_size)), by first | omega | (simp; omega), ?_⟩
          simp [go_sem, *]
        case measure => simp [intOf]; omega
      · have ho' : decide (0 < ov) = false := decide_eq_false ho
        have hR2 : R1 = 2 * r + bit := by omega
        by_cases hle : Wd.mag y ≤ 2 * r + bit
        · have HX : Hid (Wd.DInv (Wd.mag x) (Wd.mag y) (i + 1) (a * 2 % 340282366920938463463374607431768211456) (2 * q + 1) (2 * r + bit - Wd.mag y)) := h1 hle
          rw [show (R1 - Wd.mag y) % 340282366920938463463374607431768211456 = 2 * r + bit - Wd.mag y by omega] at HMN0
          rw [decide_eq_false (show ¬ R1 < Wd.mag y by omega)] at HL0
          have HMN := Lib.hid HMN0; have HL := Lib.hid HL0
          clear h1 h2 HMN0 HL0 hR1 hm1 wa wr' hov' hbit hd t1 t2 d5 hR2
          go_wp2_with fail
          refine (HS1.out _).mono ?_; rintro e w1 ⟨rfl, hb1⟩; obtain ⟨hc1, hf1⟩ := Gr.cells hb1; have hz1 := Gr.size hb1; (try simp at hz1); (try have hy1_0 : w.heap.size < w1.heap.size := by omega); (try have hy1_1 : w.heap.size + 1 < w1.heap.size := by omega); (try have hy1_2 : w.heap.size + 1 + 1 < w1.heap.size := by omega); (try have hy1_3 : w.heap.size + 1 + 1 + 1 < w1.heap.size := by omega); (try have hy1_4 : w.heap.size + 1 + 1 + 1 + 1 < w1.heap.size := by omega); (try have hy1_5 : w.heap.size + 1 + 1 + 1 + 1 + 1 < w1.heap.size := by omega)
          have kc1_0 := hc1 (w.heap.size) 0 (by first | omega | (simp; done) | (simp; omega))
          have kc1_1 := hc1 (w.heap.size) 1 (by first | omega | (simp; done) | (simp; omega))
          have kc1_2 := hc1 (w.heap.size + 1) 0 (by first | omega | (simp; done) | (simp; omega))
          have kc1_3 := hc1 (w.heap.size + 1) 1 (by first | omega | (simp; done) | (simp; omega))
          have kc1_4 := hc1 (w.heap.size + 1 + 1) 0 (by first | omega | (simp; done) | (simp; omega))
          have kc1_5 := hc1 (w.heap.size + 1 + 1) 1 (by first | omega | (simp; done) | (simp; omega))
          have kc1_6 := hc1 (w.heap.size + 1 + 1 + 1) 0 (by first | omega | (simp; done) | (simp; omega))
          have kc1_7 := hc1 (w.heap.size + 1 + 1 + 1) 1 (by first | omega | (simp; done) | (simp; omega))
          have kc1_8 := hc1 (w.heap.size + 1 + 1 + 1 + 1) 0 (by first | omega | (simp; done) | (simp; omega))
          have kc1_9 := hc1 (w.heap.size + 1 + 1 + 1 + 1) 1 (by first | omega | (simp; done) | (simp; omega))
          have kc1_10 := hc1 (w.heap.size + 1 + 1 + 1 + 1 + 1) 0 (by first | omega | (simp; done) | (simp; omega))
          have kc1_11 := hc1 (w.heap.size + 1 + 1 + 1 + 1 + 1) 1 (by first | omega | (simp; done) | (simp; omega))
          clear hc1
          (try simp [go_sem, *] at kc1_0)
          (try simp [go_sem, *] at kc1_1)
          (try simp [go_sem, *] at kc1_2)
          (try simp [go_sem, *] at kc1_3)
          (try simp [go_sem, *] at kc1_4)
          (try simp [go_sem, *] at kc1_5)
          (try simp [go_sem, *] at kc1_6)
          (try simp [go_sem, *] at kc1_7)
          (try simp [go_sem, *] at kc1_8)
          (try simp [go_sem, *] at kc1_9)
          (try simp [go_sem, *] at kc1_10)
          (try simp [go_sem, *] at kc1_11)
          go_wp2_with fail
          refine (HS2.out _).mono ?_; rintro e w2 ⟨rfl, hb2⟩; obtain ⟨hc2, hf2⟩ := Gr.cells hb2; have hz2 := Gr.size hb2; (try simp at hz2); (try have hy2_0 : w.heap.size < w2.heap.size := by omega); (try have hy2_1 : w.heap.size + 1 < w2.heap.size := by omega); (try have hy2_2 : w.heap.size + 1 + 1 < w2.heap.size := by omega); (try have hy2_3 : w.heap.size + 1 + 1 + 1 < w2.heap.size := by omega); (try have hy2_4 : w.heap.size + 1 + 1 + 1 + 1 < w2.heap.size := by omega); (try have hy2_5 : w.heap.size + 1 + 1 + 1 + 1 + 1 < w2.heap.size := by omega); (try have hy2_1_0 : w1.heap.size < w2.heap.size := by omega); (try have hy2_1_1 : w1.heap.size + 1 < w2.heap.size := by omega)
          have kc2_0 := hc2 (w.heap.size) 0 (by first | omega | (simp; done) | (simp; omega))
          have kc2_1 := hc2 (w.heap.size) 1 (by first | omega | (simp; done) | (simp; omega))
          have kc2_2 := hc2 (w.heap.size + 1) 0 (by first | omega | (simp; done) | (simp; omega))
          have kc2_3 := hc2 (w.heap.size + 1) 1 (by first | omega | (simp; done) | (simp; omega))
          have kc2_4 := hc2 (w.heap.size + 1 + 1) 0 (by first | omega | (simp; done) | (simp; omega))
          have kc2_5 := hc2 (w.heap.size + 1 + 1) 1 (by first | omega | (simp; done) | (simp; omega))
          have kc2_6 := hc2 (w.heap.size + 1 + 1 + 1) 0 (by first | omega | (simp; done) | (simp; omega))
          have kc2_7 := hc2 (w.heap.size + 1 + 1 + 1) 1 (by first | omega | (simp; done) | (simp; omega))
          have kc2_8 := hc2 (w.heap.size + 1 + 1 + 1 + 1) 0 (by first | omega | (simp; done) | (simp; omega))
          have kc2_9 := hc2 (w.heap.size + 1 + 1 + 1 + 1) 1 (by first | omega | (simp; done) | (simp; omega))
          have kc2_10 := hc2 (w.heap.size + 1 + 1 + 1 + 1 + 1) 0 (by first | omega | (simp; done) | (simp; omega))
          have kc2_11 := hc2 (w.heap.size + 1 + 1 + 1 + 1 + 1) 1 (by first | omega | (simp; done) | (simp; omega))
          clear hc2
          (try simp [go_sem, *] at kc2_0)
          (try simp [go_sem, *] at kc2_1)
          (try simp [go_sem, *] at kc2_2)
          (try simp [go_sem, *] at kc2_3)
          (try simp [go_sem, *] at kc2_4)
          (try simp [go_sem, *] at kc2_5)
          (try simp [go_sem, *] at kc2_6)
          (try simp [go_sem, *] at kc2_7)
          (try simp [go_sem, *] at kc2_8)
          (try simp [go_sem, *] at kc2_9)
          (try simp [go_sem, *] at kc2_10)
          (try simp [go_sem, *] at kc2_11)
          go_wp2_with fail
          refine (HS3.out _).mono ?_; rintro e w3 ⟨rfl, hb3⟩; obtain ⟨hc3, hf3⟩ := Gr.cells hb3; have hz3 := Gr.size hb3; (try simp at hz3); (try have hy3_0 : w.heap.size < w3.heap.size := by omega); (try have hy3_1 : w.heap.size + 1 < w3.heap.size := by omega); (try have hy3_2 : w.heap.size + 1 + 1 < w3.heap.size := by omega); (try have hy3_3 : w.heap.size + 1 + 1 + 1 < w3.heap.size := by omega); (try have hy3_4 : w.heap.size + 1 + 1 + 1 + 1 < w3.heap.size := by omega); (try have hy3_5 : w.heap.size + 1 + 1 + 1 + 1 + 1 < w3.heap.size := by omega); (try have hy3_1_0 : w1.heap.size < w3.heap.size := by omega); (try have hy3_1_1 : w1.heap.size + 1 < w3.heap.size := by omega); (try have hy3_2_0 : w2.heap.size < w3.heap.size := by omega); (try have hy3_2_1 : w2.heap.size + 1 < w3.heap.size := by omega)
          have kc3_0 := hc3 (w.heap.size) 0 (by first | omega | (simp; done) | (simp; omega))
          have kc3_1 := hc3 (w.heap.size) 1 (by first | omega | (simp; done) | (simp; omega))
          have kc3_2 := hc3 (w.heap.size + 1) 0 (by first | omega | (simp; done) | (simp; omega))
          have kc3_3 := hc3 (w.heap.size + 1) 1 (by first | omega | (simp; done) | (simp; omega))
          have kc3_4 := hc3 (w.heap.size + 1 + 1) 0 (by first | omega | (simp; done) | (simp; omega))
          have kc3_5 := hc3 (w.heap.size + 1 + 1) 1 (by first | omega | (simp; done) | (simp; omega))
          have kc3_6 := hc3 (w.heap.size + 1 + 1 + 1) 0 (by first | omega | (simp; done) | (simp; omega))
          have kc3_7 := hc3 (w.heap.size + 1 + 1 + 1) 1 (by first | omega | (simp; done) | (simp; omega))
          have kc3_8 := hc3 (w.heap.size + 1 + 1 + 1 + 1) 0 (by first | omega | (simp; done) | (simp; omega))
          have kc3_9 := hc3 (w.heap.size + 1 + 1 + 1 + 1) 1 (by first | omega | (simp; done) | (simp; omega))
          have kc3_10 := hc3 (w.heap.size + 1 + 1 + 1 + 1 + 1) 0 (by first | omega | (simp; done) | (simp; omega))
          have kc3_11 := hc3 (w.heap.size + 1 + 1 + 1 + 1 + 1) 1 (by first | omega | (simp; done) | (simp; omega))
          clear hc3
          (try simp [go_sem, *] at kc3_0)
          (try simp [go_sem, *] at kc3_1)
          (try simp [go_sem, *] at kc3_2)
          (try simp [go_sem, *] at kc3_3)
          (try simp [go_sem, *] at kc3_4)
          (try simp [go_sem, *] at kc3_5)
          (try simp [go_sem, *] at kc3_6)
          (try simp [go_sem, *] at kc3_7)
          (try simp [go_sem, *] at kc3_8)
          (try simp [go_sem, *] at kc3_9)
          (try simp [go_sem, *] at kc3_10)
          (try simp [go_sem, *] at kc3_11)
          go_wp2_with fail
          refine (HL.out _).mono ?_; rintro e w4 ⟨rfl, hb4⟩; obtain ⟨hc4, hf4⟩ := Gr.cells hb4; have hz4 := Gr.size hb4; (try simp at hz4); (try have hy4_0 : w.heap.size < w4.heap.size := by omega); (try have hy4_1 : w.heap.size + 1 < w4.heap.size := by omega); (try have hy4_2 : w.heap.size + 1 + 1 < w4.heap.size := by omega); (try have hy4_3 : w.heap.size + 1 + 1 + 1 < w4.heap.size := by omega); (try have hy4_4 : w.heap.size + 1 + 1 + 1 + 1 < w4.heap.size := by omega); (try have hy4_5 : w.heap.size + 1 + 1 + 1 + 1 + 1 < w4.heap.size := by omega); (try have hy4_1_0 : w1.heap.size < w4.heap.size := by omega); (try have hy4_1_1 : w1.heap.size + 1 < w4.heap.size := by omega); (try have hy4_2_0 : w2.heap.size < w4.heap.size := by omega); (try have hy4_2_1 : w2.heap.size + 1 < w4.heap.size := by omega); (try have hy4_3_0 : w3.heap.size < w4.heap.size := by omega); (try have hy4_3_1 : w3.heap.size + 1 < w4.heap.size := by omega)
          have kc4_0 := hc4 (w.heap.size) 0 (by first | omega | (simp; done) | (simp; omega))
          have kc4_1 := hc4 (w.heap.size) 1 (by first | omega | (simp; done) | (simp; omega))
          have kc4_2 := hc4 (w.heap.size + 1) 0 (by first | omega | (simp; done) | (simp; omega))
          have kc4_3 := hc4 (w.heap.size + 1) 1 (by first | omega | (simp; done) | (simp; omega))
          have kc4_4 := hc4 (w.heap.size + 1 + 1) 0 (by first | omega | (simp; done) | (simp; omega))
          have kc4_5 := hc4 (w.heap.size + 1 + 1) 1 (by first | omega | (simp; done) | (simp; omega))
          have kc4_6 := hc4 (w.heap.size + 1 + 1 + 1) 0 (by first | omega | (simp; done) | (simp; omega))
          have kc4_7 := hc4 (w.heap.size + 1 + 1 + 1) 1 (by first | omega | (simp; done) | (simp; omega))
          have kc4_8 := hc4 (w.heap.size + 1 + 1 + 1 + 1) 0 (by first | omega | (simp; done) | (simp; omega))
          have kc4_9 := hc4 (w.heap.size + 1 + 1 + 1 + 1) 1 (by first | omega | (simp; done) | (simp; omega))
          have kc4_10 := hc4 (w.heap.size + 1 + 1 + 1 + 1 + 1) 0 (by first | omega | (simp; done) | (simp; omega))
          have kc4_11 := hc4 (w.heap.size + 1 + 1 + 1 + 1 + 1) 1 (by first | omega | (simp; done) | (simp; omega))
          clear hc4
          (try simp [go_sem, *] at kc4_0)
          (try simp [go_sem, *] at kc4_1)
          (try simp [go_sem, *] at kc4_2)
          (try simp [go_sem, *] at kc4_3)
          (try simp [go_sem, *] at kc4_4)
          (try simp [go_sem, *] at kc4_5)
          (try simp [go_sem, *] at kc4_6)
          (try simp [go_sem, *] at kc4_7)
          (try simp [go_sem, *] at kc4_8)
          (try simp [go_sem, *] at kc4_9)
          (try simp [go_sem, *] at kc4_10)
          (try simp [go_sem, *] at kc4_11)
          go_wp2_with fail
          refine (HMN.out _).mono ?_; rintro e w5 ⟨rfl, hb5⟩; obtain ⟨hc5, hf5⟩ := Gr.cells hb5; have hz5 := Gr.size hb5; (try simp at hz5); (try have hy5_0 : w.heap.size < w5.heap.size := by omega); (try have hy5_1 : w.heap.size + 1 < w5.heap.size := by omega); (try have hy5_2 : w.heap.size + 1 + 1 < w5.heap.size := by omega); (try have hy5_3 : w.heap.size + 1 + 1 + 1 < w5.heap.size := by omega); (try have hy5_4 : w.heap.size + 1 + 1 + 1 + 1 < w5.heap.size := by omega); (try have hy5_5 : w.heap.size + 1 + 1 + 1 + 1 + 1 < w5.heap.size := by omega); (try have hy5_1_0 : w1.heap.size < w5.heap.size := by omega); (try have hy5_1_1 : w1.heap.size + 1 < w5.heap.size := by omega); (try have hy5_2_0 : w2.heap.size < w5.heap.size := by omega); (try have hy5_2_1 : w2.heap.size + 1 < w5.heap.size := by omega); (try have hy5_3_0 : w3.heap.size < w5.heap.size := by omega); (try have hy5_3_1 : w3.heap.size + 1 < w5.heap.size := by omega)
          have kc5_0 := hc5 (w.heap.size) 0 (by first | omega | (simp; done) | (simp; omega))
          have kc5_1 := hc5 (w.heap.size) 1 (by first | omega | (simp; done) | (simp; omega))
          have kc5_2 := hc5 (w.heap.size + 1) 0 (by first | omega | (simp; done) | (simp; omega))
          have kc5_3 := hc5 (w.heap.size + 1) 1 (by first | omega | (simp; done) | (simp; omega))
          have kc5_4 := hc5 (w.heap.size + 1 + 1) 0 (by first | omega | (simp; done) | (simp; omega))
          have kc5_5 := hc5 (w.heap.size + 1 + 1) 1 (by first | omega | (simp; done) | (simp; omega))
          have kc5_6 := hc5 (w.heap.size + 1 + 1 + 1) 0 (by first | omega | (simp; done) | (simp; omega))
          have kc5_7 := hc5 (w.heap.size + 1 + 1 + 1) 1 (by first | omega | (simp; done) | (simp; omega))
          have kc5_8 := hc5 (w.heap.size + 1 + 1 + 1 + 1) 0 (by first | omega | (simp; done) | (simp; omega))
          have kc5_9 := hc5 (w.heap.size + 1 + 1 + 1 + 1) 1 (by first | omega | (simp; done) | (simp; omega))
          have kc5_10 := hc5 (w.heap.size + 1 + 1 + 1 + 1 + 1) 0 (by first | omega | (simp; done) | (simp; omega))
          have kc5_11 := hc5 (w.heap.size + 1 + 1 + 1 + 1 + 1) 1 (by first | omega | (simp; done) | (simp; omega))
          clear hc5
          (try simp [go_sem, *] at kc5_0)
          (try simp [go_sem, *] at kc5_1)
          (try simp [go_sem, *] at kc5_2)
          (try simp [go_sem, *] at kc5_3)
          (try simp [go_sem, *] at kc5_4)
          (try simp [go_sem, *] at kc5_5)
          (try simp [go_sem, *] at kc5_6)
          (try simp [go_sem, *] at kc5_7)
          (try simp [go_sem, *] at kc5_8)
          (try simp [go_sem, *] at kc5_9)
          (try simp [go_sem, *] at kc5_10)
          (try simp [go_sem, *] at kc5_11)
          go_wp2
          go_roundw
          case rel =>
            refine ⟨i + 1, _, _, _, by omega, by go_num, HX, ?_⟩
            unfold Wd.DSt
            rw [T1.out, T2.out]
            refine ⟨(by repeat' (first | (with_reducible exact Gr.refl _) | (with_reducible assumption) | (with_reducible refine Gr.alloc ?_ _) | (with_reducible refine Gr.drew ?_) | (with_reducible refine Gr.drewN ?_ _) | (with_reducible refine Gr.setCell ?_ ?_ _) | (with_reducible refine Gr.trans ?_ (by with_reducible assumption)) | go_size)), by first | omega | (simp; omega), ?_⟩
            simp [go_sem, *]
          case measure => simp [intOf]; omega
        · have HX : Hid (Wd.DInv (Wd.mag x) (Wd.mag y) (i + 1) (a * 2 % 340282366920938463463374607431768211456) (2 * q) R1) := by rw [hR2]; exact h2 (by omega)
          rw [decide_eq_true (show R1 < Wd.mag y by omega)] at HL0
          have HL := Lib.hid HL0
          clear h1 h2 HMN0 HL0 hR1 hm1 wa wr' hov' hbit hd t1 t2 d5 hR2
          go_wp2_with fail
          refine (HS1.out _).mono ?_; rintro e w1 ⟨rfl, hb1⟩; obtain ⟨hc1, hf1⟩ := Gr.cells hb1; have hz1 := Gr.size hb1; (try simp at hz1); (try have hy1_0 : w.heap.size < w1.heap.size := by omega); (try have hy1_1 : w.heap.size + 1 < w1.heap.size := by omega); (try have hy1_2 : w.heap.size + 1 + 1 < w1.heap.size := by omega); (try have hy1_3 : w.heap.size + 1 + 1 + 1 < w1.heap.size := by omega); (try have hy1_4 : w.heap.size + 1 + 1 + 1 + 1 < w1.heap.size := by omega); (try have hy1_5 : w.heap.size + 1 + 1 + 1 + 1 + 1 < w1.heap.size := by omega)
          have kc1_0 := hc1 (w.heap.size) 0 (by first | omega | (simp; done) | (simp; omega))
          have kc1_1 := hc1 (w.heap.size) 1 (by first | omega | (simp; done) | (simp; omega))
          have kc1_2 := hc1 (w.heap.size + 1) 0 (by first | omega | (simp; done) | (simp; omega))
          have kc1_3 := hc1 (w.heap.size + 1) 1 (by first | omega | (simp; done) | (simp; omega))
          have kc1_4 := hc1 (w.heap.size + 1 + 1) 0 (by first | omega | (simp; done) | (simp; omega))
          have kc1_5 := hc1 (w.heap.size + 1 + 1) 1 (by first | omega | (simp; done) | (simp; omega))
          have kc1_6 := hc1 (w.heap.size + 1 + 1 + 1) 0 (by first | omega | (simp; done) | (simp; omega))
          have kc1_7 := hc1 (w.heap.size + 1 + 1 + 1) 1 (by first | omega | (simp; done) | (simp; omega))
          have kc1_8 := hc1 (w.heap.size + 1 + 1 + 1 + 1) 0 (by first | omega | (simp; done) | (simp; omega))
          have kc1_9 := hc1 (w.heap.size + 1 + 1 + 1 + 1) 1 (by first | omega | (simp; done) | (simp; omega))
          have kc1_10 := hc1 (w.heap.size + 1 + 1 + 1 + 1 + 1) 0 (by first | omega | (simp; done) | (simp; omega))
          have kc1_11 := hc1 (w.heap.size + 1 + 1 + 1 + 1 + 1) 1 (by first | omega | (simp; done) | (simp; omega))
          clear hc1
          (try simp [go_sem, *] at kc1_0)
          (try simp [go_sem, *] at kc1_1)
          (try simp [go_sem, *] at kc1_2)
          (try simp [go_sem, *] at kc1_3)
          (try simp [go_sem, *] at kc1_4)
          (try simp [go_sem, *] at kc1_5)
          (try simp [go_sem, *] at kc1_6)
          (try simp [go_sem, *] at kc1_7)
          (try simp [go_sem, *] at kc1_8)
          (try simp [go_sem, *] at kc1_9)
          (try simp [go_sem, *] at kc1_10)
          (try simp [go_sem, *] at kc1_11)
          go_wp2_with fail
          refine (HS2.out _).mono ?_; rintro e w2 ⟨rfl, hb2⟩; obtain ⟨hc2, hf2⟩ := Gr.cells hb2; have hz2 := Gr.size hb2; (try simp at hz2); (try have hy2_0 : w.heap.size < w2.heap.size := by omega); (try have hy2_1 : w.heap.size + 1 < w2.heap.size := by omega); (try have hy2_2 : w.heap.size + 1 + 1 < w2.heap.size := by omega); (try have hy2_3 : w.heap.size + 1 + 1 + 1 < w2.heap.size := by omega); (try have hy2_4 : w.heap.size + 1 + 1 + 1 + 1 < w2.heap.size := by omega); (try have hy2_5 : w.heap.size + 1 + 1 + 1 + 1 + 1 < w2.heap.size := by omega); (try have hy2_1_0 : w1.heap.size < w2.heap.size := by omega); (try have hy2_1_1 : w1.heap.size + 1 < w2.heap.size := by omega)
          have kc2_0 := hc2 (w.heap.size) 0 (by first | omega | (simp; done) | (simp; omega))
          have kc2_1 := hc2 (w.heap.size) 1 (by first | omega | (simp; done) | (simp; omega))
          have kc2_2 := hc2 (w.heap.size + 1) 0 (by first | omega | (simp; done) | (simp; omega))
          have kc2_3 := hc2 (w.heap.size + 1) 1 (by first | omega | (simp; done) | (simp; omega))
          have kc2_4 := hc2 (w.heap.size + 1 + 1) 0 (by first | omega | (simp; done) | (simp; omega))
          have kc2_5 := hc2 (w.heap.size + 1 + 1) 1 (by first | omega | (simp; done) | (simp; omega))
          have kc2_6 := hc2 (w.heap.size + 1 + 1 + 1) 0 (by first | omega | (simp; done) | (simp; omega))
          have kc2_7 := hc2 (w.heap.size + 1 + 1 + 1) 1 (by first | omega | (simp; done) | (simp; omega))
          have kc2_8 := hc2 (w.heap.size + 1 + 1 + 1 + 1) 0 (by first | omega | (simp; done) | (simp; omega))
          have kc2_9 := hc2 (w.heap.size + 1 + 1 + 1 + 1) 1 (by first | omega | (simp; done) | (simp; omega))
          have kc2_10 := hc2 (w.heap.size + 1 + 1 + 1 + 1 + 1) 0 (by first | omega | (simp; done) | (simp; omega))
          have kc2_11 := hc2 (w.heap.size + 1 + 1 + 1 + 1 + 1) 1 (by first | omega | (simp; done) | (simp; omega))
          clear hc2
          (try simp [go_sem, *] at kc2_0)
          (try simp [go_sem, *] at kc2_1)
          (try simp [go_sem, *] at kc2_2)
          (try simp [go_sem, *] at kc2_3)
          (try simp [go_sem, *] at kc2_4)
          (try simp [go_sem, *] at kc2_5)
          (try simp [go_sem, *] at kc2_6)
          (try simp [go_sem, *] at kc2_7)
          (try simp [go_sem, *] at kc2_8)
          (try simp [go_sem, *] at kc2_9)
          (try simp [go_sem, *] at kc2_10)
          (try simp [go_sem, *] at kc2_11)
          go_wp2_with fail
          refine (HS3.out _).mono ?_; rintro e w3 ⟨rfl, hb3⟩; obtain ⟨hc3, hf3⟩ := Gr.cells hb3; have hz3 := Gr.size hb3; (try simp at hz3); (try have hy3_0 : w.heap.size < w3.heap.size := by omega); (try have hy3_1 : w.heap.size + 1 < w3.heap.size := by omega); (try have hy3_2 : w.heap.size + 1 + 1 < w3.heap.size := by omega); (try have hy3_3 : w.heap.size + 1 + 1 + 1 < w3.heap.size := by omega); (try have hy3_4 : w.heap.size + 1 + 1 + 1 + 1 < w3.heap.size := by omega); (try have hy3_5 : w.heap.size + 1 + 1 + 1 + 1 + 1 < w3.heap.size := by omega); (try have hy3_1_0 : w1.heap.size < w3.heap.size := by omega); (try have hy3_1_1 : w1.heap.size + 1 < w3.heap.size := by omega); (try have hy3_2_0 : w2.heap.size < w3.heap.size := by omega); (try have hy3_2_1 : w2.heap.size + 1 < w3.heap.size := by omega)
          have kc3_0 := hc3 (w.heap.size) 0 (by first | omega | (simp; done) | (simp; omega))
          have kc3_1 := hc3 (w.heap.size) 1 (by first | omega | (simp; done) | (simp; omega))
          have kc3_2 := hc3 (w.heap.size + 1) 0 (by first | omega | (simp; done) | (simp; omega))
          have kc3_3 := hc3 (w.heap.size + 1) 1 (by first | omega | (simp; done) | (simp; omega))
          have kc3_4 := hc3 (w.heap.size + 1 + 1) 0 (by first | omega | (simp; done) | (simp; omega))
          have kc3_5 := hc3 (w.heap.size + 1 + 1) 1 (by first | omega | (simp; done) | (simp; omega))
          have kc3_6 := hc3 (w.heap.size + 1 + 1 + 1) 0 (by first | omega | (simp; done) | (simp; omega))
          have kc3_7 := hc3 (w.heap.size + 1 + 1 + 1) 1 (by first | omega | (simp; done) | (simp; omega))
          have kc3_8 := hc3 (w.heap.size + 1 + 1 + 1 + 1) 0 (by first | omega | (simp; done) | (simp; omega))
          have kc3_9 := hc3 (w.heap.size + 1 + 1 + 1 + 1) 1 (by first | omega | (simp; done) | (simp; omega))
          have kc3_10 := hc3 (w.heap.size + 1 + 1 + 1 + 1 + 1) 0 (by first | omega | (simp; done) | (simp; omega))
          have kc3_11 := hc3 (w.heap.size + 1 + 1 + 1 + 1 + 1) 1 (by first | omega | (simp; done) | (simp; omega))
          clear hc3
          (try simp [go_sem, *] at kc3_0)
          (try simp [go_sem, *] at kc3_1)
          (try simp [go_sem, *] at kc3_2)
          (try simp [go_sem, *] at kc3_3)
          (try simp [go_sem, *] at kc3_4)
          (try simp [go_sem, *] at kc3_5)
          (try simp [go_sem, *] at kc3_6)
          (try simp [go_sem, *] at kc3_7)
          (try simp [go_sem, *] at kc3_8)
          (try simp [go_sem, *] at kc3_9)
          (try simp [go_sem, *] at kc3_10)
          (try simp [go_sem, *] at kc3_11)
          go_wp2_with fail
          refine (HL.out _).mono ?_; rintro e w4 ⟨rfl, hb4⟩; obtain ⟨hc4, hf4⟩ := Gr.cells hb4; have hz4 := Gr.size hb4; (try simp at hz4); (try have hy4_0 : w.heap.size < w4.heap.size := by omega); (try have hy4_1 : w.heap.size + 1 < w4.heap.size := by omega); (try have hy4_2 : w.heap.size + 1 + 1 < w4.heap.size := by omega); (try have hy4_3 : w.heap.size + 1 + 1 + 1 < w4.heap.size := by omega); (try have hy4_4 : w.heap.size + 1 + 1 + 1 + 1 < w4.heap.size := by omega); (try have hy4_5 : w.heap.size + 1 + 1 + 1 + 1 + 1 < w4.heap.size := by omega); (try have hy4_1_0 : w1.heap.size < w4.heap.size := by omega); (try have hy4_1_1 : w1.heap.size + 1 < w4.heap.size := by omega); (try have hy4_2_0 : w2.heap.size < w4.heap.size := by omega); (try have hy4_2_1 : w2.heap.size + 1 < w4.heap.size := by omega); (try have hy4_3_0 : w3.heap.size < w4.heap.size := by omega); (try have hy4_3_1 : w3.heap.size + 1 < w4.heap.size := by omega)
          have kc4_0 := hc4 (w.heap.size) 0 (by first | omega | (simp; done) | (simp; omega))
          have kc4_1 := hc4 (w.heap.size) 1 (by first | omega | (simp; done) | (simp; omega))
          have kc4_2 := hc4 (w.heap.size + 1) 0 (by first | omega | (simp; done) | (simp; omega))
          have kc4_3 := hc4 (w.heap.size + 1) 1 (by first | omega | (simp; done) | (simp; omega))
          have kc4_4 := hc4 (w.heap.size + 1 + 1) 0 (by first | omega | (simp; done) | (simp; omega))
          have kc4_5 := hc4 (w.heap.size + 1 + 1) 1 (by first | omega | (simp; done) | (simp; omega))
          have kc4_6 := hc4 (w.heap.size + 1 + 1 + 1) 0 (by first | omega | (simp; done) | (simp; omega))
          have kc4_7 := hc4 (w.heap.size + 1 + 1 + 1) 1 (by first | omega | (simp; done) | (simp; omega))
          have kc4_8 := hc4 (w.heap.size + 1 + 1 + 1 + 1) 0 (by first | omega | (simp; done) | (simp; omega))
          have kc4_9 := hc4 (w.heap.size + 1 + 1 + 1 + 1) 1 (by first | omega | (simp; done) | (simp; omega))
          have kc4_10 := hc4 (w.heap.size + 1 + 1 + 1 + 1 + 1) 0 (by first | omega | (simp; done) | (simp; omega))
          have kc4_11 := hc4 (w.heap.size + 1 + 1 + 1 + 1 + 1) 1 (by first | omega | (simp; done) | (simp; omega))
          clear hc4
          (try simp [go_sem, *] at kc4_0)
          (try simp [go_sem, *] at kc4_1)
          (try simp [go_sem, *] at kc4_2)
          (try simp [go_sem, *] at kc4_3)
          (try simp [go_sem, *] at kc4_4)
          (try simp [go_sem, *] at kc4_5)
          (try simp [go_sem, *] at kc4_6)
          (try simp [go_sem, *] at kc4_7)
          (try simp [go_sem, *] at kc4_8)
          (try simp [go_sem, *] at kc4_9)
          (try simp [go_sem, *] at kc4_10)
          (try simp [go_sem, *] at kc4_11)
          go_wp2
          go_roundw
          case rel =>
            refine ⟨i + 1, _, _, _, by omega, by go_num, HX, ?_⟩
            unfold Wd.DSt
            refine ⟨(by repeat' (first | (with_reducible exact Gr.refl _) | (with_reducible assumption) | (with_reducible refine Gr.alloc ?_ _) | (with_reducible refine Gr.drew ?_) | (with_reducible refine Gr.drewN ?_ _) | (with_reducible refine Gr.setCell ?_ ?_ _) | (with_reducible refine Gr.trans ?_ (by with_reducible assumption)) | go_size)), by first | omega | (simp; omega), ?_⟩
            simp [go_sem, *]
          case measure => simp [intOf]; omega
    · obtain rfl : i = 128 := by omega
      have hend := Wd.dinv_end _ _ _ _ _ hd.out
      rw [hend.1] at q0 q1
      rw [hend.2] at r0 r1
      clear hd hend
      go_wp2
      go_region
      all_goals
        go_wp2
        refine bodyPost_ret (by simp [results, Tryd.results28, go_sem, e0, e1, f0, f1]; try rfl) rfl ?_
        exact ⟨by first | rfl | (simp; done), (by repeat' (first | (with_reducible exact Gr.refl _) | (with_reducible assumption) | (with_reducible refine Gr.alloc ?_ _) | (with_reducible refine Gr.drew ?_) | (with_reducible refine Gr.drewN ?_ _) | (with_reducible refine Gr.setCell ?_ ?_ _) | (with_reducible refine Gr.trans ?_ (by with_reducible assumption)) | go_size))⟩
end Go.Proofs.YtbaahlofabmljaaDoor
