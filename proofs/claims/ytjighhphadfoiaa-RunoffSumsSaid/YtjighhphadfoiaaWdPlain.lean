/-
  Plain arithmetic of the layer wide: a signed integer as two words of 64 bits and a sign. No program here.
-/
import Derived.WalkKit
set_option linter.unusedVariables false
set_option linter.unusedSimpArgs false
namespace Go.Proofs.Ytjighhphadfoiaa
namespace Wd
/-- The absolute value. -/
def mag (v : Int) : Int := if v < 0 then -v else v
/-- The upper and the lower word of the absolute value. -/
def hi (v : Int) : Int := mag v / 18446744073709551616
def lo (v : Int) : Int := mag v % 18446744073709551616
/-- Is it negative? -/
def neg (v : Int) : Bool := decide (v < 0)
/-- The integer of two words and a sign. -/
def mk (h l : Int) (b : Bool) : Int := if b then -(h * 18446744073709551616 + l) else h * 18446744073709551616 + l

theorem mag_nonneg (v : Int) : 0 ≤ mag v := by unfold mag; split <;> omega
theorem lo_nonneg (v : Int) : 0 ≤ lo v := by unfold lo; omega
theorem lo_lt (v : Int) : lo v ≤ 18446744073709551615 := by unfold lo; omega
theorem hi_nonneg (v : Int) : 0 ≤ hi v := by have := mag_nonneg v; unfold hi; omega
theorem hilo (v : Int) : hi v * 18446744073709551616 + lo v = mag v := by unfold hi lo; omega
theorem mag_of_nonneg {v : Int} (h : 0 ≤ v) : mag v = v := by unfold mag; split <;> omega
theorem mag_of_neg {v : Int} (h : v < 0) : mag v = -v := by unfold mag; split <;> omega
theorem neg_of_nonneg {v : Int} (h : 0 ≤ v) : neg v = false := by unfold neg; simp; omega
theorem neg_of_neg {v : Int} (h : v < 0) : neg v = true := by unfold neg; simp; omega
theorem mag_mk (h l : Int) (b : Bool) (h0 : 0 ≤ h) (l0 : 0 ≤ l) : mag (mk h l b) = h * 18446744073709551616 + l := by
  unfold mk mag; cases b <;> simp <;> intro _ <;> omega
theorem hi_mk (h l : Int) (b : Bool) (h0 : 0 ≤ h) (l0 : 0 ≤ l) (l1 : l ≤ 18446744073709551615) : hi (mk h l b) = h := by
  unfold hi; rw [mag_mk h l b h0 l0]; omega
theorem lo_mk (h l : Int) (b : Bool) (h0 : 0 ≤ h) (l0 : 0 ≤ l) (l1 : l ≤ 18446744073709551615) : lo (mk h l b) = l := by
  unfold lo; rw [mag_mk h l b h0 l0]; omega
theorem neg_mk_false (h l : Int) (h0 : 0 ≤ h) (l0 : 0 ≤ l) : neg (mk h l false) = false := by
  unfold neg mk; simp; omega
theorem neg_mk_true (h l : Int) (h0 : 0 ≤ h) (l0 : 0 ≤ l) (hl : h ≠ 0 ∨ l ≠ 0) : neg (mk h l true) = true := by
  unfold neg mk; simp; omega
theorem neg_mk_zero (b : Bool) : neg (mk 0 0 b) = false := by
  unfold neg mk; cases b <;> simp
/-- The value of a valid wide integer of two parts. -/
theorem join60 (x l : Int) (h0 : 0 ≤ x) (h1 : x ≤ 1152921504606846976) (l0 : 0 ≤ l) (l1 : l ≤ 1152921504606846975) :
    bits .or .u64 (IntKind.u64.wrap (x * 1152921504606846976)) l = x * 1152921504606846976 % 18446744073709551616 + l := by
  rw [IntKind.wrap_u64, u64_or _ _ (by omega) (by omega) l0 (by omega)]
  rw [nat_join 60 _ _ (by omega) (by omega)]
  omega
theorem join4 (h l : Int) (h0 : 0 ≤ h) (h1 : h ≤ 72057594037927936) (l0 : 0 ≤ l) (l1 : l ≤ 18446744073709551615) :
    bits .or .u64 (h * 16) (l / 1152921504606846976) = h * 16 + l / 1152921504606846976 := by
  rw [u64_or _ _ (by omega) (by omega) (by omega) (by omega)]
  rw [nat_join 4 _ _ (by omega) (by omega)]
  omega
theorem join_least : bits .or .u64 1152921504606846976 0 = 1152921504606846976 := by
  have := join4 72057594037927936 0 (by omega) (by omega) (by omega) (by omega); simpa using this
theorem mask60 (l : Int) (l0 : 0 ≤ l) (l1 : l ≤ 18446744073709551615) : bits .and .u64 l 1152921504606846975 = l % 1152921504606846976 := by
  rw [u64_and _ _ l0 (by omega) (by omega) (by omega)]
  have : (1152921504606846975 : Int).toNat = 2 ^ 60 - 1 := by decide
  rw [this, Nat.and_two_pow_sub_one_eq_mod]
  omega
theorem val_pos (h l : Int) (h0 : 0 ≤ h) (h1 : h ≤ 1152921504606846975) (l0 : 0 ≤ l) (l1 : l ≤ 1152921504606846975) :
    mag h / 16 = hi (h * 1152921504606846976 + l) ∧ mag h * 1152921504606846976 % 18446744073709551616 + l = lo (h * 1152921504606846976 + l) := by
  unfold hi lo; rw [mag_of_nonneg h0, mag_of_nonneg (by omega)]; omega
/-- The borrow. -/
def bor (x y : Int) : Int := if x < y then 1 else 0
theorem bor_range (x y : Int) : 0 ≤ bor x y ∧ bor x y ≤ 1 := by unfold bor; split <;> omega
theorem val_neg_range (h l : Int) (h0 : -1152921504606846976 ≤ h) (h1 : h < 0) (l0 : 0 ≤ l) (l1 : l ≤ 1152921504606846975) :
    0 ≤ mag h / 16 - bor (mag h * 1152921504606846976 % 18446744073709551616) l ∧ mag h / 16 ≤ 72057594037927936 := by
  unfold bor; rw [mag_of_neg h1]; split <;> omega
theorem val_neg (h l : Int) (h0 : -1152921504606846976 ≤ h) (h1 : h < 0) (l0 : 0 ≤ l) (l1 : l ≤ 1152921504606846975) :
    mag h / 16 - bor (mag h * 1152921504606846976 % 18446744073709551616) l = hi (h * 1152921504606846976 + l) ∧ (mag h * 1152921504606846976 % 18446744073709551616 - l) % 18446744073709551616 = lo (h * 1152921504606846976 + l) := by
  unfold hi lo bor; rw [mag_of_neg h1, mag_of_neg (by omega)]; constructor
  · split <;> omega
  · omega
/-- An integer as an int, or 0, and the error number. -/
def fits (q : Int) : Bool := decide (-9223372036854775808 ≤ q) && decide (q ≤ 9223372036854775807)
def intQ (q : Int) : Int := if fits q then q else 0
def intE (q : Int) : Int := if fits q then 0 else 5
theorem fits_true {q : Int} (h0 : -9223372036854775808 ≤ q) (h1 : q ≤ 9223372036854775807) : intQ q = q ∧ intE q = 0 := by
  have : fits q = true := by unfold fits; simp; omega
  unfold intQ intE; rw [this]; exact ⟨rfl, rfl⟩
theorem fits_false {q : Int} (h : q < -9223372036854775808 ∨ 9223372036854775807 < q) : intQ q = 0 ∧ intE q = 5 := by
  have : fits q = false := by unfold fits; simp; omega
  unfold intQ intE; rw [this]; exact ⟨rfl, rfl⟩
theorem fits_cases (q : Int) : (-9223372036854775808 ≤ q ∧ q ≤ 9223372036854775807 ∧ intQ q = q ∧ intE q = 0) ∨ ((q < -9223372036854775808 ∨ 9223372036854775807 < q) ∧ intQ q = 0 ∧ intE q = 5) := by
  by_cases h : -9223372036854775808 ≤ q ∧ q ≤ 9223372036854775807
  · obtain ⟨a, b⟩ := fits_true h.1 h.2; exact Or.inl ⟨h.1, h.2, a, b⟩
  · have h' : q < -9223372036854775808 ∨ 9223372036854775807 < q := by omega
    obtain ⟨a, b⟩ := fits_false h'; exact Or.inr ⟨h', a, b⟩
/-- The same for wide integers. -/
def has (v : Int) : Bool := decide (-1329227995784915872903807060280344576 ≤ v) && decide (v ≤ 1329227995784915872903807060280344575)
def wH (v : Int) : Int := if has v then v / 1152921504606846976 else 0
def wL (v : Int) : Int := if has v then v % 1152921504606846976 else 0
def wE (v : Int) : Int := if has v then 0 else 5
theorem has_true {v : Int} (h0 : -1329227995784915872903807060280344576 ≤ v) (h1 : v ≤ 1329227995784915872903807060280344575) : wH v = v / 1152921504606846976 ∧ wL v = v % 1152921504606846976 ∧ wE v = 0 := by
  have : has v = true := by unfold has; simp; omega
  unfold wH wL wE; rw [this]; exact ⟨rfl, rfl, rfl⟩
theorem has_false {v : Int} (h : v < -1329227995784915872903807060280344576 ∨ 1329227995784915872903807060280344575 < v) : wH v = 0 ∧ wL v = 0 ∧ wE v = 5 := by
  have : has v = false := by unfold has; simp; omega
  unfold wH wL wE; rw [this]; exact ⟨rfl, rfl, rfl⟩
/-- Sums of magnitudes. -/
theorem sum_same (x y : Int) (hs : neg x = neg y) : mk (hi x + hi y + (lo x + lo y) / 18446744073709551616) ((lo x + lo y) % 18446744073709551616) (neg x) = x + y := by
  have a := hilo x; have b := hilo y
  unfold mag at a b; unfold neg at hs ⊢; unfold mk
  by_cases hx : x < 0
  · have hy : y < 0 := by simp [hx] at hs; omega
    simp [hx, hy] at a b ⊢; omega
  · have hy : ¬ y < 0 := by simp [hx] at hs; omega
    simp [hx, hy] at a b ⊢; omega
theorem sum_more (x y : Int) (hs : neg x ≠ neg y) (hm : hi y < hi x ∨ hi y = hi x ∧ lo y ≤ lo x) : mk (hi x - hi y - bor (lo x) (lo y)) ((lo x - lo y) % 18446744073709551616) (neg x) = x + y := by
  have a := hilo x; have b := hilo y
  have a1 := lo_nonneg x; have a2 := lo_lt x; have b1 := lo_nonneg y; have b2 := lo_lt y
  unfold mag at a b; unfold neg at hs ⊢; unfold mk bor
  by_cases hx : x < 0
  · have hy : ¬ y < 0 := by simp [hx] at hs; omega
    simp [hx, hy] at a b ⊢; split <;> omega
  · have hy : y < 0 := by simp [hx] at hs; omega
    simp [hx, hy] at a b ⊢; split <;> omega
theorem more_nonneg (x y : Int) (hm : hi y < hi x ∨ hi y = hi x ∧ lo y ≤ lo x) : 0 ≤ hi x - hi y - bor (lo x) (lo y) := by
  have := bor_range (lo x) (lo y); unfold bor at *; split at * <;> omega
theorem neg_true {v : Int} (h : neg v = true) : v < 0 := by unfold neg at h; simpa using h
theorem neg_false {v : Int} (h : neg v = false) : 0 ≤ v := by unfold neg at h; simpa using h
/-- The wide integer of two words. -/
theorem put_pos (v : Int) (h : 0 ≤ v) (hh : hi v < 72057594037927936) : wH v = hi v * 16 + lo v / 1152921504606846976 ∧ wL v = lo v % 1152921504606846976 ∧ wE v = 0 := by
  have a := hilo v; rw [mag_of_nonneg h] at a
  have b := lo_lt v; have c := lo_nonneg v; have d := hi_nonneg v
  obtain ⟨e1, e2, e3⟩ := has_true (v := v) (by omega) (by omega)
  rw [e1, e2, e3]; refine ⟨?_, ?_, rfl⟩ <;> omega
theorem put_neg (v : Int) (h : v < 0) (hh : hi v < 72057594037927936) (hz : lo v % 1152921504606846976 ≠ 0) : wH v = -(hi v * 16 + lo v / 1152921504606846976) - 1 ∧ wL v = 1152921504606846976 - lo v % 1152921504606846976 ∧ wE v = 0 := by
  have a := hilo v; rw [mag_of_neg h] at a
  have b := lo_lt v; have c := lo_nonneg v; have d := hi_nonneg v
  obtain ⟨e1, e2, e3⟩ := has_true (v := v) (by omega) (by omega)
  rw [e1, e2, e3]; refine ⟨?_, ?_, rfl⟩ <;> omega
theorem put_neg0 (v : Int) (h : v < 0) (hh : hi v < 72057594037927936) (hz : lo v % 1152921504606846976 = 0) : wH v = -(hi v * 16 + lo v / 1152921504606846976) ∧ wL v = 0 ∧ wE v = 0 := by
  have a := hilo v; rw [mag_of_neg h] at a
  have b := lo_lt v; have c := lo_nonneg v; have d := hi_nonneg v
  obtain ⟨e1, e2, e3⟩ := has_true (v := v) (by omega) (by omega)
  rw [e1, e2, e3]; refine ⟨?_, ?_, rfl⟩ <;> omega
theorem put_least (v : Int) (h : v < 0) (hh : hi v = 72057594037927936) (hz : lo v = 0) : wH v = -1152921504606846976 ∧ wL v = 0 ∧ wE v = 0 := by
  have a := hilo v; rw [mag_of_neg h] at a
  obtain ⟨e1, e2, e3⟩ := has_true (v := v) (by omega) (by omega)
  rw [e1, e2, e3]; refine ⟨?_, ?_, rfl⟩ <;> omega
theorem put_none (v : Int) (hh : 72057594037927936 < hi v ∨ hi v = 72057594037927936 ∧ (0 < lo v ∨ 0 ≤ v)) : wH v = 0 ∧ wL v = 0 ∧ wE v = 5 := by
  have a := hilo v; have c := lo_nonneg v
  refine has_false ?_
  unfold mag at a
  split at a <;> omega
/-- Is a pair a valid wide integer? -/
def vld (h l : Int) : Bool := decide (-1152921504606846976 ≤ h) && decide (h < 1152921504606846976) && decide (0 ≤ l) && decide (l < 1152921504606846976)
theorem vld_true {h l : Int} (hv : vld h l = true) : -1152921504606846976 ≤ h ∧ h ≤ 1152921504606846975 ∧ 0 ≤ l ∧ l ≤ 1152921504606846975 := by
  unfold vld at hv; simp at hv; omega
theorem vld_false {h l : Int} (hv : vld h l = false) : h < -1152921504606846976 ∨ 1152921504606846976 ≤ h ∨ l < 0 ∨ 1152921504606846976 ≤ l := by
  unfold vld at hv; simp at hv; omega
theorem vld_mk {h l : Int} (a : -1152921504606846976 ≤ h) (b : h ≤ 1152921504606846975) (c : 0 ≤ l) (d : l ≤ 1152921504606846975) : vld h l = true := by
  unfold vld; simp; omega
/-- The value of a pair. -/
def val (h l : Int) : Int := h * 1152921504606846976 + l
theorem val_bounds {h l : Int} (hv : vld h l = true) : -1329227995784915872903807060280344576 ≤ val h l ∧ val h l ≤ 1329227995784915872903807060280344575 := by
  obtain ⟨a, b, c, d⟩ := vld_true hv; unfold val; omega
theorem val_div {h l : Int} (hv : vld h l = true) : val h l / 1152921504606846976 = h ∧ val h l % 1152921504606846976 = l := by
  obtain ⟨a, b, c, d⟩ := vld_true hv; unfold val; omega
theorem hi_le {v : Int} (h0 : -1329227995784915872903807060280344576 ≤ v) (h1 : v ≤ 1329227995784915872903807060280344576) : hi v ≤ 72057594037927936 := by
  unfold hi mag; split <;> omega
theorem hi_neg (v : Int) : hi (-v) = hi v := by unfold hi mag; split <;> split <;> omega
theorem lo_neg (v : Int) : lo (-v) = lo v := by unfold lo mag; split <;> split <;> omega
theorem mag_neg (v : Int) : mag (-v) = mag v := by unfold mag; split <;> split <;> omega
theorem mk_hilo (v : Int) : mk (hi v) (lo v) (neg v) = v := by
  have a := hilo v; unfold mk neg; unfold mag at a
  by_cases h : v < 0
  · simp [h] at a ⊢; omega
  · simp [h] at a ⊢; omega
theorem mk_minus (v : Int) : mk (hi v) (lo v) (!(neg v)) = -v := by
  have a := hilo v; unfold mk neg; unfold mag at a
  by_cases h : v < 0
  · simp [h] at a ⊢; omega
  · simp [h] at a ⊢; omega
/-- Products. -/
theorem mag_mul (a b : Int) : mag a * mag b = mag (a * b) := by
  unfold mag
  by_cases ha : a < 0 <;> by_cases hb : b < 0 <;> simp only [ha, hb, if_true, if_false]
  · rw [if_neg (by have := Int.mul_pos_of_neg_of_neg ha hb; omega)]; rw [Int.neg_mul_neg]
  · have hb' : 0 ≤ b := by omega
    have := Int.mul_nonpos_of_nonpos_of_nonneg (Int.le_of_lt ha) hb'
    by_cases hz : a * b < 0
    · rw [if_pos hz, Int.neg_mul]
    · rw [if_neg hz, Int.neg_mul]; omega
  · have ha' : 0 ≤ a := by omega
    have := Int.mul_nonpos_of_nonneg_of_nonpos ha' (Int.le_of_lt hb)
    by_cases hz : a * b < 0
    · rw [if_pos hz, Int.mul_neg]
    · rw [if_neg hz, Int.mul_neg]; omega
  · rw [if_neg (by have := Int.mul_nonneg (show 0 ≤ a by omega) (show 0 ≤ b by omega); omega)]
theorem mk_mul (a b : Int) : mk (hi (a * b)) (lo (a * b)) (neg a != neg b) = a * b := by
  have h := hilo (a * b)
  unfold mk; rw [h, ← mag_mul]
  unfold mag neg
  by_cases ha : a < 0 <;> by_cases hb : b < 0 <;> simp [ha, hb, Int.neg_mul, Int.mul_neg]
theorem mul_bound {a b : Int} (ha : mag a ≤ 9223372036854775808) (hb : mag b ≤ 9223372036854775808) : mag (a * b) ≤ 85070591730234615865843651857942052864 := by
  rw [← mag_mul]
  have := Int.mul_le_mul ha hb (mag_nonneg b) (by decide)
  simpa using this
theorem mag_le {a : Int} (h0 : -9223372036854775808 ≤ a) (h1 : a ≤ 9223372036854775807) : mag a ≤ 9223372036854775808 := by
  unfold mag; split <;> omega
end Wd
end Go.Proofs.Ytjighhphadfoiaa
