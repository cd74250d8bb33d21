/-
  Plain arithmetic of the layer wide: a signed integer as two words of 64 bits and a sign. No program here.
  
  
  
  
  
  
  
  Plain arithmetic: one digit of a long division, after the estimate by the leading digits; and the quotient of two digits.
-/
import Derived.Test.YtllkiadedaghoaaGreatRows
import Derived.Test.YtllkiadedaghoaaGreatCm01
import Derived.WalkKit
import Derived.WalkSpells
import Derived.WalkLawsBesides
import Derived.Shelf.Spec.BitsCarry
import Derived.Handy
import Derived.BigQuiet
import Derived.Deep.QuietTactic
import Derived.Lib.Hide
import Derived.Deep.RegionHeld3
import Derived.Lib.Strings
import Derived.Lib.Slices
import Derived.Lib.Small
import Derived.Lib.Walk
import Derived.Lib.BitFns
import Derived.Deep.DeepCutAuto
import Derived.Deep.CutBlock
set_option linter.unusedVariables false
set_option linter.unusedSimpArgs false
namespace Go.Proofs.YtllkiadedaghoaaGreat
namespace Wd
/-- The absolute value. -/
def mag (v : Int) : Int := if v < 0 then -v else v
/-- The upper and the lower word of the absolute value. -/
def hi (v : Int) : Int := mag v / 18446744073709551616
def lo (v : Int) : Int := mag v % 18446744073709551616
/-- Is it negative? -/
def neg (v : Int) : Bool := decide (v < 0)
/-- The integer of two words and a sign. -/
def mk (h l : Int) (b : Bool) : Int := if b then -(h * 18446744073709551616 + l) else h * 18446744073709551616 + l
theorem mag_nonneg (v : Int) : 0 ≤ mag v := by unfold mag; split <;> omega
theorem lo_nonneg (v : Int) : 0 ≤ lo v := by unfold lo; omega
theorem lo_lt (v : Int) : lo v ≤ 18446744073709551615 := by unfold lo; omega
theorem hi_nonneg (v : Int) : 0 ≤ hi v := by have := mag_nonneg v; unfold hi; omega
theorem hilo (v : Int) : hi v * 18446744073709551616 + lo v = mag v := by unfold hi lo; omega
theorem mag_of_nonneg {v : Int} (h : 0 ≤ v) : mag v = v := by unfold mag; split <;> omega
theorem mag_of_neg {v : Int} (h : v < 0) : mag v = -v := by unfold mag; split <;> omega
theorem neg_of_nonneg {v : Int} (h : 0 ≤ v) : neg v = false := by unfold neg; simp; omega
theorem neg_of_neg {v : Int} (h : v < 0) : neg v = true := by unfold neg; simp; omega
theorem mag_mk (h l : Int) (b : Bool) (h0 : 0 ≤ h) (l0 : 0 ≤ l) : mag (mk h l b) = h * 18446744073709551616 + l := by
  unfold mk mag; cases b <;> simp <;> intro _ <;> omega
theorem hi_mk (h l : Int) (b : Bool) (h0 : 0 ≤ h) (l0 : 0 ≤ l) (l1 : l ≤ 18446744073709551615) : hi (mk h l b) = h := by
  unfold hi; rw [mag_mk h l b h0 l0]; omega
theorem lo_mk (h l : Int) (b : Bool) (h0 : 0 ≤ h) (l0 : 0 ≤ l) (l1 : l ≤ 18446744073709551615) : lo (mk h l b) = l := by
  unfold lo; rw [mag_mk h l b h0 l0]; omega
theorem neg_mk_false (h l : Int) (h0 : 0 ≤ h) (l0 : 0 ≤ l) : neg (mk h l false) = false := by
  unfold neg mk; simp; omega
theorem neg_mk_true (h l : Int) (h0 : 0 ≤ h) (l0 : 0 ≤ l) (hl : h ≠ 0 ∨ l ≠ 0) : neg (mk h l true) = true := by
  unfold neg mk; simp; omega
theorem neg_mk_zero (b : Bool) : neg (mk 0 0 b) = false := by
  unfold neg mk; cases b <;> simp
/-- The value of a valid wide integer of two parts. -/
theorem join60 (x l : Int) (h0 : 0 ≤ x) (h1 : x ≤ 1152921504606846976) (l0 : 0 ≤ l) (l1 : l ≤ 1152921504606846975) :
    bits .or .u64 (IntKind.u64.wrap (x * 1152921504606846976)) l = x * 1152921504606846976 % 18446744073709551616 + l := by
  rw [IntKind.wrap_u64, u64_or _ _ (by omega) (by omega) l0 (by omega)]
  rw [nat_join 60 _ _ (by omega) (by omega)]
  omega
theorem join4 (h l : Int) (h0 : 0 ≤ h) (h1 : h ≤ 72057594037927936) (l0 : 0 ≤ l) (l1 : l ≤ 18446744073709551615) :
    bits .or .u64 (h * 16) (l / 1152921504606846976) = h * 16 + l / 1152921504606846976 := by
  rw [u64_or _ _ (by omega) (by omega) (by omega) (by omega)]
  rw [nat_join 4 _ _ (by omega) (by omega)]
  omega
theorem join_least : bits .or .u64 1152921504606846976 0 = 1152921504606846976 := by
  have := join4 72057594037927936 0 (by omega) (by omega) (by omega) (by omega); simpa using this
theorem mask60 (l : Int) (l0 : 0 ≤ l) (l1 : l ≤ 18446744073709551615) : bits .and .u64 l 1152921504606846975 = l % 1152921504606846976 := by
  rw [u64_and _ _ l0 (by omega) (by omega) (by omega)]
  have : (1152921504606846975 : Int).toNat = 2 ^ 60 - 1 := by decide
  rw [this, Nat.and_two_pow_sub_one_eq_mod]
  omega
theorem val_pos (h l : Int) (h0 : 0 ≤ h) (h1 : h ≤ 1152921504606846975) (l0 : 0 ≤ l) (l1 : l ≤ 1152921504606846975) :
    mag h / 16 = hi (h * 1152921504606846976 + l) ∧ mag h * 1152921504606846976 % 18446744073709551616 + l = lo (h * 1152921504606846976 + l) := by
  unfold hi lo; rw [mag_of_nonneg h0, mag_of_nonneg (by omega)]; omega
/-- The borrow. -/
def bor (x y : Int) : Int := if x < y then 1 else 0
theorem bor_range (x y : Int) : 0 ≤ bor x y ∧ bor x y ≤ 1 := by unfold bor; split <;> omega
theorem val_neg_range (h l : Int) (h0 : -1152921504606846976 ≤ h) (h1 : h < 0) (l0 : 0 ≤ l) (l1 : l ≤ 1152921504606846975) :
    0 ≤ mag h / 16 - bor (mag h * 1152921504606846976 % 18446744073709551616) l ∧ mag h / 16 ≤ 72057594037927936 := by
  unfold bor; rw [mag_of_neg h1]; split <;> omega
theorem val_neg (h l : Int) (h0 : -1152921504606846976 ≤ h) (h1 : h < 0) (l0 : 0 ≤ l) (l1 : l ≤ 1152921504606846975) :
    mag h / 16 - bor (mag h * 1152921504606846976 % 18446744073709551616) l = hi (h * 1152921504606846976 + l) ∧ (mag h * 1152921504606846976 % 18446744073709551616 - l) % 18446744073709551616 = lo (h * 1152921504606846976 + l) := by
  unfold hi lo bor; rw [mag_of_neg h1, mag_of_neg (by omega)]; constructor
  · split <;> omega
  · omega
/-- An integer as an int, or 0, and the error number. -/
def fits (q : Int) : Bool := decide (-9223372036854775808 ≤ q) && decide (q ≤ 9223372036854775807)
def intQ (q : Int) : Int := if fits q then q else 0
def intE (q : Int) : Int := if fits q then 0 else 5
theorem fits_true {q : Int} (h0 : -9223372036854775808 ≤ q) (h1 : q ≤ 9223372036854775807) : intQ q = q ∧ intE q = 0 := by
  have : fits q = true := by unfold fits; simp; omega
  unfold intQ intE; rw [this]; exact ⟨rfl, rfl⟩
theorem fits_false {q : Int} (h : q < -9223372036854775808 ∨ 9223372036854775807 < q) : intQ q = 0 ∧ intE q = 5 := by
  have : fits q = false := by unfold fits; simp; omega
  unfold intQ intE; rw [this]; exact ⟨rfl, rfl⟩
theorem fits_cases (q : Int) : (-9223372036854775808 ≤ q ∧ q ≤ 9223372036854775807 ∧ intQ q = q ∧ intE q = 0) ∨ ((q < -9223372036854775808 ∨ 9223372036854775807 < q) ∧ intQ q = 0 ∧ intE q = 5) := by
  by_cases h : -9223372036854775808 ≤ q ∧ q ≤ 9223372036854775807
  · obtain ⟨a, b⟩ := fits_true h.1 h.2; exact Or.inl ⟨h.1, h.2, a, b⟩
  · have h' : q < -9223372036854775808 ∨ 9223372036854775807 < q := by omega
    obtain ⟨a, b⟩ := fits_false h'; exact Or.inr ⟨h', a, b⟩
/-- The same for wide integers. -/
def has (v : Int) : Bool := decide (-1329227995784915872903807060280344576 ≤ v) && decide (v ≤ 1329227995784915872903807060280344575)
def wH (v : Int) : Int := if has v then v / 1152921504606846976 else 0
def wL (v : Int) : Int := if has v then v % 1152921504606846976 else 0
def wE (v : Int) : Int := if has v then 0 else 5
theorem has_true {v : Int} (h0 : -1329227995784915872903807060280344576 ≤ v) (h1 : v ≤ 1329227995784915872903807060280344575) : wH v = v / 1152921504606846976 ∧ wL v = v % 1152921504606846976 ∧ wE v = 0 := by
  have : has v = true := by unfold has; simp; omega
  unfold wH wL wE; rw [this]; exact ⟨rfl, rfl, rfl⟩
theorem has_false {v : Int} (h : v < -1329227995784915872903807060280344576 ∨ 1329227995784915872903807060280344575 < v) : wH v = 0 ∧ wL v = 0 ∧ wE v = 5 := by
  have : has v = false := by unfold has; simp; omega
  unfold wH wL wE; rw [this]; exact ⟨rfl, rfl, rfl⟩
/-- Sums of magnitudes. -/
theorem sum_same (x y : Int) (hs : neg x = neg y) : mk (hi x + hi y + (lo x + lo y) / 18446744073709551616) ((lo x + lo y) % 18446744073709551616) (neg x) = x + y := by
  have a := hilo x; have b := hilo y
  unfold mag at a b; unfold neg at hs ⊢; unfold mk
  by_cases hx : x < 0
  · have hy : y < 0 := by simp [hx] at hs; omega
    simp [hx, hy] at a b ⊢; omega
  · have hy : ¬ y < 0 := by simp [hx] at hs; omega
    simp [hx, hy] at a b ⊢; omega
theorem sum_more (x y : Int) (hs : neg x ≠ neg y) (hm : hi y < hi x ∨ hi y = hi x ∧ lo y ≤ lo x) : mk (hi x - hi y - bor (lo x) (lo y)) ((lo x - lo y) % 18446744073709551616) (neg x) = x + y := by
  have a := hilo x; have b := hilo y
  have a1 := lo_nonneg x; have a2 := lo_lt x; have b1 := lo_nonneg y; have b2 := lo_lt y
  unfold mag at a b; unfold neg at hs ⊢; unfold mk bor
  by_cases hx : x < 0
  · have hy : ¬ y < 0 := by simp [hx] at hs; omega
    simp [hx, hy] at a b ⊢; split <;> omega
  · have hy : y < 0 := by simp [hx] at hs; omega
    simp [hx, hy] at a b ⊢; split <;> omega
theorem more_nonneg (x y : Int) (hm : hi y < hi x ∨ hi y = hi x ∧ lo y ≤ lo x) : 0 ≤ hi x - hi y - bor (lo x) (lo y) := by
  have := bor_range (lo x) (lo y); unfold bor at *; split at * <;> omega
theorem neg_true {v : Int} (h : neg v = true) : v < 0 := by unfold neg at h; simpa using h
theorem neg_false {v : Int} (h : neg v = false) : 0 ≤ v := by unfold neg at h; simpa using h
/-- The wide integer of two words. -/
theorem put_pos (v : Int) (h : 0 ≤ v) (hh : hi v < 72057594037927936) : wH v = hi v * 16 + lo v / 1152921504606846976 ∧ wL v = lo v % 1152921504606846976 ∧ wE v = 0 := by
  have a := hilo v; rw [mag_of_nonneg h] at a
  have b := lo_lt v; have c := lo_nonneg v; have d := hi_nonneg v
  obtain ⟨e1, e2, e3⟩ := has_true (v := v) (by omega) (by omega)
  rw [e1, e2, e3]; refine ⟨?_, ?_, rfl⟩ <;> omega
theorem put_neg (v : Int) (h : v < 0) (hh : hi v < 72057594037927936) (hz : lo v % 1152921504606846976 ≠ 0) : wH v = -(hi v * 16 + lo v / 1152921504606846976) - 1 ∧ wL v = 1152921504606846976 - lo v % 1152921504606846976 ∧ wE v = 0 := by
  have a := hilo v; rw [mag_of_neg h] at a
  have b := lo_lt v; have c := lo_nonneg v; have d := hi_nonneg v
  obtain ⟨e1, e2, e3⟩ := has_true (v := v) (by omega) (by omega)
  rw [e1, e2, e3]; refine ⟨?_, ?_, rfl⟩ <;> omega
theorem put_neg0 (v : Int) (h : v < 0) (hh : hi v < 72057594037927936) (hz : lo v % 1152921504606846976 = 0) : wH v = -(hi v * 16 + lo v / 1152921504606846976) ∧ wL v = 0 ∧ wE v = 0 := by
  have a := hilo v; rw [mag_of_neg h] at a
  have b := lo_lt v; have c := lo_nonneg v; have d := hi_nonneg v
  obtain ⟨e1, e2, e3⟩ := has_true (v := v) (by omega) (by omega)
  rw [e1, e2, e3]; refine ⟨?_, ?_, rfl⟩ <;> omega
theorem put_least (v : Int) (h : v < 0) (hh : hi v = 72057594037927936) (hz : lo v = 0) : wH v = -1152921504606846976 ∧ wL v = 0 ∧ wE v = 0 := by
  have a := hilo v; rw [mag_of_neg h] at a
  obtain ⟨e1, e2, e3⟩ := has_true (v := v) (by omega) (by omega)
  rw [e1, e2, e3]; refine ⟨?_, ?_, rfl⟩ <;> omega
theorem put_none (v : Int) (hh : 72057594037927936 < hi v ∨ hi v = 72057594037927936 ∧ (0 < lo v ∨ 0 ≤ v)) : wH v = 0 ∧ wL v = 0 ∧ wE v = 5 := by
  have a := hilo v; have c := lo_nonneg v
  refine has_false ?_
  unfold mag at a
  split at a <;> omega
/-- Is a pair a valid wide integer? -/
def vld (h l : Int) : Bool := decide (-1152921504606846976 ≤ h) && decide (h < 1152921504606846976) && decide (0 ≤ l) && decide (l < 1152921504606846976)
theorem vld_true {h l : Int} (hv : vld h l = true) : -1152921504606846976 ≤ h ∧ h ≤ 1152921504606846975 ∧ 0 ≤ l ∧ l ≤ 1152921504606846975 := by
  unfold vld at hv; simp at hv; omega
theorem vld_false {h l : Int} (hv : vld h l = false) : h < -1152921504606846976 ∨ 1152921504606846976 ≤ h ∨ l < 0 ∨ 1152921504606846976 ≤ l := by
  unfold vld at hv; simp at hv; omega
theorem vld_mk {h l : Int} (a : -1152921504606846976 ≤ h) (b : h ≤ 1152921504606846975) (c : 0 ≤ l) (d : l ≤ 1152921504606846975) : vld h l = true := by
  unfold vld; simp; omega
/-- The value of a pair. -/
def val (h l : Int) : Int := h * 1152921504606846976 + l
theorem val_bounds {h l : Int} (hv : vld h l = true) : -1329227995784915872903807060280344576 ≤ val h l ∧ val h l ≤ 1329227995784915872903807060280344575 := by
  obtain ⟨a, b, c, d⟩ := vld_true hv; unfold val; omega
theorem val_div {h l : Int} (hv : vld h l = true) : val h l / 1152921504606846976 = h ∧ val h l % 1152921504606846976 = l := by
  obtain ⟨a, b, c, d⟩ := vld_true hv; unfold val; omega
theorem hi_le {v : Int} (h0 : -1329227995784915872903807060280344576 ≤ v) (h1 : v ≤ 1329227995784915872903807060280344576) : hi v ≤ 72057594037927936 := by
  unfold hi mag; split <;> omega
theorem hi_neg (v : Int) : hi (-v) = hi v := by unfold hi mag; split <;> split <;> omega
theorem lo_neg (v : Int) : lo (-v) = lo v := by unfold lo mag; split <;> split <;> omega
theorem mag_neg (v : Int) : mag (-v) = mag v := by unfold mag; split <;> split <;> omega
theorem mk_hilo (v : Int) : mk (hi v) (lo v) (neg v) = v := by
  have a := hilo v; unfold mk neg; unfold mag at a
  by_cases h : v < 0
  · simp [h] at a ⊢; omega
  · simp [h] at a ⊢; omega
theorem mk_minus (v : Int) : mk (hi v) (lo v) (!(neg v)) = -v := by
  have a := hilo v; unfold mk neg; unfold mag at a
  by_cases h : v < 0
  · simp [h] at a ⊢; omega
  · simp [h] at a ⊢; omega
/-- Products. -/
theorem mag_mul (a b : Int) : mag a * mag b = mag (a * b) := by
  unfold mag
  by_cases ha : a < 0 <;> by_cases hb : b < 0 <;> simp only [ha, hb, if_true, if_false]
  · rw [if_neg (by have := Int.mul_pos_of_neg_of_neg ha hb; omega)]; rw [Int.neg_mul_neg]
  · have hb' : 0 ≤ b := by omega
    have := Int.mul_nonpos_of_nonpos_of_nonneg (Int.le_of_lt ha) hb'
    by_cases hz : a * b < 0
    · rw [if_pos hz, Int.neg_mul]
    · rw [if_neg hz, Int.neg_mul]; omega
  · have ha' : 0 ≤ a := by omega
    have := Int.mul_nonpos_of_nonneg_of_nonpos ha' (Int.le_of_lt hb)
    by_cases hz : a * b < 0
    · rw [if_pos hz, Int.mul_neg]
    · rw [if_neg hz, Int.mul_neg]; omega
  · rw [if_neg (by have := Int.mul_nonneg (show 0 ≤ a by omega) (show 0 ≤ b by omega); omega)]
theorem mk_mul (a b : Int) : mk (hi (a * b)) (lo (a * b)) (neg a != neg b) = a * b := by
  have h := hilo (a * b)
  unfold mk; rw [h, ← mag_mul]
  unfold mag neg
  by_cases ha : a < 0 <;> by_cases hb : b < 0 <;> simp [ha, hb, Int.neg_mul, Int.mul_neg]
theorem mul_bound {a b : Int} (ha : mag a ≤ 9223372036854775808) (hb : mag b ≤ 9223372036854775808) : mag (a * b) ≤ 85070591730234615865843651857942052864 := by
  rw [← mag_mul]
  have := Int.mul_le_mul ha hb (mag_nonneg b) (by decide)
  simpa using this
theorem mag_le {a : Int} (h0 : -9223372036854775808 ≤ a) (h1 : a ≤ 9223372036854775807) : mag a ≤ 9223372036854775808 := by
  unfold mag; split <;> omega
end Wd
end Go.Proofs.YtllkiadedaghoaaGreat
namespace Go.Proofs.YtllkiadedaghoaaGreat
open Go.RowKit
set_option maxHeartbeats 400000 in
theorem size_any (n : Int) (w : World) (h0 : -9223372036854775808 ≤ n) (h1 : n ≤ 9223372036854775807) :
    Calls Tryz.prog 212 #[.int .i64 n] w fun e w' => e = .returned (.int .u64 (Wd.mag n)) ∧ w = w' := by
  by_cases hn : n < 0
  · go_enter Tryz.func212, Tryz.ntmps212
    go_wp2
    go_ret
    exact ⟨ret_int (by rw [Wd.mag_of_neg hn, IntKind.wrap_u64, IntKind.wrap_u64]; omega), rfl⟩
  · have hn' : 0 ≤ n := by omega
    go_enter Tryz.func212, Tryz.ntmps212
    go_wp2
    go_ret
    exact ⟨ret_int (by rw [Wd.mag_of_nonneg hn']), rfl⟩
set_option maxHeartbeats 400000 in
theorem signed_any (h l : Int) (b : Bool) (w : World) (h0 : 0 ≤ h) (l0 : 0 ≤ l) (h1 : h ≤ 18446744073709551615) (l1 : l ≤ 18446744073709551615) :
    Calls Tryz.prog 213 #[.int .u64 h, .int .u64 l, .bool b] w fun e w' => e = .returned (.agg #[.int .u64 h, .int .u64 l, .bool (Wd.neg (Wd.mk h l b))]) ∧ Gr w w' := by
  cases b
  · rw [Wd.neg_mk_false h l h0 l0]
    go_enter Tryz.func213, Tryz.ntmps213
    go_wp2
    go_returns
    exact ⟨by first | rfl | (simp; done), gr_auto⟩
  · by_cases hz : h ≠ 0 ∨ l ≠ 0
    · rw [Wd.neg_mk_true h l h0 l0 hz]
      by_cases hh : h = 0
      · subst hh
        have hl : (l != 0) = true := by simp at hz; simpa using hz
        go_enter Tryz.func213, Tryz.ntmps213
        go_wp2
        go_returns
        exact ⟨by first | rfl | (simp; done), gr_auto⟩
      · have hh' : (h != 0) = true := by simpa using hh
        clear hz
        go_enter Tryz.func213, Tryz.ntmps213
        go_wp2
        go_returns
        exact ⟨by first | rfl | (simp; done), gr_auto⟩
    · have hh : h = 0 := by omega
      have hl : l = 0 := by omega
      subst hh; subst hl
      rw [Wd.neg_mk_zero]
      go_enter Tryz.func213, Tryz.ntmps213
      go_wp2
      go_returns
      exact ⟨by first | rfl | (simp; done), gr_auto⟩
/-- bits.Add64 and bits.Sub64 at this translation. -/
theorem add64 (x y c : Int) (hx : 0 ≤ x) (hy : 0 ≤ y) (hc0 : 0 ≤ c) (hc : c ≤ 1) (w : World) : (callFunc 215 #[.int .u64 x, .int .u64 y, .int .u64 c]).run Tryz.prog w =
    .ok (.value (.tuple #[.int .u64 ((x + y + c) % 18446744073709551616), .int .u64 ((x + y + c) / 18446744073709551616)])) w := by
  rw [run_callFunc_extern Tryz.func215 (by kernel_rfl) (by kernel_rfl) (by kernel_rfl) (e := add64Entry) (by kernel_rfl), run_add64 x y c hx hy hc0 hc]
  rfl
theorem sub64 (x y b : Int) (hx : 0 ≤ x) (hy : 0 ≤ y) (hy' : y ≤ 18446744073709551615) (hb0 : 0 ≤ b) (hb : b ≤ 1) (w : World) : (callFunc 216 #[.int .u64 x, .int .u64 y, .int .u64 b]).run Tryz.prog w =
    .ok (.value (.tuple #[.int .u64 ((x - y - b) % 18446744073709551616), .int .u64 (Wd.bor x (y + b))])) w := by
  obtain ⟨x, rfl⟩ := Int.eq_ofNat_of_zero_le hx
  obtain ⟨y, rfl⟩ := Int.eq_ofNat_of_zero_le hy
  obtain ⟨b, rfl⟩ := Int.eq_ofNat_of_zero_le hb0
  have e1 : (((x + 18446744073709551616 - y - b) % 18446744073709551616 : Nat) : Int) = ((x : Int) - y - b) % 18446744073709551616 := by omega
  have e2 : ((if x < y + b then 1 else 0 : Nat) : Int) = Wd.bor x (y + b) := by unfold Wd.bor; split <;> split <;> omega
  rw [← e1, ← e2]
  rw [run_callFunc_extern Tryz.func216 (by kernel_rfl) (by kernel_rfl) (by kernel_rfl) (e := sub64Entry) (by kernel_rfl), run_sub64 x y b (by omega)]
  rfl
theorem add64_0 (x y : Int) (hx : 0 ≤ x) (hy : 0 ≤ y) (w : World) : (callFunc 215 #[.int .u64 x, .int .u64 y, .int .u64 0]).run Tryz.prog w =
    .ok (.value (.tuple #[.int .u64 ((x + y) % 18446744073709551616), .int .u64 ((x + y) / 18446744073709551616)])) w := by
  simpa using add64 x y 0 hx hy (Int.le_refl 0) (by decide) w
theorem sub64_0 (x y : Int) (hx : 0 ≤ x) (hy : 0 ≤ y) (hy' : y ≤ 18446744073709551615) (w : World) : (callFunc 216 #[.int .u64 x, .int .u64 y, .int .u64 0]).run Tryz.prog w =
    .ok (.value (.tuple #[.int .u64 ((x - y) % 18446744073709551616), .int .u64 (Wd.bor x y)])) w := by
  simpa using sub64 x y 0 hx hy hy' (Int.le_refl 0) (by decide) w
set_option maxHeartbeats 400000 in
theorem value_any (h l : Int) (w : World) (h0 : -1152921504606846976 ≤ h) (h1 : h ≤ 1152921504606846975) (l0 : 0 ≤ l) (l1 : l ≤ 1152921504606846975) :
    Calls Tryz.prog 200 #[.agg #[.int .i64 h, .int .i64 l]] w fun e w' => e = .returned (.agg #[.int .u64 (Wd.hi (h * 1152921504606846976 + l)), .int .u64 (Wd.lo (h * 1152921504606846976 + l)), .bool (Wd.neg (h * 1152921504606846976 + l))]) ∧ Gr w w' := by
  by_cases hn : h < 0
  · obtain ⟨e1, e2⟩ := Wd.val_neg h l h0 hn l0 l1
    have e3 : Wd.neg (h * 1152921504606846976 + l) = true := Wd.neg_of_neg (by omega)
    obtain ⟨r1, r2⟩ := Wd.val_neg_range h l h0 hn l0 l1
    obtain ⟨r3, r4⟩ := Wd.bor_range (Wd.mag h * 1152921504606846976 % 18446744073709551616) l
    have e5 : IntKind.u64.wrap (Wd.mag h * 1152921504606846976) = Wd.mag h * 1152921504606846976 % 18446744073709551616 := IntKind.wrap_u64 _
    rw [← e1, ← e2, e3]
    clear e1 e2 e3
    go_enter Tryz.func200, Tryz.ntmps200
    go_wp2_with (first | (go_at_call 212; refine (size_any _ _ (by omega) (by omega)).mono ?_; rintro e w' ⟨rfl, rfl⟩) | simp only [sub64_0 (Wd.mag h * 1152921504606846976 % 18446744073709551616) l (by omega) l0 (by omega)])
    go_returns
    exact ⟨by first | rfl | (simp; done), gr_auto⟩
  · have hn' : 0 ≤ h := by omega
    obtain ⟨e1, e2⟩ := Wd.val_pos h l hn' h1 l0 l1
    have e3 : Wd.neg (h * 1152921504606846976 + l) = false := Wd.neg_of_nonneg (by omega)
    have e4 := Wd.join60 (Wd.mag h) l (Wd.mag_nonneg _) (by rw [Wd.mag_of_nonneg hn']; omega) l0 l1
    rw [← e1, ← e2, e3]
    clear e1 e2 e3
    go_enter Tryz.func200, Tryz.ntmps200
    go_wp2_with (go_at_call 212; refine (size_any _ _ (by omega) (by omega)).mono ?_; rintro e w' ⟨rfl, rfl⟩)
    go_returns
    exact ⟨by first | rfl | (simp; done), gr_auto⟩
end Go.Proofs.YtllkiadedaghoaaGreat
namespace Go.Proofs.YtllkiadedaghoaaGreat
open Go.RowKit
theorem ret_two {k l : IntKind} {a b c d : Int} (h : a = b) (h' : c = d) : Ending.returned (.tuple #[.int k a, .int l c]) = .returned (.tuple #[.int k b, .int l d]) := by rw [h, h']
set_option maxHeartbeats 400000 in
theorem whole_any (q : Int) (b : Bool) (w : World) (h1 : Wd.mag q ≤ 18446744073709551615) (hb : b = Wd.neg q) :
    Calls Tryz.prog 202 #[.int .u64 (Wd.mag q), .bool b] w fun e w' => e = .returned (.tuple #[.int .i64 (Wd.intQ q), .int .i64 (Wd.intE q)]) ∧ w = w' := by
  subst hb
  have h0 := Wd.mag_nonneg q
  by_cases hq : q < 0
  · rw [Wd.neg_of_neg hq]
    have e1 := Wd.mag_of_neg hq
    by_cases hf : Wd.mag q ≤ 9223372036854775808
    · obtain ⟨f1, f2⟩ := Wd.fits_true (q := q) (by omega) (by omega)
      rw [f1, f2]
      have e2 : wrap64 (IntKind.u64.wrap (-Wd.mag q)) = q := by unfold wrap64; rw [IntKind.wrap_u64, e1]; omega
      have H1 := Lib.hid e1; have H2 := Lib.hid e2; clear e1 e2 f1 f2
      go_enter Tryz.func202, Tryz.ntmps202
      go_wp2
      go_ret2
      exact ⟨ret_two H2.out rfl, rfl⟩
    · obtain ⟨f1, f2⟩ := Wd.fits_false (q := q) (by omega)
      rw [f1, f2]
      have hf' : 9223372036854775808 < Wd.mag q := by omega
      have H1 := Lib.hid e1; clear e1 f1 f2
      go_enter Tryz.func202, Tryz.ntmps202
      go_wp2
      go_ret2
      exact ⟨rfl, rfl⟩
  · have hq' : 0 ≤ q := by omega
    rw [Wd.neg_of_nonneg hq']
    have e1 := Wd.mag_of_nonneg hq'
    rw [e1] at h0 h1 ⊢
    by_cases hf : q ≤ 9223372036854775807
    · obtain ⟨f1, f2⟩ := Wd.fits_true (q := q) (by omega) (by omega)
      rw [f1, f2]
      clear e1 f1 f2
      go_enter Tryz.func202, Tryz.ntmps202
      go_wp2
      go_ret2
      exact ⟨rfl, rfl⟩
    · obtain ⟨f1, f2⟩ := Wd.fits_false (q := q) (by omega)
      rw [f1, f2]
      have hf' : 9223372036854775807 < q := by omega
      clear e1 f1 f2
      go_enter Tryz.func202, Tryz.ntmps202
      go_wp2
      go_ret2
      exact ⟨rfl, rfl⟩
set_option maxHeartbeats 400000 in
theorem placed_pos (h l : Int) (w : World) (h0 : 0 ≤ h) (h1 : h < 72057594037927936) (l0 : 0 ≤ l) (l1 : l ≤ 18446744073709551615) :
    Calls Tryz.prog 197 #[.agg #[.int .u64 h, .int .u64 l, .bool false]] w fun e w' => e = .returned (.tuple #[.agg #[.int .i64 (h * 16 + l / 1152921504606846976), .int .i64 (l % 1152921504606846976)], .int .i64 0]) ∧ Gr w w' := by
  have e1 := Wd.join4 h l h0 (by omega) l0 l1
  have e2 := Wd.mask60 l l0 l1
  have hf : decide (72057594037927936 < h) = false := by simp; omega
  have hg : (h == 72057594037927936) = false := by simp; omega
  go_enter Tryz.func197, Tryz.ntmps197
  go_wp2
  go_quiet (fail)
  go_wp2
  go_returns
  exact ⟨rfl, gr_auto⟩
set_option maxHeartbeats 400000 in
theorem placed_neg0 (h l : Int) (w : World) (h0 : 0 ≤ h) (h1 : h < 72057594037927936) (l0 : 0 ≤ l) (l1 : l ≤ 18446744073709551615) (hz : l % 1152921504606846976 = 0) :
    Calls Tryz.prog 197 #[.agg #[.int .u64 h, .int .u64 l, .bool true]] w fun e w' => e = .returned (.tuple #[.agg #[.int .i64 (-(h * 16 + l / 1152921504606846976)), .int .i64 0], .int .i64 0]) ∧ Gr w w' := by
  have e1 := Wd.join4 h l h0 (by omega) l0 l1
  have e2 := Wd.mask60 l l0 l1
  rw [hz] at e2
  have hf : decide (72057594037927936 < h) = false := by simp; omega
  have hg : (h == 72057594037927936) = false := by simp; omega
  clear hz
  go_enter Tryz.func197, Tryz.ntmps197
  go_wp2
  go_quiet (fail)
  go_wp2
  go_returns
  exact ⟨rfl, gr_auto⟩
set_option maxHeartbeats 400000 in
theorem placed_neg (h l : Int) (w : World) (h0 : 0 ≤ h) (h1 : h < 72057594037927936) (l0 : 0 ≤ l) (l1 : l ≤ 18446744073709551615) (hz : l % 1152921504606846976 ≠ 0) :
    Calls Tryz.prog 197 #[.agg #[.int .u64 h, .int .u64 l, .bool true]] w fun e w' => e = .returned (.tuple #[.agg #[.int .i64 (-(h * 16 + l / 1152921504606846976) - 1), .int .i64 (1152921504606846976 - l % 1152921504606846976)], .int .i64 0]) ∧ Gr w w' := by
  have e1 := Wd.join4 h l h0 (by omega) l0 l1
  have e2 := Wd.mask60 l l0 l1
  have hf : decide (72057594037927936 < h) = false := by simp; omega
  have hg : (h == 72057594037927936) = false := by simp; omega
  have hk : (l % 1152921504606846976 == 0) = false := by simpa using hz
  clear hz
  go_enter Tryz.func197, Tryz.ntmps197
  go_wp2
  go_quiet (fail)
  go_wp2
  go_returns
  exact ⟨rfl, gr_auto⟩
set_option maxHeartbeats 400000 in
theorem placed_least (w : World) :
    Calls Tryz.prog 197 #[.agg #[.int .u64 72057594037927936, .int .u64 0, .bool true]] w fun e w' => e = .returned (.tuple #[.agg #[.int .i64 (-1152921504606846976), .int .i64 0], .int .i64 0]) ∧ Gr w w' := by
  have e1 := Wd.join_least
  have e2 : bits .and .u64 0 1152921504606846975 = 0 := Wd.mask60 0 (by omega) (by omega)
  go_enter Tryz.func197, Tryz.ntmps197
  go_wp2
  go_quiet (fail)
  go_wp2
  go_returns
  exact ⟨rfl, gr_auto⟩
set_option maxHeartbeats 400000 in
theorem placed_big (h l : Int) (b : Bool) (w : World) (h1 : 72057594037927936 < h) :
    Calls Tryz.prog 197 #[.agg #[.int .u64 h, .int .u64 l, .bool b]] w fun e w' => e = .returned (.tuple #[.agg #[.int .i64 0, .int .i64 0], .int .i64 5]) ∧ Gr w w' := by
  have hf : decide (72057594037927936 < h) = true := by simpa using h1
  go_enter Tryz.func197, Tryz.ntmps197
  go_wp2
  go_returns
  exact ⟨rfl, gr_auto⟩
set_option maxHeartbeats 400000 in
theorem placed_edge (l : Int) (b : Bool) (w : World) (h1 : 0 < l) :
    Calls Tryz.prog 197 #[.agg #[.int .u64 72057594037927936, .int .u64 l, .bool b]] w fun e w' => e = .returned (.tuple #[.agg #[.int .i64 0, .int .i64 0], .int .i64 5]) ∧ Gr w w' := by
  have hf : decide (0 < l) = true := by simpa using h1
  go_enter Tryz.func197, Tryz.ntmps197
  go_wp2
  go_returns
  exact ⟨rfl, gr_auto⟩
set_option maxHeartbeats 400000 in
theorem placed_edge0 (w : World) :
    Calls Tryz.prog 197 #[.agg #[.int .u64 72057594037927936, .int .u64 0, .bool false]] w fun e w' => e = .returned (.tuple #[.agg #[.int .i64 0, .int .i64 0], .int .i64 5]) ∧ Gr w w' := by
  go_enter Tryz.func197, Tryz.ntmps197
  go_wp2
  go_returns
  exact ⟨rfl, gr_auto⟩
theorem placed_any (v : Int) (w : World) (h1 : Wd.hi v ≤ 18446744073709551615) :
    Calls Tryz.prog 197 #[.agg #[.int .u64 (Wd.hi v), .int .u64 (Wd.lo v), .bool (Wd.neg v)]] w fun e w' => e = .returned (.tuple #[.agg #[.int .i64 (Wd.wH v), .int .i64 (Wd.wL v)], .int .i64 (Wd.wE v)]) ∧ Gr w w' := by
  have b := Wd.lo_lt v; have c := Wd.lo_nonneg v; have d := Wd.hi_nonneg v
  by_cases hb : 72057594037927936 < Wd.hi v
  · obtain ⟨e1, e2, e3⟩ := Wd.put_none v (Or.inl hb)
    rw [e1, e2, e3]; exact placed_big _ _ _ w hb
  by_cases he : Wd.hi v = 72057594037927936
  · by_cases hl : 0 < Wd.lo v
    · obtain ⟨e1, e2, e3⟩ := Wd.put_none v (Or.inr ⟨he, Or.inl hl⟩)
      rw [e1, e2, e3, he]; exact placed_edge _ _ w hl
    · have hl' : Wd.lo v = 0 := by omega
      by_cases hn : v < 0
      · obtain ⟨e1, e2, e3⟩ := Wd.put_least v hn he hl'
        rw [e1, e2, e3, he, hl', Wd.neg_of_neg hn]; exact placed_least w
      · obtain ⟨e1, e2, e3⟩ := Wd.put_none v (Or.inr ⟨he, Or.inr (by omega)⟩)
        rw [e1, e2, e3, he, hl', Wd.neg_of_nonneg (by omega)]; exact placed_edge0 w
  have hh : Wd.hi v < 72057594037927936 := by omega
  by_cases hn : v < 0
  · rw [Wd.neg_of_neg hn]
    by_cases hz : Wd.lo v % 1152921504606846976 = 0
    · obtain ⟨e1, e2, e3⟩ := Wd.put_neg0 v hn hh hz
      rw [e1, e2, e3]; exact placed_neg0 _ _ w d hh c b hz
    · obtain ⟨e1, e2, e3⟩ := Wd.put_neg v hn hh hz
      rw [e1, e2, e3]; exact placed_neg _ _ w d hh c b hz
  · rw [Wd.neg_of_nonneg (by omega)]
    obtain ⟨e1, e2, e3⟩ := Wd.put_pos v (by omega) hh
    rw [e1, e2, e3]; exact placed_pos _ _ w d hh c b
set_option maxHeartbeats 400000 in
theorem sum_same (a b c d : Int) (s : Bool) (w : World) (a0 : 0 ≤ a) (a1 : a ≤ 72057594037927936) (b0 : 0 ≤ b) (b1 : b ≤ 18446744073709551615) (c0 : 0 ≤ c) (c1 : c ≤ 72057594037927936) (d0 : 0 ≤ d) (d1 : d ≤ 18446744073709551615) :
    Calls Tryz.prog 199 #[.agg #[.int .u64 a, .int .u64 b, .bool s], .agg #[.int .u64 c, .int .u64 d, .bool s]] w fun e w' => e = .returned (.agg #[.int .u64 (a + c + (b + d) / 18446744073709551616), .int .u64 ((b + d) % 18446744073709551616), .bool (Wd.neg (Wd.mk (a + c + (b + d) / 18446744073709551616) ((b + d) % 18446744073709551616) s))]) ∧ Gr w w' := by
  have k0 : 0 ≤ (b + d) / 18446744073709551616 := by omega
  have k1 : (b + d) / 18446744073709551616 ≤ 1 := by omega
  cases s
  all_goals
    go_enter Tryz.func199, Tryz.ntmps199
    go_wp2_with (first | simp only [add64_0 b d b0 d0] | (go_at_call 213; refine (signed_any _ _ _ _ (by omega) (by omega) (by omega) (by omega)).mono ?_; rintro e w1 ⟨rfl, hb⟩; obtain ⟨hc, hf⟩ := Gr.cells hb; have hz := Gr.size hb; simp at hz))
    refine bodyPost_ret (by simp [results, Tryz.results199, go_sem, hc, hz]; try rfl) rfl ?_
    exact ⟨by first | rfl | (simp; done), gr_auto⟩
set_option maxHeartbeats 400000 in
theorem sum_less (a b c d : Int) (s : Bool) (w : World) (a0 : 0 ≤ a) (b0 : 0 ≤ b) (b1 : b ≤ 18446744073709551615) (c1 : c ≤ 18446744073709551615) (d0 : 0 ≤ d) (d1 : d ≤ 18446744073709551615) (hl : a < c ∨ a = c ∧ b < d) :
    Calls Tryz.prog 199 #[.agg #[.int .u64 a, .int .u64 b, .bool s], .agg #[.int .u64 c, .int .u64 d, .bool (!s)]] w fun e w' => e = .returned (.agg #[.int .u64 (c - a - Wd.bor d b), .int .u64 ((d - b) % 18446744073709551616), .bool (Wd.neg (Wd.mk (c - a - Wd.bor d b) ((d - b) % 18446744073709551616) (!s)))]) ∧ Gr w w' := by
  obtain ⟨r1, r2⟩ := Wd.bor_range d b
  have k0 : 0 ≤ c - a - Wd.bor d b := by unfold Wd.bor; split <;> omega
  by_cases h1 : a < c
  · clear hl
    cases s
    all_goals
      go_enter Tryz.func199, Tryz.ntmps199
      go_wp2_with (first | simp only [sub64_0 d b d0 b0 b1] | (go_at_call 213; refine (signed_any _ _ _ _ (by omega) (by omega) (by omega) (by omega)).mono ?_; rintro e w1 ⟨rfl, hb⟩; obtain ⟨hc, hf⟩ := Gr.cells hb; have hz := Gr.size hb; simp at hz))
      refine bodyPost_ret (by simp [results, Tryz.results199, go_sem, hc, hz]; try rfl) rfl ?_
      exact ⟨by first | rfl | (simp; done), gr_auto⟩
  · have h2 : b < d := by omega
    obtain rfl : a = c := by omega
    clear hl h1
    cases s
    all_goals
      go_enter Tryz.func199, Tryz.ntmps199
      go_wp2_with (first | simp only [sub64_0 d b d0 b0 b1] | (go_at_call 213; refine (signed_any _ _ _ _ (by omega) (by omega) (by omega) (by omega)).mono ?_; rintro e w1 ⟨rfl, hb⟩; obtain ⟨hc, hf⟩ := Gr.cells hb; have hz := Gr.size hb; simp at hz))
      refine bodyPost_ret (by simp [results, Tryz.results199, go_sem, hc, hz]; try rfl) rfl ?_
      exact ⟨by first | rfl | (simp; done), gr_auto⟩
end Go.Proofs.YtllkiadedaghoaaGreat
namespace Go.Proofs.YtllkiadedaghoaaGreat
open Go.RowKit
set_option maxHeartbeats 400000 in
theorem sum_more (a b c d : Int) (s : Bool) (w : World) (a1 : a ≤ 18446744073709551615) (b0 : 0 ≤ b) (b1 : b ≤ 18446744073709551615) (c0 : 0 ≤ c) (d0 : 0 ≤ d) (d1 : d ≤ 18446744073709551615) (hl : c < a ∨ c = a ∧ d ≤ b) :
    Calls Tryz.prog 199 #[.agg #[.int .u64 a, .int .u64 b, .bool s], .agg #[.int .u64 c, .int .u64 d, .bool (!s)]] w fun e w' => e = .returned (.agg #[.int .u64 (a - c - Wd.bor b d), .int .u64 ((b - d) % 18446744073709551616), .bool (Wd.neg (Wd.mk (a - c - Wd.bor b d) ((b - d) % 18446744073709551616) s))]) ∧ Gr w w' := by
  obtain ⟨r1, r2⟩ := Wd.bor_range b d
  have k0 : 0 ≤ a - c - Wd.bor b d := by unfold Wd.bor; split <;> omega
  by_cases h1 : c < a
  · clear hl
    cases s
    all_goals
      go_enter Tryz.func199, Tryz.ntmps199
      go_wp2_with (first | simp only [sub64_0 b d b0 d0 d1] | (go_at_call 213; refine (signed_any _ _ _ _ (by omega) (by omega) (by omega) (by omega)).mono ?_; rintro e w1 ⟨rfl, hb⟩; obtain ⟨hc, hf⟩ := Gr.cells hb; have hz := Gr.size hb; simp at hz))
      refine bodyPost_ret (by simp [results, Tryz.results199, go_sem, hc, hz]; try rfl) rfl ?_
      exact ⟨by first | rfl | (simp; done), gr_auto⟩
  · have h2 : d ≤ b := by omega
    obtain rfl : a = c := by omega
    clear hl h1
    cases s
    all_goals
      go_enter Tryz.func199, Tryz.ntmps199
      go_wp2_with (first | simp only [sub64_0 b d b0 d0 d1] | (go_at_call 213; refine (signed_any _ _ _ _ (by omega) (by omega) (by omega) (by omega)).mono ?_; rintro e w1 ⟨rfl, hb⟩; obtain ⟨hc, hf⟩ := Gr.cells hb; have hz := Gr.size hb; simp at hz))
      refine bodyPost_ret (by simp [results, Tryz.results199, go_sem, hc, hz]; try rfl) rfl ?_
      exact ⟨by first | rfl | (simp; done), gr_auto⟩
theorem sum_any (x y : Int) (w : World) (hx : Wd.hi x ≤ 72057594037927936) (hy : Wd.hi y ≤ 72057594037927936) :
    Calls Tryz.prog 199 #[.agg #[.int .u64 (Wd.hi x), .int .u64 (Wd.lo x), .bool (Wd.neg x)], .agg #[.int .u64 (Wd.hi y), .int .u64 (Wd.lo y), .bool (Wd.neg y)]] w fun e w' => e = .returned (.agg #[.int .u64 (Wd.hi (x + y)), .int .u64 (Wd.lo (x + y)), .bool (Wd.neg (x + y))]) ∧ Gr w w' := by
  have a0 := Wd.hi_nonneg x; have b0 := Wd.lo_nonneg x; have b1 := Wd.lo_lt x
  have c0 := Wd.hi_nonneg y; have d0 := Wd.lo_nonneg y; have d1 := Wd.lo_lt y
  by_cases hs : Wd.neg x = Wd.neg y
  · have hm := Wd.sum_same x y hs
    have h1 := Wd.hi_mk (Wd.hi x + Wd.hi y + (Wd.lo x + Wd.lo y) / 18446744073709551616) ((Wd.lo x + Wd.lo y) % 18446744073709551616) (Wd.neg x) (by omega) (by omega) (by omega)
    have h2 := Wd.lo_mk (Wd.hi x + Wd.hi y + (Wd.lo x + Wd.lo y) / 18446744073709551616) ((Wd.lo x + Wd.lo y) % 18446744073709551616) (Wd.neg x) (by omega) (by omega) (by omega)
    rw [hm] at h1 h2
    rw [h1, h2, ← hm, ← hs]
    exact sum_same _ _ _ _ _ w a0 hx b0 b1 c0 hy d0 d1
  · by_cases hl : Wd.hi x < Wd.hi y ∨ Wd.hi x = Wd.hi y ∧ Wd.lo x < Wd.lo y
    · have hns : Wd.neg y = !(Wd.neg x) := by cases h1 : Wd.neg x <;> cases h2 : Wd.neg y <;> simp_all
      have hl' : Wd.hi x < Wd.hi y ∨ Wd.hi x = Wd.hi y ∧ Wd.lo x ≤ Wd.lo y := by omega
      have hm := Wd.sum_more y x (Ne.symm hs) hl'
      have hn := Wd.more_nonneg y x hl'
      have h1 := Wd.hi_mk (Wd.hi y - Wd.hi x - Wd.bor (Wd.lo y) (Wd.lo x)) ((Wd.lo y - Wd.lo x) % 18446744073709551616) (Wd.neg y) hn (by omega) (by omega)
      have h2 := Wd.lo_mk (Wd.hi y - Wd.hi x - Wd.bor (Wd.lo y) (Wd.lo x)) ((Wd.lo y - Wd.lo x) % 18446744073709551616) (Wd.neg y) hn (by omega) (by omega)
      rw [hm] at h1 h2
      rw [Int.add_comm x y, h1, h2, ← hm, hns]
      exact sum_less _ _ _ _ _ w a0 b0 b1 (by omega) d0 d1 hl
    · have hns : Wd.neg y = !(Wd.neg x) := by cases h1 : Wd.neg x <;> cases h2 : Wd.neg y <;> simp_all
      have hl' : Wd.hi y < Wd.hi x ∨ Wd.hi y = Wd.hi x ∧ Wd.lo y ≤ Wd.lo x := by omega
      have hm := Wd.sum_more x y hs hl'
      have hn := Wd.more_nonneg x y hl'
      have h1 := Wd.hi_mk (Wd.hi x - Wd.hi y - Wd.bor (Wd.lo x) (Wd.lo y)) ((Wd.lo x - Wd.lo y) % 18446744073709551616) (Wd.neg x) hn (by omega) (by omega)
      have h2 := Wd.lo_mk (Wd.hi x - Wd.hi y - Wd.bor (Wd.lo x) (Wd.lo y)) ((Wd.lo x - Wd.lo y) % 18446744073709551616) (Wd.neg x) hn (by omega) (by omega)
      rw [hm] at h1 h2
      rw [h1, h2, ← hm, hns]
      exact sum_more _ _ _ _ _ w (by omega) b0 b1 c0 d0 d1 hl'
set_option maxHeartbeats 400000 in
theorem minus_raw (h l : Int) (b : Bool) (w : World) (h0 : 0 ≤ h) (l0 : 0 ≤ l) (h1 : h ≤ 18446744073709551615) (l1 : l ≤ 18446744073709551615) :
    Calls Tryz.prog 201 #[.agg #[.int .u64 h, .int .u64 l, .bool b]] w fun e w' => e = .returned (.agg #[.int .u64 h, .int .u64 l, .bool (Wd.neg (Wd.mk h l (!b)))]) ∧ Gr w w' := by
  cases b
  all_goals
    go_enter Tryz.func201, Tryz.ntmps201
    go_wp2_with (first | (go_at_call 213; refine (signed_any _ _ _ _ (by omega) (by omega) (by omega) (by omega)).mono ?_; rintro e w1 ⟨rfl, hb⟩; obtain ⟨hc, hf⟩ := Gr.cells hb; have hz := Gr.size hb; simp at hz))
    refine bodyPost_ret (by simp [results, Tryz.results201, go_sem, hc, hz]; try rfl) rfl ?_
    exact ⟨by first | rfl | (simp; done), gr_auto⟩
theorem minus_any (x : Int) (w : World) (hx : Wd.hi x ≤ 72057594037927936) :
    Calls Tryz.prog 201 #[.agg #[.int .u64 (Wd.hi x), .int .u64 (Wd.lo x), .bool (Wd.neg x)]] w fun e w' => e = .returned (.agg #[.int .u64 (Wd.hi (-x)), .int .u64 (Wd.lo (-x)), .bool (Wd.neg (-x))]) ∧ Gr w w' := by
  have a0 := Wd.hi_nonneg x; have b0 := Wd.lo_nonneg x; have b1 := Wd.lo_lt x
  rw [Wd.hi_neg, Wd.lo_neg, ← Wd.mk_minus x]
  exact minus_raw _ _ _ w a0 b0 (by omega) b1
theorem low32 (z : Int) : bits .and .u64 (z % 18446744073709551616) 4294967295 = z % 18446744073709551616 % 4294967296 := and_low32 _ (by omega) (by omega)
set_option maxHeartbeats 400000 in
theorem mul64_any (x y : Int) (w : World) (hx0 : 0 ≤ x) (hx : x ≤ 18446744073709551615) (hy0 : 0 ≤ y) (hy : y ≤ 18446744073709551615) :
    Calls Tryz.prog 211 #[.int .u64 x, .int .u64 y] w fun e w' => e = .returned (.tuple #[.int .u64 (x * y / 18446744073709551616), .int .u64 (x * y % 18446744073709551616)]) ∧ w = w' := by
  have ax := and_low32 x hx0 (by omega)
  have ay := and_low32 y hy0 (by omega)
  go_enter Tryz.func211, Tryz.ntmps211
  go_wp2
  go_ret2
  refine ⟨ret_two ?_ (IntKind.wrap_u64 _), rfl⟩
  simp only [IntKind.wrap_u64, low32]
  exact mul64_arith x y hx0 (by omega) hy0 (by omega)
set_option maxHeartbeats 400000 in
theorem valid_true (h l : Int) (w : World) (hv : Wd.vld h l = true) :
    Calls Tryz.prog 198 #[.agg #[.int .i64 h, .int .i64 l]] w fun e w' => e = .returned (.bool true) ∧ Gr w w' := by
  obtain ⟨a, b, c, d⟩ := Wd.vld_true hv
  clear hv
  have a' : decide (-1152921504606846976 ≤ h) = true := by simpa using a
  have b' : decide (h < 1152921504606846976) = true := by simp; omega
  have c' : decide (0 ≤ l) = true := by simpa using c
  have d' : decide (l < 1152921504606846976) = true := by simp; omega
  go_enter Tryz.func198, Tryz.ntmps198
  go_wp2
  go_returns
  exact ⟨by first | rfl | (simp; done), gr_auto⟩
set_option maxHeartbeats 400000 in
theorem valid_false (h l : Int) (w : World) (hv : Wd.vld h l = false) :
    Calls Tryz.prog 198 #[.agg #[.int .i64 h, .int .i64 l]] w fun e w' => e = .returned (.bool false) ∧ Gr w w' := by
  have hv' := Wd.vld_false hv
  clear hv
  by_cases a : -1152921504606846976 ≤ h
  · have a' : decide (-1152921504606846976 ≤ h) = true := by simpa using a
    by_cases b : h < 1152921504606846976
    · have b' : decide (h < 1152921504606846976) = true := by simpa using b
      by_cases c : 0 ≤ l
      · have c' : decide (0 ≤ l) = true := by simpa using c
        have d' : decide (l < 1152921504606846976) = false := by simp; omega
        clear hv'
        go_enter Tryz.func198, Tryz.ntmps198
        go_wp2
        go_returns
        exact ⟨by first | rfl | (simp; done), gr_auto⟩
      · have c' : decide (0 ≤ l) = false := by simpa using c
        clear hv'
        go_enter Tryz.func198, Tryz.ntmps198
        go_wp2
        go_returns
        exact ⟨by first | rfl | (simp; done), gr_auto⟩
    · have b' : decide (h < 1152921504606846976) = false := by simpa using b
      clear hv'
      go_enter Tryz.func198, Tryz.ntmps198
      go_wp2
      go_returns
      exact ⟨by first | rfl | (simp; done), gr_auto⟩
  · have a' : decide (-1152921504606846976 ≤ h) = false := by simpa using a
    clear hv'
    go_enter Tryz.func198, Tryz.ntmps198
    go_wp2
    go_returns
    exact ⟨by first | rfl | (simp; done), gr_auto⟩
theorem valid_any (h l : Int) (w : World) :
    Calls Tryz.prog 198 #[.agg #[.int .i64 h, .int .i64 l]] w fun e w' => e = .returned (.bool (Wd.vld h l)) ∧ Gr w w' := by
  cases hv : Wd.vld h l
  · exact valid_false h l w hv
  · exact valid_true h l w hv
end Go.Proofs.YtllkiadedaghoaaGreat
namespace Go.Proofs.YtllkiadedaghoaaGreat
open Go.RowKit
theorem whole_at (q n : Int) (b : Bool) (w : World) (hn : n = Wd.mag q) (h1 : Wd.mag q ≤ 18446744073709551615) (hb : b = Wd.neg q) :
    Calls Tryz.prog 202 #[.int .u64 n, .bool b] w fun e w' => e = .returned (.tuple #[.int .i64 (Wd.intQ q), .int .i64 (Wd.intE q)]) ∧ w = w' := by
  subst hn; exact whole_any q b w h1 hb
set_option maxHeartbeats 400000 in
theorem times_any (a b : Int) (w : World) (a0 : -9223372036854775808 ≤ a) (a1 : a ≤ 9223372036854775807) (b0 : -9223372036854775808 ≤ b) (b1 : b ≤ 9223372036854775807) :
    Calls Tryz.prog 195 #[.int .i64 a, .int .i64 b] w fun e w' => e = .returned (.agg #[.int .u64 (Wd.hi (a * b)), .int .u64 (Wd.lo (a * b)), .bool (Wd.neg (a * b))]) ∧ Gr w w' := by
  have m1 := Wd.mag_le a0 a1
  have m2 := Wd.mag_le b0 b1
  have n1 := Wd.mag_nonneg a
  have n2 := Wd.mag_nonneg b
  have p1 := Wd.mul_bound m1 m2
  have p0 := Wd.mag_nonneg (a * b)
  rw [← Wd.mag_mul] at p1 p0
  have f : Wd.hi (a * b) = Wd.mag a * Wd.mag b / 18446744073709551616 ∧ Wd.lo (a * b) = Wd.mag a * Wd.mag b % 18446744073709551616 ∧ Wd.neg (a * b) = Wd.neg (Wd.mk (Wd.mag a * Wd.mag b / 18446744073709551616) (Wd.mag a * Wd.mag b % 18446744073709551616) (Wd.neg a != Wd.neg b)) := by
    have e := Wd.mk_mul a b
    unfold Wd.hi Wd.lo at e ⊢
    rw [← Wd.mag_mul] at e ⊢
    exact ⟨rfl, rfl, by rw [e]⟩
  obtain ⟨f1, f2, f3⟩ := f
  rw [f1, f2, f3]
  clear f1 f2 f3
  generalize hp : Wd.mag a * Wd.mag b = p at *
  have Hp := Lib.hid hp
  clear hp
  have hmul : ∀ W : World, Calls Tryz.prog 211 #[.int .u64 (Wd.mag a), .int .u64 (Wd.mag b)] W fun e w' => e = .returned (.tuple #[.int .u64 (p / 18446744073709551616), .int .u64 (p % 18446744073709551616)]) ∧ W = w' := by
    intro W; rw [← Hp.out]; exact mul64_any _ _ W n1 (by omega) n2 (by omega)
  have HM := Lib.hid hmul
  clear hmul
  by_cases ha : a < 0
  · rw [Wd.neg_of_neg ha]
    have ha' : decide (a < 0) = true := by simpa using ha
    by_cases hb : b < 0
    · rw [Wd.neg_of_neg hb]
      have hb' : decide (b < 0) = true := by simpa using hb
      go_enter Tryz.func195, Tryz.ntmps195
      go_wp2_with (first | (go_at_call 212; refine (size_any _ _ (by omega) (by omega)).mono ?_; rintro e w' ⟨rfl, rfl⟩) | (go_at_call 211; refine (HM.out _).mono ?_; rintro e w' ⟨rfl, rfl⟩) | (go_at_call 213; refine (signed_any _ _ _ _ (by omega) (by omega) (by omega) (by omega)).mono ?_; rintro e w1 ⟨rfl, hb1⟩; obtain ⟨hc1, hf1⟩ := Gr.cells hb1; have hz1 := Gr.size hb1; (try simp at hz1); (try have hy1_0 : w.heap.size < w1.heap.size := by omega); (try have hy1_1 : w.heap.size + 1 < w1.heap.size := by omega); (try have hy1_2 : w.heap.size + 1 + 1 < w1.heap.size := by omega); (try have hy1_3 : w.heap.size + 1 + 1 + 1 < w1.heap.size := by omega); (try have hy1_4 : w.heap.size + 1 + 1 + 1 + 1 < w1.heap.size := by omega); (try have hy1_5 : w.heap.size + 1 + 1 + 1 + 1 + 1 < w1.heap.size := by omega)))
      refine bodyPost_ret (by simp [results, Tryz.results195, go_sem, hc1, hz1]; try rfl) rfl ?_
      exact ⟨by first | rfl | (simp; done), gr_auto⟩
    · have hb' : 0 ≤ b := by omega
      rw [Wd.neg_of_nonneg hb']
      have hb3 : decide (b < 0) = false := by simpa using hb
      go_enter Tryz.func195, Tryz.ntmps195
      go_wp2_with (first | (go_at_call 212; refine (size_any _ _ (by omega) (by omega)).mono ?_; rintro e w' ⟨rfl, rfl⟩) | (go_at_call 211; refine (HM.out _).mono ?_; rintro e w' ⟨rfl, rfl⟩) | (go_at_call 213; refine (signed_any _ _ _ _ (by omega) (by omega) (by omega) (by omega)).mono ?_; rintro e w1 ⟨rfl, hb1⟩; obtain ⟨hc1, hf1⟩ := Gr.cells hb1; have hz1 := Gr.size hb1; (try simp at hz1); (try have hy1_0 : w.heap.size < w1.heap.size := by omega); (try have hy1_1 : w.heap.size + 1 < w1.heap.size := by omega); (try have hy1_2 : w.heap.size + 1 + 1 < w1.heap.size := by omega); (try have hy1_3 : w.heap.size + 1 + 1 + 1 < w1.heap.size := by omega); (try have hy1_4 : w.heap.size + 1 + 1 + 1 + 1 < w1.heap.size := by omega); (try have hy1_5 : w.heap.size + 1 + 1 + 1 + 1 + 1 < w1.heap.size := by omega)))
      refine bodyPost_ret (by simp [results, Tryz.results195, go_sem, hc1, hz1]; try rfl) rfl ?_
      exact ⟨by first | rfl | (simp; done), gr_auto⟩
  · have ha' : 0 ≤ a := by omega
    rw [Wd.neg_of_nonneg ha']
    have ha3 : decide (a < 0) = false := by simpa using ha
    by_cases hb : b < 0
    · rw [Wd.neg_of_neg hb]
      have hb' : decide (b < 0) = true := by simpa using hb
      go_enter Tryz.func195, Tryz.ntmps195
      go_wp2_with (first | (go_at_call 212; refine (size_any _ _ (by omega) (by omega)).mono ?_; rintro e w' ⟨rfl, rfl⟩) | (go_at_call 211; refine (HM.out _).mono ?_; rintro e w' ⟨rfl, rfl⟩) | (go_at_call 213; refine (signed_any _ _ _ _ (by omega) (by omega) (by omega) (by omega)).mono ?_; rintro e w1 ⟨rfl, hb1⟩; obtain ⟨hc1, hf1⟩ := Gr.cells hb1; have hz1 := Gr.size hb1; (try simp at hz1); (try have hy1_0 : w.heap.size < w1.heap.size := by omega); (try have hy1_1 : w.heap.size + 1 < w1.heap.size := by omega); (try have hy1_2 : w.heap.size + 1 + 1 < w1.heap.size := by omega); (try have hy1_3 : w.heap.size + 1 + 1 + 1 < w1.heap.size := by omega); (try have hy1_4 : w.heap.size + 1 + 1 + 1 + 1 < w1.heap.size := by omega); (try have hy1_5 : w.heap.size + 1 + 1 + 1 + 1 + 1 < w1.heap.size := by omega)))
      refine bodyPost_ret (by simp [results, Tryz.results195, go_sem, hc1, hz1]; try rfl) rfl ?_
      exact ⟨by first | rfl | (simp; done), gr_auto⟩
    · have hb' : 0 ≤ b := by omega
      rw [Wd.neg_of_nonneg hb']
      have hb3 : decide (b < 0) = false := by simpa using hb
      go_enter Tryz.func195, Tryz.ntmps195
      go_wp2_with (first | (go_at_call 212; refine (size_any _ _ (by omega) (by omega)).mono ?_; rintro e w' ⟨rfl, rfl⟩) | (go_at_call 211; refine (HM.out _).mono ?_; rintro e w' ⟨rfl, rfl⟩) | (go_at_call 213; refine (signed_any _ _ _ _ (by omega) (by omega) (by omega) (by omega)).mono ?_; rintro e w1 ⟨rfl, hb1⟩; obtain ⟨hc1, hf1⟩ := Gr.cells hb1; have hz1 := Gr.size hb1; (try simp at hz1); (try have hy1_0 : w.heap.size < w1.heap.size := by omega); (try have hy1_1 : w.heap.size + 1 < w1.heap.size := by omega); (try have hy1_2 : w.heap.size + 1 + 1 < w1.heap.size := by omega); (try have hy1_3 : w.heap.size + 1 + 1 + 1 < w1.heap.size := by omega); (try have hy1_4 : w.heap.size + 1 + 1 + 1 + 1 < w1.heap.size := by omega); (try have hy1_5 : w.heap.size + 1 + 1 + 1 + 1 + 1 < w1.heap.size := by omega)))
      refine bodyPost_ret (by simp [results, Tryz.results195, go_sem, hc1, hz1]; try rfl) rfl ?_
      exact ⟨by first | rfl | (simp; done), gr_auto⟩
set_option maxHeartbeats 400000 in
theorem product_any (a b : Int) (w : World) (a0 : -9223372036854775808 ≤ a) (a1 : a ≤ 9223372036854775807) (b0 : -9223372036854775808 ≤ b) (b1 : b ≤ 9223372036854775807) :
    Calls Tryz.prog 179 #[.int .i64 a, .int .i64 b] w fun e w' => e = .returned (.tuple #[.agg #[.int .i64 (Wd.wH (a * b)), .int .i64 (Wd.wL (a * b))], .int .i64 (Wd.wE (a * b))]) ∧ Gr w w' := by
  have p1 := Wd.mul_bound (Wd.mag_le a0 a1) (Wd.mag_le b0 b1)
  have p2 : Wd.hi (a * b) ≤ 18446744073709551615 := by unfold Wd.hi; omega
  go_enter Tryz.func179, Tryz.ntmps179
  go_wp2_with (first | (go_at_call 195; refine (times_any _ _ _ a0 a1 b0 b1).mono ?_; rintro e w1 ⟨rfl, hb1⟩; obtain ⟨hc1, hf1⟩ := Gr.cells hb1; have hz1 := Gr.size hb1; (try simp at hz1); (try have hy1_0 : w.heap.size < w1.heap.size := by omega); (try have hy1_1 : w.heap.size + 1 < w1.heap.size := by omega); (try have hy1_2 : w.heap.size + 1 + 1 < w1.heap.size := by omega); (try have hy1_3 : w.heap.size + 1 + 1 + 1 < w1.heap.size := by omega); (try have hy1_4 : w.heap.size + 1 + 1 + 1 + 1 < w1.heap.size := by omega); (try have hy1_5 : w.heap.size + 1 + 1 + 1 + 1 + 1 < w1.heap.size := by omega)) | (go_at_call 197; refine (placed_any _ _ p2).mono ?_; rintro e w2 ⟨rfl, hb2⟩; obtain ⟨hc2, hf2⟩ := Gr.cells hb2; have hz2 := Gr.size hb2; (try simp at hz2); (try have hy2_0 : w.heap.size < w2.heap.size := by omega); (try have hy2_1 : w.heap.size + 1 < w2.heap.size := by omega); (try have hy2_2 : w.heap.size + 1 + 1 < w2.heap.size := by omega); (try have hy2_3 : w.heap.size + 1 + 1 + 1 < w2.heap.size := by omega); (try have hy2_4 : w.heap.size + 1 + 1 + 1 + 1 < w2.heap.size := by omega); (try have hy2_5 : w.heap.size + 1 + 1 + 1 + 1 + 1 < w2.heap.size := by omega)))
  refine bodyPost_ret (by simp [results, Tryz.results179, go_sem, hc1, hz1, hc2, hz2, hy1_0, hy2_0]; try rfl) rfl ?_
  exact ⟨by first | rfl | (simp; done), gr_auto⟩
end Go.Proofs.YtllkiadedaghoaaGreat
namespace Go.Proofs.YtllkiadedaghoaaGreat
open Go.RowKit
set_option maxHeartbeats 400000 in
theorem int_bad (h l : Int) (w : World) (hv : Wd.vld h l = false) :
    Calls Tryz.prog 181 #[.agg #[.int .i64 h, .int .i64 l]] w fun e w' => e = .returned (.tuple #[.int .i64 0, .int .i64 1]) ∧ Gr w w' := by
  have hva : ∀ W : World, Calls Tryz.prog 198 #[.agg #[.int .i64 h, .int .i64 l]] W fun e w' => e = .returned (.bool false) ∧ Gr W w' := fun W => valid_false h l W hv
  have HV := Lib.hid hva; clear hva hv
  go_enter Tryz.func181, Tryz.ntmps181
  go_wp2_with (first | (go_at_call 198; refine (HV.out _).mono ?_; rintro e w1 ⟨rfl, hb1⟩; obtain ⟨hc1, hf1⟩ := Gr.cells hb1; have hz1 := Gr.size hb1; (try simp at hz1); (try have hy1_0 : w.heap.size < w1.heap.size := by omega); (try have hy1_1 : w.heap.size + 1 < w1.heap.size := by omega); (try have hy1_2 : w.heap.size + 1 + 1 < w1.heap.size := by omega); (try have hy1_3 : w.heap.size + 1 + 1 + 1 < w1.heap.size := by omega); (try have hy1_4 : w.heap.size + 1 + 1 + 1 + 1 < w1.heap.size := by omega); (try have hy1_5 : w.heap.size + 1 + 1 + 1 + 1 + 1 < w1.heap.size := by omega)))
  go_ret2
  exact ⟨rfl, gr_auto⟩
set_option maxHeartbeats 400000 in
theorem int_any (h l : Int) (w : World) (hv : Wd.vld h l = true) :
    Calls Tryz.prog 181 #[.agg #[.int .i64 h, .int .i64 l]] w fun e w' => e = .returned (.tuple #[.int .i64 (Wd.intQ (Wd.val h l)), .int .i64 (Wd.intE (Wd.val h l))]) ∧ Gr w w' := by
  obtain ⟨v0, v1, v2, v3⟩ := Wd.vld_true hv
  have hva : ∀ W : World, Calls Tryz.prog 198 #[.agg #[.int .i64 h, .int .i64 l]] W fun e w' => e = .returned (.bool true) ∧ Gr W w' := fun W => valid_true h l W hv
  have hval : ∀ W : World, Calls Tryz.prog 200 #[.agg #[.int .i64 h, .int .i64 l]] W fun e w' => e = .returned (.agg #[.int .u64 (Wd.hi (Wd.val h l)), .int .u64 (Wd.lo (Wd.val h l)), .bool (Wd.neg (Wd.val h l))]) ∧ Gr W w' := fun W => value_any h l W v0 v1 v2 v3
  have HV := Lib.hid hva; clear hva hv
  have HL := Lib.hid hval; clear hval
  generalize Wd.val h l = v at *
  have h0 := Wd.hi_nonneg v
  have hl := Wd.hilo v
  have l1 := Wd.lo_lt v
  have l0 := Wd.lo_nonneg v
  by_cases hz : 0 < Wd.hi v
  · have hz' : decide (0 < Wd.hi v) = true := by simpa using hz
    obtain ⟨f1, f2⟩ := Wd.fits_false (q := v) (by unfold Wd.mag at hl; split at hl <;> omega)
    rw [f1, f2]
    clear f1 f2 hl
    go_enter Tryz.func181, Tryz.ntmps181
    go_wp2_with (first | (go_at_call 198; refine (HV.out _).mono ?_; rintro e w1 ⟨rfl, hb1⟩; obtain ⟨hc1, hf1⟩ := Gr.cells hb1; have hz1 := Gr.size hb1; (try simp at hz1); (try have hy1_0 : w.heap.size < w1.heap.size := by omega); (try have hy1_1 : w.heap.size + 1 < w1.heap.size := by omega); (try have hy1_2 : w.heap.size + 1 + 1 < w1.heap.size := by omega); (try have hy1_3 : w.heap.size + 1 + 1 + 1 < w1.heap.size := by omega); (try have hy1_4 : w.heap.size + 1 + 1 + 1 + 1 < w1.heap.size := by omega); (try have hy1_5 : w.heap.size + 1 + 1 + 1 + 1 + 1 < w1.heap.size := by omega)) | (go_at_call 200; refine (HL.out _).mono ?_; rintro e w2 ⟨rfl, hb2⟩; obtain ⟨hc2, hf2⟩ := Gr.cells hb2; have hz2 := Gr.size hb2; (try simp at hz2); (try have hy2_0 : w.heap.size < w2.heap.size := by omega); (try have hy2_1 : w.heap.size + 1 < w2.heap.size := by omega); (try have hy2_2 : w.heap.size + 1 + 1 < w2.heap.size := by omega); (try have hy2_3 : w.heap.size + 1 + 1 + 1 < w2.heap.size := by omega); (try have hy2_4 : w.heap.size + 1 + 1 + 1 + 1 < w2.heap.size := by omega); (try have hy2_5 : w.heap.size + 1 + 1 + 1 + 1 + 1 < w2.heap.size := by omega)))
    go_ret2
    exact ⟨rfl, gr_auto⟩
  · have hz' : decide (0 < Wd.hi v) = false := by simpa using hz
    have hm : Wd.lo v = Wd.mag v := by omega
    have HM := Lib.hid hm
    clear hm hl
    go_enter Tryz.func181, Tryz.ntmps181
    go_wp2_with (first | (go_at_call 198; refine (HV.out _).mono ?_; rintro e w1 ⟨rfl, hb1⟩; obtain ⟨hc1, hf1⟩ := Gr.cells hb1; have hz1 := Gr.size hb1; (try simp at hz1); (try have hy1_0 : w.heap.size < w1.heap.size := by omega); (try have hy1_1 : w.heap.size + 1 < w1.heap.size := by omega); (try have hy1_2 : w.heap.size + 1 + 1 < w1.heap.size := by omega); (try have hy1_3 : w.heap.size + 1 + 1 + 1 < w1.heap.size := by omega); (try have hy1_4 : w.heap.size + 1 + 1 + 1 + 1 < w1.heap.size := by omega); (try have hy1_5 : w.heap.size + 1 + 1 + 1 + 1 + 1 < w1.heap.size := by omega)) | (go_at_call 200; refine (HL.out _).mono ?_; rintro e w2 ⟨rfl, hb2⟩; obtain ⟨hc2, hf2⟩ := Gr.cells hb2; have hz2 := Gr.size hb2; (try simp at hz2); (try have hy2_0 : w.heap.size < w2.heap.size := by omega); (try have hy2_1 : w.heap.size + 1 < w2.heap.size := by omega); (try have hy2_2 : w.heap.size + 1 + 1 < w2.heap.size := by omega); (try have hy2_3 : w.heap.size + 1 + 1 + 1 < w2.heap.size := by omega); (try have hy2_4 : w.heap.size + 1 + 1 + 1 + 1 < w2.heap.size := by omega); (try have hy2_5 : w.heap.size + 1 + 1 + 1 + 1 + 1 < w2.heap.size := by omega)) | (go_at_call 202; refine (whole_at v _ _ _ HM.out (by rw [← HM.out]; exact l1) rfl).mono ?_; rintro e w3 ⟨rfl, rfl⟩))
    go_ret2
    exact ⟨rfl, gr_auto⟩
theorem value_v (h l : Int) (w : World) (hv : Wd.vld h l = true) :
    Calls Tryz.prog 200 #[.agg #[.int .i64 h, .int .i64 l]] w fun e w' => e = .returned (.agg #[.int .u64 (Wd.hi (Wd.val h l)), .int .u64 (Wd.lo (Wd.val h l)), .bool (Wd.neg (Wd.val h l))]) ∧ Gr w w' := by
  obtain ⟨v0, v1, v2, v3⟩ := Wd.vld_true hv
  exact value_any h l w v0 v1 v2 v3
set_option maxHeartbeats 400000 in
theorem sub_bad (h l k m : Int) (w : World) (hv : Wd.vld h l = false ∨ Wd.vld h l = true ∧ Wd.vld k m = false) :
    Calls Tryz.prog 180 #[.agg #[.int .i64 h, .int .i64 l], .agg #[.int .i64 k, .int .i64 m]] w fun e w' => e = .returned (.tuple #[.agg #[.int .i64 0, .int .i64 0], .int .i64 1]) ∧ Gr w w' := by
  rcases hv with hv | ⟨hv, hv2⟩
  · go_enter Tryz.func180, Tryz.ntmps180
    go_wp2_with (first | (go_at_call 198; refine (valid_false h l _ (by assumption)).mono ?_; rintro e w1 ⟨rfl, hb1⟩; obtain ⟨hc1, hf1⟩ := Gr.cells hb1; have hz1 := Gr.size hb1; (try simp at hz1); (try have hy1_0 : w.heap.size < w1.heap.size := by omega); (try have hy1_1 : w.heap.size + 1 < w1.heap.size := by omega); (try have hy1_2 : w.heap.size + 1 + 1 < w1.heap.size := by omega); (try have hy1_3 : w.heap.size + 1 + 1 + 1 < w1.heap.size := by omega); (try have hy1_4 : w.heap.size + 1 + 1 + 1 + 1 < w1.heap.size := by omega); (try have hy1_5 : w.heap.size + 1 + 1 + 1 + 1 + 1 < w1.heap.size := by omega)))
    refine bodyPost_ret (by simp [results, Tryz.results180, go_sem, hc1, hz1, hy1_0, hy1_1, hy1_2]; try rfl) rfl ?_
    exact ⟨by first | rfl | (simp; done), gr_auto⟩
  · go_enter Tryz.func180, Tryz.ntmps180
    go_wp2_with fail
    refine (valid_true h l _ (by assumption)).mono ?_; rintro e w1 ⟨rfl, hb1⟩; obtain ⟨hc1, hf1⟩ := Gr.cells hb1; have hz1 := Gr.size hb1; (try simp at hz1); (try have hy1_0 : w.heap.size < w1.heap.size := by omega); (try have hy1_1 : w.heap.size + 1 < w1.heap.size := by omega); (try have hy1_2 : w.heap.size + 1 + 1 < w1.heap.size := by omega); (try have hy1_3 : w.heap.size + 1 + 1 + 1 < w1.heap.size := by omega); (try have hy1_4 : w.heap.size + 1 + 1 + 1 + 1 < w1.heap.size := by omega); (try have hy1_5 : w.heap.size + 1 + 1 + 1 + 1 + 1 < w1.heap.size := by omega)
    go_wp2_with fail
    refine (valid_false k m _ (by assumption)).mono ?_; rintro e w2 ⟨rfl, hb2⟩; obtain ⟨hc2, hf2⟩ := Gr.cells hb2; have hz2 := Gr.size hb2; (try simp at hz2); (try have hy2_0 : w.heap.size < w2.heap.size := by omega); (try have hy2_1 : w.heap.size + 1 < w2.heap.size := by omega); (try have hy2_2 : w.heap.size + 1 + 1 < w2.heap.size := by omega); (try have hy2_3 : w.heap.size + 1 + 1 + 1 < w2.heap.size := by omega); (try have hy2_4 : w.heap.size + 1 + 1 + 1 + 1 < w2.heap.size := by omega); (try have hy2_5 : w.heap.size + 1 + 1 + 1 + 1 + 1 < w2.heap.size := by omega)
    go_wp2
    refine bodyPost_ret (by simp [results, Tryz.results180, go_sem, hc1, hz1, hy1_0, hy1_1, hy1_2, hc2, hz2, hy2_0, hy2_1, hy2_2]; try rfl) rfl ?_
    exact ⟨by first | rfl | (simp; done), gr_auto⟩
set_option maxHeartbeats 400000 in
theorem sub_any (h l k m : Int) (w : World) (hv : Wd.vld h l = true) (hv2 : Wd.vld k m = true) :
    Calls Tryz.prog 180 #[.agg #[.int .i64 h, .int .i64 l], .agg #[.int .i64 k, .int .i64 m]] w fun e w' => e = .returned (.tuple #[.agg #[.int .i64 (Wd.wH (Wd.val h l - Wd.val k m)), .int .i64 (Wd.wL (Wd.val h l - Wd.val k m))], .int .i64 (Wd.wE (Wd.val h l - Wd.val k m))]) ∧ Gr w w' := by
  obtain ⟨x0, x1⟩ := Wd.val_bounds hv
  obtain ⟨y0, y1⟩ := Wd.val_bounds hv2
  have hx := Wd.hi_le (v := Wd.val h l) (by omega) (by omega)
  have hy := Wd.hi_le (v := Wd.val k m) (by omega) (by omega)
  have hxy : Wd.hi (Wd.val h l - Wd.val k m) ≤ 18446744073709551615 := by unfold Wd.hi Wd.mag; split <;> omega
  have hs : ∀ W : World, Calls Tryz.prog 199 #[.agg #[.int .u64 (Wd.hi (Wd.val h l)), .int .u64 (Wd.lo (Wd.val h l)), .bool (Wd.neg (Wd.val h l))], .agg #[.int .u64 (Wd.hi (-Wd.val k m)), .int .u64 (Wd.lo (-Wd.val k m)), .bool (Wd.neg (-Wd.val k m))]] W fun e w' => e = .returned (.agg #[.int .u64 (Wd.hi (Wd.val h l - Wd.val k m)), .int .u64 (Wd.lo (Wd.val h l - Wd.val k m)), .bool (Wd.neg (Wd.val h l - Wd.val k m))]) ∧ Gr W w' := fun W => by
    rw [Int.sub_eq_add_neg]; exact sum_any _ _ W hx (by rw [Wd.hi_neg]; exact hy)
  have HS := Lib.hid hs
  clear hs
  have HV := Lib.hid hv
  have HV2 := Lib.hid hv2
  clear hv hv2 x0 x1 y0 y1
  go_enter Tryz.func180, Tryz.ntmps180
  go_wp2_with fail
  refine (valid_true h l _ HV.out).mono ?_; rintro e w1 ⟨rfl, hb1⟩; obtain ⟨hc1, hf1⟩ := Gr.cells hb1; have hz1 := Gr.size hb1; (try simp at hz1); (try have hy1_0 : w.heap.size < w1.heap.size := by omega); (try have hy1_1 : w.heap.size + 1 < w1.heap.size := by omega); (try have hy1_2 : w.heap.size + 1 + 1 < w1.heap.size := by omega); (try have hy1_3 : w.heap.size + 1 + 1 + 1 < w1.heap.size := by omega); (try have hy1_4 : w.heap.size + 1 + 1 + 1 + 1 < w1.heap.size := by omega); (try have hy1_5 : w.heap.size + 1 + 1 + 1 + 1 + 1 < w1.heap.size := by omega)
  go_wp2_with fail
  refine (valid_true k m _ HV2.out).mono ?_; rintro e w2 ⟨rfl, hb2⟩; obtain ⟨hc2, hf2⟩ := Gr.cells hb2; have hz2 := Gr.size hb2; (try simp at hz2); (try have hy2_0 : w.heap.size < w2.heap.size := by omega); (try have hy2_1 : w.heap.size + 1 < w2.heap.size := by omega); (try have hy2_2 : w.heap.size + 1 + 1 < w2.heap.size := by omega); (try have hy2_3 : w.heap.size + 1 + 1 + 1 < w2.heap.size := by omega); (try have hy2_4 : w.heap.size + 1 + 1 + 1 + 1 < w2.heap.size := by omega); (try have hy2_5 : w.heap.size + 1 + 1 + 1 + 1 + 1 < w2.heap.size := by omega)
  go_wp2_with fail
  have k1 : w2.cell? ⟨w.heap.size, 0, none⟩ = some (.int .i64 h) := Gr.at hb2 (Gr.at hb1 (by simp [go_sem]))
  have k2 : w2.cell? ⟨w.heap.size, 1, none⟩ = some (.int .i64 l) := Gr.at hb2 (Gr.at hb1 (by simp [go_sem]))
  have k3 : w2.cell? ⟨w.heap.size + 1, 0, none⟩ = some (.int .i64 k) := Gr.at hb2 (Gr.at hb1 (by simp [go_sem]))
  have k4 : w2.cell? ⟨w.heap.size + 1, 1, none⟩ = some (.int .i64 m) := Gr.at hb2 (Gr.at hb1 (by simp [go_sem]))
  have k5 : w2.cell? ⟨w.heap.size + 1 + 1, 0, none⟩ = some (.int .i64 0) := Gr.at hb2 (Gr.at hb1 (by simp [go_sem]))
  have k6 : w2.cell? ⟨w.heap.size + 1 + 1, 1, none⟩ = some (.int .i64 0) := Gr.at hb2 (Gr.at hb1 (by simp [go_sem]))
  have f5 : w2.frozen? ⟨w.heap.size + 1 + 1, 0, none⟩ = false := by rw [hf2 _ _ hy1_2, hf1 _ _ (by simp)]; simp [go_sem]
  have f6 : w2.frozen? ⟨w.heap.size + 1 + 1, 1, none⟩ = false := by rw [hf2 _ _ hy1_2, hf1 _ _ (by simp)]; simp [go_sem]
  have g2 : Gr w w2 := gr_auto
  clear hb1 hc1 hf1 hb2 hc2 hf2 hz1 hz2 hy1_0 hy1_1 hy1_2
  go_region_held3 (fun w' => w'.cell? ⟨w.heap.size, 0, none⟩ = some (.int .i64 h) ∧ w'.cell? ⟨w.heap.size, 1, none⟩ = some (.int .i64 l) ∧ w'.cell? ⟨w.heap.size + 1, 0, none⟩ = some (.int .i64 k) ∧ w'.cell? ⟨w.heap.size + 1, 1, none⟩ = some (.int .i64 m)) (first | (refine ⟨?_, ?_, ?_, ?_⟩ <;> (first | (simp [k1, k2, k3, k4]; done) | (refine Gr.at (by with_reducible assumption) ?_; simp [*]; done))) | (refine ⟨?_, ?_, ?_, ?_⟩ <;> (rw [World.cell?_setCell_far _ _ _ _ (by dsimp only; omega), World.cell?_setCell_far _ _ _ _ (by dsimp only; omega)]; assumption)))
    (first
      | (go_at_call 200; refine (value_v _ _ _ (by first | exact HV.out | exact HV2.out)).mono ?_; rintro e w3 ⟨rfl, hb3⟩)
      | (go_at_call 201; refine (minus_any _ _ hy).mono ?_; rintro e w4 ⟨rfl, hb4⟩)
      | (go_at_call 199; refine (HS.out _).mono ?_; rintro e w5 ⟨rfl, hb5⟩)
      | (go_at_call 197; refine (placed_any _ _ hxy).mono ?_; rintro e w6 ⟨rfl, hb6⟩; have q6 : Gr w2 w6 := gr_auto; have c1 := Gr.at q6 k1; have c2 := Gr.at q6 k2; have c3 := Gr.at q6 k3; have c4 := Gr.at q6 k4; have c5 := Gr.at q6 k5; have c6 := Gr.at q6 k6; have e5 := Gr.free q6 k5 f5; have e6 := Gr.free q6 k6 f6))
  go_wp2
  refine bodyPost_ret (by simp [results, Tryz.results180, go_sem, c5, c6]; try rfl) rfl ?_
  exact ⟨by first | rfl | (simp; done), gr_auto⟩
end Go.Proofs.YtllkiadedaghoaaGreat
namespace Go.Proofs.YtllkiadedaghoaaGreat
open Go.RowKit
namespace Wd
/-- The order of two integers. -/
def ord (x y : Int) : Int := if x < y then -1 else if y < x then 1 else 0
/-- The first that is not zero. -/
def orI (x y : Int) : Int := if x = 0 then y else x
theorem ord_lt {x y : Int} (h : x < y) : ord x y = -1 := by unfold ord; rw [if_pos h]
theorem ord_gt {x y : Int} (h : y < x) : ord x y = 1 := by unfold ord; rw [if_neg (by omega), if_pos h]
theorem ord_eq (x : Int) : ord x x = 0 := by unfold ord; rw [if_neg (by omega), if_neg (by omega)]
theorem ord_val {h l k m : Int} (hv : vld h l = true) (hv2 : vld k m = true) : orI (ord h k) (ord l m) = ord (val h l) (val k m) := by
  obtain ⟨a, b, c, d⟩ := vld_true hv
  obtain ⟨a', b', c', d'⟩ := vld_true hv2
  unfold orI ord val
  by_cases h1 : h < k
  · simp [h1]; omega
  · by_cases h2 : k < h
    · simp [h1, h2]; omega
    · obtain rfl : h = k := by omega
      simp
end Wd
set_option maxHeartbeats 400000 in
theorem nan_any (x : Int) (w : World) : Calls Tryz.prog 102 #[.int .i64 x] w fun e w' => e = .returned (.bool false) ∧ w = w' := by
  have hx : (x != x) = false := by simp
  go_enter Tryz.func102, Tryz.ntmps102
  go_wp2
  go_ret
  exact ⟨by first | rfl | (simp; done), rfl⟩
set_option maxHeartbeats 400000 in
theorem compare_any (x y : Int) (w : World) : Calls Tryz.prog 99 #[.int .i64 x, .int .i64 y] w fun e w' => e = .returned (.int .i64 (Wd.ord x y)) ∧ w = w' := by
  by_cases h : x < y
  · rw [Wd.ord_lt h]
    go_enter Tryz.func99, Tryz.ntmps99
    go_wp2_with (go_at_call 102; refine (nan_any _ _).mono ?_; rintro e w' ⟨rfl, rfl⟩)
    go_ret
    exact ⟨rfl, rfl⟩
  · by_cases h2 : y < x
    · rw [Wd.ord_gt h2]
      go_enter Tryz.func99, Tryz.ntmps99
      go_wp2_with (go_at_call 102; refine (nan_any _ _).mono ?_; rintro e w' ⟨rfl, rfl⟩)
      go_ret
      exact ⟨rfl, rfl⟩
    · obtain rfl : x = y := by omega
      rw [Wd.ord_eq]
      go_enter Tryz.func99, Tryz.ntmps99
      go_wp2_with (go_at_call 102; refine (nan_any _ _).mono ?_; rintro e w' ⟨rfl, rfl⟩)
      go_ret
      exact ⟨rfl, rfl⟩
set_option maxHeartbeats 400000 in
theorem or2_any (b : Nat) (x y : Int) (w : World) (hx : w.cell? ⟨b, 0, none⟩ = some (.int .i64 x)) (hy : w.cell? ⟨b, 1, none⟩ = some (.int .i64 y)) :
    Calls Tryz.prog 98 #[.slice (some ⟨b, 0, none⟩) 2 2] w fun e w' => e = .returned (.int .i64 (Wd.orI x y)) ∧ w = w' := by
  by_cases h : x = 0
  · subst h
    have e0 : Wd.orI 0 y = y := rfl
    rw [e0]
    by_cases h2 : y = 0
    · subst h2
      go_enter Tryz.func98, Tryz.ntmps98
      go_wp2
      go_rounds 3
      go_ret
      exact ⟨rfl, rfl⟩
    · have h2' : (y != 0) = true := by simpa using h2
      clear h2
      go_enter Tryz.func98, Tryz.ntmps98
      go_wp2
      go_rounds 3
      go_ret
      exact ⟨rfl, rfl⟩
  · have e0 : Wd.orI x y = x := by unfold Wd.orI; rw [if_neg h]
    rw [e0]
    have h2' : (x != 0) = true := by simpa using h
    clear h e0
    go_enter Tryz.func98, Tryz.ntmps98
    go_wp2
    go_rounds 3
    go_ret
    exact ⟨rfl, rfl⟩
end Go.Proofs.YtllkiadedaghoaaGreat
namespace Go.Proofs.YtllkiadedaghoaaGreat
open Go.RowKit
set_option maxHeartbeats 400000 in
theorem len64_any (x : Int) (w : World) (h0 : 0 ≤ x) (h1 : x ≤ 18446744073709551615) :
    Calls Tryz.prog 145 #[.int .u64 x] w fun e w' => e = .returned (.int .i64 (Lib.bitLen x.toNat)) ∧ w = w' := by
  by_cases c32 : 4294967296 ≤ x
  · by_cases c16 : 65536 ≤ x / 4294967296
    · by_cases c8 : 256 ≤ x / 4294967296 / 65536
      · have i0 : 0 ≤ x / 4294967296 / 65536 / 256 := by omega
        have i1 : x / 4294967296 / 65536 / 256 ≤ 255 := by omega
        have l := Lib.bitLen_le8' (x / 4294967296 / 65536 / 256) i0 i1
        have e8 := Lib.len8_of (x / 4294967296 / 65536 / 256) i0 i1
        have s := Lib.bitLen_shift56 x.toNat (by omega) (by omega)
        have e : (x / 4294967296 / 65536 / 256).toNat = x.toNat / 72057594037927936 := by omega
        rw [e] at l e8
        have f : ((Lib.bitLen x.toNat : Nat) : Int) = 56 + Lib.len8 (x / 4294967296 / 65536 / 256) := by rw [s, e8]; omega
        have b0 : 0 ≤ Lib.len8 (x / 4294967296 / 65536 / 256) := by rw [e8]; omega
        have b1 : Lib.len8 (x / 4294967296 / 65536 / 256) ≤ 8 := by rw [e8]; omega
        rw [f]
        clear l e8 f s e
        go_enter Tryz.func145, Tryz.ntmps145
        go_wp2
        go_ret
        exact ⟨ret_int (by omega), rfl⟩
      · have d8 : x / 4294967296 / 65536 < 256 := by omega
        have i0 : 0 ≤ x / 4294967296 / 65536 := by omega
        have i1 : x / 4294967296 / 65536 ≤ 255 := by omega
        have l := Lib.bitLen_le8' (x / 4294967296 / 65536) i0 i1
        have e8 := Lib.len8_of (x / 4294967296 / 65536) i0 i1
        have s := Lib.bitLen_shift48 x.toNat (by omega) (by omega)
        have e : (x / 4294967296 / 65536).toNat = x.toNat / 281474976710656 := by omega
        rw [e] at l e8
        have f : ((Lib.bitLen x.toNat : Nat) : Int) = 48 + Lib.len8 (x / 4294967296 / 65536) := by rw [s, e8]; omega
        have b0 : 0 ≤ Lib.len8 (x / 4294967296 / 65536) := by rw [e8]; omega
        have b1 : Lib.len8 (x / 4294967296 / 65536) ≤ 8 := by rw [e8]; omega
        rw [f]
        clear l e8 f s e
        go_enter Tryz.func145, Tryz.ntmps145
        go_wp2
        go_ret
        exact ⟨ret_int (by omega), rfl⟩
    · have d16 : x / 4294967296 < 65536 := by omega
      by_cases c8 : 256 ≤ x / 4294967296
      · have i0 : 0 ≤ x / 4294967296 / 256 := by omega
        have i1 : x / 4294967296 / 256 ≤ 255 := by omega
        have l := Lib.bitLen_le8' (x / 4294967296 / 256) i0 i1
        have e8 := Lib.len8_of (x / 4294967296 / 256) i0 i1
        have s := Lib.bitLen_shift40 x.toNat (by omega) (by omega)
        have e : (x / 4294967296 / 256).toNat = x.toNat / 1099511627776 := by omega
        rw [e] at l e8
        have f : ((Lib.bitLen x.toNat : Nat) : Int) = 40 + Lib.len8 (x / 4294967296 / 256) := by rw [s, e8]; omega
        have b0 : 0 ≤ Lib.len8 (x / 4294967296 / 256) := by rw [e8]; omega
        have b1 : Lib.len8 (x / 4294967296 / 256) ≤ 8 := by rw [e8]; omega
        rw [f]
        clear l e8 f s e
        go_enter Tryz.func145, Tryz.ntmps145
        go_wp2
        go_ret
        exact ⟨ret_int (by omega), rfl⟩
      · have d8 : x / 4294967296 < 256 := by omega
        have i0 : 0 ≤ x / 4294967296 := by omega
        have i1 : x / 4294967296 ≤ 255 := by omega
        have l := Lib.bitLen_le8' (x / 4294967296) i0 i1
        have e8 := Lib.len8_of (x / 4294967296) i0 i1
        have s := Lib.bitLen_shift32 x.toNat (by omega) (by omega)
        have e : (x / 4294967296).toNat = x.toNat / 4294967296 := by omega
        rw [e] at l e8
        have f : ((Lib.bitLen x.toNat : Nat) : Int) = 32 + Lib.len8 (x / 4294967296) := by rw [s, e8]; omega
        have b0 : 0 ≤ Lib.len8 (x / 4294967296) := by rw [e8]; omega
        have b1 : Lib.len8 (x / 4294967296) ≤ 8 := by rw [e8]; omega
        rw [f]
        clear l e8 f s e
        go_enter Tryz.func145, Tryz.ntmps145
        go_wp2
        go_ret
        exact ⟨ret_int (by omega), rfl⟩
  · have d32 : x < 4294967296 := by omega
    by_cases c16 : 65536 ≤ x
    · by_cases c8 : 256 ≤ x / 65536
      · have i0 : 0 ≤ x / 65536 / 256 := by omega
        have i1 : x / 65536 / 256 ≤ 255 := by omega
        have l := Lib.bitLen_le8' (x / 65536 / 256) i0 i1
        have e8 := Lib.len8_of (x / 65536 / 256) i0 i1
        have s := Lib.bitLen_shift24 x.toNat (by omega) (by omega)
        have e : (x / 65536 / 256).toNat = x.toNat / 16777216 := by omega
        rw [e] at l e8
        have f : ((Lib.bitLen x.toNat : Nat) : Int) = 24 + Lib.len8 (x / 65536 / 256) := by rw [s, e8]; omega
        have b0 : 0 ≤ Lib.len8 (x / 65536 / 256) := by rw [e8]; omega
        have b1 : Lib.len8 (x / 65536 / 256) ≤ 8 := by rw [e8]; omega
        rw [f]
        clear l e8 f s e
        go_enter Tryz.func145, Tryz.ntmps145
        go_wp2
        go_ret
        exact ⟨ret_int (by omega), rfl⟩
      · have d8 : x / 65536 < 256 := by omega
        have i0 : 0 ≤ x / 65536 := by omega
        have i1 : x / 65536 ≤ 255 := by omega
        have l := Lib.bitLen_le8' (x / 65536) i0 i1
        have e8 := Lib.len8_of (x / 65536) i0 i1
        have s := Lib.bitLen_shift16 x.toNat (by omega) (by omega)
        have e : (x / 65536).toNat = x.toNat / 65536 := by omega
        rw [e] at l e8
        have f : ((Lib.bitLen x.toNat : Nat) : Int) = 16 + Lib.len8 (x / 65536) := by rw [s, e8]; omega
        have b0 : 0 ≤ Lib.len8 (x / 65536) := by rw [e8]; omega
        have b1 : Lib.len8 (x / 65536) ≤ 8 := by rw [e8]; omega
        rw [f]
        clear l e8 f s e
        go_enter Tryz.func145, Tryz.ntmps145
        go_wp2
        go_ret
        exact ⟨ret_int (by omega), rfl⟩
    · have d16 : x < 65536 := by omega
      by_cases c8 : 256 ≤ x
      · have i0 : 0 ≤ x / 256 := by omega
        have i1 : x / 256 ≤ 255 := by omega
        have l := Lib.bitLen_le8' (x / 256) i0 i1
        have e8 := Lib.len8_of (x / 256) i0 i1
        have s := Lib.bitLen_shift8 x.toNat (by omega) (by omega)
        have e : (x / 256).toNat = x.toNat / 256 := by omega
        rw [e] at l e8
        have f : ((Lib.bitLen x.toNat : Nat) : Int) = 8 + Lib.len8 (x / 256) := by rw [s, e8]; omega
        have b0 : 0 ≤ Lib.len8 (x / 256) := by rw [e8]; omega
        have b1 : Lib.len8 (x / 256) ≤ 8 := by rw [e8]; omega
        rw [f]
        clear l e8 f s e
        go_enter Tryz.func145, Tryz.ntmps145
        go_wp2
        go_ret
        exact ⟨ret_int (by omega), rfl⟩
      · have d8 : x < 256 := by omega
        have i0 : 0 ≤ x := by omega
        have i1 : x ≤ 255 := by omega
        have l := Lib.bitLen_le8' (x) i0 i1
        have e8 := Lib.len8_of (x) i0 i1
        have f : ((Lib.bitLen x.toNat : Nat) : Int) = Lib.len8 (x) := by rw [e8]
        have b0 : 0 ≤ Lib.len8 (x) := by rw [e8]; omega
        have b1 : Lib.len8 (x) ≤ 8 := by rw [e8]; omega
        rw [f]
        clear l e8 f
        go_enter Tryz.func145, Tryz.ntmps145
        go_wp2
        go_ret
        exact ⟨ret_int (by omega), rfl⟩
end Go.Proofs.YtllkiadedaghoaaGreat
namespace Go.Proofs.YtllkiadedaghoaaGreat
namespace Kn
/-- What holds at the head of the loop that corrects an estimated digit q, with r = U - q c. -/
def Inv (c d U u q r : Int) : Prop := q * c + r = U ∧ (U * 4294967296 + u) / (c * 4294967296 + d) ≤ q ∧ 0 ≤ r ∧ 0 ≤ q ∧ q ≤ U
def Dig (c d U u : Int) : Prop := 2147483648 ≤ c ∧ c ≤ 4294967295 ∧ 0 ≤ d ∧ d ≤ 4294967295 ∧ 0 ≤ U ∧ U < c * 4294967296 + d ∧ 0 ≤ u ∧ u ≤ 4294967295
variable {c d U u q r : Int}
theorem qY (c d q : Int) : q * (c * 4294967296 + d) = (q * c) * 4294967296 + q * d := by rw [Int.mul_add, ← Int.mul_assoc]
theorem start (h : Dig c d U u) : Inv c d U u (U / c) (U - U / c * c) ∧ U - U / c * c ≤ 4294967295 := by
  obtain ⟨c0, c1, d0, d1, U0, U1, u0, u1⟩ := h
  have hc : 0 < c := by omega
  have e1 := Int.mul_ediv_add_emod U c
  have e2 := Int.emod_nonneg U (show c ≠ 0 by omega)
  have e3 := Int.emod_lt_of_pos U hc
  have e4 : U / c * c = c * (U / c) := Int.mul_comm _ _
  have q0 : 0 ≤ U / c := Int.ediv_nonneg U0 (by omega)
  have q1 : U / c ≤ U := Int.ediv_le_self _ U0
  refine ⟨⟨by omega, ?_, by omega, q0, q1⟩, by omega⟩
  have hY : 0 < c * 4294967296 + d := by omega
  refine Int.lt_add_one_iff.1 ((Int.ediv_lt_iff_lt_mul hY).2 ?_)
  have := qY c d (U / c + 1)
  rw [this, Int.add_mul (U / c) 1 c, Int.add_mul (U / c) 1 d]
  have q2 : 0 ≤ U / c * d := Int.mul_nonneg q0 d0
  omega
theorem over (h : Dig c d U u) (i : Inv c d U u q r) (t : 4294967296 ≤ q ∨ q < 4294967296 ∧ 4294967296 * r + u < q * d) : Inv c d U u (q - 1) (r + c) ∧ 1 ≤ q := by
  obtain ⟨c0, c1, d0, d1, U0, U1, u0, u1⟩ := h
  obtain ⟨i1, i2, i3, i4, i5⟩ := i
  have hY : 0 < c * 4294967296 + d := by omega
  have k : (U * 4294967296 + u) / (c * 4294967296 + d) < q := by
    refine (Int.ediv_lt_iff_lt_mul hY).2 ?_
    rcases t with t | ⟨_, t⟩
    · have := Int.mul_le_mul_of_nonneg_right t (Int.le_of_lt hY)
      omega
    · rw [qY]; omega
  have z : 0 ≤ (U * 4294967296 + u) / (c * 4294967296 + d) := Int.ediv_nonneg (by omega) (by omega)
  refine ⟨⟨?_, by omega, by omega, by omega, by omega⟩, by omega⟩
  rw [Int.sub_mul]; omega
theorem done (h : Dig c d U u) (i : Inv c d U u q r) (t : q < 4294967296) (t' : q * d ≤ 4294967296 * r + u) : q = (U * 4294967296 + u) / (c * 4294967296 + d) := by
  obtain ⟨c0, c1, d0, d1, U0, U1, u0, u1⟩ := h
  obtain ⟨i1, i2, i3, i4, i5⟩ := i
  have hY : 0 < c * 4294967296 + d := by omega
  have k : q ≤ (U * 4294967296 + u) / (c * 4294967296 + d) := by
    refine (Int.le_ediv_iff_mul_le hY).2 ?_
    rw [qY]; omega
  omega
theorem small (h : Dig c d U u) (i : Inv c d U u q r) (t : 4294967296 ≤ r) : q < 4294967296 ∧ q * d ≤ 4294967296 * r + u := by
  obtain ⟨c0, c1, d0, d1, U0, U1, u0, u1⟩ := h
  obtain ⟨i1, i2, i3, i4, i5⟩ := i
  have k : q < 4294967296 := by
    refine Int.not_le.1 fun g => ?_
    have := Int.mul_le_mul_of_nonneg_right g (show 0 ≤ c by omega)
    omega
  refine ⟨k, ?_⟩
  have := Int.mul_le_mul (show q ≤ 4294967295 by omega) d1 d0 (by omega)
  omega
theorem stop (h : Dig c d U u) (i : Inv c d U u q r) (t : 4294967296 ≤ r) : q = (U * 4294967296 + u) / (c * 4294967296 + d) := by
  obtain ⟨a, b⟩ := small h i t
  exact done h i a b
/-- The digit, and what is left, are in range. -/
theorem digit (h : Dig c d U u) : 0 ≤ (U * 4294967296 + u) / (c * 4294967296 + d) ∧ (U * 4294967296 + u) / (c * 4294967296 + d) ≤ 4294967295 ∧ 0 ≤ (U * 4294967296 + u) % (c * 4294967296 + d) ∧ (U * 4294967296 + u) % (c * 4294967296 + d) < c * 4294967296 + d := by
  obtain ⟨c0, c1, d0, d1, U0, U1, u0, u1⟩ := h
  have hY : 0 < c * 4294967296 + d := by omega
  refine ⟨Int.ediv_nonneg (by omega) (by omega), ?_, Int.emod_nonneg _ (by omega), Int.emod_lt_of_pos _ hY⟩
  refine Int.lt_add_one_iff.1 ((Int.ediv_lt_iff_lt_mul hY).2 ?_)
  have e : (4294967295 + 1) * (c * 4294967296 + d) = 4294967296 * (c * 4294967296 + d) := rfl
  rw [e]
  omega
/-- The remainder, reckoned modulo 2^64. -/
theorem rest (h : Dig c d U u) : IntKind.u64.wrap (IntKind.u64.wrap (IntKind.u64.wrap (U * 4294967296) + u) - IntKind.u64.wrap ((U * 4294967296 + u) / (c * 4294967296 + d) * (c * 4294967296 + d))) = (U * 4294967296 + u) % (c * 4294967296 + d) := by
  obtain ⟨_, _, r0, r1⟩ := digit h
  obtain ⟨c0, c1, d0, d1, U0, U1, u0, u1⟩ := h
  have e := Int.mul_ediv_add_emod (U * 4294967296 + u) (c * 4294967296 + d)
  rw [Int.mul_comm] at e
  generalize (U * 4294967296 + u) / (c * 4294967296 + d) * (c * 4294967296 + d) = A at *
  generalize (U * 4294967296 + u) % (c * 4294967296 + d) = R at *
  rw [IntKind.wrap_u64, IntKind.wrap_u64, IntKind.wrap_u64, IntKind.wrap_u64]
  omega
/-- Two digits. -/
theorem both (N y P L u1 u0 : Int) (hP : 0 < P) (hy : 0 < y) (hY : y * P = c * 4294967296 + d) (hN : N * P = U * 18446744073709551616 + L) (hL : L = u1 * 4294967296 + u0) (h : Dig c d U u1) (u00 : 0 ≤ u0) (u01 : u0 ≤ 4294967295) :
    (U * 4294967296 + u1) / (c * 4294967296 + d) * 4294967296 + ((U * 4294967296 + u1) % (c * 4294967296 + d) * 4294967296 + u0) / (c * 4294967296 + d) = N / y ∧ ((U * 4294967296 + u1) % (c * 4294967296 + d) * 4294967296 + u0) % (c * 4294967296 + d) / P = N % y := by
  obtain ⟨_, _, r0, r1⟩ := digit h
  obtain ⟨c0, c1, d0, d1, U0, U1, b0, b1⟩ := h
  have e1 := Int.mul_ediv_add_emod (U * 4294967296 + u1) (c * 4294967296 + d)
  have e2 := Int.mul_ediv_add_emod ((U * 4294967296 + u1) % (c * 4294967296 + d) * 4294967296 + u0) (c * 4294967296 + d)
  have s0 := Int.emod_nonneg ((U * 4294967296 + u1) % (c * 4294967296 + d) * 4294967296 + u0) (show c * 4294967296 + d ≠ 0 by omega)
  have s1 := Int.emod_lt_of_pos ((U * 4294967296 + u1) % (c * 4294967296 + d) * 4294967296 + u0) (show 0 < c * 4294967296 + d by omega)
  generalize (U * 4294967296 + u1) / (c * 4294967296 + d) = q1 at *
  generalize (U * 4294967296 + u1) % (c * 4294967296 + d) = V at *
  generalize (V * 4294967296 + u0) / (c * 4294967296 + d) = q0 at *
  generalize (V * 4294967296 + u0) % (c * 4294967296 + d) = R at *
  rw [← hY] at e1 e2 s1
  have key : N * P = (y * (q1 * 4294967296 + q0)) * P + R := by
    have a1 : (y * (q1 * 4294967296 + q0)) * P = (y * P * q1) * 4294967296 + y * P * q0 := by grind
    rw [a1, hN, hL]; omega
  have d1 : R = (N - y * (q1 * 4294967296 + q0)) * P := by rw [Int.sub_mul]; omega
  have d2 : R / P = N - y * (q1 * 4294967296 + q0) := by rw [d1]; exact Int.mul_ediv_cancel _ (by omega)
  rw [d2]
  have f0 : 0 ≤ N - y * (q1 * 4294967296 + q0) := by rw [← d2]; exact Int.ediv_nonneg s0 (by omega)
  have f1 : N - y * (q1 * 4294967296 + q0) < y := by
    rw [← d2]; exact (Int.ediv_lt_iff_lt_mul hP).2 s1
  have g : N = y * (q1 * 4294967296 + q0) + (N - y * (q1 * 4294967296 + q0)) := by omega
  have g1 : N / y = q1 * 4294967296 + q0 := by
    rw [g, Int.add_comm, Int.add_mul_ediv_left _ _ (by omega), Int.ediv_eq_zero_of_lt f0 f1]; omega
  have g2 := Int.mul_ediv_add_emod N y
  rw [g1] at g2
  exact ⟨g1.symm, by omega⟩
/-- The dividend and the divisor, shifted to the left till the divisor's first bit is set. -/
theorem norm (h l y : Int) (k : Nat) (hk : k ≤ 63) (h0 : 0 ≤ h) (l0 : 0 ≤ l) (l1 : l ≤ 18446744073709551615) (y0 : h < y) (Y0 : 9223372036854775808 ≤ y * 2 ^ k) (Y1 : y * 2 ^ k ≤ 18446744073709551615) :
    bits .or .u64 (IntKind.u64.wrap (h * 2 ^ k)) (l / 2 ^ (64 - k)) = h * 2 ^ k + l / 2 ^ (64 - k) ∧
    (h * 18446744073709551616 + l) * 2 ^ k = (h * 2 ^ k + l / 2 ^ (64 - k)) * 18446744073709551616 + IntKind.u64.wrap (l * 2 ^ k) ∧
    0 ≤ h * 2 ^ k + l / 2 ^ (64 - k) ∧ h * 2 ^ k + l / 2 ^ (64 - k) < y * 2 ^ k := by
  have hP : (0 : Int) < 2 ^ k := by exact_mod_cast Nat.two_pow_pos k
  have hQ : (0 : Int) < 2 ^ (64 - k) := by exact_mod_cast Nat.two_pow_pos (64 - k)
  have hPQ : (2 : Int) ^ (64 - k) * 2 ^ k = 18446744073709551616 := by
    have e : 64 - k + k = 64 := by omega
    rw [← Int.pow_add, e]; rfl
  have b0 := Int.mul_nonneg h0 (Int.le_of_lt hP)
  have b1 := Int.mul_le_mul_of_nonneg_right (show h + 1 ≤ y by omega) (Int.le_of_lt hP)
  rw [Int.add_mul] at b1
  have a0 := Int.ediv_nonneg l0 (Int.le_of_lt hQ)
  have a1 : l / 2 ^ (64 - k) < 2 ^ k := by
    refine (Int.ediv_lt_iff_lt_mul hQ).2 ?_
    rw [Int.mul_comm, hPQ]; omega
  have hw : IntKind.u64.wrap (h * 2 ^ k) = h * 2 ^ k := by rw [IntKind.wrap_u64]; omega
  refine ⟨?_, ?_, by omega, by omega⟩
  · rw [hw, u64_or _ _ b0 (by omega) a0 (by omega)]
    have e1 : (h * 2 ^ k).toNat = h.toNat * 2 ^ k := by
      obtain ⟨n, rfl⟩ := Int.eq_ofNat_of_zero_le h0
      have : ((n : Int) * 2 ^ k) = ((n * 2 ^ k : Nat) : Int) := by push_cast; rfl
      rw [this]; rfl
    have e2 : (l / 2 ^ (64 - k)).toNat < 2 ^ k := by
      have : (2 : Int) ^ k = ((2 ^ k : Nat) : Int) := by push_cast; rfl
      rw [this] at a1; omega
    rw [nat_join k _ _ (by rw [e1]; exact Nat.mul_mod_left _ _) e2]
    omega
  · have e := Int.mul_ediv_add_emod l (2 ^ (64 - k))
    have m0 := Int.emod_nonneg l (show (2 : Int) ^ (64 - k) ≠ 0 by omega)
    have m1 := Int.emod_lt_of_pos l hQ
    have f : l * 2 ^ k = 18446744073709551616 * (l / 2 ^ (64 - k)) + l % 2 ^ (64 - k) * 2 ^ k := by
      have g : (2 : Int) ^ (64 - k) * (l / 2 ^ (64 - k)) * 2 ^ k = 18446744073709551616 * (l / 2 ^ (64 - k)) := by
        rw [Int.mul_right_comm, hPQ]
      rw [← g, ← Int.add_mul, e]
    have n0 := Int.mul_nonneg m0 (Int.le_of_lt hP)
    have n1 : l % 2 ^ (64 - k) * 2 ^ k < 18446744073709551616 := by rw [← hPQ]; exact Int.mul_lt_mul_of_pos_right m1 hP
    have f2 : IntKind.u64.wrap (l * 2 ^ k) = l % 2 ^ (64 - k) * 2 ^ k := by rw [IntKind.wrap_u64, f]; omega
    rw [f2, Int.add_mul (h * 18446744073709551616) l, f]
    have f3 : h * 18446744073709551616 * 2 ^ k = h * 2 ^ k * 18446744073709551616 := by grind
    rw [f3]; omega
end Kn
end Go.Proofs.YtllkiadedaghoaaGreat
namespace Go.Proofs.YtllkiadedaghoaaGreat
open Go.RowKit
namespace Wd
/-- How many bits a word is shifted to the left till its first bit is set. -/
def lz (y : Int) : Nat := 64 - Lib.bitLen y.toNat
theorem bitLen_spec (x : Nat) (h0 : x ≠ 0) (h1 : x < 18446744073709551616) : 2 ^ (Lib.bitLen x - 1) ≤ x ∧ x < 2 ^ Lib.bitLen x ∧ 1 ≤ Lib.bitLen x ∧ Lib.bitLen x ≤ 64 := by
  have key : ∀ n x : Nat, x ≠ 0 → x < 2 ^ n → n ≤ 64 → 2 ^ (Lib.bitLen x - 1) ≤ x ∧ x < 2 ^ Lib.bitLen x ∧ 1 ≤ Lib.bitLen x := by
    intro n
    induction n with
    | zero => intro x h0 h1 _; simp at h1; omega
    | succ n ih =>
      intro x h0 h1 hn
      have hx : x < 2 ^ 64 := Nat.lt_of_lt_of_le h1 (Nat.pow_le_pow_right (by omega) hn)
      rw [Lib.bitLen_half x h0 hx]
      by_cases hz : x / 2 = 0
      · have : x = 1 := by omega
        subst this
        rw [hz]
        have : Lib.bitLen 0 = 0 := by decide
        rw [this]; decide
      · obtain ⟨a, b, c⟩ := ih (x / 2) hz (by rw [Nat.pow_succ] at h1; omega) (by omega)
        have e1 : 1 + Lib.bitLen (x / 2) - 1 = (Lib.bitLen (x / 2) - 1) + 1 := by omega
        rw [e1, Nat.pow_succ, Nat.add_comm 1, Nat.pow_succ]
        omega
  obtain ⟨a, b, c⟩ := key 64 x h0 h1 (by omega)
  exact ⟨a, b, c, Lib.bitLen_le x 64 (by omega) h1⟩
theorem lz_spec (y : Int) (h0 : 1 ≤ y) (h1 : y ≤ 18446744073709551615) : (lz y : Int) = 64 - (Lib.bitLen y.toNat : Int) ∧ lz y ≤ 63 ∧ 9223372036854775808 ≤ y * 2 ^ lz y ∧ y * 2 ^ lz y ≤ 18446744073709551615 := by
  obtain ⟨a, b, c, d⟩ := bitLen_spec y.toNat (by omega) (by omega)
  have hy : ((y.toNat : Nat) : Int) = y := by omega
  refine ⟨by unfold lz; omega, by unfold lz; omega, ?_, ?_⟩
  · have e : 2 ^ (Lib.bitLen y.toNat - 1) * 2 ^ lz y = 9223372036854775808 := by
      rw [← Nat.pow_add]; have : Lib.bitLen y.toNat - 1 + lz y = 63 := by unfold lz; omega
      rw [this]
    have := Nat.mul_le_mul_right (2 ^ lz y) a
    rw [e] at this
    have t := Int.ofNat_le.2 this
    rw [Int.natCast_mul, Int.natCast_pow, hy] at t
    exact t
  · have e : 2 ^ Lib.bitLen y.toNat * 2 ^ lz y = 18446744073709551616 := by
      rw [← Nat.pow_add]; have : Lib.bitLen y.toNat + lz y = 64 := by unfold lz; omega
      rw [this]
    have hp : 0 < 2 ^ lz y := Nat.two_pow_pos _
    have := Nat.mul_lt_mul_of_pos_right b hp
    rw [e] at this
    have t := Int.ofNat_le.2 (show y.toNat * 2 ^ lz y ≤ 18446744073709551615 by omega)
    rw [Int.natCast_mul, Int.natCast_pow, hy] at t
    exact t
end Wd
set_option maxHeartbeats 400000 in
theorem lz_any (x : Int) (w : World) (h0 : 1 ≤ x) (h1 : x ≤ 18446744073709551615) :
    Calls Tryz.prog 221 #[.int .u64 x] w fun e w' => e = .returned (.int .i64 (Wd.lz x : Nat)) ∧ w = w' := by
  obtain ⟨e, a, b, c⟩ := Wd.lz_spec x h0 h1
  rw [e]
  have hb : Lib.bitLen x.toNat ≤ 64 := Lib.bitLen_le _ 64 (by omega) (by omega)
  clear e b c
  go_enter Tryz.func221, Tryz.ntmps221
  go_wp2_with (go_at_call 145; refine (len64_any _ _ (by omega) (by omega)).mono ?_; rintro e w' ⟨rfl, rfl⟩)
  go_ret
  exact ⟨rfl, rfl⟩
set_option maxHeartbeats 400000 in
set_option maxRecDepth 100000 in
theorem div64_small (l y : Int) (w : World) (l0 : 0 ≤ l) (l1 : l ≤ 18446744073709551615) (y0 : 1 ≤ y) (y1 : y ≤ 18446744073709551615) :
    Calls Tryz.prog 214 #[.int .u64 0, .int .u64 l, .int .u64 y] w fun e w' => e = .returned (.tuple #[.int .u64 (l / y), .int .u64 (l % y)]) ∧ Gr w w' := by
  have a1 : (y == 0) = false := beq_eq_false_iff_ne.2 (by omega)
  have a2 : decide (y ≤ 0) = false := decide_eq_false (by omega)
  go_enter Tryz.func214, Tryz.ntmps214
  go_wp2
  go_quiet (fail)
  go_wp2
  go_ret2
  exact ⟨by first | rfl | (simp; done), gr_auto⟩
set_option maxHeartbeats 400000 in
set_option maxRecDepth 100000 in
theorem div64_any (h l y : Int) (w : World) (h0 : 1 ≤ h) (l0 : 0 ≤ l) (l1 : l ≤ 18446744073709551615) (y0 : h < y) (y1 : y ≤ 18446744073709551615) :
    Calls Tryz.prog 214 #[.int .u64 h, .int .u64 l, .int .u64 y] w fun e w' => e = .returned (.tuple #[.int .u64 ((h * 18446744073709551616 + l) / y), .int .u64 ((h * 18446744073709551616 + l) % y)]) ∧ Gr w w' := by
  have a1 : (y == 0) = false := beq_eq_false_iff_ne.2 (by omega)
  have a2 : decide (y ≤ h) = false := decide_eq_false (by omega)
  have a3 : (h == 0) = false := beq_eq_false_iff_ne.2 (by omega)
  obtain ⟨hk0, hs, Y0, Y1⟩ := Wd.lz_spec y (by omega) y1
  clear hk0
  have hlz : ∀ W : World, Calls Tryz.prog 221 #[.int .u64 y] W fun e w' => e = .returned (.int .i64 (Wd.lz y : Nat)) ∧ W = w' := fun W => lz_any y W (by omega) y1
  have HLZ := Lib.hid hlz; clear hlz
  generalize Wd.lz y = k at *
  obtain ⟨n1, n2, n3, n4⟩ := Kn.norm h l y k hs (by omega) l0 l1 y0 Y0 Y1
  have hP : (0 : Int) < 2 ^ k := by exact_mod_cast Nat.two_pow_pos k
  obtain ⟨Y, hY⟩ : ∃ Y : Int, y * 2 ^ k = Y := ⟨_, rfl⟩
  obtain ⟨U, hU⟩ : ∃ U : Int, h * 2 ^ k + l / 2 ^ (64 - k) = U := ⟨_, rfl⟩
  obtain ⟨L, hL⟩ : ∃ L : Int, IntKind.u64.wrap (l * 2 ^ k) = L := ⟨_, rfl⟩
  have L0 : 0 ≤ L ∧ L ≤ 18446744073709551615 := by rw [← hL, IntKind.wrap_u64]; omega
  obtain ⟨L0, L1⟩ := L0
  rw [hY] at Y0 Y1 n4
  rw [hU] at n1 n2 n3 n4
  rw [hL] at n2
  obtain ⟨c, hc⟩ : ∃ c : Int, Y / 4294967296 = c := ⟨_, rfl⟩
  obtain ⟨d, hd⟩ : ∃ d : Int, bits .and .u64 Y 4294967295 = d := ⟨_, rfl⟩
  obtain ⟨u1, hu1⟩ : ∃ u : Int, L / 4294967296 = u := ⟨_, rfl⟩
  obtain ⟨u0, hu0⟩ : ∃ u : Int, bits .and .u64 L 4294967295 = u := ⟨_, rfl⟩
  have hd2 := hd
  have hu2 := hu0
  rw [and_low32 Y (by omega) (by omega)] at hd2
  rw [and_low32 L L0 (by omega)] at hu2
  have eY : c * 4294967296 + d = Y := by omega
  have eL : L = u1 * 4294967296 + u0 := by omega
  have dig : Kn.Dig c d U u1 := ⟨by omega, by omega, by omega, by omega, n3, by omega, by omega, by omega⟩
  have fin := Kn.both (h * 18446744073709551616 + l) y (2 ^ k) L u1 u0 hP (by omega) (by omega) (by rw [n2]) eL dig (by omega) (by omega)
  obtain ⟨g1, g2⟩ := fin
  rw [← g1, ← g2]
  obtain ⟨q0, q1, v0, v1⟩ := Kn.digit dig
  have rst := Kn.rest dig
  obtain ⟨us, ut⟩ := Kn.start dig
  have bc : 2147483648 ≤ c ∧ c ≤ 4294967295 ∧ 0 ≤ d ∧ d ≤ 4294967295 ∧ 0 ≤ u1 ∧ u1 ≤ 4294967295 ∧ 0 ≤ u0 ∧ u0 ≤ 4294967295 := by omega
  obtain ⟨c0, c1, d0, d1, u10, u11, u00, u01⟩ := bc
  obtain ⟨V, hV⟩ : ∃ V : Int, (U * 4294967296 + u1) % (c * 4294967296 + d) = V := ⟨_, rfl⟩
  rw [hV] at v0 v1 rst ⊢
  have dig2 : Kn.Dig c d V u0 := ⟨c0, c1, d0, d1, v0, v1, u00, u01⟩
  obtain ⟨p0, p1, r0, r1⟩ := Kn.digit dig2
  have rst2 := Kn.rest dig2
  obtain ⟨vs, vt⟩ := Kn.start dig2
  obtain ⟨Q1, hQ1⟩ : ∃ Q : Int, (U * 4294967296 + u1) / (c * 4294967296 + d) = Q := ⟨_, rfl⟩
  obtain ⟨Q0, hQ0⟩ : ∃ Q : Int, (V * 4294967296 + u0) / (c * 4294967296 + d) = Q := ⟨_, rfl⟩
  obtain ⟨R, hR⟩ : ∃ R : Int, (V * 4294967296 + u0) % (c * 4294967296 + d) = R := ⟨_, rfl⟩
  have hst1 : ∀ q r : Int, Kn.Inv c d U u1 q r → 4294967296 ≤ r → q = Q1 := fun q r i t => by rw [← hQ1]; exact Kn.stop dig i t
  have hdn1 : ∀ q r : Int, Kn.Inv c d U u1 q r → q < 4294967296 → q * d ≤ 4294967296 * r + u1 → q = Q1 := fun q r i t t' => by rw [← hQ1]; exact Kn.done dig i t t'
  have hst0 : ∀ q r : Int, Kn.Inv c d V u0 q r → 4294967296 ≤ r → q = Q0 := fun q r i t => by rw [← hQ0]; exact Kn.stop dig2 i t
  have hdn0 : ∀ q r : Int, Kn.Inv c d V u0 q r → q < 4294967296 → q * d ≤ 4294967296 * r + u0 → q = Q0 := fun q r i t t' => by rw [← hQ0]; exact Kn.done dig2 i t t'
  have ST1 := Lib.hid hst1; have DN1 := Lib.hid hdn1; have ST0 := Lib.hid hst0; have DN0 := Lib.hid hdn0
  clear hst1 hdn1 hst0 hdn0
  rw [hQ1] at q0 q1 rst ⊢
  rw [hQ0] at p0 p1 rst2 ⊢
  rw [hR] at r0 r1 rst2 ⊢
  rw [eY] at rst rst2 v1 r1
  have DIG := Lib.hid dig
  have DIG2 := Lib.hid dig2
  clear n2 hd2 hu2 eY eL dig dig2 g1 g2 hU hQ1 hQ0 hR hV
  obtain ⟨s1, s2, s3, s4, s5⟩ := us
  have s6 : U / c * c ≤ U := by omega
  have s7 : 0 ≤ U / c * c := Int.mul_nonneg s4 (by omega)
  have US : Hid (Kn.Inv c d U u1 (U / c) (U - U / c * c)) := ⟨s1, s2, s3, s4, s5⟩
  obtain ⟨t1, t2, t3, t4, t5⟩ := vs
  have t6 : V / c * c ≤ V := by omega
  have t7 : 0 ≤ V / c * c := Int.mul_nonneg t4 (by omega)
  have VS : Hid (Kn.Inv c d V u0 (V / c) (V - V / c * c)) := ⟨t1, t2, t3, t4, t5⟩
  clear s1 s2 t1 t2
  go_enter Tryz.func214, Tryz.ntmps214
  go_upto_block 0 with (go_at_call 221; refine (HLZ.out _).mono ?_; rintro e w' ⟨rfl, rfl⟩)
  go_cut [15] (fun s15 wx => s15 = .int .u64 Q1 ∧ wx = w)
  case first =>
    go_wp2
    go_loop [15, 16] (fun s15 s16 => ∃ q r : Int, s15 = .int .u64 q ∧ s16 = .int .u64 r ∧ Hid (Kn.Inv c d U u1 q r) ∧ r ≤ 4294967295) (fun s15 _ => (intOf s15).toNat)
    case atStart => exact ⟨_, _, rfl, rfl, US, ut⟩
    case round =>
      obtain ⟨q, r, rfl, rfl, hi, hr⟩ := hrel
      have hi' : 0 ≤ r ∧ 0 ≤ q ∧ q ≤ U := ⟨hi.out.2.2.1, hi.out.2.2.2.1, hi.out.2.2.2.2⟩
      obtain ⟨i3, i4, i5⟩ := hi'
      by_cases t1 : 4294967296 ≤ q
      · obtain ⟨hj, k1⟩ := Kn.over DIG.out hi.out (Or.inl t1)
        have HJ := Lib.hid hj; clear hj
        have ht1 : decide (4294967296 ≤ q) = true := decide_eq_true t1
        by_cases t2 : 4294967296 ≤ r + c
        · go_wp2
          go_meet
          case rel => exact ⟨by rw [ST1.out _ _ HJ.out t2], rfl⟩
        · go_wp2
          go_round
          case rel => exact ⟨_, _, rfl, rfl, HJ, by omega⟩
          case measure => simp [intOf]; omega
      · have ht1 : decide (4294967296 ≤ q) = false := decide_eq_false t1
        have m0 : 0 ≤ q * d := Int.mul_nonneg i4 d0
        have m1 : q * d ≤ 18446744065119617025 := by have := Int.mul_le_mul (show q ≤ 4294967295 by omega) d1 d0 (by omega); omega
        by_cases t3 : 4294967296 * r + u1 < q * d
        · obtain ⟨hj, k1⟩ := Kn.over DIG.out hi.out (Or.inr ⟨by omega, t3⟩)
          have HJ := Lib.hid hj; clear hj
          have ht3 : decide (4294967296 * r + u1 < q * d) = true := decide_eq_true t3
          by_cases t2 : 4294967296 ≤ r + c
          · go_wp2
            go_meet
            case rel => exact ⟨by rw [ST1.out _ _ HJ.out t2], rfl⟩
          · go_wp2
            go_round
            case rel => exact ⟨_, _, rfl, rfl, HJ, by omega⟩
            case measure => simp [intOf]; omega
        · have ht3 : decide (4294967296 * r + u1 < q * d) = false := decide_eq_false t3
          go_wp2
          go_meet
          case rel => exact ⟨by rw [DN1.out _ _ hi.out (by omega) (by omega)], rfl⟩
  case rest =>
    obtain ⟨rfl, rfl⟩ := hcut
    go_upto_block 2 with (fail)
    go_cut [18] (fun s18 wx => s18 = .int .u64 Q0 ∧ wx = wc)
    case first =>
      go_wp2
      go_loop [18, 16] (fun s15 s16 => ∃ q r : Int, s15 = .int .u64 q ∧ s16 = .int .u64 r ∧ Hid (Kn.Inv c d V u0 q r) ∧ r ≤ 4294967295) (fun s15 _ => (intOf s15).toNat)
      case atStart => exact ⟨_, _, rfl, rfl, VS, vt⟩
      case round =>
        obtain ⟨q, r, rfl, rfl, hi, hr⟩ := hrel
        have hi' : 0 ≤ r ∧ 0 ≤ q ∧ q ≤ V := ⟨hi.out.2.2.1, hi.out.2.2.2.1, hi.out.2.2.2.2⟩
        obtain ⟨i3, i4, i5⟩ := hi'
        by_cases t1 : 4294967296 ≤ q
        · obtain ⟨hj, k1⟩ := Kn.over DIG2.out hi.out (Or.inl t1)
          have HJ := Lib.hid hj; clear hj
          have ht1 : decide (4294967296 ≤ q) = true := decide_eq_true t1
          by_cases t2 : 4294967296 ≤ r + c
          · go_wp2
            go_meet
            case rel => exact ⟨by rw [ST0.out _ _ HJ.out t2], rfl⟩
          · go_wp2
            go_round
            case rel => exact ⟨_, _, rfl, rfl, HJ, by omega⟩
            case measure => simp [intOf]; omega
        · have ht1 : decide (4294967296 ≤ q) = false := decide_eq_false t1
          have m0 : 0 ≤ q * d := Int.mul_nonneg i4 d0
          have m1 : q * d ≤ 18446744065119617025 := by have := Int.mul_le_mul (show q ≤ 4294967295 by omega) d1 d0 (by omega); omega
          by_cases t3 : 4294967296 * r + u0 < q * d
          · obtain ⟨hj, k1⟩ := Kn.over DIG2.out hi.out (Or.inr ⟨by omega, t3⟩)
            have HJ := Lib.hid hj; clear hj
            have ht3 : decide (4294967296 * r + u0 < q * d) = true := decide_eq_true t3
            by_cases t2 : 4294967296 ≤ r + c
            · go_wp2
              go_meet
              case rel => exact ⟨by rw [ST0.out _ _ HJ.out t2], rfl⟩
            · go_wp2
              go_round
              case rel => exact ⟨_, _, rfl, rfl, HJ, by omega⟩
              case measure => simp [intOf]; omega
          · have ht3 : decide (4294967296 * r + u0 < q * d) = false := decide_eq_false t3
            go_wp2
            go_meet
            case rel => exact ⟨by rw [DN0.out _ _ hi.out (by omega) (by omega)], rfl⟩
    case rest =>
      obtain ⟨rfl, rfl⟩ := hcut
      go_wp2
      go_ret2
      exact ⟨rfl, Gr.refl _⟩
end Go.Proofs.YtllkiadedaghoaaGreat
namespace Go.Proofs.YtllkiadedaghoaaGreat
open Go.RowKit
namespace Wd
/-- Quotients, rounded down and up. -/
def flr (v b : Int) : Int := if 0 < b then v / b else (-v) / (-b)
def cel (v b : Int) : Int := -(flr (-v) b)
def rnd (v b : Int) (up : Bool) : Int := if up then cel v b else flr v b
/-- The magnitude of a rounded quotient. -/
def inc (m d : Int) (t : Bool) : Int := if t && decide (0 < m % d) then m / d + 1 else m / d
theorem ediv_neg_pos (m d : Int) (hm : 0 ≤ m) (hd : 0 < d) : (-m) / d = -(if 0 < m % d then m / d + 1 else m / d) := by
  have e := Int.mul_ediv_add_emod m d
  have a := Int.emod_nonneg m (show d ≠ 0 by omega)
  have b := Int.emod_lt_of_pos m hd
  by_cases h : 0 < m % d
  · rw [if_pos h]
    have g : -m = d * (-(m / d + 1)) + (d - m % d) := by rw [Int.mul_neg, Int.mul_add]; omega
    rw [g, Int.add_comm, Int.add_mul_ediv_left _ _ (by omega), Int.ediv_eq_zero_of_lt (by omega) (by omega)]; omega
  · rw [if_neg h]
    have z : m % d = 0 := by omega
    have g : -m = d * (-(m / d)) := by rw [Int.mul_neg]; omega
    rw [g, Int.mul_ediv_cancel_left _ (by omega)]
theorem flr_mag (v b : Int) (hb : b ≠ 0) : flr v b = if neg v != neg b then -(inc (mag v) (mag b) true) else mag v / mag b := by
  unfold flr inc mag neg
  by_cases h1 : v < 0 <;> by_cases h2 : b < 0
  · simp [h1, h2, show ¬ 0 < b by omega]
  · have h3 : 0 < b := by omega
    simp only [h1, h2, h3, if_true, if_false, decide_true, decide_false]
    have := ediv_neg_pos (-v) b (by omega) h3
    rw [Int.neg_neg] at this
    simpa using this
  · have h3 : ¬ 0 < b := by omega
    simp only [h1, h2, h3, if_true, if_false, decide_true, decide_false]
    have := ediv_neg_pos v (-b) (by omega) (by omega)
    simpa using this
  · have h3 : 0 < b := by omega
    simp [h1, h2, h3]
theorem inc_nonneg (m d : Int) (t : Bool) (hm : 0 ≤ m) (hd : 0 < d) : 0 ≤ inc m d t := by
  unfold inc; have := Int.ediv_nonneg hm (Int.le_of_lt hd); split <;> omega
theorem inc_false (m d : Int) : inc m d false = m / d := by unfold inc; simp
theorem neg_opp (v : Int) (hv : v ≠ 0) : neg (-v) = !(neg v) := by unfold neg; by_cases h : v < 0 <;> simp [h] <;> omega
theorem rnd_mag (v b : Int) (up : Bool) (hb : b ≠ 0) : rnd v b up = if neg v != neg b then -(inc (mag v) (mag b) ((neg v != neg b) != up)) else inc (mag v) (mag b) ((neg v != neg b) != up) := by
  unfold rnd
  cases up
  · rw [if_neg (by decide), flr_mag v b hb]
    cases h : (neg v != neg b) <;> simp [inc_false]
  · rw [if_pos rfl]; unfold cel; rw [flr_mag (-v) b hb, mag_neg]
    by_cases hv : v = 0
    · subst hv
      have z : inc (mag 0) (mag b) true = 0 ∧ mag 0 / mag b = 0 ∧ inc (mag 0) (mag b) false = 0 := by
        unfold inc mag; simp
      have e : neg (-0) = neg 0 := by simp
      rw [e]
      cases h : (neg 0 != neg b) <;> simp [z]
    · rw [neg_opp v hv]
      cases h : neg v <;> cases h' : neg b <;> simp [inc_false]
theorem rnd_parts (v b : Int) (up s : Bool) (hb : b ≠ 0) (hs : (neg v != neg b) = s) : mag (rnd v b up) = inc (mag v) (mag b) (s != up) ∧ neg (rnd v b up) = (s && decide (0 < inc (mag v) (mag b) (s != up))) := by
  have hd : 0 < mag b := by unfold mag; split <;> omega
  have n := inc_nonneg (mag v) (mag b) (s != up) (mag_nonneg v) hd
  have e := rnd_mag v b up hb
  rw [hs] at e
  rw [e]
  cases s
  · simp only [Bool.false_eq_true, if_false, Bool.false_and]
    exact ⟨mag_of_nonneg n, neg_of_nonneg n⟩
  · simp only [if_true, Bool.true_and]
    generalize inc (mag v) (mag b) (true != up) = x at *
    refine ⟨by rw [mag_neg, mag_of_nonneg n], ?_⟩
    unfold neg; by_cases h : 0 < x <;> simp [h] <;> omega
end Wd
theorem div64_all (h l y : Int) (w : World) (h0 : 0 ≤ h) (l0 : 0 ≤ l) (l1 : l ≤ 18446744073709551615) (y0 : h < y) (y1 : y ≤ 18446744073709551615) :
    Calls Tryz.prog 214 #[.int .u64 h, .int .u64 l, .int .u64 y] w fun e w' => e = .returned (.tuple #[.int .u64 ((h * 18446744073709551616 + l) / y), .int .u64 ((h * 18446744073709551616 + l) % y)]) ∧ Gr w w' := by
  by_cases hz : h = 0
  · subst hz
    have := div64_small l y w l0 l1 (by omega) y1
    simpa using this
  · exact div64_any h l y w (by omega) l0 l1 y0 y1
set_option maxHeartbeats 400000 in
theorem quo_big (v b : Int) (up : Bool) (w : World) (b0 : -9223372036854775808 ≤ b) (b1 : b ≤ 9223372036854775807) (hd : Wd.mag b ≤ Wd.hi v) :
    Calls Tryz.prog 196 #[.agg #[.int .u64 (Wd.hi v), .int .u64 (Wd.lo v), .bool (Wd.neg v)], .int .i64 b, .bool up] w fun e w' => e = .returned (.tuple #[.int .i64 0, .int .i64 5]) ∧ Gr w w' := by
  have hd' : decide (Wd.mag b ≤ Wd.hi v) = true := decide_eq_true hd
  go_enter Tryz.func196, Tryz.ntmps196
  go_wp2_with (go_at_call 212; refine (size_any _ _ b0 b1).mono ?_; rintro e w' ⟨rfl, rfl⟩)
  go_ret2
  exact ⟨rfl, gr_auto⟩
set_option maxHeartbeats 400000 in
/-- Rounded away from zero. -/
theorem quo_up (q r z : Int) (h l : Int) (n up : Bool) (b : Int) (w : World) (b0 : -9223372036854775808 ≤ b) (b1 : b ≤ 9223372036854775807) (q0 : 0 ≤ q) (q1 : q ≤ 18446744073709551615) (hr : 0 < r)
    (hd : h < Wd.mag b) (hs : (n == decide (b < 0)) = up)
    (HD : ∀ W : World, Calls Tryz.prog 214 #[.int .u64 h, .int .u64 l, .int .u64 (Wd.mag b)] W fun e w' => e = .returned (.tuple #[.int .u64 q, .int .u64 r]) ∧ Gr W w')
    (HW : ∀ (k : Int) (W : World) (c : Bool), k = q + 1 → k ≤ 18446744073709551615 → c = !up → Calls Tryz.prog 202 #[.int .u64 k, .bool c] W fun e w' => e = .returned (.tuple #[.int .i64 (Wd.intQ z), .int .i64 (Wd.intE z)]) ∧ W = w')
    (HB : q = 18446744073709551615 → Wd.intQ z = 0 ∧ Wd.intE z = 5) :
    Calls Tryz.prog 196 #[.agg #[.int .u64 h, .int .u64 l, .bool n], .int .i64 b, .bool up] w fun e w' => e = .returned (.tuple #[.int .i64 (Wd.intQ z), .int .i64 (Wd.intE z)]) ∧ Gr w w' := by
  have hd' : decide (Wd.mag b ≤ h) = false := decide_eq_false (by omega)
  have m0 := Wd.mag_nonneg b
  have hr' : decide (0 < r) = true := decide_eq_true hr
  have HD := Lib.hid HD
  have HW := Lib.hid HW
  by_cases hq : q = 18446744073709551615
  · obtain ⟨f1, f2⟩ := HB hq
    rw [f1, f2]
    subst hq
    have hz : IntKind.u64.wrap (18446744073709551615 + 1) = 0 := by rw [IntKind.wrap_u64]; rfl
    clear f1 f2 HB
    cases up
    all_goals
      go_enter Tryz.func196, Tryz.ntmps196
      go_wp2_with (first | (go_at_call 212; refine (size_any _ _ b0 b1).mono ?_; rintro e w' ⟨rfl, rfl⟩) | (go_at_call 214; refine (HD.out _).mono ?_; rintro e w1 ⟨rfl, hb1⟩; obtain ⟨hc1, hf1⟩ := Gr.cells hb1; have hz1 := Gr.size hb1; (try simp at hz1); (try have hy1_0 : w.heap.size < w1.heap.size := by omega); (try have hy1_1 : w.heap.size + 1 < w1.heap.size := by omega); (try have hy1_2 : w.heap.size + 1 + 1 < w1.heap.size := by omega); (try have hy1_3 : w.heap.size + 1 + 1 + 1 < w1.heap.size := by omega); (try have hy1_4 : w.heap.size + 1 + 1 + 1 + 1 < w1.heap.size := by omega); (try have hy1_5 : w.heap.size + 1 + 1 + 1 + 1 + 1 < w1.heap.size := by omega)))
      go_ret2
      exact ⟨rfl, gr_auto⟩
  · have hq2 : q + 1 ≤ 18446744073709551615 := by omega
    have hz : (q + 1 == 0) = false := beq_eq_false_iff_ne.2 (by omega)
    have hp : decide (0 < q + 1) = true := decide_eq_true (by omega)
    clear HB hq
    cases up
    all_goals
      go_enter Tryz.func196, Tryz.ntmps196
      go_wp2_with (first | (go_at_call 212; refine (size_any _ _ b0 b1).mono ?_; rintro e w' ⟨rfl, rfl⟩) | (go_at_call 214; refine (HD.out _).mono ?_; rintro e w1 ⟨rfl, hb1⟩; obtain ⟨hc1, hf1⟩ := Gr.cells hb1; have hz1 := Gr.size hb1; (try simp at hz1); (try have hy1_0 : w.heap.size < w1.heap.size := by omega); (try have hy1_1 : w.heap.size + 1 < w1.heap.size := by omega); (try have hy1_2 : w.heap.size + 1 + 1 < w1.heap.size := by omega); (try have hy1_3 : w.heap.size + 1 + 1 + 1 < w1.heap.size := by omega); (try have hy1_4 : w.heap.size + 1 + 1 + 1 + 1 < w1.heap.size := by omega); (try have hy1_5 : w.heap.size + 1 + 1 + 1 + 1 + 1 < w1.heap.size := by omega)) | (go_at_call 202; refine (HW.out _ _ _ rfl hq2 rfl).mono ?_; rintro e w2 ⟨rfl, rfl⟩))
      go_ret2
      exact ⟨rfl, gr_auto⟩
set_option maxHeartbeats 400000 in
/-- Rounded towards zero. -/
theorem quo_cut (q r z : Int) (h l : Int) (n up s : Bool) (b : Int) (w : World) (b0 : -9223372036854775808 ≤ b) (b1 : b ≤ 9223372036854775807) (q1 : q ≤ 18446744073709551615)
    (hd : h < Wd.mag b) (hs : (n == decide (b < 0)) = s) (hr : r = 0 ∨ 0 < r ∧ s = !up)
    (HD : ∀ W : World, Calls Tryz.prog 214 #[.int .u64 h, .int .u64 l, .int .u64 (Wd.mag b)] W fun e w' => e = .returned (.tuple #[.int .u64 q, .int .u64 r]) ∧ Gr W w')
    (HW : ∀ (W : World) (c : Bool), c = (!s && decide (0 < q)) → Calls Tryz.prog 202 #[.int .u64 q, .bool c] W fun e w' => e = .returned (.tuple #[.int .i64 (Wd.intQ z), .int .i64 (Wd.intE z)]) ∧ W = w') :
    Calls Tryz.prog 196 #[.agg #[.int .u64 h, .int .u64 l, .bool n], .int .i64 b, .bool up] w fun e w' => e = .returned (.tuple #[.int .i64 (Wd.intQ z), .int .i64 (Wd.intE z)]) ∧ Gr w w' := by
  have hd' : decide (Wd.mag b ≤ h) = false := decide_eq_false (by omega)
  have m0 := Wd.mag_nonneg b
  have HD := Lib.hid HD
  have HW := Lib.hid HW
  rcases hr with rfl | ⟨hr, hu⟩
  · cases s
    all_goals
      go_enter Tryz.func196, Tryz.ntmps196
      go_wp2_with (first | (go_at_call 212; refine (size_any _ _ b0 b1).mono ?_; rintro e w' ⟨rfl, rfl⟩) | (go_at_call 214; refine (HD.out _).mono ?_; rintro e w1 ⟨rfl, hb1⟩; obtain ⟨hc1, hf1⟩ := Gr.cells hb1; have hz1 := Gr.size hb1; (try simp at hz1); (try have hy1_0 : w.heap.size < w1.heap.size := by omega); (try have hy1_1 : w.heap.size + 1 < w1.heap.size := by omega); (try have hy1_2 : w.heap.size + 1 + 1 < w1.heap.size := by omega); (try have hy1_3 : w.heap.size + 1 + 1 + 1 < w1.heap.size := by omega); (try have hy1_4 : w.heap.size + 1 + 1 + 1 + 1 < w1.heap.size := by omega); (try have hy1_5 : w.heap.size + 1 + 1 + 1 + 1 + 1 < w1.heap.size := by omega)) | (go_at_call 202; refine (HW.out _ _ (by simp)).mono ?_; rintro e w2 ⟨rfl, rfl⟩))
      go_ret2
      exact ⟨rfl, gr_auto⟩
  · have hr' : decide (0 < r) = true := decide_eq_true hr
    subst hu
    cases up
    all_goals
      go_enter Tryz.func196, Tryz.ntmps196
      go_wp2_with (first | (go_at_call 212; refine (size_any _ _ b0 b1).mono ?_; rintro e w' ⟨rfl, rfl⟩) | (go_at_call 214; refine (HD.out _).mono ?_; rintro e w1 ⟨rfl, hb1⟩; obtain ⟨hc1, hf1⟩ := Gr.cells hb1; have hz1 := Gr.size hb1; (try simp at hz1); (try have hy1_0 : w.heap.size < w1.heap.size := by omega); (try have hy1_1 : w.heap.size + 1 < w1.heap.size := by omega); (try have hy1_2 : w.heap.size + 1 + 1 < w1.heap.size := by omega); (try have hy1_3 : w.heap.size + 1 + 1 + 1 < w1.heap.size := by omega); (try have hy1_4 : w.heap.size + 1 + 1 + 1 + 1 < w1.heap.size := by omega); (try have hy1_5 : w.heap.size + 1 + 1 + 1 + 1 + 1 < w1.heap.size := by omega)) | (go_at_call 202; refine (HW.out _ _ (by simp)).mono ?_; rintro e w2 ⟨rfl, rfl⟩))
      go_ret2
      exact ⟨rfl, gr_auto⟩
theorem quo_any (v b : Int) (up : Bool) (w : World) (b0 : -9223372036854775808 ≤ b) (b1 : b ≤ 9223372036854775807) (hb : b ≠ 0) :
    Calls Tryz.prog 196 #[.agg #[.int .u64 (Wd.hi v), .int .u64 (Wd.lo v), .bool (Wd.neg v)], .int .i64 b, .bool up] w fun e w' => e = .returned (.tuple #[.int .i64 (Wd.intQ (Wd.rnd v b up)), .int .i64 (Wd.intE (Wd.rnd v b up))]) ∧ Gr w w' := by
  obtain ⟨e1, e2⟩ := Wd.rnd_parts v b up _ hb rfl
  have m1 := Wd.mag_le b0 b1
  have m0 : 1 ≤ Wd.mag b := by unfold Wd.mag; split <;> omega
  have h0 := Wd.hi_nonneg v; have l0 := Wd.lo_nonneg v; have l1 := Wd.lo_lt v
  have hm := Wd.hilo v
  have q0 := Int.ediv_nonneg (Wd.mag_nonneg v) (show 0 ≤ Wd.mag b by omega)
  have hbig : 18446744073709551615 < Wd.mag (Wd.rnd v b up) → Wd.intQ (Wd.rnd v b up) = 0 ∧ Wd.intE (Wd.rnd v b up) = 5 := fun h => Wd.fits_false (by unfold Wd.mag at h; split at h <;> omega)
  by_cases hd : Wd.mag b ≤ Wd.hi v
  · have k : 18446744073709551616 ≤ Wd.mag v / Wd.mag b := by
      refine (Int.le_ediv_iff_mul_le (by omega)).2 ?_
      omega
    have k2 : Wd.mag v / Wd.mag b ≤ Wd.mag (Wd.rnd v b up) := by rw [e1]; unfold Wd.inc; split <;> omega
    obtain ⟨f1, f2⟩ := hbig (by omega)
    rw [f1, f2]
    exact quo_big v b up w b0 b1 hd
  have q1 : Wd.mag v / Wd.mag b < 18446744073709551616 := by
    refine (Int.ediv_lt_iff_lt_mul (by omega)).2 ?_; omega
  have r0 := Int.emod_nonneg (Wd.mag v) (show Wd.mag b ≠ 0 by omega)
  have hdv : ∀ W : World, Calls Tryz.prog 214 #[.int .u64 (Wd.hi v), .int .u64 (Wd.lo v), .int .u64 (Wd.mag b)] W fun e w' => e = .returned (.tuple #[.int .u64 (Wd.mag v / Wd.mag b), .int .u64 (Wd.mag v % Wd.mag b)]) ∧ Gr W w' := fun W => by
    rw [← hm]; exact div64_all _ _ _ W h0 l0 l1 (by omega) (by omega)
  have hnb : Wd.neg b = decide (b < 0) := rfl
  rw [hnb] at e1 e2
  unfold Wd.inc at e1 e2
  by_cases hc : (Wd.neg v == decide (b < 0)) = up ∧ 0 < Wd.mag v % Wd.mag b
  · obtain ⟨hu, hr⟩ := hc
    have ht : ((Wd.neg v != decide (b < 0)) != up) = true := by rw [← hu]; cases Wd.neg v <;> cases decide (b < 0) <;> rfl
    rw [ht, decide_eq_true hr] at e1 e2
    simp only [Bool.and_self, if_true] at e1 e2
    have hn : (Wd.neg v != decide (b < 0)) = !up := by rw [← hu]; rfl
    rw [hn, decide_eq_true (show 0 < Wd.mag v / Wd.mag b + 1 by omega), Bool.and_true] at e2
    refine quo_up _ _ _ _ _ _ up b w b0 b1 q0 (by omega) hr (by omega) hu hdv ?_ (fun h => hbig (by omega))
    intro k W c a1 a2 a3
    exact whole_at _ k c W (by rw [e1]; exact a1) (by rw [e1, ← a1]; exact a2) (by rw [e2]; exact a3)
  · have ht : (((Wd.neg v != decide (b < 0)) != up) && decide (0 < Wd.mag v % Wd.mag b)) = false := by
      by_cases hr : 0 < Wd.mag v % Wd.mag b
      · have : ¬ (Wd.neg v == decide (b < 0)) = up := fun h => hc ⟨h, hr⟩
        cases h1 : Wd.neg v <;> cases h2 : decide (b < 0) <;> cases h3 : up <;> simp_all
      · rw [decide_eq_false hr, Bool.and_false]
    rw [ht] at e1 e2
    simp only [Bool.false_eq_true, if_false] at e1 e2
    refine quo_cut _ _ _ _ _ _ up _ b w b0 b1 (by omega) (by omega) rfl ?_ hdv ?_
    · by_cases hr : 0 < Wd.mag v % Wd.mag b
      · have : ¬ (Wd.neg v == decide (b < 0)) = up := fun h => hc ⟨h, hr⟩
        refine Or.inr ⟨hr, ?_⟩
        cases h1 : Wd.neg v <;> cases h2 : decide (b < 0) <;> cases h3 : up <;> simp_all
      · exact Or.inl (by omega)
    · intro W c a
      exact whole_at _ _ c W e1.symm (by rw [e1]; omega) (by rw [e2, a]; rfl)
end Go.Proofs.YtllkiadedaghoaaGreat
