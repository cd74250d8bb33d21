/-
  Plain arithmetic of the layer clock: the calendar. No program here.
-/
import Derived.WalkKit
set_option linter.unusedVariables false
set_option linter.unusedSimpArgs false
namespace Go.Proofs.YtlcbjkkcfenlmaaDoor
namespace Ck
/-- One more day in February. -/
def lpB (y : Int) : Bool := ((y % 4 == 0) && (y % 100 != 0)) || (y % 400 == 0)
def lp (y : Int) : Int := if lpB y then 1 else 0
theorem lp_01 (y : Int) : 0 ≤ lp y ∧ lp y ≤ 1 := by unfold lp; split <;> omega
theorem lpB_iff (y : Int) : lpB y = true ↔ (y % 4 = 0 ∧ y % 100 ≠ 0) ∨ y % 400 = 0 := by
  unfold lpB; simp only [Bool.or_eq_true, Bool.and_eq_true, beq_iff_eq, bne_iff_ne, ne_eq]
theorem lp_one {y : Int} (h : (y % 4 = 0 ∧ y % 100 ≠ 0) ∨ y % 400 = 0) : lp y = 1 := by unfold lp; rw [(lpB_iff y).2 h]; rfl
theorem lp_zero {y : Int} (h : ¬ ((y % 4 = 0 ∧ y % 100 ≠ 0) ∨ y % 400 = 0)) : lp y = 0 := by
  unfold lp; cases hb : lpB y
  · rfl
  · exact absurd ((lpB_iff y).1 hb) h
theorem lp_cases (y : Int) : (lp y = 1 ∧ ((y % 4 = 0 ∧ y % 100 ≠ 0) ∨ y % 400 = 0)) ∨ (lp y = 0 ∧ ¬ ((y % 4 = 0 ∧ y % 100 ≠ 0) ∨ y % 400 = 0)) := by
  by_cases h : (y % 4 = 0 ∧ y % 100 ≠ 0) ∨ y % 400 = 0
  · exact Or.inl ⟨lp_one h, h⟩
  · exact Or.inr ⟨lp_zero h, h⟩
/-- The length of a month, in a year that is no leap year. -/
def tab (m : Int) : Int := if m = 2 then 28 else if m = 4 ∨ m = 6 ∨ m = 9 ∨ m = 11 then 30 else 31
/-- The length of a month. -/
def mlen (y m : Int) : Int := if m = 2 then 28 + lp y else tab m
theorem mlen_bd (y m : Int) : 28 ≤ mlen y m ∧ mlen y m ≤ 31 := by
  have := lp_01 y; unfold mlen tab; split <;> (try split) <;> (try split) <;> omega
/-- The number of the first day of a year. -/
def bef (y : Int) : Int := 365 * (y - 1) + (y - 1) / 4 - (y - 1) / 100 + (y - 1) / 400 - 730119
theorem bef_succ (y : Int) : bef (y + 1) = bef y + 365 + lp y := by
  unfold bef; rcases lp_cases y with ⟨e, h⟩ | ⟨e, h⟩ <;> rw [e] <;> omega
theorem bef_bd (y : Int) (h0 : 0 ≤ y) (h1 : y ≤ 10001) : -730485 ≤ bef y ∧ bef y ≤ 2922759 := by unfold bef; omega
theorem bef_lo : bef 1 = -730119 := rfl
theorem bef_hi : bef 10000 = 2921940 := by decide
theorem bef_mono {a b : Int} (h : a ≤ b) : bef a ≤ bef b := by unfold bef; omega
theorem bef_lt {a b : Int} (h : a < b) : bef a + 365 ≤ bef b := by
  have := bef_succ a; have := lp_01 a; have := bef_mono (a := a + 1) (b := b) (by omega); omega
theorem bef_cycle (y : Int) : bef (y + 400) = bef y + 146097 := by unfold bef; omega
theorem lp_cycle (y : Int) : lp (y + 400) = lp y := by
  rcases lp_cases y with ⟨e, h⟩ | ⟨e, h⟩ <;> rcases lp_cases (y + 400) with ⟨f, k⟩ | ⟨f, k⟩ <;> omega
/-- The days of a year ahead of a month. -/
def cum (y m : Int) : Int :=
  if m ≤ 1 then 0 else if m = 2 then 31 else lp y + (if m = 3 then 59 else if m = 4 then 90 else if m = 5 then 120 else if m = 6 then 151 else if m = 7 then 181 else if m = 8 then 212 else if m = 9 then 243 else if m = 10 then 273 else if m = 11 then 304 else if m = 12 then 334 else 365)
theorem months {m : Int} (h1 : 1 ≤ m) (h2 : m ≤ 12) : m = 1 ∨ m = 2 ∨ m = 3 ∨ m = 4 ∨ m = 5 ∨ m = 6 ∨ m = 7 ∨ m = 8 ∨ m = 9 ∨ m = 10 ∨ m = 11 ∨ m = 12 := by omega
theorem cum_succ (y m : Int) (h1 : 1 ≤ m) (h2 : m ≤ 12) : cum y (m + 1) = cum y m + mlen y m := by
  rcases months h1 h2 with rfl | rfl | rfl | rfl | rfl | rfl | rfl | rfl | rfl | rfl | rfl | rfl <;> simp [cum, mlen, tab] <;> omega
theorem cum_one (y : Int) : cum y 1 = 0 := rfl
theorem cum_end (y : Int) : cum y 13 = 365 + lp y := by simp [cum]; omega
theorem cum_bd (y m : Int) : 0 ≤ cum y m ∧ cum y m ≤ 366 := by
  have := lp_01 y; unfold cum; repeat' (first | omega | split)
theorem cum_mono (y : Int) {a b : Int} (h0 : 1 ≤ a) (h : a ≤ b) (hb : b ≤ 13) : cum y a ≤ cum y b := by
  obtain ⟨k, rfl⟩ : ∃ k : Nat, b = a + k := ⟨(b - a).toNat, by omega⟩
  clear h
  induction k with
  | zero => simp
  | succ k ih =>
    have := cum_succ y (a + k) (by omega) (by omega)
    have := mlen_bd y (a + k)
    have := ih (by omega)
    rw [show a + ((k + 1 : Nat) : Int) = a + k + 1 by omega]; omega
/-- The number of a date. -/
def num (y m d : Int) : Int := bef y + cum y m + d - 1
/-- Is it a date? -/
def vld (y m d : Int) : Bool := decide (1 ≤ y) && decide (y ≤ 9999) && decide (1 ≤ m) && decide (m ≤ 12) && decide (1 ≤ d) && decide (d ≤ mlen y m)
theorem vld_iff (y m d : Int) : vld y m d = true ↔ 1 ≤ y ∧ y ≤ 9999 ∧ 1 ≤ m ∧ m ≤ 12 ∧ 1 ≤ d ∧ d ≤ mlen y m := by
  unfold vld; simp only [Bool.and_eq_true, decide_eq_true_eq]
  constructor
  · rintro ⟨⟨⟨⟨⟨a, b⟩, c⟩, d⟩, e⟩, f⟩; exact ⟨a, b, c, d, e, f⟩
  · rintro ⟨a, b, c, d, e, f⟩; exact ⟨⟨⟨⟨⟨a, b⟩, c⟩, d⟩, e⟩, f⟩
theorem vld_no {y m d : Int} (h : vld y m d = false) : ¬ (1 ≤ y ∧ y ≤ 9999 ∧ 1 ≤ m ∧ m ≤ 12 ∧ 1 ≤ d ∧ d ≤ mlen y m) := fun k => by
  rw [(vld_iff y m d).2 k] at h; cases h
theorem num_year {y m d : Int} (hv : vld y m d = true) : bef y ≤ num y m d ∧ num y m d < bef (y + 1) := by
  obtain ⟨_, _, h3, h4, h5, h6⟩ := (vld_iff y m d).1 hv
  have a := cum_bd y m; have b := cum_succ y m h3 h4
  have c := cum_mono y (a := m + 1) (b := 13) (by omega) (by omega) (by omega)
  have d := cum_end y; have e := bef_succ y
  unfold num; omega
theorem num_bd {y m d : Int} (hv : vld y m d = true) : -730119 ≤ num y m d ∧ num y m d ≤ 2921939 := by
  obtain ⟨a, b⟩ := num_year hv
  obtain ⟨h1, h2, _⟩ := (vld_iff y m d).1 hv
  have := bef_mono h1; have := bef_mono (a := y + 1) (b := 10000) (by omega)
  have := bef_lo; have := bef_hi; omega
theorem num_inj {y m d y' m' d' : Int} (hv : vld y m d = true) (hv' : vld y' m' d' = true) (h : num y m d = num y' m' d') : y = y' ∧ m = m' ∧ d = d' := by
  obtain ⟨a, b⟩ := num_year hv
  obtain ⟨a', b'⟩ := num_year hv'
  have hy : y = y' := by
    rcases Int.lt_trichotomy y y' with k | k | k
    · have := bef_mono (a := y + 1) (b := y') (by omega); omega
    · exact k
    · have := bef_mono (a := y' + 1) (b := y) (by omega); omega
  subst hy
  obtain ⟨_, _, h3, h4, h5, h6⟩ := (vld_iff y m d).1 hv
  obtain ⟨_, _, k3, k4, k5, k6⟩ := (vld_iff y m' d').1 hv'
  have s := cum_succ y m h3 h4; have s' := cum_succ y m' k3 k4
  unfold num at h
  have hm : m = m' := by
    rcases Int.lt_trichotomy m m' with k | k | k
    · have := cum_mono y (a := m + 1) (b := m') (by omega) (by omega) (by omega); omega
    · exact k
    · have := cum_mono y (a := m' + 1) (b := m) (by omega) (by omega) (by omega); omega
  subst hm
  exact ⟨rfl, rfl, by omega⟩
theorem year_of (n : Int) (h0 : -730119 ≤ n) : ∀ k : Nat, n < bef ((k : Int) + 1) → ∃ y : Int, 1 ≤ y ∧ y ≤ k ∧ bef y ≤ n ∧ n < bef (y + 1)
  | 0, h => by have := bef_lo; simp at h; omega
  | k + 1, h => by
    by_cases hk : n < bef ((k : Int) + 1)
    · obtain ⟨y, a, b, c, d⟩ := year_of n h0 k hk
      exact ⟨y, a, by omega, c, d⟩
    · exact ⟨(k : Int) + 1, by omega, by omega, by omega, by simpa using h⟩
theorem month_of (y r : Int) (h0 : 0 ≤ r) : ∀ k : Nat, k ≤ 12 → r < cum y ((k : Int) + 1) → ∃ m : Int, 1 ≤ m ∧ m ≤ k ∧ cum y m ≤ r ∧ r < cum y (m + 1)
  | 0, _, h => by have := cum_one y; simp at h; omega
  | k + 1, hk', h => by
    by_cases hk : r < cum y ((k : Int) + 1)
    · obtain ⟨m, a, b, c, d⟩ := month_of y r h0 k (by omega) hk
      exact ⟨m, a, by omega, c, d⟩
    · exact ⟨(k : Int) + 1, by omega, by omega, by omega, by simpa using h⟩
theorem exists_date (n : Int) (h0 : -730119 ≤ n) (h1 : n ≤ 2921939) : ∃ y m d : Int, vld y m d = true ∧ num y m d = n := by
  obtain ⟨y, a, b, c, e⟩ := year_of n h0 9999 (by have := bef_hi; simp; omega)
  have s := bef_succ y; have t := cum_end y
  obtain ⟨m, f, g, h, i⟩ := month_of y (n - bef y) (by omega) 12 (by omega) (by simp; omega)
  have u := cum_succ y m f (by omega)
  refine ⟨y, m, n - bef y - cum y m + 1, (vld_iff _ _ _).2 ⟨a, by omega, f, by omega, by omega, by omega⟩, by unfold num; omega⟩
/-- A division, rounded down. -/
theorem tdiv_floor (a b : Int) (hb : 0 < b) : (if a.tmod b < 0 then a.tdiv b - 1 else a.tdiv b) = a / b := by
  have e := Int.mul_tdiv_add_tmod a b
  have f := Int.mul_ediv_add_emod a b
  have g := Int.emod_nonneg a (show b ≠ 0 by omega)
  have h := Int.emod_lt_of_pos a hb
  have i : a.tdiv b = if 0 ≤ a ∨ b ∣ a then a / b else a / b + 1 := by
    rw [Int.tdiv_eq_ediv]; by_cases k : 0 ≤ a ∨ b ∣ a <;> simp [k]; omega
  by_cases k : 0 ≤ a ∨ b ∣ a
  · rw [if_pos k] at i
    rw [i] at e ⊢
    have : a.tmod b = a % b := by omega
    rw [if_neg (by omega)]
  · rw [if_neg k] at i
    rw [i] at e ⊢
    rw [Int.mul_add] at e
    have : a.tmod b = a % b - b := by omega
    have hz : a % b ≠ 0 := fun hz => k (Or.inr (Int.dvd_of_emod_eq_zero hz))
    rw [if_pos (by omega)]; omega
end Ck
end Go.Proofs.YtlcbjkkcfenlmaaDoor
