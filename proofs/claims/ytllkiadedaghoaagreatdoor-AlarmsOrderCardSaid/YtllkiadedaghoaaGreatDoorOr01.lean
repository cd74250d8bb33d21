/-
  What the walks of this seat share: worlds that have grown.
  Plain arithmetic of the layer clock: the calendar. No program here.
-/
import Derived.Test.YtllkiadedaghoaaGreatDoorRows
import Derived.WalkKit
import Derived.WalkSpells
import Derived.WalkLawsBesides
import Derived.Handy
import Derived.BigQuiet
import Derived.Deep.QuietTactic
import Derived.Deep.DeepCutAuto
import Derived.Lib.Hide
import Derived.RegionTactic
import Derived.BigRegion
import Derived.StillTailTactics
set_option linter.unusedVariables false
set_option linter.unusedSimpArgs false
namespace Go.Proofs.YtllkiadedaghoaaGreatDoor
open Go.RowKit
/-- The world has grown: what was there is as it was. -/
def Gr (w w' : World) : Prop := Below w.heap.size w w'
theorem Gr.refl (w : World) : Gr w w := Below.refl _ _
theorem Gr.size {w w' : World} (h : Gr w w') : w.heap.size ≤ w'.heap.size := Below.size h
theorem Gr.trans {a b c : World} (h : Gr a b) (k : Gr b c) : Gr a c := Below.trans h (Below.mono k (Below.size h))
theorem Gr.alloc {a w : World} (h : Gr a w) (o : Obj) : Gr a (w.alloc o) := Below.alloc h (Below.size h) o
theorem Gr.drew {a w : World} (h : Gr a w) : Gr a w.drew := Below.drew h
theorem Gr.drewN {a w : World} (h : Gr a w) (n : Nat) : Gr a (w.drewN n) := below_drewN h n
theorem Gr.setCell {a w : World} (h : Gr a w) {p : Addr} (hp : a.heap.size ≤ p.block) (u : Value) : Gr a (w.setCell p u) := Below.setCell h hp u
theorem Gr.of {w w' : World} (h : Below w.heap.size w w') : Gr w w' := h
theorem Gr.cells {W w1 : World} (hb : Gr W w1) : (∀ b o, b < W.heap.size → w1.cell? ⟨b, o, none⟩ = W.cell? ⟨b, o, none⟩) ∧ (∀ b o, b < W.heap.size → w1.frozen? ⟨b, o, none⟩ = W.frozen? ⟨b, o, none⟩) :=
  ⟨fun b o h => Below.cell hb (p := ⟨b, o, none⟩) h, fun b o h => Below.frozen hb (p := ⟨b, o, none⟩) h⟩
theorem Gr.at {W w1 : World} (hb : Gr W w1) {b o : Nat} {v : Value} (h : W.cell? ⟨b, o, none⟩ = some v) : w1.cell? ⟨b, o, none⟩ = some v := cell_later (a := ⟨b, o, none⟩) hb h
theorem Gr.free {W w1 : World} (hb : Gr W w1) {b o : Nat} {v : Value} (h : W.cell? ⟨b, o, none⟩ = some v) (hf : W.frozen? ⟨b, o, none⟩ = false) : w1.frozen? ⟨b, o, none⟩ = false := ((Gr.cells hb).2 b o (World.block_lt_of_cell? W ⟨b, o, none⟩ h)).trans hf
/-- The world has grown: shown from what stands here. -/
theorem gr_auto {a b : World} (h : Gr a b := by repeat' (first | (with_reducible exact Gr.refl _) | (with_reducible assumption) | (with_reducible refine Gr.alloc ?_ _) | (with_reducible refine Gr.drew ?_) | (with_reducible refine Gr.drewN ?_ _) | (with_reducible refine Gr.setCell ?_ ?_ _) | (with_reducible refine Gr.trans ?_ (by with_reducible assumption)) | go_size)) : Gr a b := h
theorem ret_int {k : IntKind} {a b : Int} (h : a = b) : Ending.returned (.int k a) = .returned (.int k b) := by rw [h]
/-- What a cell holds. -/
def cellOf (w : World) (b o : Nat) : Value := (w.cell? ⟨b, o, none⟩).getD (.bool false)
/-- The world has grown, and nothing that was there has turned but for what block R holds. -/
structure GrX (R : Nat) (w w' : World) : Prop where
  os : w'.os = w.os
  tape : w'.tape = w.tape
  output : w'.output = w.output
  size : w.heap.size ≤ w'.heap.size
  block : ∀ k, k < w.heap.size → k ≠ R → w'.heap[k]? = w.heap[k]?
  row : ∀ o, (w.cell? ⟨R, o, none⟩).isSome = true → (w'.cell? ⟨R, o, none⟩).isSome = true
  free : ∀ o, (w.cell? ⟨R, o, none⟩).isSome = true → w'.frozen? ⟨R, o, none⟩ = w.frozen? ⟨R, o, none⟩
theorem GrX.refl (R : Nat) (w : World) : GrX R w w := ⟨rfl, rfl, rfl, Nat.le_refl _, fun _ _ _ => rfl, fun _ h => h, fun _ _ => rfl⟩
theorem GrX.grown {R : Nat} {a b c : World} (h : GrX R a b) (k : Gr b c) : GrX R a c := by
  have hcell : ∀ o, (b.cell? ⟨R, o, none⟩).isSome = true → c.cell? ⟨R, o, none⟩ = b.cell? ⟨R, o, none⟩ := fun o ho => by
    obtain ⟨v, hv⟩ := Option.isSome_iff_exists.1 ho
    rw [hv]; exact Gr.at k hv
  refine ⟨k.os.trans h.os, k.tape.trans h.tape, k.output.trans h.output, Nat.le_trans h.size (Gr.size k), fun i hi hR => (Below.block k i (Nat.lt_of_lt_of_le hi h.size)).trans (h.block i hi hR), fun o ho => ?_, fun o ho => ?_⟩
  · rw [hcell o (h.row o ho)]; exact h.row o ho
  · obtain ⟨v, hv⟩ := Option.isSome_iff_exists.1 (h.row o ho)
    exact ((Gr.cells k).2 R o (World.block_lt_of_cell? b ⟨R, o, none⟩ hv)).trans (h.free o ho)
theorem GrX.drew {R : Nat} {a b : World} (h : GrX R a b) : GrX R a b.drew := h.grown (Gr.drew (Gr.refl _))
theorem GrX.drewN {R : Nat} {a b : World} (h : GrX R a b) (n : Nat) : GrX R a (b.drewN n) := h.grown (Gr.drewN (Gr.refl _) n)
theorem GrX.alloc {R : Nat} {a b : World} (h : GrX R a b) (o : Obj) : GrX R a (b.alloc o) := h.grown (Gr.alloc (Gr.refl _) o)
theorem GrX.setCell {R : Nat} {a b : World} (h : GrX R a b) {p : Addr} (hp : p.block = R) (u : Value) : GrX R a (b.setCell p u) := by
  subst hp
  refine ⟨h.os, h.tape, h.output, by simpa [World.setCell] using h.size, fun i hi hR => (Below.heap_setCell _ _ _ _ hR).trans (h.block i hi hR), fun o ho => ?_, fun o ho => ?_⟩
  · by_cases e : (⟨p.block, o, none⟩ : Addr) = p
    · have hr := h.row o ho
      rw [e] at hr ⊢
      rw [World.cell?_setCell_same' _ _ _ hr]; rfl
    · rw [World.cell?_setCell_other _ _ _ _ (Ne.symm e)]; exact h.row o ho
  · rw [← h.free o ho]
    simp [go_sem]
theorem GrX.at {R : Nat} {w w' : World} (h : GrX R w w') {b o : Nat} {v : Value} (hb : b ≠ R) (hc : w.cell? ⟨b, o, none⟩ = some v) : w'.cell? ⟨b, o, none⟩ = some v := by
  have hlt := World.block_lt_of_cell? w ⟨b, o, none⟩ hc
  rw [← hc]; exact World.cell?_of_block (w := w) (h.block b hlt hb)
theorem GrX.own {R : Nat} {w w' : World} (h : GrX R w w') {o : Nat} (hc : (w.cell? ⟨R, o, none⟩).isSome = true) : w'.cell? ⟨R, o, none⟩ = some (cellOf w' R o) := by
  obtain ⟨v, hv⟩ := Option.isSome_iff_exists.1 (h.row o hc)
  unfold cellOf; rw [hv]; rfl
theorem GrX.gr {R : Nat} {w W0 w' : World} (g : Gr w W0) (hR : w.heap.size ≤ R) (h : GrX R W0 w') : Gr w w' :=
  ⟨h.os.trans g.os, h.tape.trans g.tape, h.output.trans g.output, Nat.le_trans (Gr.size g) h.size, fun k hk => (h.block k (Nat.lt_of_lt_of_le hk (Gr.size g)) (by omega)).trans (Below.block g k hk)⟩
theorem name_world {P : Program} {c : Code} {Q : Exit → Act → World → Prop} {a : Act} {w : World} (h : ∀ W, W = w → Code.wp P c Q a W) : Code.wp P c Q a w := h w rfl
end Go.Proofs.YtllkiadedaghoaaGreatDoor
set_option linter.unusedVariables false
set_option linter.unusedSimpArgs false
namespace Go.Proofs.YtllkiadedaghoaaGreatDoor
namespace Ck
/-- One more day in February. -/
def lpB (y : Int) : Bool := ((y % 4 == 0) && (y % 100 != 0)) || (y % 400 == 0)
def lp (y : Int) : Int := if lpB y then 1 else 0
theorem lp_01 (y : Int) : 0 ≤ lp y ∧ lp y ≤ 1 := by unfold lp; split <;> omega
theorem lpB_iff (y : Int) : lpB y = true ↔ (y % 4 = 0 ∧ y % 100 ≠ 0) ∨ y % 400 = 0 := by
  unfold lpB; simp only [Bool.or_eq_true, Bool.and_eq_true, beq_iff_eq, bne_iff_ne, ne_eq]
theorem lp_one {y : Int} (h : (y % 4 = 0 ∧ y % 100 ≠ 0) ∨ y % 400 = 0) : lp y = 1 := by unfold lp; rw [(lpB_iff y).2 h]; rfl
theorem lp_zero {y : Int} (h : ¬ ((y % 4 = 0 ∧ y % 100 ≠ 0) ∨ y % 400 = 0)) : lp y = 0 := by
  unfold lp; cases hb : lpB y
  · rfl
  · exact absurd ((lpB_iff y).1 hb) h
theorem lp_cases (y : Int) : (lp y = 1 ∧ ((y % 4 = 0 ∧ y % 100 ≠ 0) ∨ y % 400 = 0)) ∨ (lp y = 0 ∧ ¬ ((y % 4 = 0 ∧ y % 100 ≠ 0) ∨ y % 400 = 0)) := by
  by_cases h : (y % 4 = 0 ∧ y % 100 ≠ 0) ∨ y % 400 = 0
  · exact Or.inl ⟨lp_one h, h⟩
  · exact Or.inr ⟨lp_zero h, h⟩
/-- The length of a month, in a year that is no leap year. -/
def tab (m : Int) : Int := if m = 2 then 28 else if m = 4 ∨ m = 6 ∨ m = 9 ∨ m = 11 then 30 else 31
/-- The length of a month. -/
def mlen (y m : Int) : Int := if m = 2 then 28 + lp y else tab m
theorem mlen_bd (y m : Int) : 28 ≤ mlen y m ∧ mlen y m ≤ 31 := by
  have := lp_01 y; unfold mlen tab; split <;> (try split) <;> (try split) <;> omega
/-- The number of the first day of a year. -/
def bef (y : Int) : Int := 365 * (y - 1) + (y - 1) / 4 - (y - 1) / 100 + (y - 1) / 400 - 730119
theorem bef_succ (y : Int) : bef (y + 1) = bef y + 365 + lp y := by
  unfold bef; rcases lp_cases y with ⟨e, h⟩ | ⟨e, h⟩ <;> rw [e] <;> omega
theorem bef_bd (y : Int) (h0 : 0 ≤ y) (h1 : y ≤ 10001) : -730485 ≤ bef y ∧ bef y ≤ 2922759 := by unfold bef; omega
theorem bef_lo : bef 1 = -730119 := rfl
theorem bef_hi : bef 10000 = 2921940 := by decide
theorem bef_mono {a b : Int} (h : a ≤ b) : bef a ≤ bef b := by unfold bef; omega
/-- The days of a year ahead of a month. -/
def cum (y m : Int) : Int :=
  if m ≤ 1 then 0 else if m = 2 then 31 else lp y + (if m = 3 then 59 else if m = 4 then 90 else if m = 5 then 120 else if m = 6 then 151 else if m = 7 then 181 else if m = 8 then 212 else if m = 9 then 243 else if m = 10 then 273 else if m = 11 then 304 else if m = 12 then 334 else 365)
theorem months {m : Int} (h1 : 1 ≤ m) (h2 : m ≤ 12) : m = 1 ∨ m = 2 ∨ m = 3 ∨ m = 4 ∨ m = 5 ∨ m = 6 ∨ m = 7 ∨ m = 8 ∨ m = 9 ∨ m = 10 ∨ m = 11 ∨ m = 12 := by omega
theorem cum_succ (y m : Int) (h1 : 1 ≤ m) (h2 : m ≤ 12) : cum y (m + 1) = cum y m + mlen y m := by
  rcases months h1 h2 with rfl | rfl | rfl | rfl | rfl | rfl | rfl | rfl | rfl | rfl | rfl | rfl <;> simp [cum, mlen, tab] <;> omega
theorem cum_one (y : Int) : cum y 1 = 0 := rfl
theorem cum_end (y : Int) : cum y 13 = 365 + lp y := by simp [cum]; omega
theorem cum_bd (y m : Int) : 0 ≤ cum y m ∧ cum y m ≤ 366 := by
  have := lp_01 y; unfold cum; repeat' (first | omega | split)
theorem cum_mono (y : Int) {a b : Int} (h0 : 1 ≤ a) (h : a ≤ b) (hb : b ≤ 13) : cum y a ≤ cum y b := by
  obtain ⟨k, rfl⟩ : ∃ k : Nat, b = a + k := ⟨(b - a).toNat, by omega⟩
  clear h
  induction k with
  | zero => simp
  | succ k ih =>
    have := cum_succ y (a + k) (by omega) (by omega)
    have := mlen_bd y (a + k)
    have := ih (by omega)
    rw [show a + ((k + 1 : Nat) : Int) = a + k + 1 by omega]; omega
/-- The number of a date. -/
def num (y m d : Int) : Int := bef y + cum y m + d - 1
/-- Is it a date? -/
def vld (y m d : Int) : Bool := decide (1 ≤ y) && decide (y ≤ 9999) && decide (1 ≤ m) && decide (m ≤ 12) && decide (1 ≤ d) && decide (d ≤ mlen y m)
theorem vld_iff (y m d : Int) : vld y m d = true ↔ 1 ≤ y ∧ y ≤ 9999 ∧ 1 ≤ m ∧ m ≤ 12 ∧ 1 ≤ d ∧ d ≤ mlen y m := by
  unfold vld; simp only [Bool.and_eq_true, decide_eq_true_eq]
  constructor
  · rintro ⟨⟨⟨⟨⟨a, b⟩, c⟩, d⟩, e⟩, f⟩; exact ⟨a, b, c, d, e, f⟩
  · rintro ⟨a, b, c, d, e, f⟩; exact ⟨⟨⟨⟨⟨a, b⟩, c⟩, d⟩, e⟩, f⟩
theorem num_year {y m d : Int} (hv : vld y m d = true) : bef y ≤ num y m d ∧ num y m d < bef (y + 1) := by
  obtain ⟨_, _, h3, h4, h5, h6⟩ := (vld_iff y m d).1 hv
  have a := cum_bd y m; have b := cum_succ y m h3 h4
  have c := cum_mono y (a := m + 1) (b := 13) (by omega) (by omega) (by omega)
  have d := cum_end y; have e := bef_succ y
  unfold num; omega
theorem num_bd {y m d : Int} (hv : vld y m d = true) : -730119 ≤ num y m d ∧ num y m d ≤ 2921939 := by
  obtain ⟨a, b⟩ := num_year hv
  obtain ⟨h1, h2, _⟩ := (vld_iff y m d).1 hv
  have := bef_mono h1; have := bef_mono (a := y + 1) (b := 10000) (by omega)
  have := bef_lo; have := bef_hi; omega
theorem year_of (n : Int) (h0 : -730119 ≤ n) : ∀ k : Nat, n < bef ((k : Int) + 1) → ∃ y : Int, 1 ≤ y ∧ y ≤ k ∧ bef y ≤ n ∧ n < bef (y + 1)
  | 0, h => by have := bef_lo; simp at h; omega
  | k + 1, h => by
    by_cases hk : n < bef ((k : Int) + 1)
    · obtain ⟨y, a, b, c, d⟩ := year_of n h0 k hk
      exact ⟨y, a, by omega, c, d⟩
    · exact ⟨(k : Int) + 1, by omega, by omega, by omega, by simpa using h⟩
theorem month_of (y r : Int) (h0 : 0 ≤ r) : ∀ k : Nat, k ≤ 12 → r < cum y ((k : Int) + 1) → ∃ m : Int, 1 ≤ m ∧ m ≤ k ∧ cum y m ≤ r ∧ r < cum y (m + 1)
  | 0, _, h => by have := cum_one y; simp at h; omega
  | k + 1, hk', h => by
    by_cases hk : r < cum y ((k : Int) + 1)
    · obtain ⟨m, a, b, c, d⟩ := month_of y r h0 k (by omega) hk
      exact ⟨m, a, by omega, c, d⟩
    · exact ⟨(k : Int) + 1, by omega, by omega, by omega, by simpa using h⟩
theorem exists_date (n : Int) (h0 : -730119 ≤ n) (h1 : n ≤ 2921939) : ∃ y m d : Int, vld y m d = true ∧ num y m d = n := by
  obtain ⟨y, a, b, c, e⟩ := year_of n h0 9999 (by have := bef_hi; simp; omega)
  have s := bef_succ y; have t := cum_end y
  obtain ⟨m, f, g, h, i⟩ := month_of y (n - bef y) (by omega) 12 (by omega) (by simp; omega)
  have u := cum_succ y m f (by omega)
  refine ⟨y, m, n - bef y - cum y m + 1, (vld_iff _ _ _).2 ⟨a, by omega, f, by omega, by omega, by omega⟩, by unfold num; omega⟩
/-- A division, rounded down. -/
theorem tdiv_floor (a b : Int) (hb : 0 < b) : (if a.tmod b < 0 then a.tdiv b - 1 else a.tdiv b) = a / b := by
  have e := Int.mul_tdiv_add_tmod a b
  have f := Int.mul_ediv_add_emod a b
  have g := Int.emod_nonneg a (show b ≠ 0 by omega)
  have h := Int.emod_lt_of_pos a hb
  have i : a.tdiv b = if 0 ≤ a ∨ b ∣ a then a / b else a / b + 1 := by
    rw [Int.tdiv_eq_ediv]; by_cases k : 0 ≤ a ∨ b ∣ a <;> simp [k]; omega
  by_cases k : 0 ≤ a ∨ b ∣ a
  · rw [if_pos k] at i
    rw [i] at e ⊢
    have : a.tmod b = a % b := by omega
    rw [if_neg (by omega)]
  · rw [if_neg k] at i
    rw [i] at e ⊢
    rw [Int.mul_add] at e
    have : a.tmod b = a % b - b := by omega
    have hz : a % b ≠ 0 := fun hz => k (Or.inr (Int.dvd_of_emod_eq_zero hz))
    rw [if_pos (by omega)]; omega
end Ck
end Go.Proofs.YtllkiadedaghoaaGreatDoor
