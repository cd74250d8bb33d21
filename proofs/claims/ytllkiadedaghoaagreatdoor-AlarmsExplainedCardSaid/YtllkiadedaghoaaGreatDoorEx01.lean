/-
  What the walks of this seat share: worlds that have grown.
  Plain arithmetic of the layer clock: the calendar. No program here.
  Plain arithmetic of the layer clock: steps of time and how they overlap with a span. No program here.
-/
import Derived.Test.YtllkiadedaghoaaGreatDoorRows
import Derived.WalkKit
import Derived.WalkSpells
import Derived.WalkLawsBesides
import Derived.Handy
import Derived.BigQuiet
import Derived.Deep.QuietTactic
import Derived.Deep.DeepCutAuto
import Derived.Lib.Hide
import Derived.RegionTactic
import Derived.BigRegion
import Derived.StillTailTactics
import Derived.Deep.RegionHeld3
set_option linter.unusedVariables false
set_option linter.unusedSimpArgs false
namespace Go.Proofs.YtllkiadedaghoaaGreatDoor
open Go.RowKit
/-- The world has grown: what was there is as it was. -/
def Gr (w w' : World) : Prop := Below w.heap.size w w'
theorem Gr.refl (w : World) : Gr w w := Below.refl _ _
theorem Gr.size {w w' : World} (h : Gr w w') : w.heap.size ≤ w'.heap.size := Below.size h
theorem Gr.trans {a b c : World} (h : Gr a b) (k : Gr b c) : Gr a c := Below.trans h (Below.mono k (Below.size h))
theorem Gr.alloc {a w : World} (h : Gr a w) (o : Obj) : Gr a (w.alloc o) := Below.alloc h (Below.size h) o
theorem Gr.drew {a w : World} (h : Gr a w) : Gr a w.drew := Below.drew h
theorem Gr.drewN {a w : World} (h : Gr a w) (n : Nat) : Gr a (w.drewN n) := below_drewN h n
theorem Gr.setCell {a w : World} (h : Gr a w) {p : Addr} (hp : a.heap.size ≤ p.block) (u : Value) : Gr a (w.setCell p u) := Below.setCell h hp u
theorem Gr.of {w w' : World} (h : Below w.heap.size w w') : Gr w w' := h
theorem Gr.cells {W w1 : World} (hb : Gr W w1) : (∀ b o, b < W.heap.size → w1.cell? ⟨b, o, none⟩ = W.cell? ⟨b, o, none⟩) ∧ (∀ b o, b < W.heap.size → w1.frozen? ⟨b, o, none⟩ = W.frozen? ⟨b, o, none⟩) :=
  ⟨fun b o h => Below.cell hb (p := ⟨b, o, none⟩) h, fun b o h => Below.frozen hb (p := ⟨b, o, none⟩) h⟩
theorem Gr.at {W w1 : World} (hb : Gr W w1) {b o : Nat} {v : Value} (h : W.cell? ⟨b, o, none⟩ = some v) : w1.cell? ⟨b, o, none⟩ = some v := cell_later (a := ⟨b, o, none⟩) hb h
theorem Gr.free {W w1 : World} (hb : Gr W w1) {b o : Nat} {v : Value} (h : W.cell? ⟨b, o, none⟩ = some v) (hf : W.frozen? ⟨b, o, none⟩ = false) : w1.frozen? ⟨b, o, none⟩ = false := ((Gr.cells hb).2 b o (World.block_lt_of_cell? W ⟨b, o, none⟩ h)).trans hf
/-- The world has grown: shown from what stands here. -/
theorem gr_auto {a b : World} (h : Gr a b := by repeat' (first | (with_reducible exact Gr.refl _) | (with_reducible assumption) | (with_reducible refine Gr.alloc ?_ _) | (with_reducible refine Gr.drew ?_) | (with_reducible refine Gr.drewN ?_ _) | (with_reducible refine Gr.setCell ?_ ?_ _) | (with_reducible refine Gr.trans ?_ (by with_reducible assumption)) | go_size)) : Gr a b := h
theorem ret_int {k : IntKind} {a b : Int} (h : a = b) : Ending.returned (.int k a) = .returned (.int k b) := by rw [h]
/-- What a cell holds. -/
def cellOf (w : World) (b o : Nat) : Value := (w.cell? ⟨b, o, none⟩).getD (.bool false)
/-- The world has grown, and nothing that was there has turned but for what block R holds. -/
structure GrX (R : Nat) (w w' : World) : Prop where
  os : w'.os = w.os
  tape : w'.tape = w.tape
  output : w'.output = w.output
  size : w.heap.size ≤ w'.heap.size
  block : ∀ k, k < w.heap.size → k ≠ R → w'.heap[k]? = w.heap[k]?
  row : ∀ o, (w.cell? ⟨R, o, none⟩).isSome = true → (w'.cell? ⟨R, o, none⟩).isSome = true
  free : ∀ o, (w.cell? ⟨R, o, none⟩).isSome = true → w'.frozen? ⟨R, o, none⟩ = w.frozen? ⟨R, o, none⟩
theorem GrX.refl (R : Nat) (w : World) : GrX R w w := ⟨rfl, rfl, rfl, Nat.le_refl _, fun _ _ _ => rfl, fun _ h => h, fun _ _ => rfl⟩
theorem GrX.grown {R : Nat} {a b c : World} (h : GrX R a b) (k : Gr b c) : GrX R a c := by
  have hcell : ∀ o, (b.cell? ⟨R, o, none⟩).isSome = true → c.cell? ⟨R, o, none⟩ = b.cell? ⟨R, o, none⟩ := fun o ho => by
    obtain ⟨v, hv⟩ := Option.isSome_iff_exists.1 ho
    rw [hv]; exact Gr.at k hv
  refine ⟨k.os.trans h.os, k.tape.trans h.tape, k.output.trans h.output, Nat.le_trans h.size (Gr.size k), fun i hi hR => (Below.block k i (Nat.lt_of_lt_of_le hi h.size)).trans (h.block i hi hR), fun o ho => ?_, fun o ho => ?_⟩
  · rw [hcell o (h.row o ho)]; exact h.row o ho
  · obtain ⟨v, hv⟩ := Option.isSome_iff_exists.1 (h.row o ho)
    exact ((Gr.cells k).2 R o (World.block_lt_of_cell? b ⟨R, o, none⟩ hv)).trans (h.free o ho)
theorem GrX.drew {R : Nat} {a b : World} (h : GrX R a b) : GrX R a b.drew := h.grown (Gr.drew (Gr.refl _))
theorem GrX.drewN {R : Nat} {a b : World} (h : GrX R a b) (n : Nat) : GrX R a (b.drewN n) := h.grown (Gr.drewN (Gr.refl _) n)
theorem GrX.alloc {R : Nat} {a b : World} (h : GrX R a b) (o : Obj) : GrX R a (b.alloc o) := h.grown (Gr.alloc (Gr.refl _) o)
theorem GrX.setCell {R : Nat} {a b : World} (h : GrX R a b) {p : Addr} (hp : p.block = R) (u : Value) : GrX R a (b.setCell p u) := by
  subst hp
  refine ⟨h.os, h.tape, h.output, by simpa [World.setCell] using h.size, fun i hi hR => (Below.heap_setCell _ _ _ _ hR).trans (h.block i hi hR), fun o ho => ?_, fun o ho => ?_⟩
  · by_cases e : (⟨p.block, o, none⟩ : Addr) = p
    · have hr := h.row o ho
      rw [e] at hr ⊢
      rw [World.cell?_setCell_same' _ _ _ hr]; rfl
    · rw [World.cell?_setCell_other _ _ _ _ (Ne.symm e)]; exact h.row o ho
  · rw [← h.free o ho]
    simp [go_sem]
theorem GrX.at {R : Nat} {w w' : World} (h : GrX R w w') {b o : Nat} {v : Value} (hb : b ≠ R) (hc : w.cell? ⟨b, o, none⟩ = some v) : w'.cell? ⟨b, o, none⟩ = some v := by
  have hlt := World.block_lt_of_cell? w ⟨b, o, none⟩ hc
  rw [← hc]; exact World.cell?_of_block (w := w) (h.block b hlt hb)
theorem GrX.own {R : Nat} {w w' : World} (h : GrX R w w') {o : Nat} (hc : (w.cell? ⟨R, o, none⟩).isSome = true) : w'.cell? ⟨R, o, none⟩ = some (cellOf w' R o) := by
  obtain ⟨v, hv⟩ := Option.isSome_iff_exists.1 (h.row o hc)
  unfold cellOf; rw [hv]; rfl
theorem GrX.gr {R : Nat} {w W0 w' : World} (g : Gr w W0) (hR : w.heap.size ≤ R) (h : GrX R W0 w') : Gr w w' :=
  ⟨h.os.trans g.os, h.tape.trans g.tape, h.output.trans g.output, Nat.le_trans (Gr.size g) h.size, fun k hk => (h.block k (Nat.lt_of_lt_of_le hk (Gr.size g)) (by omega)).trans (Below.block g k hk)⟩
theorem name_world {P : Program} {c : Code} {Q : Exit → Act → World → Prop} {a : Act} {w : World} (h : ∀ W, W = w → Code.wp P c Q a W) : Code.wp P c Q a w := h w rfl
end Go.Proofs.YtllkiadedaghoaaGreatDoor
set_option linter.unusedVariables false
set_option linter.unusedSimpArgs false
namespace Go.Proofs.YtllkiadedaghoaaGreatDoor
namespace Ck
/-- One more day in February. -/
def lpB (y : Int) : Bool := ((y % 4 == 0) && (y % 100 != 0)) || (y % 400 == 0)
def lp (y : Int) : Int := if lpB y then 1 else 0
theorem lp_01 (y : Int) : 0 ≤ lp y ∧ lp y ≤ 1 := by unfold lp; split <;> omega
theorem lpB_iff (y : Int) : lpB y = true ↔ (y % 4 = 0 ∧ y % 100 ≠ 0) ∨ y % 400 = 0 := by
  unfold lpB; simp only [Bool.or_eq_true, Bool.and_eq_true, beq_iff_eq, bne_iff_ne, ne_eq]
theorem lp_one {y : Int} (h : (y % 4 = 0 ∧ y % 100 ≠ 0) ∨ y % 400 = 0) : lp y = 1 := by unfold lp; rw [(lpB_iff y).2 h]; rfl
theorem lp_zero {y : Int} (h : ¬ ((y % 4 = 0 ∧ y % 100 ≠ 0) ∨ y % 400 = 0)) : lp y = 0 := by
  unfold lp; cases hb : lpB y
  · rfl
  · exact absurd ((lpB_iff y).1 hb) h
theorem lp_cases (y : Int) : (lp y = 1 ∧ ((y % 4 = 0 ∧ y % 100 ≠ 0) ∨ y % 400 = 0)) ∨ (lp y = 0 ∧ ¬ ((y % 4 = 0 ∧ y % 100 ≠ 0) ∨ y % 400 = 0)) := by
  by_cases h : (y % 4 = 0 ∧ y % 100 ≠ 0) ∨ y % 400 = 0
  · exact Or.inl ⟨lp_one h, h⟩
  · exact Or.inr ⟨lp_zero h, h⟩
/-- The length of a month, in a year that is no leap year. -/
def tab (m : Int) : Int := if m = 2 then 28 else if m = 4 ∨ m = 6 ∨ m = 9 ∨ m = 11 then 30 else 31
/-- The length of a month. -/
def mlen (y m : Int) : Int := if m = 2 then 28 + lp y else tab m
theorem mlen_bd (y m : Int) : 28 ≤ mlen y m ∧ mlen y m ≤ 31 := by
  have := lp_01 y; unfold mlen tab; split <;> (try split) <;> (try split) <;> omega
/-- The number of the first day of a year. -/
def bef (y : Int) : Int := 365 * (y - 1) + (y - 1) / 4 - (y - 1) / 100 + (y - 1) / 400 - 730119
theorem bef_succ (y : Int) : bef (y + 1) = bef y + 365 + lp y := by
  unfold bef; rcases lp_cases y with ⟨e, h⟩ | ⟨e, h⟩ <;> rw [e] <;> omega
theorem bef_bd (y : Int) (h0 : 0 ≤ y) (h1 : y ≤ 10001) : -730485 ≤ bef y ∧ bef y ≤ 2922759 := by unfold bef; omega
theorem bef_lo : bef 1 = -730119 := rfl
theorem bef_hi : bef 10000 = 2921940 := by decide
theorem bef_mono {a b : Int} (h : a ≤ b) : bef a ≤ bef b := by unfold bef; omega
/-- The days of a year ahead of a month. -/
def cum (y m : Int) : Int :=
  if m ≤ 1 then 0 else if m = 2 then 31 else lp y + (if m = 3 then 59 else if m = 4 then 90 else if m = 5 then 120 else if m = 6 then 151 else if m = 7 then 181 else if m = 8 then 212 else if m = 9 then 243 else if m = 10 then 273 else if m = 11 then 304 else if m = 12 then 334 else 365)
theorem months {m : Int} (h1 : 1 ≤ m) (h2 : m ≤ 12) : m = 1 ∨ m = 2 ∨ m = 3 ∨ m = 4 ∨ m = 5 ∨ m = 6 ∨ m = 7 ∨ m = 8 ∨ m = 9 ∨ m = 10 ∨ m = 11 ∨ m = 12 := by omega
theorem cum_succ (y m : Int) (h1 : 1 ≤ m) (h2 : m ≤ 12) : cum y (m + 1) = cum y m + mlen y m := by
  rcases months h1 h2 with rfl | rfl | rfl | rfl | rfl | rfl | rfl | rfl | rfl | rfl | rfl | rfl <;> simp [cum, mlen, tab] <;> omega
theorem cum_one (y : Int) : cum y 1 = 0 := rfl
theorem cum_end (y : Int) : cum y 13 = 365 + lp y := by simp [cum]; omega
theorem cum_bd (y m : Int) : 0 ≤ cum y m ∧ cum y m ≤ 366 := by
  have := lp_01 y; unfold cum; repeat' (first | omega | split)
theorem cum_mono (y : Int) {a b : Int} (h0 : 1 ≤ a) (h : a ≤ b) (hb : b ≤ 13) : cum y a ≤ cum y b := by
  obtain ⟨k, rfl⟩ : ∃ k : Nat, b = a + k := ⟨(b - a).toNat, by omega⟩
  clear h
  induction k with
  | zero => simp
  | succ k ih =>
    have := cum_succ y (a + k) (by omega) (by omega)
    have := mlen_bd y (a + k)
    have := ih (by omega)
    rw [show a + ((k + 1 : Nat) : Int) = a + k + 1 by omega]; omega
/-- The number of a date. -/
def num (y m d : Int) : Int := bef y + cum y m + d - 1
/-- Is it a date? -/
def vld (y m d : Int) : Bool := decide (1 ≤ y) && decide (y ≤ 9999) && decide (1 ≤ m) && decide (m ≤ 12) && decide (1 ≤ d) && decide (d ≤ mlen y m)
theorem vld_iff (y m d : Int) : vld y m d = true ↔ 1 ≤ y ∧ y ≤ 9999 ∧ 1 ≤ m ∧ m ≤ 12 ∧ 1 ≤ d ∧ d ≤ mlen y m := by
  unfold vld; simp only [Bool.and_eq_true, decide_eq_true_eq]
  constructor
  · rintro ⟨⟨⟨⟨⟨a, b⟩, c⟩, d⟩, e⟩, f⟩; exact ⟨a, b, c, d, e, f⟩
  · rintro ⟨a, b, c, d, e, f⟩; exact ⟨⟨⟨⟨⟨a, b⟩, c⟩, d⟩, e⟩, f⟩
theorem num_year {y m d : Int} (hv : vld y m d = true) : bef y ≤ num y m d ∧ num y m d < bef (y + 1) := by
  obtain ⟨_, _, h3, h4, h5, h6⟩ := (vld_iff y m d).1 hv
  have a := cum_bd y m; have b := cum_succ y m h3 h4
  have c := cum_mono y (a := m + 1) (b := 13) (by omega) (by omega) (by omega)
  have d := cum_end y; have e := bef_succ y
  unfold num; omega
theorem num_bd {y m d : Int} (hv : vld y m d = true) : -730119 ≤ num y m d ∧ num y m d ≤ 2921939 := by
  obtain ⟨a, b⟩ := num_year hv
  obtain ⟨h1, h2, _⟩ := (vld_iff y m d).1 hv
  have := bef_mono h1; have := bef_mono (a := y + 1) (b := 10000) (by omega)
  have := bef_lo; have := bef_hi; omega
theorem year_of (n : Int) (h0 : -730119 ≤ n) : ∀ k : Nat, n < bef ((k : Int) + 1) → ∃ y : Int, 1 ≤ y ∧ y ≤ k ∧ bef y ≤ n ∧ n < bef (y + 1)
  | 0, h => by have := bef_lo; simp at h; omega
  | k + 1, h => by
    by_cases hk : n < bef ((k : Int) + 1)
    · obtain ⟨y, a, b, c, d⟩ := year_of n h0 k hk
      exact ⟨y, a, by omega, c, d⟩
    · exact ⟨(k : Int) + 1, by omega, by omega, by omega, by simpa using h⟩
theorem month_of (y r : Int) (h0 : 0 ≤ r) : ∀ k : Nat, k ≤ 12 → r < cum y ((k : Int) + 1) → ∃ m : Int, 1 ≤ m ∧ m ≤ k ∧ cum y m ≤ r ∧ r < cum y (m + 1)
  | 0, _, h => by have := cum_one y; simp at h; omega
  | k + 1, hk', h => by
    by_cases hk : r < cum y ((k : Int) + 1)
    · obtain ⟨m, a, b, c, d⟩ := month_of y r h0 k (by omega) hk
      exact ⟨m, a, by omega, c, d⟩
    · exact ⟨(k : Int) + 1, by omega, by omega, by omega, by simpa using h⟩
theorem exists_date (n : Int) (h0 : -730119 ≤ n) (h1 : n ≤ 2921939) : ∃ y m d : Int, vld y m d = true ∧ num y m d = n := by
  obtain ⟨y, a, b, c, e⟩ := year_of n h0 9999 (by have := bef_hi; simp; omega)
  have s := bef_succ y; have t := cum_end y
  obtain ⟨m, f, g, h, i⟩ := month_of y (n - bef y) (by omega) 12 (by omega) (by simp; omega)
  have u := cum_succ y m f (by omega)
  refine ⟨y, m, n - bef y - cum y m + 1, (vld_iff _ _ _).2 ⟨a, by omega, f, by omega, by omega, by omega⟩, by unfold num; omega⟩
/-- A division, rounded down. -/
theorem tdiv_floor (a b : Int) (hb : 0 < b) : (if a.tmod b < 0 then a.tdiv b - 1 else a.tdiv b) = a / b := by
  have e := Int.mul_tdiv_add_tmod a b
  have f := Int.mul_ediv_add_emod a b
  have g := Int.emod_nonneg a (show b ≠ 0 by omega)
  have h := Int.emod_lt_of_pos a hb
  have i : a.tdiv b = if 0 ≤ a ∨ b ∣ a then a / b else a / b + 1 := by
    rw [Int.tdiv_eq_ediv]; by_cases k : 0 ≤ a ∨ b ∣ a <;> simp [k]; omega
  by_cases k : 0 ≤ a ∨ b ∣ a
  · rw [if_pos k] at i
    rw [i] at e ⊢
    have : a.tmod b = a % b := by omega
    rw [if_neg (by omega)]
  · rw [if_neg k] at i
    rw [i] at e ⊢
    rw [Int.mul_add] at e
    have : a.tmod b = a % b - b := by omega
    have hz : a % b ≠ 0 := fun hz => k (Or.inr (Int.dvd_of_emod_eq_zero hz))
    rw [if_pos (by omega)]; omega
end Ck
end Go.Proofs.YtllkiadedaghoaaGreatDoor
set_option linter.unusedVariables false
set_option linter.unusedSimpArgs false
namespace Go.Proofs.YtllkiadedaghoaaGreatDoor
namespace Ck
def inst (t : Int) : Bool := decide (-68719476736 ≤ t) && decide (t ≤ 68719476736)
def len (n : Int) : Bool := decide (1 ≤ n) && decide (n ≤ 86400)
theorem inst_iff (t : Int) : inst t = true ↔ -68719476736 ≤ t ∧ t ≤ 68719476736 := by unfold inst; simp only [Bool.and_eq_true, decide_eq_true_eq]
theorem inst_no {t : Int} (h : inst t = false) : t < -68719476736 ∨ 68719476736 < t := by
  unfold inst at h; simp only [Bool.and_eq_false_iff, decide_eq_false_iff_not] at h; omega
theorem div_bd {n s B : Int} (hs : 1 ≤ s) (h0 : -B ≤ n) (h1 : n ≤ B) : -B ≤ n / s ∧ n / s ≤ B := by
  have hB : 0 ≤ B := by omega
  have hm := Int.mul_le_mul_of_nonneg_left hs hB
  constructor
  · rw [Int.le_ediv_iff_mul_le (by omega), Int.neg_mul]; omega
  · have := Int.ediv_le_ediv (show 0 < s by omega) h1
    have h2 : B / s ≤ B := by
      have := Int.ediv_le_self s hB; exact this
    omega
end Ck
end Go.Proofs.YtllkiadedaghoaaGreatDoor
set_option linter.unusedVariables false
set_option linter.unusedSimpArgs false
namespace Go.Proofs.YtllkiadedaghoaaGreatDoor
open Go.RowKit
theorem ck_ret_bool {a b : Bool} (h : a = b) : Ending.returned (.bool a) = .returned (.bool b) := by rw [h]
set_option maxHeartbeats 400000 in
theorem leap_any (y : Int) (w : World) (h0 : 0 ≤ y) (h1 : y ≤ 100000) :
    Calls Tryz.prog 176 #[.int .i64 y] w fun e w' => e = .returned (.bool (Ck.lpB y)) ∧ w = w' := by
  have hl : Ck.lpB y = (((y % 4 == 0) && (y % 100 != 0)) || (y % 400 == 0)) := rfl
  have HL := Lib.hid hl; clear hl
  cases a : (y % 4 == 0) <;> cases b : (y % 100 != 0) <;> cases c : (y % 400 == 0)
  all_goals
    go_enter Tryz.func176, Tryz.ntmps176
    go_wp2
    go_ret
    exact ⟨ck_ret_bool (by rw [HL.out]; simp [a, b, c]), rfl⟩
set_option maxHeartbeats 400000 in
theorem rleap_any (y : Int) (w : World) (h0 : 0 ≤ y) (h1 : y ≤ 100000) :
    Calls Tryz.prog 191 #[.int .i64 y] w fun e w' => e = .returned (.bool (Ck.lpB y)) ∧ w = w' := by
  have hm : y % 400 = 0 → y % 4 = 0 := by omega
  have hl : Ck.lpB y = ((y % 4 == 0) && ((y % 100 != 0) || (y % 400 == 0))) := by
    unfold Ck.lpB
    cases a : (y % 4 == 0) <;> cases b : (y % 100 != 0) <;> cases c : (y % 400 == 0) <;> simp_all
  have HL := Lib.hid hl; clear hl hm
  cases a : (y % 4 == 0) <;> cases b : (y % 100 != 0) <;> cases c : (y % 400 == 0)
  all_goals
    go_enter Tryz.func191, Tryz.ntmps191
    go_wp2
    go_ret
    exact ⟨ck_ret_bool (by rw [HL.out]; simp [a, b, c]), rfl⟩
theorem tab_lp {y : Int} (h : Ck.lpB y = true) : Ck.mlen y 2 = 29 := by unfold Ck.mlen Ck.lp; rw [h]; rfl
theorem tab_no {y m : Int} (h : m = 2 → Ck.lpB y = false) : Ck.mlen y m = Ck.tab m := by
  unfold Ck.mlen Ck.lp
  by_cases hm : m = 2
  · rw [if_pos hm, h hm]; subst hm; rfl
  · rw [if_neg hm]
theorem ret_int' {k : IntKind} {a b : Int} (h : a = b) : Ending.returned (.int k b) = .returned (.int k a) := by rw [h]
set_option maxHeartbeats 800000 in
theorem month_any (y m : Int) (w : World) (h0 : 0 ≤ y) (h1 : y ≤ 100000) (m1 : 1 ≤ m) (m2 : m ≤ 12) :
    Calls Tryz.prog 148 #[.int .i64 y, .int .i64 m] w fun e w' => e = .returned (.int .i64 (Ck.mlen y m)) ∧ Gr w w' := by
  have HL := Lib.hid (fun W => leap_any y W h0 h1)
  cases hb : Ck.lpB y
  · rw [tab_no (m := m) fun _ => hb]
    rw [hb] at HL
    rcases Ck.months m1 m2 with rfl | rfl | rfl | rfl | rfl | rfl | rfl | rfl | rfl | rfl | rfl | rfl
    all_goals
      clear hb h0 h1 m1 m2
      go_enter Tryz.func148, Tryz.ntmps148
      go_wp2_with (go_at_call 176; refine (HL.out _).mono ?_; rintro e w' ⟨rfl, rfl⟩)
      go_ret
      exact ⟨ret_int' rfl, gr_auto⟩
  · rw [hb] at HL
    by_cases hm : m = 2
    · subst hm
      rw [tab_lp hb]
      clear hb h0 h1 m1 m2
      go_enter Tryz.func148, Tryz.ntmps148
      go_wp2_with (go_at_call 176; refine (HL.out _).mono ?_; rintro e w' ⟨rfl, rfl⟩)
      go_ret
      exact ⟨rfl, gr_auto⟩
    · rw [tab_no fun h => absurd h hm]
      rcases Ck.months m1 m2 with rfl | rfl | rfl | rfl | rfl | rfl | rfl | rfl | rfl | rfl | rfl | rfl
      all_goals
        clear hb h0 h1 m1 m2
        first
        | (exact absurd rfl hm)
        | (clear hm
           go_enter Tryz.func148, Tryz.ntmps148
           go_wp2_with (go_at_call 176; refine (HL.out _).mono ?_; rintro e w' ⟨rfl, rfl⟩)
           go_ret
           exact ⟨ret_int' rfl, gr_auto⟩)
set_option maxHeartbeats 400000 in
theorem before_any (y : Int) (w : World) (h0 : 1 ≤ y) (h1 : y ≤ 10002) :
    Calls Tryz.prog 145 #[.int .i64 y] w fun e w' => e = .returned (.int .i64 (Ck.bef y)) ∧ w = w' := by
  go_enter Tryz.func145, Tryz.ntmps145
  go_wp2
  go_ret
  exact ⟨ret_int (by unfold Ck.bef; rfl), rfl⟩
set_option maxHeartbeats 400000 in
theorem instant_any (t : Int) (w : World) :
    Calls Tryz.prog 101 #[.int .i64 t] w fun e w' => e = .returned (.bool (Ck.inst t)) ∧ w = w' := by
  cases h : Ck.inst t
  · rcases Ck.inst_no h with k | k
    · have a : decide (-68719476736 ≤ t) = false := decide_eq_false (by omega)
      clear k h
      go_enter Tryz.func101, Tryz.ntmps101
      go_wp2
      go_ret
      exact ⟨rfl, rfl⟩
    · have a : decide (-68719476736 ≤ t) = true := decide_eq_true (by omega)
      have b : decide (t ≤ 68719476736) = false := decide_eq_false (by omega)
      clear k h
      go_enter Tryz.func101, Tryz.ntmps101
      go_wp2
      go_ret
      exact ⟨rfl, rfl⟩
  · obtain ⟨k, l⟩ := (Ck.inst_iff t).1 h
    have a : decide (-68719476736 ≤ t) = true := decide_eq_true (by omega)
    have b : decide (t ≤ 68719476736) = true := decide_eq_true (by omega)
    clear k l h
    go_enter Tryz.func101, Tryz.ntmps101
    go_wp2
    go_ret
    exact ⟨rfl, rfl⟩
end Go.Proofs.YtllkiadedaghoaaGreatDoor
set_option linter.unusedVariables false
set_option linter.unusedSimpArgs false
namespace Go.Proofs.YtllkiadedaghoaaGreatDoor
open Go.RowKit
set_option maxHeartbeats 400000 in
theorem floor_any (a b : Int) (w : World) (b0 : 1 ≤ b) (b1 : b ≤ 1099511627776) (a0 : -4611686018427387904 ≤ a) (a1 : a ≤ 4611686018427387904) :
    Calls Tryz.prog 102 #[.int .i64 a, .int .i64 b] w fun e w' => e = .returned (.int .i64 (a / b)) ∧ w = w' := by
  have hf := Ck.tdiv_floor a b (by omega)
  obtain ⟨q0, q1⟩ := Ck.div_bd (n := a) (B := 4611686018427387904) b0 (by omega) (by omega)
  have hz : (b == 0) = false := beq_eq_false_iff_ne.2 (by omega)
  by_cases hr : a.tmod b < 0
  · have hd : decide (a.tmod b < 0) = true := decide_eq_true hr
    rw [if_pos hr] at hf
    have HF := Lib.hid hf; clear hf hr
    go_enter Tryz.func102, Tryz.ntmps102
    go_wp2
    go_ret
    exact ⟨ret_int (by rw [HF.out]; exact IntWalk.wrap64_in _ (by omega)), rfl⟩
  · have hd : decide (a.tmod b < 0) = false := decide_eq_false hr
    rw [if_neg hr] at hf
    have HF := Lib.hid hf; clear hf hr
    go_enter Tryz.func102, Tryz.ntmps102
    go_wp2
    go_ret
    exact ⟨ret_int HF.out, rfl⟩
theorem rfloor_eq (a b : Int) : a - a.tdiv b * b = a.tmod b := by
  have := Int.mul_tdiv_add_tmod a b; rw [Int.mul_comm] at this; omega
set_option maxHeartbeats 400000 in
theorem rfloor_any (a b : Int) (w : World) (b0 : 1 ≤ b) (b1 : b ≤ 1099511627776) (a0 : -4611686018427387904 ≤ a) (a1 : a ≤ 4611686018427387904) :
    Calls Tryz.prog 117 #[.int .i64 a, .int .i64 b] w fun e w' => e = .returned (.int .i64 (a / b)) ∧ w = w' := by
  have hf := Ck.tdiv_floor a b (by omega)
  obtain ⟨q0, q1⟩ := Ck.div_bd (n := a) (B := 4611686018427387904) b0 (by omega) (by omega)
  have hz : (b == 0) = false := beq_eq_false_iff_ne.2 (by omega)
  have he := rfloor_eq a b
  have hm0 : -1099511627776 ≤ a.tmod b := by have := Int.lt_tmod_of_pos a (show 0 < b by omega); omega
  have hm1 : a.tmod b ≤ 1099511627776 := by have := Int.tmod_lt_of_pos a (show 0 < b by omega); omega
  have p0 : -4611687117939015680 ≤ a.tdiv b * b := by omega
  have p1 : a.tdiv b * b ≤ 4611687117939015680 := by omega
  have r0 : -1099511627776 ≤ a - a.tdiv b * b := by omega
  have r1 : a - a.tdiv b * b ≤ 1099511627776 := by omega
  by_cases hr : a.tmod b < 0
  · have hd : decide (a - a.tdiv b * b < 0) = true := decide_eq_true (by omega)
    rw [if_pos hr] at hf
    have HF := Lib.hid hf; clear hf hr he
    go_enter Tryz.func117, Tryz.ntmps117
    go_wp2
    go_ret
    exact ⟨ret_int (by rw [HF.out]; exact IntWalk.wrap64_in _ (by omega)), rfl⟩
  · have hd : decide (a - a.tdiv b * b < 0) = false := decide_eq_false (by omega)
    rw [if_neg hr] at hf
    have HF := Lib.hid hf; clear hf hr he
    go_enter Tryz.func117, Tryz.ntmps117
    go_wp2
    go_ret
    exact ⟨ret_int HF.out, rfl⟩
set_option maxHeartbeats 400000 in
theorem rinstant_any (t : Int) (w : World) :
    Calls Tryz.prog 116 #[.int .i64 t] w fun e w' => e = .returned (.bool (Ck.inst t)) ∧ w = w' := by
  cases h : Ck.inst t
  · rcases Ck.inst_no h with k | k
    · have a : decide (-68719476736 ≤ t) = false := decide_eq_false (by omega)
      clear k h
      go_enter Tryz.func116, Tryz.ntmps116
      go_wp2
      go_ret
      exact ⟨rfl, rfl⟩
    · have a : decide (-68719476736 ≤ t) = true := decide_eq_true (by omega)
      have b : decide (t ≤ 68719476736) = false := decide_eq_false (by omega)
      clear k h
      go_enter Tryz.func116, Tryz.ntmps116
      go_wp2
      go_ret
      exact ⟨rfl, rfl⟩
  · obtain ⟨k, l⟩ := (Ck.inst_iff t).1 h
    have a : decide (-68719476736 ≤ t) = true := decide_eq_true (by omega)
    have b : decide (t ≤ 68719476736) = true := decide_eq_true (by omega)
    clear k l h
    go_enter Tryz.func116, Tryz.ntmps116
    go_wp2
    go_ret
    exact ⟨rfl, rfl⟩
end Go.Proofs.YtllkiadedaghoaaGreatDoor
set_option linter.unusedVariables false
set_option linter.unusedSimpArgs false
namespace Go.Proofs.YtllkiadedaghoaaGreatDoor
open Go.RowKit
set_option maxHeartbeats 800000 in
theorem rdays_any (y m : Int) (w : World) (h0 : 0 ≤ y) (h1 : y ≤ 100000) (m1 : 1 ≤ m) (m2 : m ≤ 12) :
    Calls Tryz.prog 160 #[.int .i64 y, .int .i64 m] w fun e w' => e = .returned (.int .i64 (Ck.mlen y m)) ∧ Gr w w' := by
  have HL := Lib.hid (fun W => rleap_any y W h0 h1)
  cases hb : Ck.lpB y
  · rw [tab_no (m := m) fun _ => hb]
    rw [hb] at HL
    rcases Ck.months m1 m2 with rfl | rfl | rfl | rfl | rfl | rfl | rfl | rfl | rfl | rfl | rfl | rfl
    all_goals
      clear hb h0 h1 m1 m2
      go_enter Tryz.func160, Tryz.ntmps160
      go_wp2_with (go_at_call 191; refine (HL.out _).mono ?_; rintro e w' ⟨rfl, rfl⟩)
      go_ret
      exact ⟨ret_int' rfl, gr_auto⟩
  · rw [hb] at HL
    by_cases hm : m = 2
    · subst hm
      rw [tab_lp hb]
      clear hb h0 h1 m1 m2
      go_enter Tryz.func160, Tryz.ntmps160
      go_wp2_with (go_at_call 191; refine (HL.out _).mono ?_; rintro e w' ⟨rfl, rfl⟩)
      go_ret
      exact ⟨rfl, gr_auto⟩
    · rw [tab_no fun h => absurd h hm]
      rcases Ck.months m1 m2 with rfl | rfl | rfl | rfl | rfl | rfl | rfl | rfl | rfl | rfl | rfl | rfl
      all_goals
        clear hb h0 h1 m1 m2
        first
        | (exact absurd rfl hm)
        | (clear hm
           go_enter Tryz.func160, Tryz.ntmps160
           go_wp2_with (go_at_call 191; refine (HL.out _).mono ?_; rintro e w' ⟨rfl, rfl⟩)
           go_ret
           exact ⟨ret_int' rfl, gr_auto⟩)
set_option maxHeartbeats 400000 in
theorem rbefore_any (y : Int) (w : World) (h0 : 1 ≤ y) (h1 : y ≤ 10002) :
    Calls Tryz.prog 159 #[.int .i64 y] w fun e w' => e = .returned (.int .i64 (Ck.bef y + 730119)) ∧ w = w' := by
  have HE := Lib.hid (show Ck.bef y + 730119 = 365 * (y - 1) + (y - 1) / 4 - (y - 1) / 100 + (y - 1) / 400 by unfold Ck.bef; omega)
  go_enter Tryz.func159, Tryz.ntmps159
  go_wp2
  go_ret
  exact ⟨ret_int HE.out.symm, rfl⟩
end Go.Proofs.YtllkiadedaghoaaGreatDoor
set_option linter.unusedVariables false
set_option linter.unusedSimpArgs false
namespace Go.Proofs.YtllkiadedaghoaaGreatDoor
open Go.RowKit
theorem Ck.bef_2000 : Ck.bef 2000 = 0 := by decide
theorem Ck.bef_inv {a b : Int} (h : Ck.bef a < Ck.bef b) : a < b := by
  rcases Int.lt_or_le a b with k | k
  · exact k
  · have := Ck.bef_mono k; omega
set_option maxHeartbeats 1000000 in
theorem ck_rnumber_any (y m d : Int) (w : World) (hv : Ck.vld y m d = true) :
    Calls Tryz.prog 158 #[.agg #[.int .i64 y, .int .i64 m, .int .i64 d]] w fun e w' => e = .returned (.int .i64 (Ck.num y m d)) ∧ Gr w w' := by
  obtain ⟨v1, v2, v3, v4, v5, v6⟩ := (Ck.vld_iff y m d).1 hv
  obtain ⟨l0, l1⟩ := Ck.mlen_bd y m
  obtain ⟨c0, c1⟩ := Ck.bef_bd y (by omega) (by omega)
  clear hv
  go_enter Tryz.func158, Tryz.ntmps158
  
  go_wp2_with fail
  refine name_world ?_; intro W0 hW0
  have g0 : Gr w W0 := by rw [hW0]; exact gr_auto
  have k0_0 : ∀ w', Gr W0 w' → w'.cell? ⟨w.heap.size, 0, none⟩ = some (.int .i64 y) := fun w' hgW => by first | exact (Gr.at hgW (by rw [hW0]; simp [go_sem, *]))
  have k0_1 : ∀ w', Gr W0 w' → w'.cell? ⟨w.heap.size, 1, none⟩ = some (.int .i64 m) := fun w' hgW => by first | exact (Gr.at hgW (by rw [hW0]; simp [go_sem, *]))
  have k0_2 : ∀ w', Gr W0 w' → w'.cell? ⟨w.heap.size, 2, none⟩ = some (.int .i64 d) := fun w' hgW => by first | exact (Gr.at hgW (by rw [hW0]; simp [go_sem, *]))
  clear hW0
  have zW0 := Gr.size g0
  go_region_held3 (fun w' => Gr W0 w') (exact gr_auto) (first | (go_at_call 159; refine (rbefore_any _ _ (by omega) (by omega)).mono ?_; rintro e w' ⟨rfl, rfl⟩))
  all_goals
    go_wp2_with fail
    go_loopw [3, 4] (fun p q wr => ∃ k : Int, 1 ≤ k ∧ k ≤ m ∧ q = .int .i64 k ∧ p = .int .i64 (Ck.bef y + d - 1 + Ck.cum y k) ∧ Gr w wr ∧ wr.cell? ⟨w.heap.size, 0, none⟩ = some (.int .i64 y) ∧ wr.cell? ⟨w.heap.size, 1, none⟩ = some (.int .i64 m) ∧ wr.cell? ⟨w.heap.size, 2, none⟩ = some (.int .i64 d)) (fun _ q _ => (m - intOf q).toNat)
    case atStart => exact ⟨1, by omega, by omega, rfl, by rw [Ck.cum_one]; exact congrArg (Value.int IntKind.i64) (by have e2 := Ck.bef_2000; go_arith), gr_auto, (by first | (simp [go_sem, *]; done) | ((try simp [go_sem, *]); refine World.cell?_setCell_same' _ _ _ ?_; simp [go_sem, *]; done)), (by first | (simp [go_sem, *]; done) | ((try simp [go_sem, *]); refine World.cell?_setCell_same' _ _ _ ?_; simp [go_sem, *]; done)), (by first | (simp [go_sem, *]; done) | ((try simp [go_sem, *]); refine World.cell?_setCell_same' _ _ _ ?_; simp [go_sem, *]; done))⟩
    case round =>
      obtain ⟨k, k1, k2, rfl, rfl, hg, hc0, hc1, hc2⟩ := hrel
      have hlt := World.block_lt_of_cell? wr ⟨w.heap.size, 0, none⟩ hc0
      have hs := Ck.cum_bd y k
      by_cases hk : k < m
      · have HS := Lib.hid (Ck.cum_succ y k k1 (by omega))
        obtain ⟨n0, n1⟩ := Ck.mlen_bd y k
        go_wp2_with (go_at_call 160; refine (rdays_any _ _ _ (by omega) (by omega) (by omega) (by omega)).mono ?_; rintro e w1 ⟨rfl, hb1⟩; obtain ⟨hcc, hff⟩ := Gr.cells hb1)
        go_roundw
        case rel => exact ⟨k + 1, by omega, by omega, by go_num, by rw [HS.out]; exact congrArg (Value.int IntKind.i64) (by omega), gr_auto, (by first | (simp [go_sem, *]; done) | ((try simp [go_sem, *]); refine World.cell?_setCell_same' _ _ _ ?_; simp [go_sem, *]; done)), (by first | (simp [go_sem, *]; done) | ((try simp [go_sem, *]); refine World.cell?_setCell_same' _ _ _ ?_; simp [go_sem, *]; done)), (by first | (simp [go_sem, *]; done) | ((try simp [go_sem, *]); refine World.cell?_setCell_same' _ _ _ ?_; simp [go_sem, *]; done))⟩
        case measure => simp [intOf]; omega
      · obtain rfl : k = m := by omega
        go_wp2
        go_ret
        exact ⟨ret_int (by unfold Ck.num; omega), gr_auto⟩
set_option maxHeartbeats 400000 in
theorem late_any (b : Nat) (i n : Int) (w : World) (h0 : 0 ≤ i) (h1 : i ≤ 9998) (hc : w.cell? ⟨b, 0, none⟩ = some (.int .i64 n)) :
    Calls Tryz.prog 147 #[.int .i64 i, .pointer (some ⟨b, 0, none⟩)] w fun e w' => e = .returned (.bool (decide (n < Ck.bef (i + 2)))) ∧ Gr w w' := by
  have hw : IntKind.i64.wrap (i + 2) = i + 2 := IntWalk.i64_in _ (by omega)
  have q0 : 1 ≤ i + 2 := by omega
  have q1 : i + 2 ≤ 10002 := by omega
  go_enter Tryz.func147, Tryz.ntmps147
  go_wp2_with fail
  refine name_world ?_; intro W0 hW0
  have g0 : Gr w W0 := by rw [hW0]; exact gr_auto
  have k0_0 : ∀ w', Gr W0 w' → w'.cell? ⟨b, 0, none⟩ = some (.int .i64 n) := fun w' hgW => by first | exact (Gr.at hgW (by rw [hW0]; simp [go_sem, *]))
  clear hW0
  have zW0 := Gr.size g0
  go_region_held3 (fun w' => Gr W0 w') (exact gr_auto) (first | (go_at_call 145; refine (before_any _ _ (by assumption) (by assumption)).mono ?_; rintro e w' ⟨rfl, rfl⟩))
  all_goals
    go_wp2
    go_ret
    exact ⟨rfl, gr_auto⟩
set_option maxHeartbeats 1000000 in
theorem search_any (b : Nat) (n y : Int) (w : World) (hc : w.cell? ⟨b, 0, none⟩ = some (.int .i64 n)) (y0 : 1 ≤ y) (y1 : y ≤ 9999) (n0 : Ck.bef y ≤ n) (n1 : n < Ck.bef (y + 1)) :
    Calls Tryz.prog 146 #[.int .i64 9999, .func (.func 147) #[] #[.pointer (some ⟨b, 0, none⟩)]] w fun e w' => e = .returned (.int .i64 (y - 1)) ∧ Gr w w' := by
  go_enter Tryz.func146, Tryz.ntmps146
  go_wp2_with fail
  go_loopw [5, 6] (fun p q wr => ∃ lo hi : Int, 0 ≤ lo ∧ lo ≤ y - 1 ∧ y - 1 ≤ hi ∧ hi ≤ 9999 ∧ p = .int .i64 lo ∧ q = .int .i64 hi ∧ Gr w wr ∧ wr.cell? ⟨b, 0, none⟩ = some (.int .i64 n)) (fun p q _ => (intOf q - intOf p).toNat)
  case atStart => exact ⟨0, 9999, by omega, by omega, by omega, by omega, rfl, rfl, gr_auto, hc⟩
  case round =>
    obtain ⟨lo, hi, l0, l1, l2, l3, rfl, rfl, hg, hcc⟩ := hrel
    by_cases hlt : lo < hi
    · have hm : 0 ≤ (lo + hi) / 2 ∧ (lo + hi) / 2 ≤ 9998 := by omega
      obtain ⟨m0, m1⟩ := hm
      have hl := fun W hC => late_any b ((lo + hi) / 2) n W m0 m1 hC
      by_cases hp : n < Ck.bef ((lo + hi) / 2 + 2)
      · have hy : y ≤ (lo + hi) / 2 + 1 := by have := Ck.bef_inv (a := y) (b := (lo + hi) / 2 + 2) (by omega); omega
        rw [decide_eq_true hp] at hl
        have HL := Lib.hid hl; clear hl hp
        go_wp2_with (go_at_call 147; refine (HL.out _ (by assumption)).mono ?_; rintro e w1 ⟨rfl, hb1⟩)
        go_roundw
        case rel => exact ⟨lo, (lo + hi) / 2, by omega, by omega, by omega, by omega, rfl, by go_num, gr_auto, Gr.at hb1 hcc⟩
        case measure => simp [intOf]; omega
      · have hy : (lo + hi) / 2 + 2 ≤ y := by have := Ck.bef_inv (a := (lo + hi) / 2 + 2) (b := y + 1) (by omega); omega
        rw [decide_eq_false hp] at hl
        have HL := Lib.hid hl; clear hl hp
        go_wp2_with (go_at_call 147; refine (HL.out _ (by assumption)).mono ?_; rintro e w1 ⟨rfl, hb1⟩)
        go_roundw
        case rel => exact ⟨(lo + hi) / 2 + 1, hi, by omega, by omega, by omega, by omega, by go_num, rfl, gr_auto, Gr.at hb1 hcc⟩
        case measure => simp [intOf]; omega
    · obtain rfl : lo = y - 1 := by omega
      go_wp2
      go_ret
      exact ⟨rfl, gr_auto⟩
end Go.Proofs.YtllkiadedaghoaaGreatDoor
