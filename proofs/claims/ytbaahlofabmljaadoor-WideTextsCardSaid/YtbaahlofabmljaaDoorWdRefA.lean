import Derived.Test.YtbaahlofabmljaaDoorWdUse
import Derived.RegionTactic
import Derived.BigRegion
import Derived.StillTailTactics
set_option linter.unusedVariables false
set_option linter.unusedSimpArgs false
namespace Go.Proofs.YtbaahlofabmljaaDoor
open Go.RowKit
/-- What a cell holds. -/
def cellOf (w : World) (b o : Nat) : Value := (w.cell? ⟨b, o, none⟩).getD (.bool false)
/-- The world has grown, and nothing that was there has turned but for what block R holds. -/
structure GrX (R : Nat) (w w' : World) : Prop where
  os : w'.os = w.os
  tape : w'.tape = w.tape
  output : w'.output = w.output
  size : w.heap.size ≤ w'.heap.size
  block : ∀ k, k < w.heap.size → k ≠ R → w'.heap[k]? = w.heap[k]?
  row : ∀ o, (w.cell? ⟨R, o, none⟩).isSome = true → (w'.cell? ⟨R, o, none⟩).isSome = true
  free : ∀ o, (w.cell? ⟨R, o, none⟩).isSome = true → w'.frozen? ⟨R, o, none⟩ = w.frozen? ⟨R, o, none⟩
theorem GrX.refl (R : Nat) (w : World) : GrX R w w := ⟨rfl, rfl, rfl, Nat.le_refl _, fun _ _ _ => rfl, fun _ h => h, fun _ _ => rfl⟩
theorem GrX.grown {R : Nat} {a b c : World} (h : GrX R a b) (k : Gr b c) : GrX R a c := by
  have hcell : ∀ o, (b.cell? ⟨R, o, none⟩).isSome = true → c.cell? ⟨R, o, none⟩ = b.cell? ⟨R, o, none⟩ := fun o ho => by
    obtain ⟨v, hv⟩ := Option.isSome_iff_exists.1 ho
    rw [hv]; exact Gr.at k hv
  refine ⟨k.os.trans h.os, k.tape.trans h.tape, k.output.trans h.output, Nat.le_trans h.size (Gr.size k), fun i hi hR => (Below.block k i (Nat.lt_of_lt_of_le hi h.size)).trans (h.block i hi hR), fun o ho => ?_, fun o ho => ?_⟩
  · rw [hcell o (h.row o ho)]; exact h.row o ho
  · obtain ⟨v, hv⟩ := Option.isSome_iff_exists.1 (h.row o ho)
    exact ((Gr.cells k).2 R o (World.block_lt_of_cell? b ⟨R, o, none⟩ hv)).trans (h.free o ho)
theorem GrX.drew {R : Nat} {a b : World} (h : GrX R a b) : GrX R a b.drew := h.grown (Gr.drew (Gr.refl _))
theorem GrX.drewN {R : Nat} {a b : World} (h : GrX R a b) (n : Nat) : GrX R a (b.drewN n) := h.grown (Gr.drewN (Gr.refl _) n)
theorem GrX.alloc {R : Nat} {a b : World} (h : GrX R a b) (o : Obj) : GrX R a (b.alloc o) := h.grown (Gr.alloc (Gr.refl _) o)
theorem GrX.setCell {R : Nat} {a b : World} (h : GrX R a b) {p : Addr} (hp : p.block = R) (u : Value) : GrX R a (b.setCell p u) := by
  subst hp
  refine ⟨h.os, h.tape, h.output, by simpa [World.setCell] using h.size, fun i hi hR => (Below.heap_setCell _ _ _ _ hR).trans (h.block i hi hR), fun o ho => ?_, fun o ho => ?_⟩
  · by_cases e : (⟨p.block, o, none⟩ : Addr) = p
    · have hr := h.row o ho
      rw [e] at hr ⊢
      rw [World.cell?_setCell_same' _ _ _ hr]; rfl
    · rw [World.cell?_setCell_other _ _ _ _ (Ne.symm e)]; exact h.row o ho
  · rw [← h.free o ho]
    simp [go_sem]
theorem GrX.at {R : Nat} {w w' : World} (h : GrX R w w') {b o : Nat} {v : Value} (hb : b ≠ R) (hc : w.cell? ⟨b, o, none⟩ = some v) : w'.cell? ⟨b, o, none⟩ = some v := by
  have hlt := World.block_lt_of_cell? w ⟨b, o, none⟩ hc
  rw [← hc]; exact World.cell?_of_block (w := w) (h.block b hlt hb)
theorem GrX.own {R : Nat} {w w' : World} (h : GrX R w w') {o : Nat} (hc : (w.cell? ⟨R, o, none⟩).isSome = true) : w'.cell? ⟨R, o, none⟩ = some (cellOf w' R o) := by
  obtain ⟨v, hv⟩ := Option.isSome_iff_exists.1 (h.row o hc)
  unfold cellOf; rw [hv]; rfl
theorem GrX.unfrozen {R : Nat} {w w' : World} (h : GrX R w w') {o : Nat} (hf : (w.cell? ⟨R, o, none⟩).isSome = true ∧ w.frozen? ⟨R, o, none⟩ = false) : w'.frozen? ⟨R, o, none⟩ = false := (h.free o hf.1).trans hf.2
theorem GrX.gr {R : Nat} {w W0 w' : World} (g : Gr w W0) (hR : w.heap.size ≤ R) (h : GrX R W0 w') : Gr w w' :=
  ⟨h.os.trans g.os, h.tape.trans g.tape, h.output.trans g.output, Nat.le_trans (Gr.size g) h.size, fun k hk => (h.block k (Nat.lt_of_lt_of_le hk (Gr.size g)) (by omega)).trans (Below.block g k hk)⟩
theorem name_world {P : Program} {c : Code} {Q : Exit → Act → World → Prop} {a : Act} {w : World} (h : ∀ W, W = w → Code.wp P c Q a W) : Code.wp P c Q a w := h w rfl
namespace Wd
theorem mag_mag (v : Int) : mag (mag v) = mag v := mag_of_nonneg (mag_nonneg v)
theorem hi_mag (v : Int) : hi (mag v) = hi v := by unfold hi; rw [mag_mag]
theorem lo_mag (v : Int) : lo (mag v) = lo v := by unfold lo; rw [mag_mag]
/-- A number with a sign. -/
def sg (b : Bool) (m : Int) : Int := if b then -m else m
theorem hi_sg (b : Bool) (m : Int) : hi (sg b m) = hi m := by unfold sg; cases b; rfl; exact hi_neg m
theorem lo_sg (b : Bool) (m : Int) : lo (sg b m) = lo m := by unfold sg; cases b; rfl; exact lo_neg m
theorem mk_sg (b : Bool) {m : Int} (h : 0 ≤ m) : mk (hi m) (lo m) b = sg b m := by
  have a := hilo m; rw [mag_of_nonneg h] at a; unfold mk sg; cases b <;> simp <;> omega
theorem lt_words (x y : Int) : mag x < mag y ↔ hi x < hi y ∨ hi x = hi y ∧ lo x < lo y := by
  have a := hilo x; have b := hilo y
  have a0 := lo_nonneg x; have a1 := lo_lt x; have b0 := lo_nonneg y; have b1 := lo_lt y
  omega
end Wd
set_option maxHeartbeats 400000 in
theorem rsize_any (n : Int) (w : World) (h0 : -9223372036854775808 ≤ n) (h1 : n ≤ 9223372036854775807) :
    Calls Tryd.prog 55 #[.int .i64 n] w fun e w' => e = .returned (.int .u64 (Wd.mag n)) ∧ w = w' := by
  by_cases hn : n < 0
  · go_enter Tryd.func55, Tryd.ntmps55
    go_wp2
    go_ret
    exact ⟨ret_int (by rw [Wd.mag_of_neg hn, IntKind.wrap_u64, IntKind.wrap_u64]; omega), rfl⟩
  · have hn' : 0 ≤ n := by omega
    go_enter Tryd.func55, Tryd.ntmps55
    go_wp2
    go_ret
    exact ⟨ret_int (by rw [Wd.mag_of_nonneg hn']), rfl⟩

set_option maxHeartbeats 400000 in
theorem rless_any (x y : Int) (w : World) :
    Calls Tryd.prog 57 #[.agg #[.int .u64 (Wd.hi x), .int .u64 (Wd.lo x)], .agg #[.int .u64 (Wd.hi y), .int .u64 (Wd.lo y)]] w fun e w' => e = .returned (.bool (decide (Wd.mag x < Wd.mag y))) ∧ Gr w w' := by
  have hl := Wd.lt_words x y
  have e : decide (Wd.mag x < Wd.mag y) = (decide (Wd.hi x < Wd.hi y) || (Wd.hi x == Wd.hi y && decide (Wd.lo x < Wd.lo y))) := by
    rw [Bool.eq_iff_iff]; simp [hl]
  rw [e]
  clear hl e
  generalize Wd.hi x = a; generalize Wd.lo x = b; generalize Wd.hi y = c; generalize Wd.lo y = d
  by_cases h1 : a < c
  · have h1' : decide (a < c) = true := decide_eq_true h1
    go_enter Tryd.func57, Tryd.ntmps57
    go_wp2
    go_ret
    exact ⟨by simp [h1], (by repeat' (first | (with_reducible exact Gr.refl _) | (with_reducible assumption) | (with_reducible refine Gr.alloc ?_ _) | (with_reducible refine Gr.drew ?_) | (with_reducible refine Gr.drewN ?_ _) | (with_reducible refine Gr.setCell ?_ ?_ _) | (with_reducible refine Gr.trans ?_ (by with_reducible assumption)) | go_size))⟩
  · have h1' : decide (a < c) = false := decide_eq_false h1
    by_cases h2 : a = c
    · subst h2
      have h2' : (a == a) = true := by simp
      clear h1
      go_enter Tryd.func57, Tryd.ntmps57
      go_wp2
      all_goals
        go_ret
        exact ⟨by simp [*], (by repeat' (first | (with_reducible exact Gr.refl _) | (with_reducible assumption) | (with_reducible refine Gr.alloc ?_ _) | (with_reducible refine Gr.drew ?_) | (with_reducible refine Gr.drewN ?_ _) | (with_reducible refine Gr.setCell ?_ ?_ _) | (with_reducible refine Gr.trans ?_ (by with_reducible assumption)) | go_size))⟩
    · have h2' : (a == c) = false := by simpa using h2
      go_enter Tryd.func57, Tryd.ntmps57
      go_wp2
      go_ret
      exact ⟨by simp [*], (by repeat' (first | (with_reducible exact Gr.refl _) | (with_reducible assumption) | (with_reducible refine Gr.alloc ?_ _) | (with_reducible refine Gr.drew ?_) | (with_reducible refine Gr.drewN ?_ _) | (with_reducible refine Gr.setCell ?_ ?_ _) | (with_reducible refine Gr.trans ?_ (by with_reducible assumption)) | go_size))⟩

set_option maxHeartbeats 400000 in
theorem rplus_any (x y : Int) (w : World) (hxy : Wd.mag x + Wd.mag y ≤ 340282366920938463463374607431768211455) :
    Calls Tryd.prog 75 #[.agg #[.int .u64 (Wd.hi x), .int .u64 (Wd.lo x)], .agg #[.int .u64 (Wd.hi y), .int .u64 (Wd.lo y)]] w fun e w' => e = .returned (.agg #[.int .u64 (Wd.hi (Wd.mag x + Wd.mag y)), .int .u64 (Wd.lo (Wd.mag x + Wd.mag y))]) ∧ Gr w w' := by
  have a0 := Wd.lo_nonneg x; have a1 := Wd.lo_lt x; have b0 := Wd.lo_nonneg y; have b1 := Wd.lo_lt y
  have c0 := Wd.hi_nonneg x; have d0 := Wd.hi_nonneg y
  have e1 := Wd.hilo x; have e2 := Wd.hilo y
  have m1 := Wd.mag_nonneg x; have m2 := Wd.mag_nonneg y
  have h1 : Wd.hi (Wd.mag x + Wd.mag y) = (Wd.mag x + Wd.mag y) / 18446744073709551616 := by unfold Wd.hi; rw [Wd.mag_of_nonneg (by omega)]
  have h2 : Wd.lo (Wd.mag x + Wd.mag y) = (Wd.mag x + Wd.mag y) % 18446744073709551616 := by unfold Wd.lo; rw [Wd.mag_of_nonneg (by omega)]
  rw [h1, h2]
  rw [← e1, ← e2] at hxy ⊢
  clear h1 h2 e1 e2 m1 m2
  generalize Wd.hi x = a at *; generalize Wd.lo x = b at *; generalize Wd.hi y = c at *; generalize Wd.lo y = d at *
  by_cases hc : b + d ≤ 18446744073709551615
  · have r1 : (a * 18446744073709551616 + b + (c * 18446744073709551616 + d)) / 18446744073709551616 = a + c := by omega
    have r2 : (a * 18446744073709551616 + b + (c * 18446744073709551616 + d)) % 18446744073709551616 = b + d := by omega
    rw [r1, r2]
    have hac : a + c ≤ 18446744073709551615 := by omega
    have ht : decide (b + d < b) = false := decide_eq_false (by omega)
    clear r1 r2 hxy
    go_enter Tryd.func75, Tryd.ntmps75
    go_wp2
    go_returns
    exact ⟨by first | rfl | (simp; done), (by repeat' (first | (with_reducible exact Gr.refl _) | (with_reducible assumption) | (with_reducible refine Gr.alloc ?_ _) | (with_reducible refine Gr.drew ?_) | (with_reducible refine Gr.drewN ?_ _) | (with_reducible refine Gr.setCell ?_ ?_ _) | (with_reducible refine Gr.trans ?_ (by with_reducible assumption)) | go_size))⟩
  · have r1 : (a * 18446744073709551616 + b + (c * 18446744073709551616 + d)) / 18446744073709551616 = a + c + 1 := by omega
    have r2 : (a * 18446744073709551616 + b + (c * 18446744073709551616 + d)) % 18446744073709551616 = b + d - 18446744073709551616 := by omega
    rw [r1, r2]
    have hw : IntKind.u64.wrap (b + d) = b + d - 18446744073709551616 := by rw [IntKind.wrap_u64]; omega
    have hac : a + c + 1 ≤ 18446744073709551615 := by omega
    have ht : decide (b + d - 18446744073709551616 < b) = true := decide_eq_true (by omega)
    clear r1 r2 hxy
    go_enter Tryd.func75, Tryd.ntmps75
    go_wp2
    go_returns
    exact ⟨by first | rfl | (simp; done), (by repeat' (first | (with_reducible exact Gr.refl _) | (with_reducible assumption) | (with_reducible refine Gr.alloc ?_ _) | (with_reducible refine Gr.drew ?_) | (with_reducible refine Gr.drewN ?_ _) | (with_reducible refine Gr.setCell ?_ ?_ _) | (with_reducible refine Gr.trans ?_ (by with_reducible assumption)) | go_size))⟩

set_option maxHeartbeats 400000 in
theorem rminus_any (x y : Int) (w : World) (hxy : Wd.mag y ≤ Wd.mag x) (hx : Wd.hi x ≤ 18446744073709551615) :
    Calls Tryd.prog 59 #[.agg #[.int .u64 (Wd.hi x), .int .u64 (Wd.lo x)], .agg #[.int .u64 (Wd.hi y), .int .u64 (Wd.lo y)]] w fun e w' => e = .returned (.agg #[.int .u64 (Wd.hi (Wd.mag x - Wd.mag y)), .int .u64 (Wd.lo (Wd.mag x - Wd.mag y))]) ∧ Gr w w' := by
  have a0 := Wd.lo_nonneg x; have a1 := Wd.lo_lt x; have b0 := Wd.lo_nonneg y; have b1 := Wd.lo_lt y
  have c0 := Wd.hi_nonneg x; have d0 := Wd.hi_nonneg y
  have e1 := Wd.hilo x; have e2 := Wd.hilo y
  have h1 : Wd.hi (Wd.mag x - Wd.mag y) = (Wd.mag x - Wd.mag y) / 18446744073709551616 := by unfold Wd.hi; rw [Wd.mag_of_nonneg (by omega)]
  have h2 : Wd.lo (Wd.mag x - Wd.mag y) = (Wd.mag x - Wd.mag y) % 18446744073709551616 := by unfold Wd.lo; rw [Wd.mag_of_nonneg (by omega)]
  rw [h1, h2]
  rw [← e1, ← e2] at hxy ⊢
  clear h1 h2 e1 e2
  generalize Wd.hi x = a at *; generalize Wd.lo x = b at *; generalize Wd.hi y = c at *; generalize Wd.lo y = d at *
  by_cases hc : b < d
  · have r1 : (a * 18446744073709551616 + b - (c * 18446744073709551616 + d)) / 18446744073709551616 = a - c - 1 := by omega
    have r2 : (a * 18446744073709551616 + b - (c * 18446744073709551616 + d)) % 18446744073709551616 = b - d + 18446744073709551616 := by omega
    rw [r1, r2]
    have hw : IntKind.u64.wrap (b - d) = b - d + 18446744073709551616 := by rw [IntKind.wrap_u64]; omega
    have hac : 0 ≤ a - c - 1 := by omega
    have ht : decide (b < d) = true := decide_eq_true hc
    clear r1 r2 hxy
    go_enter Tryd.func59, Tryd.ntmps59
    go_wp2
    go_returns
    exact ⟨by first | rfl | (simp; done), (by repeat' (first | (with_reducible exact Gr.refl _) | (with_reducible assumption) | (with_reducible refine Gr.alloc ?_ _) | (with_reducible refine Gr.drew ?_) | (with_reducible refine Gr.drewN ?_ _) | (with_reducible refine Gr.setCell ?_ ?_ _) | (with_reducible refine Gr.trans ?_ (by with_reducible assumption)) | go_size))⟩
  · have r1 : (a * 18446744073709551616 + b - (c * 18446744073709551616 + d)) / 18446744073709551616 = a - c := by omega
    have r2 : (a * 18446744073709551616 + b - (c * 18446744073709551616 + d)) % 18446744073709551616 = b - d := by omega
    rw [r1, r2]
    have hac : 0 ≤ a - c := by omega
    have ht : decide (b < d) = false := decide_eq_false hc
    clear r1 r2 hxy
    go_enter Tryd.func59, Tryd.ntmps59
    go_wp2
    go_returns
    exact ⟨by first | rfl | (simp; done), (by repeat' (first | (with_reducible exact Gr.refl _) | (with_reducible assumption) | (with_reducible refine Gr.alloc ?_ _) | (with_reducible refine Gr.drew ?_) | (with_reducible refine Gr.drewN ?_ _) | (with_reducible refine Gr.setCell ?_ ?_ _) | (with_reducible refine Gr.trans ?_ (by with_reducible assumption)) | go_size))⟩

set_option maxHeartbeats 400000 in
theorem rmul_any (x y : Int) (w : World) (hx0 : 0 ≤ x) (hx : x ≤ 18446744073709551615) (hy0 : 0 ≤ y) (hy : y ≤ 18446744073709551615) :
    Calls Tryd.prog 54 #[.int .u64 x, .int .u64 y] w fun e w' => e = .returned (.agg #[.int .u64 (Wd.hi (x * y)), .int .u64 (Wd.lo (x * y))]) ∧ Gr w w' := by
  have ax := and_low32 x hx0 (by omega)
  have ay := and_low32 y hy0 (by omega)
  have ex : x = x / 4294967296 * 4294967296 + x % 4294967296 := by omega
  have ey : y = y / 4294967296 * 4294967296 + y % 4294967296 := by omega
  have hxy : x * y = x / 4294967296 * (y / 4294967296) * 18446744073709551616 + (x / 4294967296 * (y % 4294967296) + x % 4294967296 * (y / 4294967296)) * 4294967296 + x % 4294967296 * (y % 4294967296) := by
    conv => lhs; rw [ex, ey]
    exact split_mul _ _ _ _
  have pA := prod_bound (x / 4294967296) (y / 4294967296) (by omega) (by omega) (by omega) (by omega)
  have pB := prod_bound (x / 4294967296) (y % 4294967296) (by omega) (by omega) (by omega) (by omega)
  have pC := prod_bound (x % 4294967296) (y % 4294967296) (by omega) (by omega) (by omega) (by omega)
  have pD := prod_bound (x % 4294967296) (y / 4294967296) (by omega) (by omega) (by omega) (by omega)
  have h1 : Wd.hi (x * y) = x * y / 18446744073709551616 := by unfold Wd.hi; rw [Wd.mag_of_nonneg (Int.mul_nonneg hx0 hy0)]
  have h2 : Wd.lo (x * y) = x * y % 18446744073709551616 := by unfold Wd.lo; rw [Wd.mag_of_nonneg (Int.mul_nonneg hx0 hy0)]
  rw [h1, h2, hxy]
  clear h1 h2 hxy ex ey
  obtain ⟨A, hA⟩ : ∃ A, x / 4294967296 * (y / 4294967296) = A := ⟨_, rfl⟩
  obtain ⟨B, hB⟩ : ∃ A, x / 4294967296 * (y % 4294967296) = A := ⟨_, rfl⟩
  obtain ⟨C, hC⟩ : ∃ A, x % 4294967296 * (y % 4294967296) = A := ⟨_, rfl⟩
  obtain ⟨D, hD⟩ : ∃ A, x % 4294967296 * (y / 4294967296) = A := ⟨_, rfl⟩
  rw [hA] at pA ⊢
  rw [hB] at pB ⊢
  rw [hC] at pC ⊢
  rw [hD] at pD ⊢
  obtain ⟨A0, A1⟩ := pA; obtain ⟨B0, B1⟩ := pB; obtain ⟨C0, C1⟩ := pC; obtain ⟨D0, D1⟩ := pD
  obtain ⟨M, hM⟩ : ∃ M, B + C / 4294967296 = M := ⟨_, rfl⟩
  have M0 : 0 ≤ M ∧ M ≤ 18446744069414584320 := by omega
  obtain ⟨M0, M1⟩ := M0
  have aM := and_low32 M M0 (by omega)
  have aC := and_low32 C C0 (by omega)
  obtain ⟨N, hN⟩ : ∃ N, M % 4294967296 = N := ⟨_, rfl⟩
  obtain ⟨O, hO⟩ : ∃ O, D + N = O := ⟨_, rfl⟩
  have N0 : 0 ≤ N ∧ N ≤ 4294967295 := by omega
  obtain ⟨N0, N1⟩ := N0
  have O0 : 0 ≤ O ∧ O ≤ 18446744069414584320 := by omega
  obtain ⟨O0, O1⟩ := O0
  obtain ⟨Z, hZ⟩ : ∃ Z, IntKind.u64.wrap (O * 4294967296) = Z := ⟨_, rfl⟩
  have hZ' := hZ
  rw [IntKind.wrap_u64] at hZ'
  have Z0 : 0 ≤ Z ∧ Z ≤ 18446744069414584320 := by omega
  obtain ⟨Z0, Z1⟩ := Z0
  have r1 : (A * 18446744073709551616 + (B + D) * 4294967296 + C) / 18446744073709551616 = A + M / 4294967296 + O / 4294967296 := by omega
  have r2 : (A * 18446744073709551616 + (B + D) * 4294967296 + C) % 18446744073709551616 = Z + C % 4294967296 := by omega
  rw [r1, r2]
  clear r1 r2 hZ'
  go_enter Tryd.func54, Tryd.ntmps54
  go_wp2
  go_returns
  exact ⟨by first | rfl | (simp; done), (by repeat' (first | (with_reducible exact Gr.refl _) | (with_reducible assumption) | (with_reducible refine Gr.alloc ?_ _) | (with_reducible refine Gr.drew ?_) | (with_reducible refine Gr.drewN ?_ _) | (with_reducible refine Gr.setCell ?_ ?_ _) | (with_reducible refine Gr.trans ?_ (by with_reducible assumption)) | go_size))⟩

set_option maxHeartbeats 400000 in
theorem rmade_raw (h l : Int) (b : Bool) (w : World) (h0 : 0 ≤ h) (l0 : 0 ≤ l) :
    Calls Tryd.prog 53 #[.agg #[.int .u64 h, .int .u64 l], .bool b] w fun e w' => e = .returned (.agg #[.int .u64 h, .int .u64 l, .bool (Wd.neg (Wd.mk h l b))]) ∧ Gr w w' := by
  cases b
  · rw [Wd.neg_mk_false h l h0 l0]
    go_enter Tryd.func53, Tryd.ntmps53
    go_wp2
    go_region
    all_goals
      go_wp2
      go_returns
      exact ⟨by first | rfl | (simp; done), (by repeat' (first | (with_reducible exact Gr.refl _) | (with_reducible assumption) | (with_reducible refine Gr.alloc ?_ _) | (with_reducible refine Gr.drew ?_) | (with_reducible refine Gr.drewN ?_ _) | (with_reducible refine Gr.setCell ?_ ?_ _) | (with_reducible refine Gr.trans ?_ (by with_reducible assumption)) | go_size))⟩
  · by_cases hz : h ≠ 0 ∨ l ≠ 0
    · rw [Wd.neg_mk_true h l h0 l0 hz]
      by_cases hh : h = 0
      · subst hh
        have hl : (l == 0) = false := by simp at hz; simpa using hz
        go_enter Tryd.func53, Tryd.ntmps53
        go_wp2
        go_region
        all_goals
          go_wp2
          go_returns
          exact ⟨by first | rfl | (simp; done), (by repeat' (first | (with_reducible exact Gr.refl _) | (with_reducible assumption) | (with_reducible refine Gr.alloc ?_ _) | (with_reducible refine Gr.drew ?_) | (with_reducible refine Gr.drewN ?_ _) | (with_reducible refine Gr.setCell ?_ ?_ _) | (with_reducible refine Gr.trans ?_ (by with_reducible assumption)) | go_size))⟩
      · have hh' : (h == 0) = false := by simpa using hh
        clear hz
        go_enter Tryd.func53, Tryd.ntmps53
        go_wp2
        go_region
        all_goals
          go_wp2
          go_returns
          exact ⟨by first | rfl | (simp; done), (by repeat' (first | (with_reducible exact Gr.refl _) | (with_reducible assumption) | (with_reducible refine Gr.alloc ?_ _) | (with_reducible refine Gr.drew ?_) | (with_reducible refine Gr.drewN ?_ _) | (with_reducible refine Gr.setCell ?_ ?_ _) | (with_reducible refine Gr.trans ?_ (by with_reducible assumption)) | go_size))⟩
    · have hh : h = 0 := by omega
      have hl : l = 0 := by omega
      subst hh; subst hl
      rw [Wd.neg_mk_zero]
      go_enter Tryd.func53, Tryd.ntmps53
      go_wp2
      go_region
      all_goals
        go_wp2
        go_returns
        exact ⟨by first | rfl | (simp; done), (by repeat' (first | (with_reducible exact Gr.refl _) | (with_reducible assumption) | (with_reducible refine Gr.alloc ?_ _) | (with_reducible refine Gr.drew ?_) | (with_reducible refine Gr.drewN ?_ _) | (with_reducible refine Gr.setCell ?_ ?_ _) | (with_reducible refine Gr.trans ?_ (by with_reducible assumption)) | go_size))⟩
theorem rmade_any (m : Int) (b : Bool) (w : World) (hm : 0 ≤ m) :
    Calls Tryd.prog 53 #[.agg #[.int .u64 (Wd.hi m), .int .u64 (Wd.lo m)], .bool b] w fun e w' => e = .returned (.agg #[.int .u64 (Wd.hi (Wd.sg b m)), .int .u64 (Wd.lo (Wd.sg b m)), .bool (Wd.neg (Wd.sg b m))]) ∧ Gr w w' := by
  rw [Wd.hi_sg, Wd.lo_sg, ← Wd.mk_sg b hm]
  exact rmade_raw _ _ _ w (Wd.hi_nonneg m) (Wd.lo_nonneg m)
end Go.Proofs.YtbaahlofabmljaaDoor
