/-
  Shapes and curves: network.shaped, the reference's shape and curve. (Printed by mkshape.py.)
  The curve of a pump: network's test of each knot is the reference's test of the ends.
  Names of any size: decimal.IsName and the reference's.
-/
import Derived.Test.YtllkiadedaghoaaGreatDoorOr20

set_option linter.unusedVariables false
set_option linter.unusedSimpArgs false
namespace Go.Proofs.YtllkiadedaghoaaGreatDoor
open Go.RowKit
namespace Ba
/-- A table is the shape of a depth. -/
def shpB (x0 y0 x1 y1 d : Int) : Bool := (x0 == 0) && ((y0 == 0) && ((x1 == d) && decide (y1 ≤ 1125899906842624)))
def shp (s : SlK) (d : Int) : Bool := tblB s && shpB (s.X 0) (s.Y 0) (s.X (s.n - 1)) (s.Y (s.n - 1)) d
/-- A table is the curve of a pump. -/
def crvB (x0 y0 x1 y1 : Int) : Bool := decide (0 ≤ x0) && (decide (x1 ≤ 4194304) && (decide (0 ≤ y0) && decide (y1 ≤ 1099511627776)))
def crv (s : SlK) : Bool := tblB s && crvB (s.X 0) (s.Y 0) (s.X (s.n - 1)) (s.Y (s.n - 1))
theorem tblB_n {s : SlK} (h : tblB s = true) : 1 ≤ s.n ∧ s.n ≤ 100 := by
  unfold tblB at h; simp only [Bool.and_eq_true, decide_eq_true_eq] at h; exact h.1
end Ba
set_option maxRecDepth 100000 in
set_option maxHeartbeats 4000000 in
theorem shaped_any (s : Ba.SlK) (d : Int) (w : World) (h : s.At w) : Calls Tryz.prog 129 #[.slice s.A s.n s.c, .int .i64 d] w fun e w' => e = .returned (.bool (Ba.shp s d)) ∧ Gr w w' := by
  have HT := Lib.hid (table_any s w h)
  have HA := Lib.hid h.hA; have HX := Lib.hid h.hX
  unfold Ba.shp
  cases hb : Ba.tblB s
  · rw [hb] at HT
    clear hb h HA HX
    rw [Bool.false_and]
    generalize s.A = A at *
    generalize s.n = n at *
    generalize s.c = c at *
    go_enter Tryz.func129, Tryz.ntmps129
    go_wp2_with (go_at_call 134; with_reducible refine HT.out.mono ?_; rintro e w1 ⟨rfl, hb1⟩)
    go_ret
    exact ⟨rfl, gr_auto⟩
  rw [hb] at HT
  obtain ⟨h1, h2⟩ := Ba.tblB_n hb
  clear hb h
  rw [Bool.true_and]
  obtain ⟨A, n, c, b, o, X, Y⟩ := s
  simp only at *
  obtain rfl := HA.out (by omega)
  obtain ⟨⟨a0, a1⟩, -, -⟩ := HX.out 0 (by omega)
  obtain ⟨⟨b0, b1⟩, -, -⟩ := HX.out (n - 1) (by omega)
  simp only [Nat.zero_mul, Nat.add_zero] at a0 a1
  obtain ⟨m, hm⟩ : ∃ m, n = m + 1 := ⟨n - 1, by omega⟩
  rw [show n - 1 = m by omega] at *
  have wv0 : (n : Int) - 1 = (m : Int) := by omega
  have wv1 : IntKind.i64.wrap (m : Int) = (m : Int) := IntWalk.i64_in _ (by omega)
  have wb0 : (0 : Int) ≤ (m : Int) := by omega
  have wb1 : (m : Int) < (n : Int) := by omega
  have wb2 : (0 : Int) < (n : Int) := by omega
  have wb3 : 0 < n := by omega
  clear hm HA HX h2
  generalize X 0 = x0 at *
  generalize Y 0 = y0 at *
  generalize X m = x1 at *
  generalize Y m = y1 at *
  unfold Ba.shpB
  cases e0 : (x0 == 0)
  · go_enter Tryz.func129, Tryz.ntmps129
    go_wp2_with fail
    refine HT.out.mono ?_
    rintro e w1 ⟨rfl, hb1⟩
    have a0 := Gr.at hb1 a0; have a1 := Gr.at hb1 a1; have b0 := Gr.at hb1 b0; have b1 := Gr.at hb1 b1
    have hbw : b < w1.heap.size := World.block_lt_of_cell? _ _ a0
    have hbn : b ≠ w1.heap.size := by omega
    have c0 := Gr.at (Gr.alloc (Gr.refl w1) (Obj.cells #[.int .i64 x1, .int .i64 y1] 93)) a0
    have c1 := Gr.at (Gr.alloc (Gr.refl w1) (Obj.cells #[.int .i64 x1, .int .i64 y1] 93)) a1
    go_wp2_with fail
    go_ret
    exact ⟨rfl, gr_auto⟩
  cases e1 : (y0 == 0)
  · go_enter Tryz.func129, Tryz.ntmps129
    go_wp2_with fail
    refine HT.out.mono ?_
    rintro e w1 ⟨rfl, hb1⟩
    have a0 := Gr.at hb1 a0; have a1 := Gr.at hb1 a1; have b0 := Gr.at hb1 b0; have b1 := Gr.at hb1 b1
    have hbw : b < w1.heap.size := World.block_lt_of_cell? _ _ a0
    have hbn : b ≠ w1.heap.size := by omega
    have c0 := Gr.at (Gr.alloc (Gr.refl w1) (Obj.cells #[.int .i64 x1, .int .i64 y1] 93)) a0
    have c1 := Gr.at (Gr.alloc (Gr.refl w1) (Obj.cells #[.int .i64 x1, .int .i64 y1] 93)) a1
    go_wp2_with fail
    go_ret
    exact ⟨rfl, gr_auto⟩
  cases e2 : (x1 == d)
  · go_enter Tryz.func129, Tryz.ntmps129
    go_wp2_with fail
    refine HT.out.mono ?_
    rintro e w1 ⟨rfl, hb1⟩
    have a0 := Gr.at hb1 a0; have a1 := Gr.at hb1 a1; have b0 := Gr.at hb1 b0; have b1 := Gr.at hb1 b1
    have hbw : b < w1.heap.size := World.block_lt_of_cell? _ _ a0
    have hbn : b ≠ w1.heap.size := by omega
    have c0 := Gr.at (Gr.alloc (Gr.refl w1) (Obj.cells #[.int .i64 x1, .int .i64 y1] 93)) a0
    have c1 := Gr.at (Gr.alloc (Gr.refl w1) (Obj.cells #[.int .i64 x1, .int .i64 y1] 93)) a1
    go_wp2_with fail
    go_ret
    exact ⟨rfl, gr_auto⟩
  cases e3 : decide (y1 ≤ 1125899906842624)
  · go_enter Tryz.func129, Tryz.ntmps129
    go_wp2_with fail
    refine HT.out.mono ?_
    rintro e w1 ⟨rfl, hb1⟩
    have a0 := Gr.at hb1 a0; have a1 := Gr.at hb1 a1; have b0 := Gr.at hb1 b0; have b1 := Gr.at hb1 b1
    have hbw : b < w1.heap.size := World.block_lt_of_cell? _ _ a0
    have hbn : b ≠ w1.heap.size := by omega
    have c0 := Gr.at (Gr.alloc (Gr.refl w1) (Obj.cells #[.int .i64 x1, .int .i64 y1] 93)) a0
    have c1 := Gr.at (Gr.alloc (Gr.refl w1) (Obj.cells #[.int .i64 x1, .int .i64 y1] 93)) a1
    go_wp2_with fail
    go_ret
    exact ⟨rfl, gr_auto⟩
  go_enter Tryz.func129, Tryz.ntmps129
  go_wp2_with fail
  refine HT.out.mono ?_
  rintro e w1 ⟨rfl, hb1⟩
  have a0 := Gr.at hb1 a0; have a1 := Gr.at hb1 a1; have b0 := Gr.at hb1 b0; have b1 := Gr.at hb1 b1
  have hbw : b < w1.heap.size := World.block_lt_of_cell? _ _ a0
  have hbn : b ≠ w1.heap.size := by omega
  have c0 := Gr.at (Gr.alloc (Gr.refl w1) (Obj.cells #[.int .i64 x1, .int .i64 y1] 93)) a0
  have c1 := Gr.at (Gr.alloc (Gr.refl w1) (Obj.cells #[.int .i64 x1, .int .i64 y1] 93)) a1
  go_wp2_with fail
  go_ret
  exact ⟨rfl, gr_auto⟩
end Go.Proofs.YtllkiadedaghoaaGreatDoor
set_option linter.unusedVariables false
set_option linter.unusedSimpArgs false
namespace Go.Proofs.YtllkiadedaghoaaGreatDoor
open Go.RowKit
namespace Ba
theorem any_iff (p : Nat → Bool) : ∀ n, any p n = true ↔ ∃ i, i < n ∧ p i = true
  | 0 => by simp [any, fst]
  | n + 1 => by
    have ih := any_iff p n
    unfold any at ih ⊢
    rw [fst]
    cases e : fst p n with
    | some k =>
      rw [e] at ih
      obtain ⟨i, hi, hp⟩ := ih.1 rfl
      simp only [Option.isSome_some, true_iff]
      exact ⟨i, by omega, hp⟩
    | none =>
      rw [e] at ih
      simp only [Option.isSome_none, Bool.false_eq_true, false_iff] at ih
      cases hp : p n
      · simp only [Bool.false_eq_true, if_false, Option.isSome_none, false_iff]
        rintro ⟨i, hi, h⟩
        by_cases e2 : i = n
        · subst e2; rw [hp] at h; cases h
        · exact ih ⟨i, by omega, h⟩
      · simp only [if_true, Option.isSome_some, true_iff]
        exact ⟨n, by omega, hp⟩
theorem kn_step {X Y : Nat → Int} {k : Nat} (h : kn X Y (k + 1) = true) : X k ≤ X (k + 1) ∧ Y k ≤ Y (k + 1) := by
  simp only [kn, Bool.and_eq_true, decide_eq_true_eq] at h; omega
theorem kns_le {X Y : Nat → Int} {n : Nat} (h : kns X Y n = true) : ∀ {i j : Nat}, i ≤ j → j < n → X i ≤ X j ∧ Y i ≤ Y j := by
  intro i j hij
  obtain ⟨d, rfl⟩ : ∃ d, j = i + d := ⟨j - i, by omega⟩
  clear hij
  induction d with
  | zero => intro _; exact ⟨Int.le_refl _, Int.le_refl _⟩
  | succ d ih =>
    intro hj
    have a := ih (by omega)
    have b := kn_step (kns_at (k := i + d + 1) h (by omega))
    rw [show i + (d + 1) = i + d + 1 by omega]
    omega
/-- A knot that is not one of a curve. -/
def offc (s : SlK) (i : Nat) : Bool := !bet (s.X i) 0 4194304 || !bet (s.Y i) 0 1099511627776
theorem crv_all {s : SlK} (h : tblB s = true) : (!any (offc s) s.n) = crv s := by
  have hn := tblB_n h
  have hk : kns s.X s.Y s.n = true := by unfold tblB at h; simp only [Bool.and_eq_true] at h; exact h.2
  unfold crv
  rw [h, Bool.true_and]
  have hz := any_iff (offc s) s.n
  cases e : any (offc s) s.n
  · rw [e] at hz
    have g : ∀ i, i < s.n → bet (s.X i) 0 4194304 = true ∧ bet (s.Y i) 0 1099511627776 = true := by
      intro i hi
      have : ¬ offc s i = true := fun q => by have := hz.2 ⟨i, hi, q⟩; cases this
      unfold offc at this
      simp only [Bool.or_eq_true, Bool.not_eq_true', not_or, Bool.not_eq_false] at this
      exact this
    have g0 := g 0 (by omega); have g1 := g (s.n - 1) (by omega)
    simp only [bet_iff] at g0 g1
    unfold crvB
    simp only [Bool.not_false]
    symm
    simp only [Bool.and_eq_true, decide_eq_true_eq]
    omega
  · rw [e] at hz
    obtain ⟨i, hi, hp⟩ := hz.1 rfl
    have l0 := kns_le hk (Nat.zero_le i) hi
    have l1 := kns_le hk (i := i) (j := s.n - 1) (by omega) (by omega)
    simp only [Bool.not_true]
    symm
    cases q : crvB (s.X 0) (s.Y 0) (s.X (s.n - 1)) (s.Y (s.n - 1))
    · rfl
    · exfalso
      unfold crvB at q
      simp only [Bool.and_eq_true, decide_eq_true_eq] at q
      have b0 : bet (s.X i) 0 4194304 = true := (bet_iff _ _ _).2 (by omega)
      have b1 : bet (s.Y i) 0 1099511627776 = true := (bet_iff _ _ _).2 (by omega)
      unfold offc at hp
      rw [b0, b1] at hp
      cases hp
end Ba
set_option maxRecDepth 100000 in
theorem linkc_any (x y : Int) (w : World) : Calls Tryz.prog 136 #[.agg #[.int .i64 x, .int .i64 y]] w fun e w' => e = .returned (.bool (!Ba.bet x 0 4194304 || !Ba.bet y 0 1099511627776)) ∧ Gr w w' := by
  have HX := Lib.hid (between_any x 0 4194304); have HY := Lib.hid (between_any y 0 1099511627776)
  cases h0 : Ba.bet x 0 4194304
  · rw [h0] at HX
    clear HY h0
    go_enter Tryz.func136, Tryz.ntmps136
    go_wp2_with fail
    refine (HX.out _).mono ?_
    rintro e w1 ⟨rfl, rfl⟩
    go_wp2_with fail
    go_ret
    exact ⟨rfl, gr_auto⟩
  rw [h0] at HX
  clear h0
  generalize Ba.bet y 0 1099511627776 = q at *
  cases q
  all_goals
    go_enter Tryz.func136, Tryz.ntmps136
    go_wp2_with fail
    refine (HX.out _).mono ?_
    rintro e w1 ⟨rfl, rfl⟩
    go_wp2_with fail
    refine (HY.out _).mono ?_
    rintro e w1 ⟨rfl, rfl⟩
    go_wp2_with fail
    go_ret
    exact ⟨rfl, gr_auto⟩
/-- slices.ContainsFunc over the knots of a valid table, by network's closure. -/
theorem curve_any (s : Ba.SlK) (w : World) (h : s.At w) (hb : Ba.tblB s = true) :
    Calls Tryz.prog 135 #[.slice s.A s.n s.c, .func (.func 136) #[] #[]] w fun e w' => e = .returned (.bool (!Ba.crv s)) ∧ Gr w w' := by
  rw [← Ba.crv_all hb, Bool.not_not]
  exact has_knot 136 #[] s (Ba.offc s) w h (enter_of Tryz.func136 (by kernel_rfl) (by kernel_rfl)) fun i hi W hW => linkc_any (s.X i) (s.Y i) W
end Go.Proofs.YtllkiadedaghoaaGreatDoor
set_option linter.unusedVariables false
set_option linter.unusedSimpArgs false
namespace Go.Proofs.YtllkiadedaghoaaGreatDoor
open Go.RowKit
theorem Dc.isName_big (s : ByteArray) (h : 1000 < s.size) : Dc.isName s.data.toList = false := by
  unfold Dc.isName
  rw [show s.data.toList.length = s.size by simp, decide_eq_false (by omega : ¬ s.size ≤ 20)]
  simp
set_option maxRecDepth 100000 in
theorem isname_all (s : ByteArray) (w : World) (hm : s.size ≤ 9223372036854775807) : Calls Tryz.prog 126 #[.string s] w fun e w' => e = .returned (.bool (Dc.isName s.data.toList)) ∧ w = w' := by
  by_cases h : s.size ≤ 1000
  · exact isname_any s w h
  · rw [Dc.isName_big s (by omega)]
    have hE := empty_no s (by omega)
    have t1 : decide ((s.size : Int) ≤ 20) = false := decide_eq_false (by omega)
    clear h
    go_enter Tryz.func126, Tryz.ntmps126
    go_wp2_with fail
    go_ret
    exact ⟨rfl, rfl⟩
end Go.Proofs.YtllkiadedaghoaaGreatDoor
