/-
  Shapes and curves: network.shaped, the reference's shape and curve. (Printed by mkshape.py.)
-/
import Derived.Test.YtllkiadedaghoaaGreatDoorEx14

set_option linter.unusedVariables false
set_option linter.unusedSimpArgs false
namespace Go.Proofs.YtllkiadedaghoaaGreatDoor
open Go.RowKit
namespace Ba
/-- A table is the shape of a depth. -/
def shpB (x0 y0 x1 y1 d : Int) : Bool := (x0 == 0) && ((y0 == 0) && ((x1 == d) && decide (y1 ≤ 1125899906842624)))
def shp (s : SlK) (d : Int) : Bool := tblB s && shpB (s.X 0) (s.Y 0) (s.X (s.n - 1)) (s.Y (s.n - 1)) d
/-- A table is the curve of a pump. -/
def crvB (x0 y0 x1 y1 : Int) : Bool := decide (0 ≤ x0) && (decide (x1 ≤ 4194304) && (decide (0 ≤ y0) && decide (y1 ≤ 1099511627776)))
def crv (s : SlK) : Bool := tblB s && crvB (s.X 0) (s.Y 0) (s.X (s.n - 1)) (s.Y (s.n - 1))
theorem tblB_n {s : SlK} (h : tblB s = true) : 1 ≤ s.n ∧ s.n ≤ 100 := by
  unfold tblB at h; simp only [Bool.and_eq_true, decide_eq_true_eq] at h; exact h.1
end Ba
set_option maxRecDepth 100000 in
set_option maxHeartbeats 4000000 in
theorem shaped_any (s : Ba.SlK) (d : Int) (w : World) (h : s.At w) : Calls Tryz.prog 129 #[.slice s.A s.n s.c, .int .i64 d] w fun e w' => e = .returned (.bool (Ba.shp s d)) ∧ Gr w w' := by
  have HT := Lib.hid (table_any s w h)
  have HA := Lib.hid h.hA; have HX := Lib.hid h.hX
  unfold Ba.shp
  cases hb : Ba.tblB s
  · rw [hb] at HT
    clear hb h HA HX
    rw [Bool.false_and]
    generalize s.A = A at *
    generalize s.n = n at *
    generalize s.c = c at *
    go_enter Tryz.func129, Tryz.ntmps129
    go_wp2_with (go_at_call 134; with_reducible refine HT.out.mono ?_; rintro e w1 ⟨rfl, hb1⟩)
    go_ret
    exact ⟨rfl, gr_auto⟩
  rw [hb] at HT
  obtain ⟨h1, h2⟩ := Ba.tblB_n hb
  clear hb h
  rw [Bool.true_and]
  obtain ⟨A, n, c, b, o, X, Y⟩ := s
  simp only at *
  obtain rfl := HA.out (by omega)
  obtain ⟨⟨a0, a1⟩, -, -⟩ := HX.out 0 (by omega)
  obtain ⟨⟨b0, b1⟩, -, -⟩ := HX.out (n - 1) (by omega)
  simp only [Nat.zero_mul, Nat.add_zero] at a0 a1
  obtain ⟨m, hm⟩ : ∃ m, n = m + 1 := ⟨n - 1, by omega⟩
  rw [show n - 1 = m by omega] at *
  have wv0 : (n : Int) - 1 = (m : Int) := by omega
  have wv1 : IntKind.i64.wrap (m : Int) = (m : Int) := IntWalk.i64_in _ (by omega)
  have wb0 : (0 : Int) ≤ (m : Int) := by omega
  have wb1 : (m : Int) < (n : Int) := by omega
  have wb2 : (0 : Int) < (n : Int) := by omega
  have wb3 : 0 < n := by omega
  clear hm HA HX h2
  generalize X 0 = x0 at *
  generalize Y 0 = y0 at *
  generalize X m = x1 at *
  generalize Y m = y1 at *
  unfold Ba.shpB
  cases e0 : (x0 == 0)
  · go_enter Tryz.func129, Tryz.ntmps129
    go_wp2_with fail
    refine HT.out.mono ?_
    rintro e w1 ⟨rfl, hb1⟩
    have a0 := Gr.at hb1 a0; have a1 := Gr.at hb1 a1; have b0 := Gr.at hb1 b0; have b1 := Gr.at hb1 b1
    have hbw : b < w1.heap.size := World.block_lt_of_cell? _ _ a0
    have hbn : b ≠ w1.heap.size := by omega
    have c0 := Gr.at (Gr.alloc (Gr.refl w1) (Obj.cells #[.int .i64 x1, .int .i64 y1] 93)) a0
    have c1 := Gr.at (Gr.alloc (Gr.refl w1) (Obj.cells #[.int .i64 x1, .int .i64 y1] 93)) a1
    go_wp2_with fail
    go_ret
    exact ⟨rfl, gr_auto⟩
  cases e1 : (y0 == 0)
  · go_enter Tryz.func129, Tryz.ntmps129
    go_wp2_with fail
    refine HT.out.mono ?_
    rintro e w1 ⟨rfl, hb1⟩
    have a0 := Gr.at hb1 a0; have a1 := Gr.at hb1 a1; have b0 := Gr.at hb1 b0; have b1 := Gr.at hb1 b1
    have hbw : b < w1.heap.size := World.block_lt_of_cell? _ _ a0
    have hbn : b ≠ w1.heap.size := by omega
    have c0 := Gr.at (Gr.alloc (Gr.refl w1) (Obj.cells #[.int .i64 x1, .int .i64 y1] 93)) a0
    have c1 := Gr.at (Gr.alloc (Gr.refl w1) (Obj.cells #[.int .i64 x1, .int .i64 y1] 93)) a1
    go_wp2_with fail
    go_ret
    exact ⟨rfl, gr_auto⟩
  cases e2 : (x1 == d)
  · go_enter Tryz.func129, Tryz.ntmps129
    go_wp2_with fail
    refine HT.out.mono ?_
    rintro e w1 ⟨rfl, hb1⟩
    have a0 := Gr.at hb1 a0; have a1 := Gr.at hb1 a1; have b0 := Gr.at hb1 b0; have b1 := Gr.at hb1 b1
    have hbw : b < w1.heap.size := World.block_lt_of_cell? _ _ a0
    have hbn : b ≠ w1.heap.size := by omega
    have c0 := Gr.at (Gr.alloc (Gr.refl w1) (Obj.cells #[.int .i64 x1, .int .i64 y1] 93)) a0
    have c1 := Gr.at (Gr.alloc (Gr.refl w1) (Obj.cells #[.int .i64 x1, .int .i64 y1] 93)) a1
    go_wp2_with fail
    go_ret
    exact ⟨rfl, gr_auto⟩
  cases e3 : decide (y1 ≤ 1125899906842624)
  · go_enter Tryz.func129, Tryz.ntmps129
    go_wp2_with fail
    refine HT.out.mono ?_
    rintro e w1 ⟨rfl, hb1⟩
    have a0 := Gr.at hb1 a0; have a1 := Gr.at hb1 a1; have b0 := Gr.at hb1 b0; have b1 := Gr.at hb1 b1
    have hbw : b < w1.heap.size := World.block_lt_of_cell? _ _ a0
    have hbn : b ≠ w1.heap.size := by omega
    have c0 := Gr.at (Gr.alloc (Gr.refl w1) (Obj.cells #[.int .i64 x1, .int .i64 y1] 93)) a0
    have c1 := Gr.at (Gr.alloc (Gr.refl w1) (Obj.cells #[.int .i64 x1, .int .i64 y1] 93)) a1
    go_wp2_with fail
    go_ret
    exact ⟨rfl, gr_auto⟩
  go_enter Tryz.func129, Tryz.ntmps129
  go_wp2_with fail
  refine HT.out.mono ?_
  rintro e w1 ⟨rfl, hb1⟩
  have a0 := Gr.at hb1 a0; have a1 := Gr.at hb1 a1; have b0 := Gr.at hb1 b0; have b1 := Gr.at hb1 b1
  have hbw : b < w1.heap.size := World.block_lt_of_cell? _ _ a0
  have hbn : b ≠ w1.heap.size := by omega
  have c0 := Gr.at (Gr.alloc (Gr.refl w1) (Obj.cells #[.int .i64 x1, .int .i64 y1] 93)) a0
  have c1 := Gr.at (Gr.alloc (Gr.refl w1) (Obj.cells #[.int .i64 x1, .int .i64 y1] 93)) a1
  go_wp2_with fail
  go_ret
  exact ⟨rfl, gr_auto⟩
set_option maxRecDepth 100000 in
set_option maxHeartbeats 4000000 in
theorem rshape_any (s : Ba.SlK) (d : Int) (w : World) (h : s.At w) : Calls Tryz.prog 82 #[.slice s.A s.n s.c, .int .i64 d] w fun e w' => e = .returned (.bool (Ba.shp s d)) ∧ Gr w w' := by
  have HT := Lib.hid (rtable_any s w h)
  have HA := Lib.hid h.hA; have HX := Lib.hid h.hX
  unfold Ba.shp
  cases hb : Ba.tblB s
  · rw [hb] at HT
    clear hb h HA HX
    rw [Bool.false_and]
    generalize s.A = A at *
    generalize s.n = n at *
    generalize s.c = c at *
    go_enter Tryz.func82, Tryz.ntmps82
    go_wp2_with (go_at_call 115; with_reducible refine HT.out.mono ?_; rintro e w1 ⟨rfl, hb1⟩)
    go_ret
    exact ⟨rfl, gr_auto⟩
  rw [hb] at HT
  obtain ⟨h1, h2⟩ := Ba.tblB_n hb
  clear hb h
  rw [Bool.true_and]
  obtain ⟨A, n, c, b, o, X, Y⟩ := s
  simp only at *
  obtain rfl := HA.out (by omega)
  obtain ⟨⟨a0, a1⟩, -, -⟩ := HX.out 0 (by omega)
  obtain ⟨⟨b0, b1⟩, -, -⟩ := HX.out (n - 1) (by omega)
  simp only [Nat.zero_mul, Nat.add_zero] at a0 a1
  obtain ⟨m, hm⟩ : ∃ m, n = m + 1 := ⟨n - 1, by omega⟩
  rw [show n - 1 = m by omega] at *
  have wv0 : (n : Int) - 1 = (m : Int) := by omega
  have wv1 : IntKind.i64.wrap (m : Int) = (m : Int) := IntWalk.i64_in _ (by omega)
  have wb0 : (0 : Int) ≤ (m : Int) := by omega
  have wb1 : (m : Int) < (n : Int) := by omega
  have wb2 : (0 : Int) < (n : Int) := by omega
  have wb3 : 0 < n := by omega
  clear hm HA HX h2
  generalize X 0 = x0 at *
  generalize Y 0 = y0 at *
  generalize X m = x1 at *
  generalize Y m = y1 at *
  unfold Ba.shpB
  cases e0 : (x0 == 0)
  · go_enter Tryz.func82, Tryz.ntmps82
    go_wp2_with fail
    refine HT.out.mono ?_
    rintro e w1 ⟨rfl, hb1⟩
    have a0 := Gr.at hb1 a0; have a1 := Gr.at hb1 a1; have b0 := Gr.at hb1 b0; have b1 := Gr.at hb1 b1
    have hbw : b < w1.heap.size := World.block_lt_of_cell? _ _ a0
    have hbn : b ≠ w1.heap.size := by omega
    have c0 := Gr.at (Gr.alloc (Gr.refl w1) (Obj.cells #[.int .i64 x1, .int .i64 y1] 93)) a0
    have c1 := Gr.at (Gr.alloc (Gr.refl w1) (Obj.cells #[.int .i64 x1, .int .i64 y1] 93)) a1
    go_wp2_with fail
    go_ret
    exact ⟨rfl, gr_auto⟩
  cases e1 : (y0 == 0)
  · go_enter Tryz.func82, Tryz.ntmps82
    go_wp2_with fail
    refine HT.out.mono ?_
    rintro e w1 ⟨rfl, hb1⟩
    have a0 := Gr.at hb1 a0; have a1 := Gr.at hb1 a1; have b0 := Gr.at hb1 b0; have b1 := Gr.at hb1 b1
    have hbw : b < w1.heap.size := World.block_lt_of_cell? _ _ a0
    have hbn : b ≠ w1.heap.size := by omega
    have c0 := Gr.at (Gr.alloc (Gr.refl w1) (Obj.cells #[.int .i64 x1, .int .i64 y1] 93)) a0
    have c1 := Gr.at (Gr.alloc (Gr.refl w1) (Obj.cells #[.int .i64 x1, .int .i64 y1] 93)) a1
    go_wp2_with fail
    go_ret
    exact ⟨rfl, gr_auto⟩
  cases e2 : (x1 == d)
  · go_enter Tryz.func82, Tryz.ntmps82
    go_wp2_with fail
    refine HT.out.mono ?_
    rintro e w1 ⟨rfl, hb1⟩
    have a0 := Gr.at hb1 a0; have a1 := Gr.at hb1 a1; have b0 := Gr.at hb1 b0; have b1 := Gr.at hb1 b1
    have hbw : b < w1.heap.size := World.block_lt_of_cell? _ _ a0
    have hbn : b ≠ w1.heap.size := by omega
    have c0 := Gr.at (Gr.alloc (Gr.refl w1) (Obj.cells #[.int .i64 x1, .int .i64 y1] 93)) a0
    have c1 := Gr.at (Gr.alloc (Gr.refl w1) (Obj.cells #[.int .i64 x1, .int .i64 y1] 93)) a1
    go_wp2_with fail
    go_ret
    exact ⟨rfl, gr_auto⟩
  cases e3 : decide (y1 ≤ 1125899906842624)
  · go_enter Tryz.func82, Tryz.ntmps82
    go_wp2_with fail
    refine HT.out.mono ?_
    rintro e w1 ⟨rfl, hb1⟩
    have a0 := Gr.at hb1 a0; have a1 := Gr.at hb1 a1; have b0 := Gr.at hb1 b0; have b1 := Gr.at hb1 b1
    have hbw : b < w1.heap.size := World.block_lt_of_cell? _ _ a0
    have hbn : b ≠ w1.heap.size := by omega
    have c0 := Gr.at (Gr.alloc (Gr.refl w1) (Obj.cells #[.int .i64 x1, .int .i64 y1] 93)) a0
    have c1 := Gr.at (Gr.alloc (Gr.refl w1) (Obj.cells #[.int .i64 x1, .int .i64 y1] 93)) a1
    go_wp2_with fail
    go_ret
    exact ⟨rfl, gr_auto⟩
  go_enter Tryz.func82, Tryz.ntmps82
  go_wp2_with fail
  refine HT.out.mono ?_
  rintro e w1 ⟨rfl, hb1⟩
  have a0 := Gr.at hb1 a0; have a1 := Gr.at hb1 a1; have b0 := Gr.at hb1 b0; have b1 := Gr.at hb1 b1
  have hbw : b < w1.heap.size := World.block_lt_of_cell? _ _ a0
  have hbn : b ≠ w1.heap.size := by omega
  have c0 := Gr.at (Gr.alloc (Gr.refl w1) (Obj.cells #[.int .i64 x1, .int .i64 y1] 93)) a0
  have c1 := Gr.at (Gr.alloc (Gr.refl w1) (Obj.cells #[.int .i64 x1, .int .i64 y1] 93)) a1
  go_wp2_with fail
  go_ret
  exact ⟨rfl, gr_auto⟩
set_option maxRecDepth 100000 in
set_option maxHeartbeats 4000000 in
theorem rcurve_any (s : Ba.SlK) (w : World) (h : s.At w) : Calls Tryz.prog 84 #[.slice s.A s.n s.c] w fun e w' => e = .returned (.bool (Ba.crv s)) ∧ Gr w w' := by
  have HT := Lib.hid (rtable_any s w h)
  have HA := Lib.hid h.hA; have HX := Lib.hid h.hX
  unfold Ba.crv
  cases hb : Ba.tblB s
  · rw [hb] at HT
    clear hb h HA HX
    rw [Bool.false_and]
    generalize s.A = A at *
    generalize s.n = n at *
    generalize s.c = c at *
    go_enter Tryz.func84, Tryz.ntmps84
    go_wp2_with (go_at_call 115; with_reducible refine HT.out.mono ?_; rintro e w1 ⟨rfl, hb1⟩)
    go_ret
    exact ⟨rfl, gr_auto⟩
  rw [hb] at HT
  obtain ⟨h1, h2⟩ := Ba.tblB_n hb
  clear hb h
  rw [Bool.true_and]
  obtain ⟨A, n, c, b, o, X, Y⟩ := s
  simp only at *
  obtain rfl := HA.out (by omega)
  obtain ⟨⟨a0, a1⟩, -, -⟩ := HX.out 0 (by omega)
  obtain ⟨⟨b0, b1⟩, -, -⟩ := HX.out (n - 1) (by omega)
  simp only [Nat.zero_mul, Nat.add_zero] at a0 a1
  obtain ⟨m, hm⟩ : ∃ m, n = m + 1 := ⟨n - 1, by omega⟩
  rw [show n - 1 = m by omega] at *
  have wv0 : (n : Int) - 1 = (m : Int) := by omega
  have wv1 : IntKind.i64.wrap (m : Int) = (m : Int) := IntWalk.i64_in _ (by omega)
  have wb0 : (0 : Int) ≤ (m : Int) := by omega
  have wb1 : (m : Int) < (n : Int) := by omega
  have wb2 : (0 : Int) < (n : Int) := by omega
  have wb3 : 0 < n := by omega
  clear hm HA HX h2
  generalize X 0 = x0 at *
  generalize Y 0 = y0 at *
  generalize X m = x1 at *
  generalize Y m = y1 at *
  unfold Ba.crvB
  cases e0 : decide (0 ≤ x0)
  · go_enter Tryz.func84, Tryz.ntmps84
    go_wp2_with fail
    refine HT.out.mono ?_
    rintro e w1 ⟨rfl, hb1⟩
    have a0 := Gr.at hb1 a0; have a1 := Gr.at hb1 a1; have b0 := Gr.at hb1 b0; have b1 := Gr.at hb1 b1
    have hbw : b < w1.heap.size := World.block_lt_of_cell? _ _ a0
    have hbn : b ≠ w1.heap.size := by omega
    have c0 := Gr.at (Gr.alloc (Gr.refl w1) (Obj.cells #[.int .i64 x1, .int .i64 y1] 93)) a0
    have c1 := Gr.at (Gr.alloc (Gr.refl w1) (Obj.cells #[.int .i64 x1, .int .i64 y1] 93)) a1
    go_wp2_with fail
    go_ret
    exact ⟨rfl, gr_auto⟩
  cases e1 : decide (x1 ≤ 4194304)
  · go_enter Tryz.func84, Tryz.ntmps84
    go_wp2_with fail
    refine HT.out.mono ?_
    rintro e w1 ⟨rfl, hb1⟩
    have a0 := Gr.at hb1 a0; have a1 := Gr.at hb1 a1; have b0 := Gr.at hb1 b0; have b1 := Gr.at hb1 b1
    have hbw : b < w1.heap.size := World.block_lt_of_cell? _ _ a0
    have hbn : b ≠ w1.heap.size := by omega
    have c0 := Gr.at (Gr.alloc (Gr.refl w1) (Obj.cells #[.int .i64 x1, .int .i64 y1] 93)) a0
    have c1 := Gr.at (Gr.alloc (Gr.refl w1) (Obj.cells #[.int .i64 x1, .int .i64 y1] 93)) a1
    go_wp2_with fail
    go_ret
    exact ⟨rfl, gr_auto⟩
  cases e2 : decide (0 ≤ y0)
  · go_enter Tryz.func84, Tryz.ntmps84
    go_wp2_with fail
    refine HT.out.mono ?_
    rintro e w1 ⟨rfl, hb1⟩
    have a0 := Gr.at hb1 a0; have a1 := Gr.at hb1 a1; have b0 := Gr.at hb1 b0; have b1 := Gr.at hb1 b1
    have hbw : b < w1.heap.size := World.block_lt_of_cell? _ _ a0
    have hbn : b ≠ w1.heap.size := by omega
    have c0 := Gr.at (Gr.alloc (Gr.refl w1) (Obj.cells #[.int .i64 x1, .int .i64 y1] 93)) a0
    have c1 := Gr.at (Gr.alloc (Gr.refl w1) (Obj.cells #[.int .i64 x1, .int .i64 y1] 93)) a1
    go_wp2_with fail
    go_ret
    exact ⟨rfl, gr_auto⟩
  cases e3 : decide (y1 ≤ 1099511627776)
  · go_enter Tryz.func84, Tryz.ntmps84
    go_wp2_with fail
    refine HT.out.mono ?_
    rintro e w1 ⟨rfl, hb1⟩
    have a0 := Gr.at hb1 a0; have a1 := Gr.at hb1 a1; have b0 := Gr.at hb1 b0; have b1 := Gr.at hb1 b1
    have hbw : b < w1.heap.size := World.block_lt_of_cell? _ _ a0
    have hbn : b ≠ w1.heap.size := by omega
    have c0 := Gr.at (Gr.alloc (Gr.refl w1) (Obj.cells #[.int .i64 x1, .int .i64 y1] 93)) a0
    have c1 := Gr.at (Gr.alloc (Gr.refl w1) (Obj.cells #[.int .i64 x1, .int .i64 y1] 93)) a1
    go_wp2_with fail
    go_ret
    exact ⟨rfl, gr_auto⟩
  go_enter Tryz.func84, Tryz.ntmps84
  go_wp2_with fail
  refine HT.out.mono ?_
  rintro e w1 ⟨rfl, hb1⟩
  have a0 := Gr.at hb1 a0; have a1 := Gr.at hb1 a1; have b0 := Gr.at hb1 b0; have b1 := Gr.at hb1 b1
  have hbw : b < w1.heap.size := World.block_lt_of_cell? _ _ a0
  have hbn : b ≠ w1.heap.size := by omega
  have c0 := Gr.at (Gr.alloc (Gr.refl w1) (Obj.cells #[.int .i64 x1, .int .i64 y1] 93)) a0
  have c1 := Gr.at (Gr.alloc (Gr.refl w1) (Obj.cells #[.int .i64 x1, .int .i64 y1] 93)) a1
  go_wp2_with fail
  go_ret
  exact ⟨rfl, gr_auto⟩
end Go.Proofs.YtllkiadedaghoaaGreatDoor
