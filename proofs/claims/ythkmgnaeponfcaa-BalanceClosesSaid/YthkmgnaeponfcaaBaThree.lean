/-
  Shapes and curves: network.shaped, the reference's shape and curve. (Printed by mkshape.py.)
  The curve of a pump: network's test of each knot is the reference's test of the ends.
  Names of any size: decimal.IsName and the reference's.
  Nodes and links by name: network.node, network.link (their closures).
  The reference's FindNode and FindLink.
  Capacities: storage.capacity and the reference's Capacity.
  storage.last, storage.capacity.
  slices.Equal on tables: a table with itself, a table with none; storage.within, storage.holds.
  storage.within, storage.holds.
  What networks, states, and ledgers are: the plain words. (No program is in sight.)
-/
import Derived.Test.YthkmgnaeponfcaaBaTwo
import Derived.Test.YthkmgnaeponfcaaBaTableB
set_option linter.unusedVariables false
set_option linter.unusedSimpArgs false
namespace Go.Proofs.Ythkmgnaeponfcaa
open Go.RowKit
namespace Ba
/-- A table is the shape of a depth. -/
def shpB (x0 y0 x1 y1 d : Int) : Bool := (x0 == 0) && ((y0 == 0) && ((x1 == d) && decide (y1 ≤ 1125899906842624)))
def shp (s : SlK) (d : Int) : Bool := tblB s && shpB (s.X 0) (s.Y 0) (s.X (s.n - 1)) (s.Y (s.n - 1)) d
/-- A table is the curve of a pump. -/
def crvB (x0 y0 x1 y1 : Int) : Bool := decide (0 ≤ x0) && (decide (x1 ≤ 4194304) && (decide (0 ≤ y0) && decide (y1 ≤ 1099511627776)))
def crv (s : SlK) : Bool := tblB s && crvB (s.X 0) (s.Y 0) (s.X (s.n - 1)) (s.Y (s.n - 1))
theorem tblB_n {s : SlK} (h : tblB s = true) : 1 ≤ s.n ∧ s.n ≤ 100 := by
  unfold tblB at h; simp only [Bool.and_eq_true, decide_eq_true_eq] at h; exact h.1
end Ba

set_option maxRecDepth 100000 in
set_option maxHeartbeats 4000000 in
theorem shaped_any (s : Ba.SlK) (d : Int) (w : World) (h : s.At w) : Calls Try.prog 96 #[.slice s.A s.n s.c, .int .i64 d] w fun e w' => e = .returned (.bool (Ba.shp s d)) ∧ Gr w w' := by
  have HT := Lib.hid (table_any s w h)
  have HA := Lib.hid h.hA; have HX := Lib.hid h.hX
  unfold Ba.shp
  cases hb : Ba.tblB s
  · rw [hb] at HT
    clear hb h HA HX
    rw [Bool.false_and]
    generalize s.A = A at *
    generalize s.n = n at *
    generalize s.c = c at *
    go_enter Try.func96, Try.ntmps96
    go_wp2_with (go_at_call 99; with_reducible refine HT.out.mono ?_; rintro e w1 ⟨rfl, hb1⟩)
    go_ret
    exact ⟨rfl, gr_auto⟩
  rw [hb] at HT
  obtain ⟨h1, h2⟩ := Ba.tblB_n hb
  clear hb h
  rw [Bool.true_and]
  obtain ⟨A, n, c, b, o, X, Y⟩ := s
  simp only at *
  obtain rfl := HA.out (by omega)
  obtain ⟨⟨a0, a1⟩, -, -⟩ := HX.out 0 (by omega)
  obtain ⟨⟨b0, b1⟩, -, -⟩ := HX.out (n - 1) (by omega)
  simp only [Nat.zero_mul, Nat.add_zero] at a0 a1
  obtain ⟨m, hm⟩ : ∃ m, n = m + 1 := ⟨n - 1, by omega⟩
  rw [show n - 1 = m by omega] at *
  have wv0 : (n : Int) - 1 = (m : Int) := by omega
  have wv1 : IntKind.i64.wrap (m : Int) = (m : Int) := IntWalk.i64_in _ (by omega)
  have wb0 : (0 : Int) ≤ (m : Int) := by omega
  have wb1 : (m : Int) < (n : Int) := by omega
  have wb2 : (0 : Int) < (n : Int) := by omega
  have wb3 : 0 < n := by omega
  clear hm HA HX h2
  generalize X 0 = x0 at *
  generalize Y 0 = y0 at *
  generalize X m = x1 at *
  generalize Y m = y1 at *
  unfold Ba.shpB
  cases e0 : (x0 == 0)
  · go_enter Try.func96, Try.ntmps96
    go_wp2_with fail
    refine HT.out.mono ?_
    rintro e w1 ⟨rfl, hb1⟩
    have a0 := Gr.at hb1 a0; have a1 := Gr.at hb1 a1; have b0 := Gr.at hb1 b0; have b1 := Gr.at hb1 b1
    have hbw : b < w1.heap.size := World.block_lt_of_cell? _ _ a0
    have hbn : b ≠ w1.heap.size := by omega
    have c0 := Gr.at (Gr.alloc (Gr.refl w1) (Obj.cells #[.int .i64 x1, .int .i64 y1] 100)) a0
    have c1 := Gr.at (Gr.alloc (Gr.refl w1) (Obj.cells #[.int .i64 x1, .int .i64 y1] 100)) a1
    go_wp2_with fail
    go_ret
    exact ⟨rfl, gr_auto⟩
  cases e1 : (y0 == 0)
  · go_enter Try.func96, Try.ntmps96
    go_wp2_with fail
    refine HT.out.mono ?_
    rintro e w1 ⟨rfl, hb1⟩
    have a0 := Gr.at hb1 a0; have a1 := Gr.at hb1 a1; have b0 := Gr.at hb1 b0; have b1 := Gr.at hb1 b1
    have hbw : b < w1.heap.size := World.block_lt_of_cell? _ _ a0
    have hbn : b ≠ w1.heap.size := by omega
    have c0 := Gr.at (Gr.alloc (Gr.refl w1) (Obj.cells #[.int .i64 x1, .int .i64 y1] 100)) a0
    have c1 := Gr.at (Gr.alloc (Gr.refl w1) (Obj.cells #[.int .i64 x1, .int .i64 y1] 100)) a1
    go_wp2_with fail
    go_ret
    exact ⟨rfl, gr_auto⟩
  cases e2 : (x1 == d)
  · go_enter Try.func96, Try.ntmps96
    go_wp2_with fail
    refine HT.out.mono ?_
    rintro e w1 ⟨rfl, hb1⟩
    have a0 := Gr.at hb1 a0; have a1 := Gr.at hb1 a1; have b0 := Gr.at hb1 b0; have b1 := Gr.at hb1 b1
    have hbw : b < w1.heap.size := World.block_lt_of_cell? _ _ a0
    have hbn : b ≠ w1.heap.size := by omega
    have c0 := Gr.at (Gr.alloc (Gr.refl w1) (Obj.cells #[.int .i64 x1, .int .i64 y1] 100)) a0
    have c1 := Gr.at (Gr.alloc (Gr.refl w1) (Obj.cells #[.int .i64 x1, .int .i64 y1] 100)) a1
    go_wp2_with fail
    go_ret
    exact ⟨rfl, gr_auto⟩
  cases e3 : decide (y1 ≤ 1125899906842624)
  · go_enter Try.func96, Try.ntmps96
    go_wp2_with fail
    refine HT.out.mono ?_
    rintro e w1 ⟨rfl, hb1⟩
    have a0 := Gr.at hb1 a0; have a1 := Gr.at hb1 a1; have b0 := Gr.at hb1 b0; have b1 := Gr.at hb1 b1
    have hbw : b < w1.heap.size := World.block_lt_of_cell? _ _ a0
    have hbn : b ≠ w1.heap.size := by omega
    have c0 := Gr.at (Gr.alloc (Gr.refl w1) (Obj.cells #[.int .i64 x1, .int .i64 y1] 100)) a0
    have c1 := Gr.at (Gr.alloc (Gr.refl w1) (Obj.cells #[.int .i64 x1, .int .i64 y1] 100)) a1
    go_wp2_with fail
    go_ret
    exact ⟨rfl, gr_auto⟩
  go_enter Try.func96, Try.ntmps96
  go_wp2_with fail
  refine HT.out.mono ?_
  rintro e w1 ⟨rfl, hb1⟩
  have a0 := Gr.at hb1 a0; have a1 := Gr.at hb1 a1; have b0 := Gr.at hb1 b0; have b1 := Gr.at hb1 b1
  have hbw : b < w1.heap.size := World.block_lt_of_cell? _ _ a0
  have hbn : b ≠ w1.heap.size := by omega
  have c0 := Gr.at (Gr.alloc (Gr.refl w1) (Obj.cells #[.int .i64 x1, .int .i64 y1] 100)) a0
  have c1 := Gr.at (Gr.alloc (Gr.refl w1) (Obj.cells #[.int .i64 x1, .int .i64 y1] 100)) a1
  go_wp2_with fail
  go_ret
  exact ⟨rfl, gr_auto⟩

set_option maxRecDepth 100000 in
set_option maxHeartbeats 4000000 in
theorem rshape_any (s : Ba.SlK) (d : Int) (w : World) (h : s.At w) : Calls Try.prog 88 #[.slice s.A s.n s.c, .int .i64 d] w fun e w' => e = .returned (.bool (Ba.shp s d)) ∧ Gr w w' := by
  have HT := Lib.hid (rtable_any s w h)
  have HA := Lib.hid h.hA; have HX := Lib.hid h.hX
  unfold Ba.shp
  cases hb : Ba.tblB s
  · rw [hb] at HT
    clear hb h HA HX
    rw [Bool.false_and]
    generalize s.A = A at *
    generalize s.n = n at *
    generalize s.c = c at *
    go_enter Try.func88, Try.ntmps88
    go_wp2_with (go_at_call 105; with_reducible refine HT.out.mono ?_; rintro e w1 ⟨rfl, hb1⟩)
    go_ret
    exact ⟨rfl, gr_auto⟩
  rw [hb] at HT
  obtain ⟨h1, h2⟩ := Ba.tblB_n hb
  clear hb h
  rw [Bool.true_and]
  obtain ⟨A, n, c, b, o, X, Y⟩ := s
  simp only at *
  obtain rfl := HA.out (by omega)
  obtain ⟨⟨a0, a1⟩, -, -⟩ := HX.out 0 (by omega)
  obtain ⟨⟨b0, b1⟩, -, -⟩ := HX.out (n - 1) (by omega)
  simp only [Nat.zero_mul, Nat.add_zero] at a0 a1
  obtain ⟨m, hm⟩ : ∃ m, n = m + 1 := ⟨n - 1, by omega⟩
  rw [show n - 1 = m by omega] at *
  have wv0 : (n : Int) - 1 = (m : Int) := by omega
  have wv1 : IntKind.i64.wrap (m : Int) = (m : Int) := IntWalk.i64_in _ (by omega)
  have wb0 : (0 : Int) ≤ (m : Int) := by omega
  have wb1 : (m : Int) < (n : Int) := by omega
  have wb2 : (0 : Int) < (n : Int) := by omega
  have wb3 : 0 < n := by omega
  clear hm HA HX h2
  generalize X 0 = x0 at *
  generalize Y 0 = y0 at *
  generalize X m = x1 at *
  generalize Y m = y1 at *
  unfold Ba.shpB
  cases e0 : (x0 == 0)
  · go_enter Try.func88, Try.ntmps88
    go_wp2_with fail
    refine HT.out.mono ?_
    rintro e w1 ⟨rfl, hb1⟩
    have a0 := Gr.at hb1 a0; have a1 := Gr.at hb1 a1; have b0 := Gr.at hb1 b0; have b1 := Gr.at hb1 b1
    have hbw : b < w1.heap.size := World.block_lt_of_cell? _ _ a0
    have hbn : b ≠ w1.heap.size := by omega
    have c0 := Gr.at (Gr.alloc (Gr.refl w1) (Obj.cells #[.int .i64 x1, .int .i64 y1] 100)) a0
    have c1 := Gr.at (Gr.alloc (Gr.refl w1) (Obj.cells #[.int .i64 x1, .int .i64 y1] 100)) a1
    go_wp2_with fail
    go_ret
    exact ⟨rfl, gr_auto⟩
  cases e1 : (y0 == 0)
  · go_enter Try.func88, Try.ntmps88
    go_wp2_with fail
    refine HT.out.mono ?_
    rintro e w1 ⟨rfl, hb1⟩
    have a0 := Gr.at hb1 a0; have a1 := Gr.at hb1 a1; have b0 := Gr.at hb1 b0; have b1 := Gr.at hb1 b1
    have hbw : b < w1.heap.size := World.block_lt_of_cell? _ _ a0
    have hbn : b ≠ w1.heap.size := by omega
    have c0 := Gr.at (Gr.alloc (Gr.refl w1) (Obj.cells #[.int .i64 x1, .int .i64 y1] 100)) a0
    have c1 := Gr.at (Gr.alloc (Gr.refl w1) (Obj.cells #[.int .i64 x1, .int .i64 y1] 100)) a1
    go_wp2_with fail
    go_ret
    exact ⟨rfl, gr_auto⟩
  cases e2 : (x1 == d)
  · go_enter Try.func88, Try.ntmps88
    go_wp2_with fail
    refine HT.out.mono ?_
    rintro e w1 ⟨rfl, hb1⟩
    have a0 := Gr.at hb1 a0; have a1 := Gr.at hb1 a1; have b0 := Gr.at hb1 b0; have b1 := Gr.at hb1 b1
    have hbw : b < w1.heap.size := World.block_lt_of_cell? _ _ a0
    have hbn : b ≠ w1.heap.size := by omega
    have c0 := Gr.at (Gr.alloc (Gr.refl w1) (Obj.cells #[.int .i64 x1, .int .i64 y1] 100)) a0
    have c1 := Gr.at (Gr.alloc (Gr.refl w1) (Obj.cells #[.int .i64 x1, .int .i64 y1] 100)) a1
    go_wp2_with fail
    go_ret
    exact ⟨rfl, gr_auto⟩
  cases e3 : decide (y1 ≤ 1125899906842624)
  · go_enter Try.func88, Try.ntmps88
    go_wp2_with fail
    refine HT.out.mono ?_
    rintro e w1 ⟨rfl, hb1⟩
    have a0 := Gr.at hb1 a0; have a1 := Gr.at hb1 a1; have b0 := Gr.at hb1 b0; have b1 := Gr.at hb1 b1
    have hbw : b < w1.heap.size := World.block_lt_of_cell? _ _ a0
    have hbn : b ≠ w1.heap.size := by omega
    have c0 := Gr.at (Gr.alloc (Gr.refl w1) (Obj.cells #[.int .i64 x1, .int .i64 y1] 100)) a0
    have c1 := Gr.at (Gr.alloc (Gr.refl w1) (Obj.cells #[.int .i64 x1, .int .i64 y1] 100)) a1
    go_wp2_with fail
    go_ret
    exact ⟨rfl, gr_auto⟩
  go_enter Try.func88, Try.ntmps88
  go_wp2_with fail
  refine HT.out.mono ?_
  rintro e w1 ⟨rfl, hb1⟩
  have a0 := Gr.at hb1 a0; have a1 := Gr.at hb1 a1; have b0 := Gr.at hb1 b0; have b1 := Gr.at hb1 b1
  have hbw : b < w1.heap.size := World.block_lt_of_cell? _ _ a0
  have hbn : b ≠ w1.heap.size := by omega
  have c0 := Gr.at (Gr.alloc (Gr.refl w1) (Obj.cells #[.int .i64 x1, .int .i64 y1] 100)) a0
  have c1 := Gr.at (Gr.alloc (Gr.refl w1) (Obj.cells #[.int .i64 x1, .int .i64 y1] 100)) a1
  go_wp2_with fail
  go_ret
  exact ⟨rfl, gr_auto⟩

set_option maxRecDepth 100000 in
set_option maxHeartbeats 4000000 in
theorem rcurve_any (s : Ba.SlK) (w : World) (h : s.At w) : Calls Try.prog 90 #[.slice s.A s.n s.c] w fun e w' => e = .returned (.bool (Ba.crv s)) ∧ Gr w w' := by
  have HT := Lib.hid (rtable_any s w h)
  have HA := Lib.hid h.hA; have HX := Lib.hid h.hX
  unfold Ba.crv
  cases hb : Ba.tblB s
  · rw [hb] at HT
    clear hb h HA HX
    rw [Bool.false_and]
    generalize s.A = A at *
    generalize s.n = n at *
    generalize s.c = c at *
    go_enter Try.func90, Try.ntmps90
    go_wp2_with (go_at_call 105; with_reducible refine HT.out.mono ?_; rintro e w1 ⟨rfl, hb1⟩)
    go_ret
    exact ⟨rfl, gr_auto⟩
  rw [hb] at HT
  obtain ⟨h1, h2⟩ := Ba.tblB_n hb
  clear hb h
  rw [Bool.true_and]
  obtain ⟨A, n, c, b, o, X, Y⟩ := s
  simp only at *
  obtain rfl := HA.out (by omega)
  obtain ⟨⟨a0, a1⟩, -, -⟩ := HX.out 0 (by omega)
  obtain ⟨⟨b0, b1⟩, -, -⟩ := HX.out (n - 1) (by omega)
  simp only [Nat.zero_mul, Nat.add_zero] at a0 a1
  obtain ⟨m, hm⟩ : ∃ m, n = m + 1 := ⟨n - 1, by omega⟩
  rw [show n - 1 = m by omega] at *
  have wv0 : (n : Int) - 1 = (m : Int) := by omega
  have wv1 : IntKind.i64.wrap (m : Int) = (m : Int) := IntWalk.i64_in _ (by omega)
  have wb0 : (0 : Int) ≤ (m : Int) := by omega
  have wb1 : (m : Int) < (n : Int) := by omega
  have wb2 : (0 : Int) < (n : Int) := by omega
  have wb3 : 0 < n := by omega
  clear hm HA HX h2
  generalize X 0 = x0 at *
  generalize Y 0 = y0 at *
  generalize X m = x1 at *
  generalize Y m = y1 at *
  unfold Ba.crvB
  cases e0 : decide (0 ≤ x0)
  · go_enter Try.func90, Try.ntmps90
    go_wp2_with fail
    refine HT.out.mono ?_
    rintro e w1 ⟨rfl, hb1⟩
    have a0 := Gr.at hb1 a0; have a1 := Gr.at hb1 a1; have b0 := Gr.at hb1 b0; have b1 := Gr.at hb1 b1
    have hbw : b < w1.heap.size := World.block_lt_of_cell? _ _ a0
    have hbn : b ≠ w1.heap.size := by omega
    have c0 := Gr.at (Gr.alloc (Gr.refl w1) (Obj.cells #[.int .i64 x1, .int .i64 y1] 100)) a0
    have c1 := Gr.at (Gr.alloc (Gr.refl w1) (Obj.cells #[.int .i64 x1, .int .i64 y1] 100)) a1
    go_wp2_with fail
    go_ret
    exact ⟨rfl, gr_auto⟩
  cases e1 : decide (x1 ≤ 4194304)
  · go_enter Try.func90, Try.ntmps90
    go_wp2_with fail
    refine HT.out.mono ?_
    rintro e w1 ⟨rfl, hb1⟩
    have a0 := Gr.at hb1 a0; have a1 := Gr.at hb1 a1; have b0 := Gr.at hb1 b0; have b1 := Gr.at hb1 b1
    have hbw : b < w1.heap.size := World.block_lt_of_cell? _ _ a0
    have hbn : b ≠ w1.heap.size := by omega
    have c0 := Gr.at (Gr.alloc (Gr.refl w1) (Obj.cells #[.int .i64 x1, .int .i64 y1] 100)) a0
    have c1 := Gr.at (Gr.alloc (Gr.refl w1) (Obj.cells #[.int .i64 x1, .int .i64 y1] 100)) a1
    go_wp2_with fail
    go_ret
    exact ⟨rfl, gr_auto⟩
  cases e2 : decide (0 ≤ y0)
  · go_enter Try.func90, Try.ntmps90
    go_wp2_with fail
    refine HT.out.mono ?_
    rintro e w1 ⟨rfl, hb1⟩
    have a0 := Gr.at hb1 a0; have a1 := Gr.at hb1 a1; have b0 := Gr.at hb1 b0; have b1 := Gr.at hb1 b1
    have hbw : b < w1.heap.size := World.block_lt_of_cell? _ _ a0
    have hbn : b ≠ w1.heap.size := by omega
    have c0 := Gr.at (Gr.alloc (Gr.refl w1) (Obj.cells #[.int .i64 x1, .int .i64 y1] 100)) a0
    have c1 := Gr.at (Gr.alloc (Gr.refl w1) (Obj.cells #[.int .i64 x1, .int .i64 y1] 100)) a1
    go_wp2_with fail
    go_ret
    exact ⟨rfl, gr_auto⟩
  cases e3 : decide (y1 ≤ 1099511627776)
  · go_enter Try.func90, Try.ntmps90
    go_wp2_with fail
    refine HT.out.mono ?_
    rintro e w1 ⟨rfl, hb1⟩
    have a0 := Gr.at hb1 a0; have a1 := Gr.at hb1 a1; have b0 := Gr.at hb1 b0; have b1 := Gr.at hb1 b1
    have hbw : b < w1.heap.size := World.block_lt_of_cell? _ _ a0
    have hbn : b ≠ w1.heap.size := by omega
    have c0 := Gr.at (Gr.alloc (Gr.refl w1) (Obj.cells #[.int .i64 x1, .int .i64 y1] 100)) a0
    have c1 := Gr.at (Gr.alloc (Gr.refl w1) (Obj.cells #[.int .i64 x1, .int .i64 y1] 100)) a1
    go_wp2_with fail
    go_ret
    exact ⟨rfl, gr_auto⟩
  go_enter Try.func90, Try.ntmps90
  go_wp2_with fail
  refine HT.out.mono ?_
  rintro e w1 ⟨rfl, hb1⟩
  have a0 := Gr.at hb1 a0; have a1 := Gr.at hb1 a1; have b0 := Gr.at hb1 b0; have b1 := Gr.at hb1 b1
  have hbw : b < w1.heap.size := World.block_lt_of_cell? _ _ a0
  have hbn : b ≠ w1.heap.size := by omega
  have c0 := Gr.at (Gr.alloc (Gr.refl w1) (Obj.cells #[.int .i64 x1, .int .i64 y1] 100)) a0
  have c1 := Gr.at (Gr.alloc (Gr.refl w1) (Obj.cells #[.int .i64 x1, .int .i64 y1] 100)) a1
  go_wp2_with fail
  go_ret
  exact ⟨rfl, gr_auto⟩

end Go.Proofs.Ythkmgnaeponfcaa
namespace Go.Proofs.Ythkmgnaeponfcaa
open Go.RowKit
namespace Ba
theorem any_iff (p : Nat → Bool) : ∀ n, any p n = true ↔ ∃ i, i < n ∧ p i = true
  | 0 => by simp [any, fst]
  | n + 1 => by
    have ih := any_iff p n
    unfold any at ih ⊢
    rw [fst]
    cases e : fst p n with
    | some k =>
      rw [e] at ih
      obtain ⟨i, hi, hp⟩ := ih.1 rfl
      simp only [Option.isSome_some, true_iff]
      exact ⟨i, by omega, hp⟩
    | none =>
      rw [e] at ih
      simp only [Option.isSome_none, Bool.false_eq_true, false_iff] at ih
      cases hp : p n
      · simp only [Bool.false_eq_true, if_false, Option.isSome_none, false_iff]
        rintro ⟨i, hi, h⟩
        by_cases e2 : i = n
        · subst e2; rw [hp] at h; cases h
        · exact ih ⟨i, by omega, h⟩
      · simp only [if_true, Option.isSome_some, true_iff]
        exact ⟨n, by omega, hp⟩
theorem kn_step {X Y : Nat → Int} {k : Nat} (h : kn X Y (k + 1) = true) : X k ≤ X (k + 1) ∧ Y k ≤ Y (k + 1) := by
  simp only [kn, Bool.and_eq_true, decide_eq_true_eq] at h; omega
theorem kns_le {X Y : Nat → Int} {n : Nat} (h : kns X Y n = true) : ∀ {i j : Nat}, i ≤ j → j < n → X i ≤ X j ∧ Y i ≤ Y j := by
  intro i j hij
  obtain ⟨d, rfl⟩ : ∃ d, j = i + d := ⟨j - i, by omega⟩
  clear hij
  induction d with
  | zero => intro _; exact ⟨Int.le_refl _, Int.le_refl _⟩
  | succ d ih =>
    intro hj
    have a := ih (by omega)
    have b := kn_step (kns_at (k := i + d + 1) h (by omega))
    rw [show i + (d + 1) = i + d + 1 by omega]
    omega
/-- A knot that is not one of a curve. -/
def offc (s : SlK) (i : Nat) : Bool := !bet (s.X i) 0 4194304 || !bet (s.Y i) 0 1099511627776
theorem crv_all {s : SlK} (h : tblB s = true) : (!any (offc s) s.n) = crv s := by
  have hn := tblB_n h
  have hk : kns s.X s.Y s.n = true := by unfold tblB at h; simp only [Bool.and_eq_true] at h; exact h.2
  unfold crv
  rw [h, Bool.true_and]
  have hz := any_iff (offc s) s.n
  cases e : any (offc s) s.n
  · rw [e] at hz
    have g : ∀ i, i < s.n → bet (s.X i) 0 4194304 = true ∧ bet (s.Y i) 0 1099511627776 = true := by
      intro i hi
      have : ¬ offc s i = true := fun q => by have := hz.2 ⟨i, hi, q⟩; cases this
      unfold offc at this
      simp only [Bool.or_eq_true, Bool.not_eq_true', not_or, Bool.not_eq_false] at this
      exact this
    have g0 := g 0 (by omega); have g1 := g (s.n - 1) (by omega)
    simp only [bet_iff] at g0 g1
    unfold crvB
    simp only [Bool.not_false]
    symm
    simp only [Bool.and_eq_true, decide_eq_true_eq]
    omega
  · rw [e] at hz
    obtain ⟨i, hi, hp⟩ := hz.1 rfl
    have l0 := kns_le hk (Nat.zero_le i) hi
    have l1 := kns_le hk (i := i) (j := s.n - 1) (by omega) (by omega)
    simp only [Bool.not_true]
    symm
    cases q : crvB (s.X 0) (s.Y 0) (s.X (s.n - 1)) (s.Y (s.n - 1))
    · rfl
    · exfalso
      unfold crvB at q
      simp only [Bool.and_eq_true, decide_eq_true_eq] at q
      have b0 : bet (s.X i) 0 4194304 = true := (bet_iff _ _ _).2 (by omega)
      have b1 : bet (s.Y i) 0 1099511627776 = true := (bet_iff _ _ _).2 (by omega)
      unfold offc at hp
      rw [b0, b1] at hp
      cases hp
end Ba
set_option maxRecDepth 100000 in
theorem linkc_any (x y : Int) (w : World) : Calls Try.prog 101 #[.agg #[.int .i64 x, .int .i64 y]] w fun e w' => e = .returned (.bool (!Ba.bet x 0 4194304 || !Ba.bet y 0 1099511627776)) ∧ Gr w w' := by
  have HX := Lib.hid (between_any x 0 4194304); have HY := Lib.hid (between_any y 0 1099511627776)
  cases h0 : Ba.bet x 0 4194304
  · rw [h0] at HX
    clear HY h0
    go_enter Try.func101, Try.ntmps101
    go_wp2_with fail
    refine (HX.out _).mono ?_
    rintro e w1 ⟨rfl, rfl⟩
    go_wp2_with fail
    go_ret
    exact ⟨rfl, gr_auto⟩
  rw [h0] at HX
  clear h0
  generalize Ba.bet y 0 1099511627776 = q at *
  cases q
  all_goals
    go_enter Try.func101, Try.ntmps101
    go_wp2_with fail
    refine (HX.out _).mono ?_
    rintro e w1 ⟨rfl, rfl⟩
    go_wp2_with fail
    refine (HY.out _).mono ?_
    rintro e w1 ⟨rfl, rfl⟩
    go_wp2_with fail
    go_ret
    exact ⟨rfl, gr_auto⟩
/-- slices.ContainsFunc over the knots of a valid table, by network's closure. -/
theorem curve_any (s : Ba.SlK) (w : World) (h : s.At w) (hb : Ba.tblB s = true) :
    Calls Try.prog 100 #[.slice s.A s.n s.c, .func (.func 101) #[] #[]] w fun e w' => e = .returned (.bool (!Ba.crv s)) ∧ Gr w w' := by
  rw [← Ba.crv_all hb, Bool.not_not]
  exact has_knot 101 #[] s (Ba.offc s) w h (enter_of Try.func101 (by kernel_rfl) (by kernel_rfl)) fun i hi W hW => linkc_any (s.X i) (s.Y i) W
end Go.Proofs.Ythkmgnaeponfcaa
namespace Go.Proofs.Ythkmgnaeponfcaa
open Go.RowKit
theorem Dc.isName_big (s : ByteArray) (h : 1000 < s.size) : Dc.isName s.data.toList = false := by
  unfold Dc.isName
  rw [show s.data.toList.length = s.size by simp, decide_eq_false (by omega : ¬ s.size ≤ 20)]
  simp
set_option maxRecDepth 100000 in
theorem isname_all (s : ByteArray) (w : World) (hm : s.size ≤ 9223372036854775807) : Calls Try.prog 93 #[.string s] w fun e w' => e = .returned (.bool (Dc.isName s.data.toList)) ∧ w = w' := by
  by_cases h : s.size ≤ 1000
  · exact isname_any s w h
  · rw [Dc.isName_big s (by omega)]
    have hE := empty_no s (by omega)
    have t1 : decide ((s.size : Int) ≤ 20) = false := decide_eq_false (by omega)
    clear h
    go_enter Try.func93, Try.ntmps93
    go_wp2_with fail
    go_ret
    exact ⟨rfl, rfl⟩
set_option maxRecDepth 100000 in
theorem risname_all (s : ByteArray) (w : World) (hm : s.size ≤ 9223372036854775807) : Calls Try.prog 85 #[.string s] w fun e w' => e = .returned (.bool (Dc.isName s.data.toList)) ∧ w = w' := by
  by_cases h : s.size ≤ 1000
  · exact risname_any s w h
  · rw [Dc.isName_big s (by omega)]
    have t0 : ((s.size : Int) == 0) = false := by rw [beq_eq_false_iff_ne]; omega
    have t1 : decide ((20 : Int) < (s.size : Int)) = true := decide_eq_true (by omega)
    clear h
    go_enter Try.func85, Try.ntmps85
    go_wp2_with fail
    go_ret
    exact ⟨rfl, rfl⟩
end Go.Proofs.Ythkmgnaeponfcaa
namespace Go.Proofs.Ythkmgnaeponfcaa
open Go.RowKit
namespace Ba
/-- Are two names the same? -/
def eqS (a b : ByteArray) : Bool := a.toList == b.toList
end Ba

set_option maxRecDepth 100000 in
theorem nodef_any (d : Ba.Node) (t : ByteArray) (B : Nat) (w : World) (hc : w.cell? ⟨B, 0, none⟩ = some (.string t)) : Calls Try.prog 83 #[d.val, .pointer (some ⟨B, 0, none⟩)] w fun e w' => e = .returned (.bool (Ba.eqS d.nm t)) ∧ Gr w w' := by
  have hB : B < w.heap.size := World.block_lt_of_cell? _ _ hc
  have hn : B ≠ w.heap.size := by omega
  unfold Ba.Node.val Ba.eqS
  go_enter Try.func83, Try.ntmps83
  go_wp2_with fail
  go_ret
  exact ⟨rfl, gr_auto⟩

set_option maxRecDepth 100000 in
theorem linkf_any (d : Ba.Link) (t : ByteArray) (B : Nat) (w : World) (hc : w.cell? ⟨B, 0, none⟩ = some (.string t)) : Calls Try.prog 92 #[d.val, .pointer (some ⟨B, 0, none⟩)] w fun e w' => e = .returned (.bool (Ba.eqS d.nm t)) ∧ Gr w w' := by
  have hB : B < w.heap.size := World.block_lt_of_cell? _ _ hc
  have hn : B ≠ w.heap.size := by omega
  unfold Ba.Link.val Ba.eqS
  go_enter Try.func92, Try.ntmps92
  go_wp2_with fail
  go_ret
  exact ⟨rfl, gr_auto⟩

set_option maxRecDepth 100000 in
theorem node_any (s : Ba.SlNode) (A : Option Addr) (n c : Nat) (t : ByteArray) (w : World) (h : s.At w) : Calls Try.prog 63 #[.agg #[.slice s.A s.n s.c, .slice A n c], .string t] w fun e w' => e = .returned (.int .i64 (Ba.fstI (fun i => Ba.eqS (s.D i).nm t) s.n)) ∧ Gr w w' := by
  have HI := Lib.hid (fun (B : Nat) (W : World) (hg : Gr w W) (hc : W.cell? ⟨B, 0, none⟩ = some (.string t)) => idx_node 83 #[.pointer (some ⟨B, 0, none⟩)] s (fun i => Ba.eqS (s.D i).nm t) W (h.gr hg) (enter_of Try.func83 (by kernel_rfl) (by kernel_rfl)) fun i hi W' hW => nodef_any (s.D i) t B W' (Gr.at hW hc))
  clear h
  generalize Ba.fstI (fun i => Ba.eqS (s.D i).nm t) s.n = r at *
  generalize s.A = A' at *
  generalize s.n = n' at *
  generalize s.c = c' at *
  go_enter Try.func63, Try.ntmps63
  go_wp2_with fail
  refine (HI.out _ _ gr_auto (by simp [go_sem])).mono ?_
  rintro e w1 ⟨rfl, hb1⟩
  go_wp2_with fail
  go_ret
  exact ⟨rfl, gr_auto⟩
set_option maxRecDepth 100000 in
theorem link_any (s : Ba.SlLink) (A : Option Addr) (n c : Nat) (t : ByteArray) (w : World) (h : s.At w) : Calls Try.prog 74 #[.agg #[.slice A n c, .slice s.A s.n s.c], .string t] w fun e w' => e = .returned (.int .i64 (Ba.fstI (fun i => Ba.eqS (s.D i).nm t) s.n)) ∧ Gr w w' := by
  have HI := Lib.hid (fun (B : Nat) (W : World) (hg : Gr w W) (hc : W.cell? ⟨B, 0, none⟩ = some (.string t)) => idx_link 92 #[.pointer (some ⟨B, 0, none⟩)] s (fun i => Ba.eqS (s.D i).nm t) W (h.gr hg) (enter_of Try.func92 (by kernel_rfl) (by kernel_rfl)) fun i hi W' hW => linkf_any (s.D i) t B W' (Gr.at hW hc))
  clear h
  generalize Ba.fstI (fun i => Ba.eqS (s.D i).nm t) s.n = r at *
  generalize s.A = A' at *
  generalize s.n = n' at *
  generalize s.c = c' at *
  go_enter Try.func74, Try.ntmps74
  go_wp2_with fail
  refine (HI.out _ _ gr_auto (by simp [go_sem])).mono ?_
  rintro e w1 ⟨rfl, hb1⟩
  go_wp2_with fail
  go_ret
  exact ⟨rfl, gr_auto⟩
end Go.Proofs.Ythkmgnaeponfcaa
namespace Go.Proofs.Ythkmgnaeponfcaa
open Go.RowKit

set_option maxRecDepth 100000 in
theorem rfindnode_any (s : Ba.SlNode) (A : Option Addr) (n c : Nat) (t : ByteArray) (w : World) (h : s.At w) : Calls Try.prog 15 #[.agg #[.slice s.A s.n s.c, .slice A n c], .string t] w fun e w' => e = .returned (.int .i64 (Ba.fstI (fun i => Ba.eqS (s.D i).nm t) s.n)) ∧ Gr w w' := by
  have HA := Lib.hid h.hA; have HX := Lib.hid h.hD
  have hn : s.n ≤ 9223372036854775807 := Nat.le_trans h.hc h.hb
  clear h
  obtain ⟨A', n', c', b, o, D⟩ := s
  simp only at *
  go_enter Try.func15, Try.ntmps15
  go_wp2_with fail
  refine name_world ?_; intro W0 hW0
  have g0 : Gr w W0 := by rw [hW0]; exact gr_auto
  have k0 : W0.cell? ⟨w.heap.size, 0, none⟩ = some (.slice A' n' c') := by rw [hW0]; simp [go_sem]
  clear hW0
  go_loopw [5] (fun q wr => ∃ i : Nat, i ≤ n' ∧ q = .int .i64 (i : Int) ∧ Gr W0 wr ∧ Hid (Ba.fst (fun i => Ba.eqS (D i).nm t) i = none)) (fun q _ => n' - (intOf q).toNat)
  case atStart => exact ⟨0, Nat.zero_le _, rfl, Gr.refl _, Lib.hid rfl⟩
  case round =>
    obtain ⟨i, hi, rfl, hg, hf⟩ := hrel
    have k1 := Gr.at hg k0
    by_cases hlt : i < n'
    · obtain rfl := HA.out (by omega)
      have a0 := Gr.at hg (Gr.at g0 (HX.out i hlt).1.1)
      cases hp : Ba.eqS (D i).nm t
      · have HF := Lib.hid (Ba.fst_miss (p := fun i => Ba.eqS (D i).nm t) hf.out hp)
        unfold Ba.eqS at hp
        clear hf
        go_wp2_with fail
        go_roundw
        case rel => exact ⟨i + 1, by omega, by go_num, gr_auto, HF⟩
        case measure => simp [intOf]; omega
      · have HF := Lib.hid (Ba.fstI_hit (p := fun i => Ba.eqS (D i).nm t) hf.out hp hlt)
        unfold Ba.eqS at hp
        clear hf
        go_wp2_with fail
        go_ret
        exact ⟨ret_int HF.out.symm, gr_auto⟩
    · obtain rfl : i = n' := by omega
      have HF := Lib.hid (Ba.fstI_none hf.out)
      clear hf
      go_wp2_with fail
      go_ret
      exact ⟨ret_int HF.out.symm, gr_auto⟩

set_option maxRecDepth 100000 in
theorem rfindlink_any (s : Ba.SlLink) (A : Option Addr) (n c : Nat) (t : ByteArray) (w : World) (h : s.At w) : Calls Try.prog 71 #[.agg #[.slice A n c, .slice s.A s.n s.c], .string t] w fun e w' => e = .returned (.int .i64 (Ba.fstI (fun i => Ba.eqS (s.D i).nm t) s.n)) ∧ Gr w w' := by
  have HA := Lib.hid h.hA; have HX := Lib.hid h.hD
  have hn : s.n ≤ 9223372036854775807 := Nat.le_trans h.hc h.hb
  clear h
  obtain ⟨A', n', c', b, o, D⟩ := s
  simp only at *
  go_enter Try.func71, Try.ntmps71
  go_wp2_with fail
  refine name_world ?_; intro W0 hW0
  have g0 : Gr w W0 := by rw [hW0]; exact gr_auto
  have k0 : W0.cell? ⟨w.heap.size, 1, none⟩ = some (.slice A' n' c') := by rw [hW0]; simp [go_sem]
  clear hW0
  go_loopw [5] (fun q wr => ∃ i : Nat, i ≤ n' ∧ q = .int .i64 (i : Int) ∧ Gr W0 wr ∧ Hid (Ba.fst (fun i => Ba.eqS (D i).nm t) i = none)) (fun q _ => n' - (intOf q).toNat)
  case atStart => exact ⟨0, Nat.zero_le _, rfl, Gr.refl _, Lib.hid rfl⟩
  case round =>
    obtain ⟨i, hi, rfl, hg, hf⟩ := hrel
    have k1 := Gr.at hg k0
    by_cases hlt : i < n'
    · obtain rfl := HA.out (by omega)
      have a0 := Gr.at hg (Gr.at g0 (HX.out i hlt).1.1)
      cases hp : Ba.eqS (D i).nm t
      · have HF := Lib.hid (Ba.fst_miss (p := fun i => Ba.eqS (D i).nm t) hf.out hp)
        unfold Ba.eqS at hp
        clear hf
        go_wp2_with fail
        go_roundw
        case rel => exact ⟨i + 1, by omega, by go_num, gr_auto, HF⟩
        case measure => simp [intOf]; omega
      · have HF := Lib.hid (Ba.fstI_hit (p := fun i => Ba.eqS (D i).nm t) hf.out hp hlt)
        unfold Ba.eqS at hp
        clear hf
        go_wp2_with fail
        go_ret
        exact ⟨ret_int HF.out.symm, gr_auto⟩
    · obtain rfl : i = n' := by omega
      have HF := Lib.hid (Ba.fstI_none hf.out)
      clear hf
      go_wp2_with fail
      go_ret
      exact ⟨ret_int HF.out.symm, gr_auto⟩

end Go.Proofs.Ythkmgnaeponfcaa
namespace Go.Proofs.Ythkmgnaeponfcaa
open Go.RowKit
namespace Ba
/-- The capacity of a right node. -/
def capy (d : Node) : Int := if d.kd = 3 then 0 else d.sh.Y (d.sh.n - 1)
end Ba
set_option maxRecDepth 100000 in
theorem rcapacity_any (d : Ba.Node) (w : World) (h : d.sh.At w) (hn : d.kd ≠ 3 → 1 ≤ d.sh.n) : Calls Try.prog 17 #[d.val] w fun e w' => e = .returned (.int .i64 (Ba.capy d)) ∧ Gr w w' := by
  have hb : d.sh.n ≤ 9223372036854775807 := Nat.le_trans h.hc h.hb
  have HA := Lib.hid h.hA; have HX := Lib.hid h.hX
  clear h
  unfold Ba.Node.val Ba.capy
  obtain ⟨nm, kd, ax, ay, iv, gr, ⟨A, n, c, b, o, X, Y⟩, pr, rs⟩ := d
  simp only at *
  by_cases hk : kd = 3
  · rw [if_pos hk]
    subst hk
    clear hn HA HX
    go_enter Try.func17, Try.ntmps17
    go_wp2_with fail
    go_ret
    exact ⟨rfl, gr_auto⟩
  · rw [if_neg hk]
    have h1 := hn hk
    have t0 : (kd == 3) = false := by rw [beq_eq_false_iff_ne]; exact hk
    obtain rfl := HA.out (by omega)
    obtain ⟨⟨-, b1⟩, -, -⟩ := HX.out (n - 1) (by omega)
    obtain ⟨m, hm⟩ : ∃ m, n = m + 1 := ⟨n - 1, by omega⟩
    rw [show n - 1 = m by omega] at *
    have hbw : b < w.heap.size := World.block_lt_of_cell? _ _ b1
    have hbn : b ≠ w.heap.size := by omega
    have wv0 : (n : Int) - 1 = (m : Int) := by omega
    have wv1 : IntKind.i64.wrap (m : Int) = (m : Int) := IntWalk.i64_in _ (by omega)
    have wb0 : (0 : Int) ≤ (m : Int) := by omega
    have wb1 : (m : Int) < (n : Int) := by omega
    clear hm HA HX hn hk
    generalize Y m = y1 at *
    go_enter Try.func17, Try.ntmps17
    go_wp2_with fail
    go_ret
    exact ⟨rfl, gr_auto⟩
end Go.Proofs.Ythkmgnaeponfcaa
namespace Go.Proofs.Ythkmgnaeponfcaa
open Go.RowKit
set_option maxRecDepth 100000 in
theorem last_any (s : Ba.SlK) (w : World) (h : s.At w) (h1 : 1 ≤ s.n) : Calls Try.prog 102 #[.slice s.A s.n s.c] w fun e w' => e = .returned (.agg #[.int .i64 (s.X (s.n - 1)), .int .i64 (s.Y (s.n - 1))]) ∧ Gr w w' := by
  have hb : s.n ≤ 9223372036854775807 := Nat.le_trans h.hc h.hb
  have HA := Lib.hid h.hA; have HX := Lib.hid h.hX
  clear h
  obtain ⟨A, n, c, b, o, X, Y⟩ := s
  simp only at *
  obtain rfl := HA.out (by omega)
  obtain ⟨⟨b0, b1⟩, -, -⟩ := HX.out (n - 1) (by omega)
  obtain ⟨m, hm⟩ : ∃ m, n = m + 1 := ⟨n - 1, by omega⟩
  rw [show n - 1 = m by omega] at *
  have hbw : b < w.heap.size := World.block_lt_of_cell? _ _ b1
  have hbn : b ≠ w.heap.size := by omega
  have c0 := Gr.at (Gr.alloc (Gr.refl w) (Obj.cells #[.int .i64 0, .int .i64 0] 100)) b0
  have c1 := Gr.at (Gr.alloc (Gr.refl w) (Obj.cells #[.int .i64 0, .int .i64 0] 100)) b1
  have wv0 : (n : Int) - 1 = (m : Int) := by omega
  have wv1 : IntKind.i64.wrap (m : Int) = (m : Int) := IntWalk.i64_in _ (by omega)
  have wb0 : (0 : Int) ≤ (m : Int) := by omega
  have wb1 : (m : Int) < (n : Int) := by omega
  clear hm HA HX
  generalize X m = x1 at *
  generalize Y m = y1 at *
  go_enter Try.func102, Try.ntmps102
  go_wp2_with fail
  refine bodyPost_ret (by simp [results, Try.results102, go_sem]; try rfl) rfl ?_
  exact ⟨rfl, gr_auto⟩
set_option maxRecDepth 100000 in
theorem capacity_any (d : Ba.Node) (w : World) (h : d.sh.At w) (hn : d.kd ≠ 3 → 1 ≤ d.sh.n) : Calls Try.prog 79 #[d.val] w fun e w' => e = .returned (.int .i64 (Ba.capy d)) ∧ Gr w w' := by
  have HL := Lib.hid (fun (hk : d.kd ≠ 3) (W : World) (hg : Gr w W) => last_any d.sh W (h.gr hg) (hn hk))
  clear h hn
  unfold Ba.Node.val Ba.capy
  obtain ⟨nm, kd, ax, ay, iv, gr, ⟨A, n, c, b, o, X, Y⟩, pr, rs⟩ := d
  simp only at *
  by_cases hk : kd = 3
  · rw [if_pos hk]
    subst hk
    clear HL
    go_enter Try.func79, Try.ntmps79
    go_wp2_with fail
    go_ret
    exact ⟨rfl, gr_auto⟩
  · rw [if_neg hk]
    have t0 : (kd == 3) = false := by rw [beq_eq_false_iff_ne]; exact hk
    have HM := Lib.hid (HL.out hk)
    clear HL hk
    generalize X (n - 1) = x1 at *
    generalize Y (n - 1) = y1 at *
    have hfd : ∀ w : World, (Instr.field 100 (.agg #[.int .i64 x1, .int .i64 y1]) 1).run Try.prog w = .ok (.int .i64 y1) w := fun _ => by kernel_rfl
    go_enter Try.func79, Try.ntmps79
    go_wp2_with fail
    refine (HM.out _ gr_auto).mono ?_
    rintro e w1 ⟨rfl, hb1⟩
    go_wp2_with fail
    go_ret
    exact ⟨rfl, gr_auto⟩
end Go.Proofs.Ythkmgnaeponfcaa
namespace Go.Proofs.Ythkmgnaeponfcaa
open Go.RowKit
set_option maxRecDepth 100000 in
theorem eqk_nil (s : Ba.SlK) (w : World) (h : s.At w) : Calls Try.prog 109 #[.slice s.A s.n s.c, .slice none 0 0] w fun e w' => e = .returned (.bool (decide (s.n = 0))) ∧ Gr w w' := by
  have hb : s.n ≤ 9223372036854775807 := Nat.le_trans h.hc h.hb
  clear h
  generalize s.A = A at *
  generalize s.n = n at *
  generalize s.c = c at *
  by_cases h0 : n = 0
  · subst h0
    go_enter Try.func109, Try.ntmps109
    go_wp2_with fail
    refine wp_loop_rounds 1 ?_
    rw [rounds_succ]
    go_wp2_with fail
    go_ret
    exact ⟨rfl, Gr.refl _⟩
  · rw [decide_eq_false h0]
    have t0 : ((n : Int) == 0) = false := by rw [beq_eq_false_iff_ne]; omega
    have t1 : (n == 0) = false := by rw [beq_eq_false_iff_ne]; omega
    go_enter Try.func109, Try.ntmps109
    go_wp2_with fail
    go_ret
    exact ⟨rfl, Gr.refl _⟩
set_option maxRecDepth 100000 in
theorem eqk_self (s : Ba.SlK) (w : World) (h : s.At w) : Calls Try.prog 109 #[.slice s.A s.n s.c, .slice s.A s.n s.c] w fun e w' => e = .returned (.bool true) ∧ Gr w w' := by
  have hb : s.n ≤ 9223372036854775807 := Nat.le_trans h.hc h.hb
  have HA := Lib.hid h.hA; have HX := Lib.hid h.hX
  clear h
  obtain ⟨A, n, c, b, o, X, Y⟩ := s
  simp only at *
  go_enter Try.func109, Try.ntmps109
  go_wp2_with fail
  go_loopw [13] (fun s13 wr => ∃ i : Nat, i ≤ n ∧ s13 = .int .i64 (i : Int) ∧ Gr w wr) (fun s13 _ => n - (intOf s13).toNat)
  case atStart => exact ⟨0, Nat.zero_le _, rfl, Gr.refl _⟩
  case round =>
    obtain ⟨i, hi, rfl, hg⟩ := hrel
    by_cases hlt : i < n
    · obtain rfl := HA.out (by omega)
      obtain ⟨⟨a0, a1⟩, -, -⟩ := HX.out i hlt
      have a0 := Gr.at hg a0; have a1 := Gr.at hg a1
      generalize X i = x at *
      generalize Y i = y at *
      go_wp2_with fail
      go_quiet (fail)
      go_wp2_with fail
      go_roundw
      case rel => exact ⟨i + 1, by omega, by go_num, gr_auto⟩
      case measure => simp [intOf]; omega
    · go_wp2_with fail
      go_ret
      exact ⟨rfl, hg⟩
end Go.Proofs.Ythkmgnaeponfcaa
namespace Go.Proofs.Ythkmgnaeponfcaa
open Go.RowKit
set_option maxRecDepth 100000 in
theorem swithin_any (x l h : Int) (w : World) : Calls Try.prog 78 #[.int .i64 x, .int .i64 l, .int .i64 h] w fun e w' => e = .returned (.bool (Ba.bet x l h)) ∧ w = w' := by
  unfold Ba.bet
  cases t0 : decide (l ≤ x)
  · go_enter Try.func78, Try.ntmps78
    go_wp2
    go_ret
    exact ⟨rfl, rfl⟩
  · cases t1 : decide (x ≤ h)
    · go_enter Try.func78, Try.ntmps78
      go_wp2
      go_ret
      exact ⟨rfl, rfl⟩
    · go_enter Try.func78, Try.ntmps78
      go_wp2
      go_ret
      exact ⟨rfl, rfl⟩
set_option maxRecDepth 100000 in
theorem holds_any (x : Int) (w : World) : Calls Try.prog 80 #[.int .i64 x] w fun e w' => e = .returned (.bool (Ba.bet x 0 1125899906842624)) ∧ w = w' := by
  have HX := Lib.hid (swithin_any x 0 1125899906842624)
  generalize Ba.bet x 0 1125899906842624 = q at *
  go_enter Try.func80, Try.ntmps80
  go_wp2_with fail
  refine (HX.out _).mono ?_
  rintro e w1 ⟨rfl, rfl⟩
  go_wp2_with fail
  go_ret
  exact ⟨rfl, rfl⟩
end Go.Proofs.Ythkmgnaeponfcaa
namespace Go.Proofs.Ythkmgnaeponfcaa
open Go.RowKit
namespace Ba
/-- All of them have the property. -/
def allB (p : Nat → Bool) : Nat → Bool
  | 0 => true
  | k + 1 => allB p k && p k
theorem allB_no {p : Nat → Bool} {k : Nat} (h : p k = false) : ∀ j, allB p (k + 1 + j) = false
  | 0 => by rw [Nat.add_zero, allB, h, Bool.and_false]
  | j + 1 => by rw [show k + 1 + (j + 1) = k + 1 + j + 1 by omega, allB, allB_no h j, Bool.false_and]
theorem allB_stop {p : Nat → Bool} {k n : Nat} (hk : k < n) (h : p k = false) : allB p n = false := by
  rw [show n = k + 1 + (n - (k + 1)) by omega]; exact allB_no h _
theorem allB_go {p : Nat → Bool} {k : Nat} (h : allB p k = true) (hk : p k = true) : allB p (k + 1) = true := by rw [allB, h, hk]; rfl
theorem allB_at {p : Nat → Bool} : ∀ {n k : Nat}, allB p n = true → k < n → p k = true
  | 0, _, _, h => by omega
  | n + 1, k, h, hk => by
    rw [allB, Bool.and_eq_true] at h
    by_cases e : k = n
    · subst e; exact h.2
    · exact allB_at h.1 (by omega)
theorem allB_iff {p : Nat → Bool} {n : Nat} : allB p n = true ↔ ∀ k, k < n → p k = true := by
  constructor
  · intro h k hk; exact allB_at h hk
  · induction n with
    | zero => intro _; rfl
    | succ n ih => intro h; rw [allB, Bool.and_eq_true]; exact ⟨ih fun k hk => h k (by omega), h n (by omega)⟩
theorem any_not {p : Nat → Bool} {n : Nat} : (!any (fun i => !p i) n) = allB p n := by
  rw [Bool.eq_iff_iff, allB_iff]
  have h := any_iff (fun i => !p i) n
  cases e : any (fun i => !p i) n
  · rw [e] at h
    simp only [Bool.not_false, true_iff]
    intro k hk
    cases hp : p k
    · exact absurd (h.2 ⟨k, hk, by simp [hp]⟩) Bool.false_ne_true
    · rfl
  · rw [e] at h
    obtain ⟨i, hi, hp⟩ := h.1 rfl
    simp only [Bool.not_true, Bool.false_eq_true, false_iff]
    intro h2
    have := h2 i hi
    simp [this] at hp
/-- The sum of the first numbers. -/
def sumI (X : Nat → Int) : Nat → Int
  | 0 => 0
  | k + 1 => sumI X k + X k
theorem sumI_le {X : Nat → Int} {lo hi : Int} : ∀ {n : Nat}, (∀ i, i < n → lo ≤ X i ∧ X i ≤ hi) → lo * n ≤ sumI X n ∧ sumI X n ≤ hi * n
  | 0, _ => by simp [sumI]
  | n + 1, h => by
    have a := sumI_le (n := n) fun i hi => h i (by omega)
    have b := h n (by omega)
    rw [sumI]
    constructor
    · rw [show lo * ((n + 1 : Nat) : Int) = lo * n + lo by push_cast; rw [Int.mul_add, Int.mul_one]]; omega
    · rw [show hi * ((n + 1 : Nat) : Int) = hi * n + hi by push_cast; rw [Int.mul_add, Int.mul_one]]; omega
theorem sumI_congr {X Y : Nat → Int} : ∀ {n : Nat}, (∀ i, i < n → X i = Y i) → sumI X n = sumI Y n
  | 0, _ => rfl
  | n + 1, h => by rw [sumI, sumI, sumI_congr fun i hi => h i (by omega), h n (by omega)]
theorem sumI_add (X Y : Nat → Int) : ∀ n, sumI (fun i => X i + Y i) n = sumI X n + sumI Y n
  | 0 => rfl
  | n + 1 => by rw [sumI, sumI, sumI, sumI_add X Y n]; omega
theorem sumI_sub (X Y : Nat → Int) : ∀ n, sumI (fun i => X i - Y i) n = sumI X n - sumI Y n
  | 0 => rfl
  | n + 1 => by rw [sumI, sumI, sumI, sumI_sub X Y n]; omega
theorem sumI_zero {X : Nat → Int} : ∀ {n : Nat}, (∀ i, i < n → X i = 0) → sumI X n = 0
  | 0, _ => rfl
  | n + 1, h => by rw [sumI, sumI_zero fun i hi => h i (by omega), h n (by omega)]; rfl
/-- A slice of bools. -/
structure SlB where
  A : Option Addr
  n : Nat
  c : Nat
  b : Nat
  o : Nat
  X : Nat → Bool
structure SlB.At (w : World) (s : SlB) : Prop where
  hA : 0 < s.n → s.A = some ⟨s.b, s.o, none⟩
  hc : s.n ≤ s.c
  hb : s.c ≤ 9223372036854775807
  hX : ∀ i, i < s.n → w.cell? ⟨s.b, s.o + i, none⟩ = some (.bool (s.X i))
theorem SlB.At.gr {w w1 : World} {s : SlB} (h : s.At w) (hg : Gr w w1) : s.At w1 := ⟨h.hA, h.hc, h.hb, fun i hi => Gr.at hg (h.hX i hi)⟩
/-- A slice of strings. -/
structure SlS where
  A : Option Addr
  n : Nat
  c : Nat
  b : Nat
  o : Nat
  X : Nat → ByteArray
structure SlS.At (w : World) (s : SlS) : Prop where
  hA : 0 < s.n → s.A = some ⟨s.b, s.o, none⟩
  hc : s.n ≤ s.c
  hb : s.c ≤ 9223372036854775807
  hX : ∀ i, i < s.n → w.cell? ⟨s.b, s.o + i, none⟩ = some (.string (s.X i)) ∧ (s.X i).size ≤ 9223372036854775807
theorem SlS.At.gr {w w1 : World} {s : SlS} (h : s.At w) (hg : Gr w w1) : s.At w1 := ⟨h.hA, h.hc, h.hb, fun i hi => ⟨Gr.at hg (h.hX i hi).1, (h.hX i hi).2⟩⟩
/-- A state. -/
structure State where
  vs : SlI
  ps : SlI
  st : SlI
  on : SlB
def State.val (d : State) : Value := .agg #[.slice d.vs.A d.vs.n d.vs.c, .slice d.ps.A d.ps.n d.ps.c, .slice d.st.A d.st.n d.st.c, .slice d.on.A d.on.n d.on.c]
def State.Ok (w : World) (d : State) : Prop := d.vs.At w ∧ d.ps.At w ∧ d.st.At w ∧ d.on.At w
theorem State.Ok.gr {w w1 : World} {d : State} (h : d.Ok w) (hg : Gr w w1) : d.Ok w1 := ⟨h.1.gr hg, h.2.1.gr hg, h.2.2.1.gr hg, h.2.2.2.gr hg⟩
/-- A network's value. -/
def netVal (N : SlNode) (L : SlLink) : Value := .agg #[.slice N.A N.n N.c, .slice L.A L.n L.c]
/-- A node's number by its name, a link's. -/
def nix (N : SlNode) (t : ByteArray) : Int := fstI (fun i => eqS (N.D i).nm t) N.n
def lix (L : SlLink) (t : ByteArray) : Int := fstI (fun i => eqS (L.D i).nm t) L.n
/-- What all right nodes share. -/
def rnA (d : Node) : Bool := Dc.isName d.nm.data.toList && (bet d.ax (-16777216) 16777216 && (bet d.ay (-16777216) 16777216 && (bet d.iv (-4194304) 4194304 && bet d.gr (-4194304) 4194304)))
/-- .. an outfall. -/
def rnO (iv gr : Int) (n : Nat) (pr : Bool) (rs : Int) : Bool := decide (iv ≤ gr) && (decide (n = 0) && (!pr && (rs == 0)))
/-- .. a manhole, or a tank, with its shape. -/
def rnM (kd : Int) (pr : Bool) (rs y : Int) : Bool := bif pr then (kd == 2) && bet rs 0 y else (rs == 0)
/-- A node is right. -/
def rnode (d : Node) : Bool := rnA d && (if d.kd = 3 then rnO d.iv d.gr d.sh.n d.pr d.rs else if d.kd = 1 ∨ d.kd = 2 then decide (d.iv < d.gr) && (shp d.sh (d.gr - d.iv) && rnM d.kd d.pr d.rs (d.sh.Y (d.sh.n - 1))) else false)
/-- What all right links share. -/
def rlA (d : Link) : Bool := Dc.isName d.nm.data.toList && (Dc.isName d.fr.data.toList && (Dc.isName d.tt.data.toList && (!eqS d.fr d.tt && (bet d.up (-4194304) 4194304 && bet d.dn (-4194304) 4194304))))
def rlP (d : Link) : Bool := bet d.ln 1 16777216 && (Dc.isName d.sc.data.toList && ((d.wd == 0) && ((d.ht == 0) && decide (d.cv.n = 0))))
def rlW (d : Link) : Bool := (d.ln == 0) && ((d.dn == 0) && (d.sc.toList.isEmpty && (bet d.wd 1 1048576 && ((d.ht == 0) && decide (d.cv.n = 0)))))
def rlG (d : Link) : Bool := (d.ln == 0) && ((d.dn == 0) && (d.sc.toList.isEmpty && (bet d.wd 1 32768 && (bet d.ht 1 32768 && decide (d.cv.n = 0)))))
def rlU (d : Link) : Bool := (d.ln == 0) && (decide (d.dn < d.up) && (d.sc.toList.isEmpty && ((d.wd == 0) && ((d.ht == 0) && crv d.cv))))
/-- A link is right. -/
def rlink (d : Link) : Bool := rlA d && (if d.kd = 1 then rlP d else if d.kd = 2 then rlW d else if d.kd = 3 then rlG d else if d.kd = 4 then rlU d else false)
/-- Node k of a network is right, and the first of its name. -/
def nodeB (N : SlNode) (k : Nat) : Bool := rnode (N.D k) && (nix N (N.D k).nm == (k : Int))
def linkB (N : SlNode) (L : SlLink) (k : Nat) : Bool := rlink (L.D k) && ((lix L (L.D k).nm == (k : Int)) && (decide (0 ≤ nix N (L.D k).fr) && (decide (0 ≤ nix N (L.D k).tt) && !((N.D (nix N (L.D k).fr).toNat).kd == 3))))
/-- A network is valid. -/
def netB (N : SlNode) (L : SlLink) : Bool := decide (N.n ≤ 300) && (decide (L.n ≤ 400) && (allB (nodeB N) N.n && allB (linkB N L) L.n))
/-- A state is valid. -/
def stN (N : SlNode) (s : State) (i : Nat) : Bool := bet (s.vs.X i) 0 (capy (N.D i)) && (bet (s.ps.X i) 0 1125899906842624 && !(((N.D i).kd == 3) && !(s.ps.X i == 0)))
def stL (L : SlLink) (s : State) (i : Nat) : Bool := bet (s.st.X i) 0 1000 && !(s.on.X i && !((L.D i).kd == 4))
def sizB (N : SlNode) (L : SlLink) (s : State) : Bool := decide (s.vs.n = N.n) && (decide (s.ps.n = N.n) && (decide (s.st.n = L.n) && decide (s.on.n = L.n)))
def stateB (N : SlNode) (L : SlLink) (s : State) : Bool := sizB N L s && (allB (stN N s) N.n && allB (stL L s) L.n)
/-- A ledger is valid. -/
def passB (g : SlI) : Bool := allB (fun i => bet (g.X i) 0 9007199254740992) g.n
def ledgB (L : SlLink) (g : Ledger) : Bool := bet g.inn 0 1152921504606846976 && (bet g.out 0 1152921504606846976 && (decide (g.ps.n = L.n) && passB g.ps))
end Ba
end Go.Proofs.Ythkmgnaeponfcaa
