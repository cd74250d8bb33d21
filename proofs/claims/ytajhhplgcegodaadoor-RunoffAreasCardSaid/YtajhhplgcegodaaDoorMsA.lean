/-
  Surfaces: points, spots, corners, triangles, turns, sides: the program's and the reference's. (Printed by mka.py.)
-/
import Derived.Test.YtajhhplgcegodaaDoorMsPlain
import Derived.Test.YtajhhplgcegodaaDoorGA4
import Derived.Test.YtajhhplgcegodaaDoorGA2
import Derived.Test.YtajhhplgcegodaaDoorGA5
import Derived.Deep.DrawnRows
set_option linter.unusedVariables false
set_option linter.unusedSimpArgs false
namespace Go.Proofs.YtajhhplgcegodaaDoor
open Go.RowKit
attribute [local go_sem ↓] Go.wp_at_zero Go.wp_at_succ
set_option maxRecDepth 100000 in
set_option maxHeartbeats 4000000 in
theorem ms_pvalid (x y : Int) (w : World) : Calls Tryd.prog 93 #[.agg #[.int .i64 x, .int .i64 y]] w fun e w' => e = .returned (.bool (Ms.ptB x y)) ∧ Gr w w' := by
  unfold Ms.ptB Ms.bt
  cases t0 : decide (-16777216 ≤ x)
  · go_enter Tryd.func93, Tryd.ntmps93
    go_wp2_with fail
    go_ret
    exact ⟨rfl, gr_auto⟩
  · cases t1 : decide (x ≤ 16777216)
    · go_enter Tryd.func93, Tryd.ntmps93
      go_wp2_with fail
      go_ret
      exact ⟨rfl, gr_auto⟩
    · cases t2 : decide (-16777216 ≤ y)
      · go_enter Tryd.func93, Tryd.ntmps93
        go_wp2_with fail
        go_ret
        exact ⟨rfl, gr_auto⟩
      · cases t3 : decide (y ≤ 16777216)
        · go_enter Tryd.func93, Tryd.ntmps93
          go_wp2_with fail
          go_ret
          exact ⟨rfl, gr_auto⟩
        · go_enter Tryd.func93, Tryd.ntmps93
          go_wp2_with fail
          go_ret
          exact ⟨rfl, gr_auto⟩
set_option maxRecDepth 100000 in
set_option maxHeartbeats 4000000 in
theorem ms_right (s : Ba.Spot) (w : World) : Calls Tryd.prog 52 #[s.val] w fun e w' => e = .returned (.bool (Ms.spB s)) ∧ Gr w w' := by
  unfold Ms.spB Ms.bt Ba.Spot.val
  obtain ⟨x, y, z⟩ := s
  simp only
  have HP := Lib.hid (fun W => ms_pvalid x y W)
  cases q : Ms.ptB x y
  · rw [q] at HP
    clear q
    go_enter Tryd.func52, Tryd.ntmps52
    go_wp2_with fail
    refine (HP.out _).mono ?_
    rintro e w1 ⟨rfl, hb1⟩
    clear HP
    have d2 := Gr.at hb1 (b := w.heap.size) (o := 2) (v := .int .i64 z) (by simp [go_sem])
    go_wp2_with fail
    go_ret
    exact ⟨rfl, gr_auto⟩
  · rw [q] at HP
    clear q
    cases t4 : decide (-4194304 ≤ z)
    · go_enter Tryd.func52, Tryd.ntmps52
      go_wp2_with fail
      refine (HP.out _).mono ?_
      rintro e w1 ⟨rfl, hb1⟩
      clear HP
      have d2 := Gr.at hb1 (b := w.heap.size) (o := 2) (v := .int .i64 z) (by simp [go_sem])
      go_wp2_with fail
      go_ret
      exact ⟨rfl, gr_auto⟩
    · cases t5 : decide (z ≤ 4194304)
      · go_enter Tryd.func52, Tryd.ntmps52
        go_wp2_with fail
        refine (HP.out _).mono ?_
        rintro e w1 ⟨rfl, hb1⟩
        clear HP
        have d2 := Gr.at hb1 (b := w.heap.size) (o := 2) (v := .int .i64 z) (by simp [go_sem])
        go_wp2_with fail
        go_ret
        exact ⟨rfl, gr_auto⟩
      · go_enter Tryd.func52, Tryd.ntmps52
        go_wp2_with fail
        refine (HP.out _).mono ?_
        rintro e w1 ⟨rfl, hb1⟩
        clear HP
        have d2 := Gr.at hb1 (b := w.heap.size) (o := 2) (v := .int .i64 z) (by simp [go_sem])
        go_wp2_with fail
        go_ret
        exact ⟨rfl, gr_auto⟩
set_option maxRecDepth 100000 in
set_option maxHeartbeats 4000000 in
theorem rs_spot (s : Ba.Spot) (w : World) : Calls Tryd.prog 63 #[s.val] w fun e w' => e = .returned (.bool (Ms.spB s)) ∧ Gr w w' := by
  unfold Ms.spB Ms.ptB Ms.bt Ba.Spot.val
  obtain ⟨x, y, z⟩ := s
  simp only
  cases t0 : decide (-16777216 ≤ x)
  · go_enter Tryd.func63, Tryd.ntmps63
    go_wp2_with fail
    go_ret
    exact ⟨rfl, gr_auto⟩
  · cases t1 : decide (x ≤ 16777216)
    · go_enter Tryd.func63, Tryd.ntmps63
      go_wp2_with fail
      go_ret
      exact ⟨rfl, gr_auto⟩
    · cases t2 : decide (-16777216 ≤ y)
      · go_enter Tryd.func63, Tryd.ntmps63
        go_wp2_with fail
        go_ret
        exact ⟨rfl, gr_auto⟩
      · cases t3 : decide (y ≤ 16777216)
        · go_enter Tryd.func63, Tryd.ntmps63
          go_wp2_with fail
          go_ret
          exact ⟨rfl, gr_auto⟩
        · cases t4 : decide (-4194304 ≤ z)
          · go_enter Tryd.func63, Tryd.ntmps63
            go_wp2_with fail
            go_ret
            exact ⟨rfl, gr_auto⟩
          · cases t5 : decide (z ≤ 4194304)
            · go_enter Tryd.func63, Tryd.ntmps63
              go_wp2_with fail
              go_ret
              exact ⟨rfl, gr_auto⟩
            · go_enter Tryd.func63, Tryd.ntmps63
              go_wp2_with fail
              go_ret
              exact ⟨rfl, gr_auto⟩
set_option maxRecDepth 100000 in
set_option maxHeartbeats 4000000 in
theorem ms_turn (ax ay bx b_y cx cy : Int) (w : World) (h1 : Ms.cd ax) (h2 : Ms.cd ay) (h3 : Ms.cd bx) (h4 : Ms.cd b_y) (h5 : Ms.cd cx) (h6 : Ms.cd cy) : Calls Tryd.prog 57 #[.agg #[.int .i64 ax, .int .i64 ay], .agg #[.int .i64 bx, .int .i64 b_y], .agg #[.int .i64 cx, .int .i64 cy]] w fun e w' => e = .returned (.int .i64 (Ms.tr2 ax ay bx b_y cx cy)) ∧ Gr w w' := by
  unfold Ms.cd at *
  obtain ⟨a1, a2⟩ := Ms.mul_bd (a := bx - ax) (b := cy - ay) (by omega) (by omega)
  obtain ⟨b1, b2⟩ := Ms.mul_bd (a := b_y - ay) (b := cx - ax) (by omega) (by omega)
  obtain ⟨h11, h12⟩ := h1; obtain ⟨h21, h22⟩ := h2; obtain ⟨h31, h32⟩ := h3; obtain ⟨h41, h42⟩ := h4; obtain ⟨h51, h52⟩ := h5; obtain ⟨h61, h62⟩ := h6
  unfold Ms.tr2
  go_enter Tryd.func57, Tryd.ntmps57
  go_wp2_with fail
  go_ret
  exact ⟨rfl, gr_auto⟩
set_option maxRecDepth 100000 in
set_option maxHeartbeats 4000000 in
theorem ps_turn (ax ay bx b_y cx cy : Int) (w : World) (h1 : Ms.cd ax) (h2 : Ms.cd ay) (h3 : Ms.cd bx) (h4 : Ms.cd b_y) (h5 : Ms.cd cx) (h6 : Ms.cd cy) : Calls Tryd.prog 82 #[.agg #[.int .i64 ax, .int .i64 ay], .agg #[.int .i64 bx, .int .i64 b_y], .agg #[.int .i64 cx, .int .i64 cy]] w fun e w' => e = .returned (.int .i64 (Ms.tr2 ax ay bx b_y cx cy)) ∧ Gr w w' := by
  unfold Ms.cd at *
  obtain ⟨a1, a2⟩ := Ms.mul_bd (a := bx - ax) (b := cy - ay) (by omega) (by omega)
  obtain ⟨b1, b2⟩ := Ms.mul_bd (a := b_y - ay) (b := cx - ax) (by omega) (by omega)
  obtain ⟨h11, h12⟩ := h1; obtain ⟨h21, h22⟩ := h2; obtain ⟨h31, h32⟩ := h3; obtain ⟨h41, h42⟩ := h4; obtain ⟨h51, h52⟩ := h5; obtain ⟨h61, h62⟩ := h6
  unfold Ms.tr2
  go_enter Tryd.func82, Tryd.ntmps82
  go_wp2_with fail
  go_ret
  exact ⟨rfl, gr_auto⟩
set_option maxRecDepth 100000 in
set_option maxHeartbeats 4000000 in
theorem rs_turn (ax ay bx b_y cx cy : Int) (w : World) (h1 : Ms.cd ax) (h2 : Ms.cd ay) (h3 : Ms.cd bx) (h4 : Ms.cd b_y) (h5 : Ms.cd cx) (h6 : Ms.cd cy) : Calls Tryd.prog 97 #[.agg #[.int .i64 ax, .int .i64 ay], .agg #[.int .i64 bx, .int .i64 b_y], .agg #[.int .i64 cx, .int .i64 cy]] w fun e w' => e = .returned (.int .i64 (Ms.tr2 ax ay bx b_y cx cy)) ∧ Gr w w' := by
  unfold Ms.cd at *
  obtain ⟨a1, a2⟩ := Ms.mul_bd (a := bx - ax) (b := cy - ay) (by omega) (by omega)
  obtain ⟨b1, b2⟩ := Ms.mul_bd (a := b_y - ay) (b := cx - ax) (by omega) (by omega)
  obtain ⟨h11, h12⟩ := h1; obtain ⟨h21, h22⟩ := h2; obtain ⟨h31, h32⟩ := h3; obtain ⟨h41, h42⟩ := h4; obtain ⟨h51, h52⟩ := h5; obtain ⟨h61, h62⟩ := h6
  unfold Ms.tr2
  go_enter Tryd.func97, Tryd.ntmps97
  go_wp2_with fail
  go_ret
  exact ⟨rfl, gr_auto⟩
set_option maxRecDepth 100000 in
set_option maxHeartbeats 4000000 in
theorem ms_point (m : Ms.Mesh) (i : Nat) (w : World) (h : m.S.At w) (hi : i < m.S.n) : Calls Tryd.prog 53 #[m.val, .int .i64 (i : Int)] w fun e w' => e = .returned (.agg #[.int .i64 (m.S.D i).x, .int .i64 (m.S.D i).y]) ∧ Gr w w' := by
  have hA := h.hA (by omega)
  obtain ⟨a0, a1, a2⟩ := (h.hD i hi).1
  have hc := h.hc; have hb := h.hb
  have hB : m.S.b < w.heap.size := World.block_lt_of_cell? _ _ a0
  have ib0 : (0 : Int) ≤ (i : Int) := by omega
  have ib1 : (i : Int) < (m.S.n : Int) := by omega
  clear h a2
  unfold Ms.Mesh.val
  rw [hA]
  clear hA
  generalize m.S.D i = s at *; generalize m.S.n = n at *; generalize m.S.c = c at *; generalize m.S.b = b at *; generalize m.S.o = o at *; generalize m.F.A = fA at *; generalize m.F.n = fn at *; generalize m.F.c = fc at *
  go_enter Tryd.func53, Tryd.ntmps53
  go_wp2_with fail
  -- @a
  have hn0 : b ≠ w.heap.size := by omega
  have hn1 : b ≠ w.heap.size + 1 := by omega
  refine wp_region_tail 13 (by kernel_rfl) (by kernel_rfl) ?_
  simp only [List.take_succ_cons, List.take_zero, List.drop_succ_cons, List.drop_zero]
  repeat (go_big_quiet_step (skip))
  refine wpQuiet_nil ?_
  -- @b
  go_wp2_with fail
  -- @c
  refine bodyPost_ret (by simp [results, Tryd.results53, go_sem]; try rfl) rfl ?_
  exact ⟨rfl, gr_auto⟩
set_option maxRecDepth 100000 in
set_option maxHeartbeats 4000000 in
theorem rs_point (s : Ba.Spot) (w : World) : Calls Tryd.prog 65 #[s.val] w fun e w' => e = .returned (.agg #[.int .i64 s.x, .int .i64 s.y]) ∧ Gr w w' := by
  unfold Ba.Spot.val
  obtain ⟨x, y, z⟩ := s
  simp only
  go_enter Tryd.func65, Tryd.ntmps65
  go_wp2_with fail
  refine bodyPost_ret (by simp [results, Tryd.results65, go_sem]; try rfl) rfl ?_
  exact ⟨rfl, gr_auto⟩
set_option maxRecDepth 100000 in
set_option maxHeartbeats 4000000 in
theorem ms_corners (f : Ba.Face) (w : World) : Calls Tryd.prog 54 #[f.val] w fun e w' => e = .returned (.agg #[.int .i64 f.a, .int .i64 f.b, .int .i64 f.c]) ∧ Gr w w' := by
  unfold Ba.Face.val
  obtain ⟨a, b, c, k⟩ := f
  simp only
  go_enter Tryd.func54, Tryd.ntmps54
  go_wp2_with fail
  refine bodyPost_ret (by simp [results, Tryd.results54, go_sem]; try rfl) rfl ?_
  exact ⟨rfl, gr_auto⟩
end Go.Proofs.YtajhhplgcegodaaDoor
