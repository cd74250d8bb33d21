/-
  Surfaces: the law MeshMutual's closure corner. (Printed by mkmc.py.)
-/
import Derived.Test.YtajhhplgcegodaaDoorMsMu
set_option linter.unusedVariables false
set_option linter.unusedSimpArgs false
namespace Go.Proofs.YtajhhplgcegodaaDoor
open Go.RowKit
set_option maxRecDepth 100000 in
set_option maxHeartbeats 4000000 in
theorem mu_corner0 (m : Ms.Mesh) (MB i : Nat) (hi : i < m.F.n) (w : World) (h : m.F.At w) (h1 : w.cell? ⟨MB, 1, none⟩ = some (.slice m.F.A m.F.n m.F.c)) : Calls Tryd.prog 19 #[.int .i64 (i : Int), .int .i64 0, .pointer (some ⟨MB, 0, none⟩)] w fun e w' => e = .returned (.int .i64 (m.F.D i).a) ∧ Gr w w' := by
  obtain ⟨⟨a0, a1, a2, a3⟩, -⟩ := h.hD i hi
  have HFA := h.hA (by omega)
  have hfc := h.hc; have hfb := h.hb
  clear h
  rw [HFA] at h1
  generalize m.F.D i = f at *
  generalize m.F.A = fA at *; generalize m.F.n = fn at *; generalize m.F.c = fc at *
  generalize m.F.b = fb at *; generalize m.F.o = fo at *
  have ib0 : (0 : Int) ≤ (i : Int) := by omega
  have ib1 : (i : Int) < (fn : Int) := by omega
  have bl := World.block_lt_of_cell? _ _ a0
  have bm := World.block_lt_of_cell? _ _ h1
  simp only at bl bm
  clear HFA a3
  go_enter Tryd.func19, Tryd.ntmps19
  go_wp2_with fail
  go_region
  all_goals (
    go_wp2_with fail
    go_ret
    exact ⟨rfl, by exact gr_auto⟩)
set_option maxRecDepth 100000 in
set_option maxHeartbeats 4000000 in
theorem mu_corner1 (m : Ms.Mesh) (MB i : Nat) (hi : i < m.F.n) (w : World) (h : m.F.At w) (h1 : w.cell? ⟨MB, 1, none⟩ = some (.slice m.F.A m.F.n m.F.c)) : Calls Tryd.prog 19 #[.int .i64 (i : Int), .int .i64 1, .pointer (some ⟨MB, 0, none⟩)] w fun e w' => e = .returned (.int .i64 (m.F.D i).b) ∧ Gr w w' := by
  obtain ⟨⟨a0, a1, a2, a3⟩, -⟩ := h.hD i hi
  have HFA := h.hA (by omega)
  have hfc := h.hc; have hfb := h.hb
  clear h
  rw [HFA] at h1
  generalize m.F.D i = f at *
  generalize m.F.A = fA at *; generalize m.F.n = fn at *; generalize m.F.c = fc at *
  generalize m.F.b = fb at *; generalize m.F.o = fo at *
  have ib0 : (0 : Int) ≤ (i : Int) := by omega
  have ib1 : (i : Int) < (fn : Int) := by omega
  have bl := World.block_lt_of_cell? _ _ a0
  have bm := World.block_lt_of_cell? _ _ h1
  simp only at bl bm
  clear HFA a3
  go_enter Tryd.func19, Tryd.ntmps19
  go_wp2_with fail
  go_region
  all_goals (
    go_wp2_with fail
    go_ret
    exact ⟨rfl, by exact gr_auto⟩)
set_option maxRecDepth 100000 in
set_option maxHeartbeats 4000000 in
theorem mu_corner2 (m : Ms.Mesh) (MB i : Nat) (hi : i < m.F.n) (w : World) (h : m.F.At w) (h1 : w.cell? ⟨MB, 1, none⟩ = some (.slice m.F.A m.F.n m.F.c)) : Calls Tryd.prog 19 #[.int .i64 (i : Int), .int .i64 2, .pointer (some ⟨MB, 0, none⟩)] w fun e w' => e = .returned (.int .i64 (m.F.D i).c) ∧ Gr w w' := by
  obtain ⟨⟨a0, a1, a2, a3⟩, -⟩ := h.hD i hi
  have HFA := h.hA (by omega)
  have hfc := h.hc; have hfb := h.hb
  clear h
  rw [HFA] at h1
  generalize m.F.D i = f at *
  generalize m.F.A = fA at *; generalize m.F.n = fn at *; generalize m.F.c = fc at *
  generalize m.F.b = fb at *; generalize m.F.o = fo at *
  have ib0 : (0 : Int) ≤ (i : Int) := by omega
  have ib1 : (i : Int) < (fn : Int) := by omega
  have bl := World.block_lt_of_cell? _ _ a0
  have bm := World.block_lt_of_cell? _ _ h1
  simp only at bl bm
  clear HFA a3
  go_enter Tryd.func19, Tryd.ntmps19
  go_wp2_with fail
  go_region
  all_goals (
    go_wp2_with fail
    go_ret
    exact ⟨rfl, by exact gr_auto⟩)
set_option maxRecDepth 100000 in
set_option maxHeartbeats 4000000 in
theorem mu_corner3 (m : Ms.Mesh) (MB i : Nat) (hi : i < m.F.n) (w : World) (h : m.F.At w) (h1 : w.cell? ⟨MB, 1, none⟩ = some (.slice m.F.A m.F.n m.F.c)) : Calls Tryd.prog 19 #[.int .i64 (i : Int), .int .i64 3, .pointer (some ⟨MB, 0, none⟩)] w fun e w' => e = .returned (.int .i64 (m.F.D i).a) ∧ Gr w w' := by
  obtain ⟨⟨a0, a1, a2, a3⟩, -⟩ := h.hD i hi
  have HFA := h.hA (by omega)
  have hfc := h.hc; have hfb := h.hb
  clear h
  rw [HFA] at h1
  generalize m.F.D i = f at *
  generalize m.F.A = fA at *; generalize m.F.n = fn at *; generalize m.F.c = fc at *
  generalize m.F.b = fb at *; generalize m.F.o = fo at *
  have ib0 : (0 : Int) ≤ (i : Int) := by omega
  have ib1 : (i : Int) < (fn : Int) := by omega
  have bl := World.block_lt_of_cell? _ _ a0
  have bm := World.block_lt_of_cell? _ _ h1
  simp only at bl bm
  clear HFA a3
  go_enter Tryd.func19, Tryd.ntmps19
  go_wp2_with fail
  go_region
  all_goals (
    go_wp2_with fail
    go_ret
    exact ⟨rfl, by exact gr_auto⟩)
theorem mu_corner (m : Ms.Mesh) (MB i k : Nat) (hi : i < m.F.n) (hk : k < 4) (w : World) (h : m.F.At w) (h1 : w.cell? ⟨MB, 1, none⟩ = some (.slice m.F.A m.F.n m.F.c)) : Calls Tryd.prog 19 #[.int .i64 (i : Int), .int .i64 (k : Int), .pointer (some ⟨MB, 0, none⟩)] w fun e w' => e = .returned (.int .i64 (Ms.cor (m.F.D i) k)) ∧ Gr w w' := by
  rcases (by omega : k = 0 ∨ k = 1 ∨ k = 2 ∨ k = 3) with rfl | rfl | rfl | rfl
  · exact mu_corner0 m MB i hi w h h1
  · exact mu_corner1 m MB i hi w h h1
  · exact mu_corner2 m MB i hi w h h1
  · exact mu_corner3 m MB i hi w h h1
end Go.Proofs.YtajhhplgcegodaaDoor
