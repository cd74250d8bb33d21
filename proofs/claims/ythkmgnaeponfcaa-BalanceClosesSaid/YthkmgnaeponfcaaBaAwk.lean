/-
  Law 36: small, awake.
  Law 36: awake. (Printed by mkwake.py.)
  Law 36: heavy, wide, large. (Printed by mklaw.py.)
  Law 36's arguments, opened: networks, states, ledgers, cases, names.
-/
import Derived.Test.YthkmgnaeponfcaaBaThree
import Derived.Test.YthkmgnaeponfcaaBaKit
import Derived.Deep.RegionHeld3
import Derived.Deep.DrawnRows
import Derived.Test.YthkmgnaeponfcaaBaSets
import Derived.Test.YthkmgnaeponfcaaBaStp
set_option linter.unusedVariables false
set_option linter.unusedSimpArgs false
namespace Go.Proofs.Ythkmgnaeponfcaa
open Go.RowKit
attribute [local go_sem ↓] Go.wp_at_zero Go.wp_at_succ
theorem at_two {w : World} {b : Nat} {x y : Int} (h0 : w.cell? ⟨b, 0, none⟩ = some (.int .i64 x)) (h1 : w.cell? ⟨b, 1, none⟩ = some (.int .i64 y)) (hx : Ba.i64 x) (hy : Ba.i64 y) : Ba.SlI.At w ⟨some ⟨b, 0, none⟩, 2, 2, b, 0, fun i => if i = 0 then x else y⟩ := ⟨fun _ => rfl, by simp, by simp, fun i hi => by
    simp only at hi
    rcases (by omega : i = 0 ∨ i = 1) with rfl | rfl
    · exact ⟨h0, hx⟩
    · exact ⟨h1, hy⟩⟩
theorem at_same {w : World} {b n : Nat} {x : Int} (h : ∀ i, i < n → w.cell? ⟨b, i, none⟩ = some (.int .i64 x) ∧ Ba.i64 x) (hn : n ≤ 1000 := by omega) : Ba.SlI.At w ⟨some ⟨b, 0, none⟩, n, n, b, 0, fun _ => x⟩ := ⟨fun _ => rfl, by simp, by simp only; omega, fun i hi => by simp only [Nat.zero_add]; exact h i hi⟩
theorem at_flag {w : World} {b n : Nat} {x : Bool} (h : ∀ i, i < n → w.cell? ⟨b, i, none⟩ = some (.bool x)) (hn : n ≤ 1000 := by omega) : Ba.SlB.At w ⟨some ⟨b, 0, none⟩, n, n, b, 0, fun _ => x⟩ := ⟨fun _ => rfl, by simp, by simp only; omega, fun i hi => by simp only [Nat.zero_add]; exact h i hi⟩
/-- A state of two nodes and a link comes back. -/
def RetSt (v : Int) (w : World) (e : Ending) (w' : World) : Prop := ∃ s : Ba.State, e = .returned (.agg #[.slice s.vs.A s.vs.n s.vs.c, .slice s.ps.A s.ps.n s.ps.c, .slice s.st.A s.st.n s.st.c, .slice s.on.A s.on.n s.on.c]) ∧ s.Ok w' ∧ (s.vs.n = 2 ∧ s.vs.X = fun i => if i = 0 then v else 0) ∧ (s.ps.n = 2 ∧ s.ps.X = fun _ => 0) ∧ (s.st.n = 1 ∧ s.st.X = fun _ => 1000) ∧ (s.on.n = 1 ∧ s.on.X = fun _ => false) ∧ (w.heap.size ≤ s.vs.b ∧ w.heap.size ≤ s.ps.b ∧ w.heap.size ≤ s.st.b ∧ w.heap.size ≤ s.on.b) ∧ Gr w w'
set_option maxRecDepth 100000 in
set_option maxHeartbeats 2000000 in
theorem smallf_any (v : Int) (w : World) (hv : Ba.i64 v) : Calls Try.prog 59 #[.int .i64 v] w (RetSt v w) := by
  go_enter Try.func59, Try.ntmps59
  go_wp2_with fail
  go_returns
  refine ⟨⟨⟨some ⟨w.heap.size + 1, 0, none⟩, 2, 2, w.heap.size + 1, 0, fun i => if i = 0 then v else 0⟩, ⟨some ⟨w.heap.size + 1 + 1, 0, none⟩, 2, 2, w.heap.size + 1 + 1, 0, fun _ => 0⟩, ⟨some ⟨w.heap.size + 1 + 1 + 1, 0, none⟩, 1, 1, w.heap.size + 1 + 1 + 1, 0, fun _ => 1000⟩, ⟨some ⟨w.heap.size + 1 + 1 + 1 + 1, 0, none⟩, 1, 1, w.heap.size + 1 + 1 + 1 + 1, 0, fun _ => false⟩⟩, rfl, ⟨at_two ?_ ?_ hv (by unfold Ba.i64; omega), at_same fun i hi => ⟨?_, by unfold Ba.i64; omega⟩, at_same fun i hi => ⟨?_, by unfold Ba.i64; omega⟩, at_flag fun i hi => ?_⟩, ⟨rfl, rfl⟩, ⟨rfl, rfl⟩, ⟨rfl, rfl⟩, ⟨rfl, rfl⟩, ⟨by simp only; omega, by simp only; omega, by simp only; omega, by simp only; omega⟩, gr_auto⟩
  · simp [go_sem]
  · simp [go_sem]
  · rcases (by omega : i = 0 ∨ i = 1) with rfl | rfl <;> simp [go_sem]
  · obtain rfl : i = 0 := by omega
    simp [go_sem]
  · obtain rfl : i = 0 := by omega
    simp [go_sem]
/-- A table of two knots. -/
def Ba.tb2 (b : Nat) : Ba.SlK := ⟨some ⟨b, 0, none⟩, 2, 2, b, 0, fun i => if i = 0 then 0 else 1000, fun i => if i = 0 then 0 else 1000⟩
/-- The example's nodes, and its link. -/
def Ba.exN (bt bn : Nat) : Ba.SlNode := ⟨some ⟨bn, 0, none⟩, 2, 2, bn, 0, fun i => if i = 0 then ⟨⟨#[97]⟩, 1, 0, 0, 0, 1000, Ba.tb2 bt, false, 0⟩ else ⟨⟨#[111]⟩, 3, 0, 0, 0, 0, ⟨none, 0, 0, 0, 0, fun _ => 0, fun _ => 0⟩, false, 0⟩⟩
def Ba.exL (bl : Nat) : Ba.SlLink := ⟨some ⟨bl, 0, none⟩, 1, 1, bl, 0, fun _ => ⟨⟨#[112]⟩, ⟨#[97]⟩, ⟨#[111]⟩, 1, 1000, 0, 0, ⟨#[99]⟩, 0, 0, ⟨none, 0, 0, 0, 0, fun _ => 0, fun _ => 0⟩⟩⟩
def Ba.StIs (s : Ba.State) (v : Int) : Prop := (s.vs.n = 2 ∧ s.vs.X = fun i => if i = 0 then v else 0) ∧ (s.ps.n = 2 ∧ s.ps.X = fun _ => 0) ∧ (s.st.n = 1 ∧ s.st.X = fun _ => 1000) ∧ (s.on.n = 1 ∧ s.on.X = fun _ => false)
theorem Ba.SlI.At.z {lo hi : Nat} {w w' : World} {s : Ba.SlI} (h : s.At w) (hg : GrZ lo hi w w') (hb : hi ≤ s.b) : s.At w' := ⟨h.hA, h.hc, h.hb, fun i hi' => ⟨hg.at (Or.inr hb) (h.hX i hi').1, (h.hX i hi').2⟩⟩
theorem Ba.SlB.At.z {lo hi : Nat} {w w' : World} {s : Ba.SlB} (h : s.At w) (hg : GrZ lo hi w w') (hb : hi ≤ s.b) : s.At w' := ⟨h.hA, h.hc, h.hb, fun i hi' => hg.at (Or.inr hb) (h.hX i hi')⟩
theorem Ba.State.Ok.z {lo hi : Nat} {w w' : World} {s : Ba.State} (h : s.Ok w) (hg : GrZ lo hi w w') (h1 : hi ≤ s.vs.b) (h2 : hi ≤ s.ps.b) (h3 : hi ≤ s.st.b) (h4 : hi ≤ s.on.b) : s.Ok w' := ⟨h.1.z hg h1, h.2.1.z hg h2, h.2.2.1.z hg h3, h.2.2.2.z hg h4⟩
/-- The example's cells. -/
def Ba.ExAt (w : World) (bt bn bl : Nat) : Prop := (w.cell? ⟨bt, 0, none⟩ = some (.int .i64 0) ∧ w.cell? ⟨bt, 1, none⟩ = some (.int .i64 0) ∧ w.cell? ⟨bt, 2, none⟩ = some (.int .i64 1000) ∧ w.cell? ⟨bt, 3, none⟩ = some (.int .i64 1000)) ∧
  ((Ba.exN bt bn).D 0).Cells w bn 0 ∧ ((Ba.exN bt bn).D 1).Cells w bn 9 ∧ ((Ba.exL bl).D 0).Cells w bl 0
theorem Ba.Node.Cells.z {lo hi : Nat} {w w' : World} {b o : Nat} {d : Ba.Node} (h : d.Cells w b o) (hg : GrZ lo hi w w') (hb : hi ≤ b) : d.Cells w' b o := by
  have hb' : b < lo ∨ hi ≤ b := Or.inr hb
  obtain ⟨h0, h1, h2, h3, h4, h5, h6, h7, h8⟩ := h
  exact ⟨hg.at hb' h0, hg.at hb' h1, hg.at hb' h2, hg.at hb' h3, hg.at hb' h4, hg.at hb' h5, hg.at hb' h6, hg.at hb' h7, hg.at hb' h8⟩
theorem Ba.Link.Cells.z {lo hi : Nat} {w w' : World} {b o : Nat} {d : Ba.Link} (h : d.Cells w b o) (hg : GrZ lo hi w w') (hb : hi ≤ b) : d.Cells w' b o := by
  have hb' : b < lo ∨ hi ≤ b := Or.inr hb
  obtain ⟨h0, h1, h2, h3, h4, h5, h6, h7, h8, h9, h10⟩ := h
  exact ⟨hg.at hb' h0, hg.at hb' h1, hg.at hb' h2, hg.at hb' h3, hg.at hb' h4, hg.at hb' h5, hg.at hb' h6, hg.at hb' h7, hg.at hb' h8, hg.at hb' h9, hg.at hb' h10⟩
theorem Ba.ExAt.gr {w w' : World} {bt bn bl : Nat} (h : Ba.ExAt w bt bn bl) (g : Gr w w') : Ba.ExAt w' bt bn bl := by
  obtain ⟨⟨t0, t1, t2, t3⟩, n0, n1, l0⟩ := h
  exact ⟨⟨Gr.at g t0, Gr.at g t1, Gr.at g t2, Gr.at g t3⟩, n0.gr g, n1.gr g, l0.gr g⟩
theorem Ba.ExAt.z {lo hi : Nat} {w w' : World} {bt bn bl : Nat} (h : Ba.ExAt w bt bn bl) (g : GrZ lo hi w w') (h1 : hi ≤ bt) (h2 : hi ≤ bn) (h3 : hi ≤ bl) : Ba.ExAt w' bt bn bl := by
  obtain ⟨⟨t0, t1, t2, t3⟩, n0, n1, l0⟩ := h
  exact ⟨⟨g.at (Or.inr h1) t0, g.at (Or.inr h1) t1, g.at (Or.inr h1) t2, g.at (Or.inr h1) t3⟩, n0.z g h2, n1.z g h2, l0.z g h3⟩
theorem Ba.i64_small {x : Int} (h : -1000000 ≤ x ∧ x ≤ 1000000) : Ba.i64 x := by unfold Ba.i64; omega
theorem Ba.nil_at (w : World) : Ba.SlK.At w ⟨none, 0, 0, 0, 0, fun _ => 0, fun _ => 0⟩ := ⟨fun h => absurd h (by simp), by simp, by simp, fun i hi => absurd hi (by simp)⟩
theorem Ba.ExAt.node {w : World} {bt bn bl : Nat} (h : Ba.ExAt w bt bn bl) : (Ba.exN bt bn).At w := by
  obtain ⟨⟨t0, t1, t2, t3⟩, n0, n1, l0⟩ := h
  have s : ∀ x : Int, -1000000 ≤ x ∧ x ≤ 1000000 → Ba.i64 x := fun x hx => Ba.i64_small hx
  refine ⟨fun _ => rfl, by simp [Ba.exN], by simp [Ba.exN], fun i hi => ?_⟩
  have hi2 : i < 2 := hi
  rcases (by omega : i = 0 ∨ i = 1) with rfl | rfl
  · refine ⟨by simpa [Ba.exN] using n0, ?_⟩
    refine ⟨s _ (by simp [Ba.exN, Ba.exL, Ba.tb2]), s _ (by simp [Ba.exN, Ba.exL, Ba.tb2]), s _ (by simp [Ba.exN, Ba.exL, Ba.tb2]), s _ (by simp [Ba.exN, Ba.exL, Ba.tb2]), s _ (by simp [Ba.exN, Ba.exL, Ba.tb2]), s _ (by simp [Ba.exN, Ba.exL, Ba.tb2]), by simp [Ba.exN]; decide, ?_⟩
    refine ⟨fun _ => rfl, by simp [Ba.exN, Ba.tb2], by simp [Ba.exN, Ba.tb2], fun j hj => ?_⟩
    have hj2 : j < 2 := hj
    rcases (by omega : j = 0 ∨ j = 1) with rfl | rfl
    · exact ⟨⟨t0, t1⟩, s _ (by simp [Ba.exN, Ba.exL, Ba.tb2]), s _ (by simp [Ba.exN, Ba.exL, Ba.tb2])⟩
    · exact ⟨⟨t2, t3⟩, s _ (by simp [Ba.exN, Ba.exL, Ba.tb2]), s _ (by simp [Ba.exN, Ba.exL, Ba.tb2])⟩
  · refine ⟨by simpa [Ba.exN] using n1, ?_⟩
    exact ⟨s _ (by simp [Ba.exN, Ba.exL, Ba.tb2]), s _ (by simp [Ba.exN, Ba.exL, Ba.tb2]), s _ (by simp [Ba.exN, Ba.exL, Ba.tb2]), s _ (by simp [Ba.exN, Ba.exL, Ba.tb2]), s _ (by simp [Ba.exN, Ba.exL, Ba.tb2]), s _ (by simp [Ba.exN, Ba.exL, Ba.tb2]), by simp [Ba.exN]; decide, Ba.nil_at w⟩
theorem Ba.ExAt.link {w : World} {bt bn bl : Nat} (h : Ba.ExAt w bt bn bl) : (Ba.exL bl).At w := by
  obtain ⟨-, -, -, l0⟩ := h
  have s : ∀ x : Int, -1000000 ≤ x ∧ x ≤ 1000000 → Ba.i64 x := fun x hx => Ba.i64_small hx
  refine ⟨fun _ => rfl, by simp [Ba.exL], by simp [Ba.exL], fun i hi => ?_⟩
  have hi2 : i < 1 := hi
  obtain rfl : i = 0 := by omega
  exact ⟨by simpa [Ba.exL] using l0, s _ (by simp [Ba.exN, Ba.exL, Ba.tb2]), s _ (by simp [Ba.exN, Ba.exL, Ba.tb2]), s _ (by simp [Ba.exN, Ba.exL, Ba.tb2]), s _ (by simp [Ba.exN, Ba.exL, Ba.tb2]), s _ (by simp [Ba.exN, Ba.exL, Ba.tb2]), s _ (by simp [Ba.exN, Ba.exL, Ba.tb2]), by simp [Ba.exL]; decide, by simp [Ba.exL]; decide, by simp [Ba.exL]; decide, by simp [Ba.exL]; decide, Ba.nil_at w⟩
theorem name_post {P : Program} {f : Func} {Q : Ending → World → Prop} {x : Exit} {a : Act} {w : World} (h : ∀ W, W = w → bodyPost P f Q x a W) : bodyPost P f Q x a w := h w rfl
set_option maxRecDepth 100000 in
set_option maxHeartbeats 2000000 in
theorem small_any (a b : Int) (w : World) (ha : Ba.i64 a) (hb : Ba.i64 b) : Calls Try.prog 31 #[.int .i64 a, .int .i64 b] w fun e w' => ∃ (bt bn bl : Nat) (s1 s2 : Ba.State), e = .returned (.tuple #[Ba.netVal (Ba.exN bt bn) (Ba.exL bl), s1.val, s2.val]) ∧ (Ba.exN bt bn).At w' ∧ (Ba.exL bl).At w' ∧ s1.Ok w' ∧ s2.Ok w' ∧ Ba.StIs s1 a ∧ Ba.StIs s2 b ∧ Gr w w' := by
  have HS1 := Lib.hid (fun W => smallf_any a W ha)
  have HS2 := Lib.hid (fun W => smallf_any b W hb)
  go_enter Try.func31, Try.ntmps31
  go_wp2_with fail
  refine name_world ?_; intro W2 hW2
  have hNA : Ba.ExAt W2 (w.heap.size + 1 + 1 + 1) (w.heap.size + 1 + 1 + 1 + 1) (w.heap.size + 1 + 1 + 1 + 1 + 1) := by
    rw [hW2]
    refine ⟨⟨?_, ?_, ?_, ?_⟩, ⟨?_, ?_, ?_, ?_, ?_, ?_, ?_, ?_, ?_⟩, ⟨?_, ?_, ?_, ?_, ?_, ?_, ?_, ?_, ?_⟩, ⟨?_, ?_, ?_, ?_, ?_, ?_, ?_, ?_, ?_, ?_, ?_⟩⟩ <;> simp [go_sem, Ba.exN, Ba.exL, Ba.tb2]
  have hLA : w.heap.size + 7 ≤ W2.heap.size := by rw [hW2]; simp
  subst hW2
  refine name_world ?_; intro W3 hW3
  have g3 : Gr w W3 := by rw [hW3]; exact gr_auto
  have k3_0 : ∀ w', Gr W3 w' → w'.cell? ⟨w.heap.size + 1 + 1 + 1 + 1 + 1 + 1, 0, none⟩ = some (.slice (some ⟨w.heap.size + 1 + 1 + 1 + 1, 0, none⟩) 2 2) := fun w' hgW => by first | exact (Gr.at hgW (by rw [hW3]; simp [go_sem, *]))
  have k3_1 : ∀ w', Gr W3 w' → w'.cell? ⟨w.heap.size + 1 + 1 + 1 + 1 + 1 + 1, 1, none⟩ = some (.slice (some ⟨w.heap.size + 1 + 1 + 1 + 1 + 1, 0, none⟩) 1 1) := fun w' hgW => by first | exact (Gr.at hgW (by rw [hW3]; simp [go_sem, *]))
  have k3_2 : ∀ w', Gr W3 w' → w'.cell? ⟨w.heap.size, 0, none⟩ = some (.slice none 0 0) := fun w' hgW => by first | exact (Gr.at hgW (by rw [hW3]; simp [go_sem, *]))
  (first | (have j3_2 : ∀ w', Gr W3 w' → w'.frozen? ⟨w.heap.size, 0, none⟩ = false := fun w' hgW => ((Gr.cells hgW).2 _ _ (World.block_lt_of_cell? W3 ⟨w.heap.size, 0, none⟩ (k3_2 W3 (Gr.refl _)))).trans (by rw [hW3]; simp [go_sem, *]; done)) | skip)
  have k3_3 : ∀ w', Gr W3 w' → w'.cell? ⟨w.heap.size, 1, none⟩ = some (.slice none 0 0) := fun w' hgW => by first | exact (Gr.at hgW (by rw [hW3]; simp [go_sem, *]))
  (first | (have j3_3 : ∀ w', Gr W3 w' → w'.frozen? ⟨w.heap.size, 1, none⟩ = false := fun w' hgW => ((Gr.cells hgW).2 _ _ (World.block_lt_of_cell? W3 ⟨w.heap.size, 1, none⟩ (k3_3 W3 (Gr.refl _)))).trans (by rw [hW3]; simp [go_sem, *]; done)) | skip)
  have k3_4 : ∀ w', Gr W3 w' → w'.cell? ⟨w.heap.size + 1, 0, none⟩ = some (.slice none 0 0) := fun w' hgW => by first | exact (Gr.at hgW (by rw [hW3]; simp [go_sem, *]))
  (first | (have j3_4 : ∀ w', Gr W3 w' → w'.frozen? ⟨w.heap.size + 1, 0, none⟩ = false := fun w' hgW => ((Gr.cells hgW).2 _ _ (World.block_lt_of_cell? W3 ⟨w.heap.size + 1, 0, none⟩ (k3_4 W3 (Gr.refl _)))).trans (by rw [hW3]; simp [go_sem, *]; done)) | skip)
  have k3_5 : ∀ w', Gr W3 w' → w'.cell? ⟨w.heap.size + 1, 1, none⟩ = some (.slice none 0 0) := fun w' hgW => by first | exact (Gr.at hgW (by rw [hW3]; simp [go_sem, *]))
  (first | (have j3_5 : ∀ w', Gr W3 w' → w'.frozen? ⟨w.heap.size + 1, 1, none⟩ = false := fun w' hgW => ((Gr.cells hgW).2 _ _ (World.block_lt_of_cell? W3 ⟨w.heap.size + 1, 1, none⟩ (k3_5 W3 (Gr.refl _)))).trans (by rw [hW3]; simp [go_sem, *]; done)) | skip)
  have k3_6 : ∀ w', Gr W3 w' → w'.cell? ⟨w.heap.size + 1, 2, none⟩ = some (.slice none 0 0) := fun w' hgW => by first | exact (Gr.at hgW (by rw [hW3]; simp [go_sem, *]))
  (first | (have j3_6 : ∀ w', Gr W3 w' → w'.frozen? ⟨w.heap.size + 1, 2, none⟩ = false := fun w' hgW => ((Gr.cells hgW).2 _ _ (World.block_lt_of_cell? W3 ⟨w.heap.size + 1, 2, none⟩ (k3_6 W3 (Gr.refl _)))).trans (by rw [hW3]; simp [go_sem, *]; done)) | skip)
  have k3_7 : ∀ w', Gr W3 w' → w'.cell? ⟨w.heap.size + 1, 3, none⟩ = some (.slice none 0 0) := fun w' hgW => by first | exact (Gr.at hgW (by rw [hW3]; simp [go_sem, *]))
  (first | (have j3_7 : ∀ w', Gr W3 w' → w'.frozen? ⟨w.heap.size + 1, 3, none⟩ = false := fun w' hgW => ((Gr.cells hgW).2 _ _ (World.block_lt_of_cell? W3 ⟨w.heap.size + 1, 3, none⟩ (k3_7 W3 (Gr.refl _)))).trans (by rw [hW3]; simp [go_sem, *]; done)) | skip)
  have k3_8 : ∀ w', Gr W3 w' → w'.cell? ⟨w.heap.size + 1 + 1, 0, none⟩ = some (.slice none 0 0) := fun w' hgW => by first | exact (Gr.at hgW (by rw [hW3]; simp [go_sem, *]))
  (first | (have j3_8 : ∀ w', Gr W3 w' → w'.frozen? ⟨w.heap.size + 1 + 1, 0, none⟩ = false := fun w' hgW => ((Gr.cells hgW).2 _ _ (World.block_lt_of_cell? W3 ⟨w.heap.size + 1 + 1, 0, none⟩ (k3_8 W3 (Gr.refl _)))).trans (by rw [hW3]; simp [go_sem, *]; done)) | skip)
  have k3_9 : ∀ w', Gr W3 w' → w'.cell? ⟨w.heap.size + 1 + 1, 1, none⟩ = some (.slice none 0 0) := fun w' hgW => by first | exact (Gr.at hgW (by rw [hW3]; simp [go_sem, *]))
  (first | (have j3_9 : ∀ w', Gr W3 w' → w'.frozen? ⟨w.heap.size + 1 + 1, 1, none⟩ = false := fun w' hgW => ((Gr.cells hgW).2 _ _ (World.block_lt_of_cell? W3 ⟨w.heap.size + 1 + 1, 1, none⟩ (k3_9 W3 (Gr.refl _)))).trans (by rw [hW3]; simp [go_sem, *]; done)) | skip)
  have k3_10 : ∀ w', Gr W3 w' → w'.cell? ⟨w.heap.size + 1 + 1, 2, none⟩ = some (.slice none 0 0) := fun w' hgW => by first | exact (Gr.at hgW (by rw [hW3]; simp [go_sem, *]))
  (first | (have j3_10 : ∀ w', Gr W3 w' → w'.frozen? ⟨w.heap.size + 1 + 1, 2, none⟩ = false := fun w' hgW => ((Gr.cells hgW).2 _ _ (World.block_lt_of_cell? W3 ⟨w.heap.size + 1 + 1, 2, none⟩ (k3_10 W3 (Gr.refl _)))).trans (by rw [hW3]; simp [go_sem, *]; done)) | skip)
  have k3_11 : ∀ w', Gr W3 w' → w'.cell? ⟨w.heap.size + 1 + 1, 3, none⟩ = some (.slice none 0 0) := fun w' hgW => by first | exact (Gr.at hgW (by rw [hW3]; simp [go_sem, *]))
  (first | (have j3_11 : ∀ w', Gr W3 w' → w'.frozen? ⟨w.heap.size + 1 + 1, 3, none⟩ = false := fun w' hgW => ((Gr.cells hgW).2 _ _ (World.block_lt_of_cell? W3 ⟨w.heap.size + 1 + 1, 3, none⟩ (k3_11 W3 (Gr.refl _)))).trans (by rw [hW3]; simp [go_sem, *]; done)) | skip)
  (try rw [← hW3] at hNA); (try rw [← hW3] at hLA)
  clear hW3
  have zW3 := Gr.size g3
  have qW3 := Gr.refl W3; have qD3 : Gr W3 W3.drew := Gr.drew (Gr.refl _); have qA3 := fun o => Gr.alloc (Gr.refl W3) o; have qB3 := fun o => Gr.drew (Gr.alloc (Gr.refl W3) o); have qC3 := fun o => Gr.alloc (Gr.drew (Gr.refl W3)) o; go_region_with (first | (go_at_call_of 59 (Value.int .i64 a); refine (HS1.out _).mono ?_; rintro e w4 ⟨s1, rfl, x1⟩; have q4 : Gr W3 w4 := Gr.trans gr_auto x1.2.2.2.2.2.2; have HX1 := Lib.hid x1; clear x1) | (go_at_call_of 59 (Value.int .i64 b); refine (HS2.out _).mono ?_; rintro e w5 ⟨s2, rfl, x2⟩; have q5 : Gr W3 w5 := Gr.trans gr_auto x2.2.2.2.2.2.2; have HX2 := Lib.hid x2; clear x2))
  all_goals
    go_wp2_with fail
    refine name_post ?_; intro F hF
    have y1 := HX1.out; have y2 := HX2.out
    have gz : GrZ w.heap.size (w.heap.size + 3) w5 F := by
      rw [hF]
      repeat' (first | (with_reducible exact GrZ.refl _ _ _) | (with_reducible refine GrZ.drew ?_) | (with_reducible refine GrZ.setCell ?_ ?_ _) | (simp; done) | (simp; omega))
    have c0_0 : F.cell? ⟨w.heap.size, 0, none⟩ = some (.slice (some ⟨w.heap.size + 1 + 1 + 1 + 1, 0, none⟩) 2 2) := by rw [hF]; exact (by first | (simp [go_sem, *]; done) | ((try simp [go_sem, *]); refine World.cell?_setCell_same' _ _ _ ?_; simp [go_sem, *]; done))
    have c0_1 : F.cell? ⟨w.heap.size, 1, none⟩ = some (.slice (some ⟨w.heap.size + 1 + 1 + 1 + 1 + 1, 0, none⟩) 1 1) := by rw [hF]; exact (by first | (simp [go_sem, *]; done) | ((try simp [go_sem, *]); refine World.cell?_setCell_same' _ _ _ ?_; simp [go_sem, *]; done))
    have c1_0 : F.cell? ⟨w.heap.size + 1, 0, none⟩ = some (.slice s1.vs.A s1.vs.n s1.vs.c) := by rw [hF]; exact (by first | (simp [go_sem, *]; done) | ((try simp [go_sem, *]); refine World.cell?_setCell_same' _ _ _ ?_; simp [go_sem, *]; done))
    have c1_1 : F.cell? ⟨w.heap.size + 1, 1, none⟩ = some (.slice s1.ps.A s1.ps.n s1.ps.c) := by rw [hF]; exact (by first | (simp [go_sem, *]; done) | ((try simp [go_sem, *]); refine World.cell?_setCell_same' _ _ _ ?_; simp [go_sem, *]; done))
    have c1_2 : F.cell? ⟨w.heap.size + 1, 2, none⟩ = some (.slice s1.st.A s1.st.n s1.st.c) := by rw [hF]; exact (by first | (simp [go_sem, *]; done) | ((try simp [go_sem, *]); refine World.cell?_setCell_same' _ _ _ ?_; simp [go_sem, *]; done))
    have c1_3 : F.cell? ⟨w.heap.size + 1, 3, none⟩ = some (.slice s1.on.A s1.on.n s1.on.c) := by rw [hF]; exact (by first | (simp [go_sem, *]; done) | ((try simp [go_sem, *]); refine World.cell?_setCell_same' _ _ _ ?_; simp [go_sem, *]; done))
    have c2_0 : F.cell? ⟨w.heap.size + 1 + 1, 0, none⟩ = some (.slice s2.vs.A s2.vs.n s2.vs.c) := by rw [hF]; exact (by first | (simp [go_sem, *]; done) | ((try simp [go_sem, *]); refine World.cell?_setCell_same' _ _ _ ?_; simp [go_sem, *]; done))
    have c2_1 : F.cell? ⟨w.heap.size + 1 + 1, 1, none⟩ = some (.slice s2.ps.A s2.ps.n s2.ps.c) := by rw [hF]; exact (by first | (simp [go_sem, *]; done) | ((try simp [go_sem, *]); refine World.cell?_setCell_same' _ _ _ ?_; simp [go_sem, *]; done))
    have c2_2 : F.cell? ⟨w.heap.size + 1 + 1, 2, none⟩ = some (.slice s2.st.A s2.st.n s2.st.c) := by rw [hF]; exact (by first | (simp [go_sem, *]; done) | ((try simp [go_sem, *]); refine World.cell?_setCell_same' _ _ _ ?_; simp [go_sem, *]; done))
    have c2_3 : F.cell? ⟨w.heap.size + 1 + 1, 3, none⟩ = some (.slice s2.on.A s2.on.n s2.on.c) := by rw [hF]; exact (by first | (simp [go_sem, *]; done) | ((try simp [go_sem, *]); refine World.cell?_setCell_same' _ _ _ ?_; simp [go_sem, *]; done))
    clear hF
    clear k3_0 k3_1 k3_2 j3_2 k3_3 j3_3 k3_4 j3_4 k3_5 j3_5 k3_6 j3_6 k3_7 j3_7 k3_8 j3_8 k3_9 j3_9 k3_10 j3_10 k3_11 j3_11
    refine bodyPost_ret (by simp [results, Try.results31, go_sem, c0_0, c0_1, c1_0, c1_1, c1_2, c1_3, c2_0, c2_1, c2_2, c2_3]; try rfl) rfl ?_
    obtain ⟨o1, e1, e2, e3, e4, ⟨f1, f2, f3, f4⟩, g4⟩ := y1
    obtain ⟨o2, l1, l2, l3, l4, ⟨m1, m2, m3, m4⟩, g5⟩ := y2
    have ex := (hNA.gr q5).z gz (by omega) (by omega) (by omega)
    have hs4 := Gr.size q4
    refine ⟨_, _, _, s1, s2, rfl, ex.node, ex.link, (o1.gr g5).z gz ?_ ?_ ?_ ?_, o2.z gz ?_ ?_ ?_ ?_, ⟨e1, e2, e3, e4⟩, ⟨l1, l2, l3, l4⟩, gz.below (g3.trans q5) (Nat.le_refl _)⟩
    all_goals (simp at *; omega)
end Go.Proofs.Ythkmgnaeponfcaa
namespace Go.Proofs.Ythkmgnaeponfcaa
open Go.RowKit
namespace Ba
theorem eqS_fun : eqS = fun a b => (a.data.toList == b.data.toList) := by
  funext a b; unfold eqS; rw [Lib.toList_data, Lib.toList_data]
theorem ex_net (bt bn bl : Nat) : netB (exN bt bn) (exL bl) = true := by
  unfold netB nodeB linkB rlink rlA nix lix
  rw [eqS_fun]
  kernel_rfl
theorem ex_tx (bt bn bl : Nat) : tx (exN bt bn) (exL bl) = fun _ => 1 := by
  funext k
  unfold tx nix
  rw [eqS_fun]
  kernel_rfl
theorem ex_fx (bt bn bl : Nat) : fx (exN bt bn) (exL bl) = fun _ => 0 := by
  funext k
  unfold fx nix
  rw [eqS_fun]
  kernel_rfl
theorem ex_step (bt bn bl : Nat) (s1 s2 : State) (I : SlI) (g : Ledger) (x : Int) (h1 : StIs s1 100) (h2 : StIs s2 70) (hI : I.n = 2 ∧ I.X = fun i => if i = 0 then 20 else 0) (hg : g.inn = 20 ∧ g.out = x ∧ g.ps.n = 1 ∧ g.ps.X = fun _ => x) :
    (x = 50 → stepB (exN bt bn) (exL bl) s1 s2 I g = true ∧ stepL (exN bt bn) (exL bl) s1 s2 I g = 0 ∧ givE (exN bt bn) (exL bl) s1 s2 I g = 0) ∧ (x = 40 → stepB (exN bt bn) (exL bl) s1 s2 I g = false ∧ stepL (exN bt bn) (exL bl) s1 s2 I g = 10 ∧ givE (exN bt bn) (exL bl) s1 s2 I g = 0) := by
  obtain ⟨⟨A1, n1, c1, b1, o1, X1⟩, ⟨A2, n2, c2, b2, o2, X2⟩, ⟨A3, n3, c3, b3, o3, X3⟩, ⟨A4, n4, c4, b4, o4, X4⟩⟩ := s1
  obtain ⟨⟨A5, n5, c5, b5, o5, X5⟩, ⟨A6, n6, c6, b6, o6, X6⟩, ⟨A7, n7, c7, b7, o7, X7⟩, ⟨A8, n8, c8, b8, o8, X8⟩⟩ := s2
  obtain ⟨A9, n9, c9, b9, o9, X9⟩ := I
  obtain ⟨inn, out, ⟨A, n, c, b, o, X⟩⟩ := g
  obtain ⟨⟨r1, r2⟩, ⟨r3, r4⟩, ⟨r5, r6⟩, ⟨r7, r8⟩⟩ := h1
  obtain ⟨⟨r9, r10⟩, ⟨r11, r12⟩, ⟨r13, r14⟩, ⟨r15, r16⟩⟩ := h2
  obtain ⟨r17, r18⟩ := hI
  obtain ⟨r19, r20, r21, r22⟩ := hg
  simp only at *
  subst r1 r2 r3 r4 r5 r6 r7 r8 r9 r10 r11 r12 r13 r14 r15 r16 r17 r18 r19 r20 r21 r22
  have hn := ex_net bt bn bl
  have ht := ex_tx bt bn bl
  constructor
  · rintro rfl
    refine ⟨?_, ?_, ?_⟩
    · unfold stepB okB givE vs lostI lkL; rw [hn, ht]; kernel_rfl
    · unfold stepL givE vs; rw [hn]; kernel_rfl
    · unfold givE vs; rw [hn]; kernel_rfl
  · rintro rfl
    refine ⟨?_, ?_, ?_⟩
    · unfold stepB okB givE vs lostI lkL; rw [hn, ht]; kernel_rfl
    · unfold stepL givE vs; rw [hn]; kernel_rfl
    · unfold givE vs; rw [hn]; kernel_rfl
theorem ex_ixs (bt bn : Nat) (T : SlS) (hT : T.X = fun _ => ⟨#[97]⟩) : ixs (exN bt bn) T = fun _ => 0 := by
  funext k
  unfold ixs nix
  rw [eqS_fun, hT]
  kernel_rfl
theorem ex_part (bt bn bl : Nat) (s1 s2 : State) (I : SlI) (g : Ledger) (T : SlS) (h1 : StIs s1 100) (h2 : StIs s2 70) (hI : I.n = 2 ∧ I.X = fun i => if i = 0 then 20 else 0) (hg : g.inn = 20 ∧ g.out = 50 ∧ g.ps.n = 1 ∧ g.ps.X = fun _ => 50) (hT : T.n = 1 ∧ T.X = fun _ => ⟨#[97]⟩) :
    partR (exN bt bn) (exL bl) s1 s2 I g T = 0 ∧ partE (exN bt bn) (exL bl) s1 s2 I g T = 0 := by
  have he := ((ex_step bt bn bl s1 s2 I g 50 h1 h2 hI hg).1 rfl).2.2
  have hx := ex_ixs bt bn T hT.2
  have hs : setE (exN bt bn) T = 0 := by
    unfold setE knoB; rw [hx, hT.1]; kernel_rfl
  unfold partR partE
  rw [if_pos he, if_pos he, if_pos hs]
  refine ⟨?_, hs⟩
  rw [hx, hT.1]
  obtain ⟨⟨A1, n1, c1, b1, o1, X1⟩, ⟨A2, n2, c2, b2, o2, X2⟩, ⟨A3, n3, c3, b3, o3, X3⟩, ⟨A4, n4, c4, b4, o4, X4⟩⟩ := s1
  obtain ⟨⟨A5, n5, c5, b5, o5, X5⟩, ⟨A6, n6, c6, b6, o6, X6⟩, ⟨A7, n7, c7, b7, o7, X7⟩, ⟨A8, n8, c8, b8, o8, X8⟩⟩ := s2
  obtain ⟨A9, n9, c9, b9, o9, X9⟩ := I
  obtain ⟨inn, out, ⟨A, n, c, b, o, X⟩⟩ := g
  obtain ⟨⟨r1, r2⟩, ⟨r3, r4⟩, ⟨r5, r6⟩, ⟨r7, r8⟩⟩ := h1
  obtain ⟨⟨r9, r10⟩, ⟨r11, r12⟩, ⟨r13, r14⟩, ⟨r15, r16⟩⟩ := h2
  obtain ⟨r17, r18⟩ := hI
  obtain ⟨r19, r20, r21, r22⟩ := hg
  clear he hs
  simp only at *
  subst r1 r2 r3 r4 r5 r6 r7 r8 r9 r10 r11 r12 r13 r14 r15 r16 r17 r18 r19 r20 r21 r22
  unfold resI lostI lkL lkT
  rw [ex_tx, ex_fx]
  kernel_rfl
end Ba

set_option maxRecDepth 100000 in
set_option maxHeartbeats 4000000 in
theorem awake_any (w : World) : Calls Try.prog 8 #[] w fun e w' => e = .returned (.bool true) ∧ Gr w w' := by
  have HS := Lib.hid (fun W => show Calls Try.prog 31 #[.int .i64 100, .int .i64 70] W fun e w' => ∃ (bt bn bl : Nat) (s1 s2 : Ba.State), e = .returned (.tuple #[.agg #[.slice (some ⟨bn, 0, none⟩) 2 2, .slice (some ⟨bl, 0, none⟩) 1 1], .agg #[.slice s1.vs.A s1.vs.n s1.vs.c, .slice s1.ps.A s1.ps.n s1.ps.c, .slice s1.st.A s1.st.n s1.st.c, .slice s1.on.A s1.on.n s1.on.c], .agg #[.slice s2.vs.A s2.vs.n s2.vs.c, .slice s2.ps.A s2.ps.n s2.ps.c, .slice s2.st.A s2.st.n s2.st.c, .slice s2.on.A s2.on.n s2.on.c]]) ∧ (Ba.exN bt bn).At w' ∧ (Ba.exL bl).At w' ∧ s1.Ok w' ∧ s2.Ok w' ∧ Ba.StIs s1 100 ∧ Ba.StIs s2 70 ∧ Gr W w' from small_any 100 70 W (Ba.i64_small (by omega)) (Ba.i64_small (by omega)))
  go_enter Try.func8, Try.ntmps8
  go_wp2_with fail
  refine (HS.out _).mono ?_
  rintro e w1 ⟨bt, bn, bl, s1, s2, rfl, hN, hL, o1, o2, i1, i2, g1⟩
  go_wp2_with fail
  (first | refine name_world ?_ | refine (show (∀ W, W = _ → Calls _ _ _ W _) → Calls _ _ _ _ _ from fun h => h _ rfl) ?_); intro W2 hW2
  have g2 : Gr w W2 := by rw [hW2]; exact gr_auto
  have gb2_w1 : Gr w1 W2 := by (try clear g2); rw [hW2]; exact gr_auto
  have k2_0 : W2.cell? ⟨w1.heap.size, 0, none⟩ = some (.slice (some ⟨bn, 0, none⟩) 2 2) := by rw [hW2]; first | (simp [go_sem, *]; done) | (refine Gr.at ?_ (by assumption); exact gr_auto)
  have b2_0 : w1.heap.size < W2.heap.size := World.block_lt_of_cell? _ _ k2_0
  have k2_1 : W2.cell? ⟨w1.heap.size, 1, none⟩ = some (.slice (some ⟨bl, 0, none⟩) 1 1) := by rw [hW2]; first | (simp [go_sem, *]; done) | (refine Gr.at ?_ (by assumption); exact gr_auto)
  have k2_2 : W2.cell? ⟨w1.heap.size + 1, 0, none⟩ = some (.slice s1.vs.A s1.vs.n s1.vs.c) := by rw [hW2]; first | (simp [go_sem, *]; done) | (refine Gr.at ?_ (by assumption); exact gr_auto)
  have b2_2 : w1.heap.size + 1 < W2.heap.size := World.block_lt_of_cell? _ _ k2_2
  have k2_3 : W2.cell? ⟨w1.heap.size + 1, 1, none⟩ = some (.slice s1.ps.A s1.ps.n s1.ps.c) := by rw [hW2]; first | (simp [go_sem, *]; done) | (refine Gr.at ?_ (by assumption); exact gr_auto)
  have k2_4 : W2.cell? ⟨w1.heap.size + 1, 2, none⟩ = some (.slice s1.st.A s1.st.n s1.st.c) := by rw [hW2]; first | (simp [go_sem, *]; done) | (refine Gr.at ?_ (by assumption); exact gr_auto)
  have k2_5 : W2.cell? ⟨w1.heap.size + 1, 3, none⟩ = some (.slice s1.on.A s1.on.n s1.on.c) := by rw [hW2]; first | (simp [go_sem, *]; done) | (refine Gr.at ?_ (by assumption); exact gr_auto)
  have k2_6 : W2.cell? ⟨w1.heap.size + 2, 0, none⟩ = some (.slice s2.vs.A s2.vs.n s2.vs.c) := by rw [hW2]; first | (simp [go_sem, *]; done) | (refine Gr.at ?_ (by assumption); exact gr_auto)
  have b2_6 : w1.heap.size + 2 < W2.heap.size := World.block_lt_of_cell? _ _ k2_6
  have k2_7 : W2.cell? ⟨w1.heap.size + 2, 1, none⟩ = some (.slice s2.ps.A s2.ps.n s2.ps.c) := by rw [hW2]; first | (simp [go_sem, *]; done) | (refine Gr.at ?_ (by assumption); exact gr_auto)
  have k2_8 : W2.cell? ⟨w1.heap.size + 2, 2, none⟩ = some (.slice s2.st.A s2.st.n s2.st.c) := by rw [hW2]; first | (simp [go_sem, *]; done) | (refine Gr.at ?_ (by assumption); exact gr_auto)
  have k2_9 : W2.cell? ⟨w1.heap.size + 2, 3, none⟩ = some (.slice s2.on.A s2.on.n s2.on.c) := by rw [hW2]; first | (simp [go_sem, *]; done) | (refine Gr.at ?_ (by assumption); exact gr_auto)
  have k2_10 : W2.cell? ⟨w1.heap.size + 1 + 1 + 1, 0, none⟩ = some (.int .i64 20) := by rw [hW2]; first | (simp [go_sem, *]; done) | (refine Gr.at ?_ (by assumption); exact gr_auto)
  have b2_10 : w1.heap.size + 1 + 1 + 1 < W2.heap.size := World.block_lt_of_cell? _ _ k2_10
  have k2_11 : W2.cell? ⟨w1.heap.size + 1 + 1 + 1, 1, none⟩ = some (.int .i64 0) := by rw [hW2]; first | (simp [go_sem, *]; done) | (refine Gr.at ?_ (by assumption); exact gr_auto)
  have k2_12 : W2.cell? ⟨w1.heap.size + 1 + 1 + 1 + 1, 0, none⟩ = some (.int .i64 50) := by rw [hW2]; first | (simp [go_sem, *]; done) | (refine Gr.at ?_ (by assumption); exact gr_auto)
  have b2_12 : w1.heap.size + 1 + 1 + 1 + 1 < W2.heap.size := World.block_lt_of_cell? _ _ k2_12
  clear hW2
  have HI : Ba.SlI.At W2 ⟨some ⟨w1.heap.size + 1 + 1 + 1, 0, none⟩, 2, 2, w1.heap.size + 1 + 1 + 1, 0, fun i => if i = 0 then 20 else 0⟩ := at_two k2_10 k2_11 (Ba.i64_small (by omega)) (Ba.i64_small (by omega))
  have HG : Ba.Ledger.Ok W2 ⟨20, 50, ⟨some ⟨w1.heap.size + 1 + 1 + 1 + 1, 0, none⟩, 1, 1, w1.heap.size + 1 + 1 + 1 + 1, 0, fun _ => 50⟩⟩ := ⟨Ba.i64_small (by simp), Ba.i64_small (by simp), at_same fun i hi => ⟨by (obtain rfl : i = 0 := (by omega)); exact k2_12, Ba.i64_small (by omega)⟩⟩
  obtain ⟨e1, e2, e3⟩ := (Ba.ex_step bt bn bl s1 s2 ⟨some ⟨w1.heap.size + 1 + 1 + 1, 0, none⟩, 2, 2, w1.heap.size + 1 + 1 + 1, 0, fun i => if i = 0 then 20 else 0⟩ ⟨20, 50, ⟨some ⟨w1.heap.size + 1 + 1 + 1 + 1, 0, none⟩, 1, 1, w1.heap.size + 1 + 1 + 1 + 1, 0, fun _ => 50⟩⟩ 50 i1 i2 ⟨rfl, rfl⟩ ⟨rfl, rfl, rfl, rfl⟩).1 rfl
  have HC := step_any (Ba.exN bt bn) (Ba.exL bl) s1 s2 ⟨some ⟨w1.heap.size + 1 + 1 + 1, 0, none⟩, 2, 2, w1.heap.size + 1 + 1 + 1, 0, fun i => if i = 0 then 20 else 0⟩ ⟨20, 50, ⟨some ⟨w1.heap.size + 1 + 1 + 1 + 1, 0, none⟩, 1, 1, w1.heap.size + 1 + 1 + 1 + 1, 0, fun _ => 50⟩⟩ W2 (hN.gr gb2_w1) (hL.gr gb2_w1) (o1.gr gb2_w1) (o2.gr gb2_w1) HI HG (by show 2 ≤ 12; omega) (by show 1 ≤ 20; omega)
  rw [e1, e2, e3] at HC
  clear e1 e2 e3 HI HG
  refine HC.mono ?_
  rintro e w3 ⟨rfl, hb3⟩
  clear HC
  have g3 := g2.trans hb3
  have gb3 := gb2_w1.trans hb3
  have c0 := Gr.at hb3 k2_0
  have c1 := Gr.at hb3 k2_1
  have c2 := Gr.at hb3 k2_2
  have c3 := Gr.at hb3 k2_3
  have c4 := Gr.at hb3 k2_4
  have c5 := Gr.at hb3 k2_5
  have c6 := Gr.at hb3 k2_6
  have c7 := Gr.at hb3 k2_7
  have c8 := Gr.at hb3 k2_8
  have c9 := Gr.at hb3 k2_9
  clear k2_0 k2_1 k2_2 k2_3 k2_4 k2_5 k2_6 k2_7 k2_8 k2_9 k2_10 k2_11 k2_12
  go_wp2_with fail
  (first | refine name_world ?_ | refine (show (∀ W, W = _ → Calls _ _ _ W _) → Calls _ _ _ _ _ from fun h => h _ rfl) ?_); intro W4 hW4
  have g4 : Gr w W4 := by rw [hW4]; exact gr_auto
  have gb4_w1 : Gr w1 W4 := by (try clear g4); rw [hW4]; exact gr_auto
  have k4_0 : W4.cell? ⟨w1.heap.size, 0, none⟩ = some (.slice (some ⟨bn, 0, none⟩) 2 2) := by rw [hW4]; first | (simp [go_sem, *]; done) | (refine Gr.at ?_ (by assumption); exact gr_auto)
  have b4_0 : w1.heap.size < W4.heap.size := World.block_lt_of_cell? _ _ k4_0
  have k4_1 : W4.cell? ⟨w1.heap.size, 1, none⟩ = some (.slice (some ⟨bl, 0, none⟩) 1 1) := by rw [hW4]; first | (simp [go_sem, *]; done) | (refine Gr.at ?_ (by assumption); exact gr_auto)
  have k4_2 : W4.cell? ⟨w1.heap.size + 1, 0, none⟩ = some (.slice s1.vs.A s1.vs.n s1.vs.c) := by rw [hW4]; first | (simp [go_sem, *]; done) | (refine Gr.at ?_ (by assumption); exact gr_auto)
  have b4_2 : w1.heap.size + 1 < W4.heap.size := World.block_lt_of_cell? _ _ k4_2
  have k4_3 : W4.cell? ⟨w1.heap.size + 1, 1, none⟩ = some (.slice s1.ps.A s1.ps.n s1.ps.c) := by rw [hW4]; first | (simp [go_sem, *]; done) | (refine Gr.at ?_ (by assumption); exact gr_auto)
  have k4_4 : W4.cell? ⟨w1.heap.size + 1, 2, none⟩ = some (.slice s1.st.A s1.st.n s1.st.c) := by rw [hW4]; first | (simp [go_sem, *]; done) | (refine Gr.at ?_ (by assumption); exact gr_auto)
  have k4_5 : W4.cell? ⟨w1.heap.size + 1, 3, none⟩ = some (.slice s1.on.A s1.on.n s1.on.c) := by rw [hW4]; first | (simp [go_sem, *]; done) | (refine Gr.at ?_ (by assumption); exact gr_auto)
  have k4_6 : W4.cell? ⟨w1.heap.size + 2, 0, none⟩ = some (.slice s2.vs.A s2.vs.n s2.vs.c) := by rw [hW4]; first | (simp [go_sem, *]; done) | (refine Gr.at ?_ (by assumption); exact gr_auto)
  have b4_6 : w1.heap.size + 2 < W4.heap.size := World.block_lt_of_cell? _ _ k4_6
  have k4_7 : W4.cell? ⟨w1.heap.size + 2, 1, none⟩ = some (.slice s2.ps.A s2.ps.n s2.ps.c) := by rw [hW4]; first | (simp [go_sem, *]; done) | (refine Gr.at ?_ (by assumption); exact gr_auto)
  have k4_8 : W4.cell? ⟨w1.heap.size + 2, 2, none⟩ = some (.slice s2.st.A s2.st.n s2.st.c) := by rw [hW4]; first | (simp [go_sem, *]; done) | (refine Gr.at ?_ (by assumption); exact gr_auto)
  have k4_9 : W4.cell? ⟨w1.heap.size + 2, 3, none⟩ = some (.slice s2.on.A s2.on.n s2.on.c) := by rw [hW4]; first | (simp [go_sem, *]; done) | (refine Gr.at ?_ (by assumption); exact gr_auto)
  have k4_10 : W4.cell? ⟨w3.heap.size, 0, none⟩ = some (.int .i64 20) := by rw [hW4]; first | (simp [go_sem, *]; done) | (refine Gr.at ?_ (by assumption); exact gr_auto)
  have b4_10 : w3.heap.size < W4.heap.size := World.block_lt_of_cell? _ _ k4_10
  have k4_11 : W4.cell? ⟨w3.heap.size, 1, none⟩ = some (.int .i64 0) := by rw [hW4]; first | (simp [go_sem, *]; done) | (refine Gr.at ?_ (by assumption); exact gr_auto)
  have k4_12 : W4.cell? ⟨w3.heap.size + 1, 0, none⟩ = some (.int .i64 40) := by rw [hW4]; first | (simp [go_sem, *]; done) | (refine Gr.at ?_ (by assumption); exact gr_auto)
  have b4_12 : w3.heap.size + 1 < W4.heap.size := World.block_lt_of_cell? _ _ k4_12
  clear hW4
  have HI : Ba.SlI.At W4 ⟨some ⟨w3.heap.size, 0, none⟩, 2, 2, w3.heap.size, 0, fun i => if i = 0 then 20 else 0⟩ := at_two k4_10 k4_11 (Ba.i64_small (by omega)) (Ba.i64_small (by omega))
  have HG : Ba.Ledger.Ok W4 ⟨20, 40, ⟨some ⟨w3.heap.size + 1, 0, none⟩, 1, 1, w3.heap.size + 1, 0, fun _ => 40⟩⟩ := ⟨Ba.i64_small (by simp), Ba.i64_small (by simp), at_same fun i hi => ⟨by (obtain rfl : i = 0 := (by omega)); exact k4_12, Ba.i64_small (by omega)⟩⟩
  obtain ⟨e1, e2, e3⟩ := (Ba.ex_step bt bn bl s1 s2 ⟨some ⟨w3.heap.size, 0, none⟩, 2, 2, w3.heap.size, 0, fun i => if i = 0 then 20 else 0⟩ ⟨20, 40, ⟨some ⟨w3.heap.size + 1, 0, none⟩, 1, 1, w3.heap.size + 1, 0, fun _ => 40⟩⟩ 40 i1 i2 ⟨rfl, rfl⟩ ⟨rfl, rfl, rfl, rfl⟩).2 rfl
  have HC := step_any (Ba.exN bt bn) (Ba.exL bl) s1 s2 ⟨some ⟨w3.heap.size, 0, none⟩, 2, 2, w3.heap.size, 0, fun i => if i = 0 then 20 else 0⟩ ⟨20, 40, ⟨some ⟨w3.heap.size + 1, 0, none⟩, 1, 1, w3.heap.size + 1, 0, fun _ => 40⟩⟩ W4 (hN.gr gb4_w1) (hL.gr gb4_w1) (o1.gr gb4_w1) (o2.gr gb4_w1) HI HG (by show 2 ≤ 12; omega) (by show 1 ≤ 20; omega)
  rw [e1, e2, e3] at HC
  clear e1 e2 e3 HI HG
  refine HC.mono ?_
  rintro e w5 ⟨rfl, hb5⟩
  clear HC
  have g5 := g4.trans hb5
  have gb5 := gb4_w1.trans hb5
  have c0 := Gr.at hb5 k4_0
  have c1 := Gr.at hb5 k4_1
  have c2 := Gr.at hb5 k4_2
  have c3 := Gr.at hb5 k4_3
  have c4 := Gr.at hb5 k4_4
  have c5 := Gr.at hb5 k4_5
  have c6 := Gr.at hb5 k4_6
  have c7 := Gr.at hb5 k4_7
  have c8 := Gr.at hb5 k4_8
  have c9 := Gr.at hb5 k4_9
  clear k4_0 k4_1 k4_2 k4_3 k4_4 k4_5 k4_6 k4_7 k4_8 k4_9 k4_10 k4_11 k4_12
  have a0 := fun o => Gr.at (Gr.alloc (Gr.refl w5) o) c0
  have a1 := fun o => Gr.at (Gr.alloc (Gr.refl w5) o) c1
  have a2 := fun o => Gr.at (Gr.alloc (Gr.refl w5) o) c2
  have a3 := fun o => Gr.at (Gr.alloc (Gr.refl w5) o) c3
  have a4 := fun o => Gr.at (Gr.alloc (Gr.refl w5) o) c4
  have a5 := fun o => Gr.at (Gr.alloc (Gr.refl w5) o) c5
  have a6 := fun o => Gr.at (Gr.alloc (Gr.refl w5) o) c6
  have a7 := fun o => Gr.at (Gr.alloc (Gr.refl w5) o) c7
  have a8 := fun o => Gr.at (Gr.alloc (Gr.refl w5) o) c8
  have a9 := fun o => Gr.at (Gr.alloc (Gr.refl w5) o) c9
  go_wp2_with fail
  clear a0 a1 a2 a3 a4 a5 a6 a7 a8 a9
  (first | refine name_world ?_ | refine (show (∀ W, W = _ → Calls _ _ _ W _) → Calls _ _ _ _ _ from fun h => h _ rfl) ?_); intro W6 hW6
  have g6 : Gr w W6 := by rw [hW6]; exact gr_auto
  have gb6_w1 : Gr w1 W6 := by (try clear g6); rw [hW6]; exact gr_auto
  have k6_0 : W6.cell? ⟨w1.heap.size, 0, none⟩ = some (.slice (some ⟨bn, 0, none⟩) 2 2) := by rw [hW6]; first | (simp [go_sem, *]; done) | (refine Gr.at ?_ (by assumption); exact gr_auto)
  have b6_0 : w1.heap.size < W6.heap.size := World.block_lt_of_cell? _ _ k6_0
  have k6_1 : W6.cell? ⟨w1.heap.size, 1, none⟩ = some (.slice (some ⟨bl, 0, none⟩) 1 1) := by rw [hW6]; first | (simp [go_sem, *]; done) | (refine Gr.at ?_ (by assumption); exact gr_auto)
  have k6_2 : W6.cell? ⟨w1.heap.size + 1, 0, none⟩ = some (.slice s1.vs.A s1.vs.n s1.vs.c) := by rw [hW6]; first | (simp [go_sem, *]; done) | (refine Gr.at ?_ (by assumption); exact gr_auto)
  have b6_2 : w1.heap.size + 1 < W6.heap.size := World.block_lt_of_cell? _ _ k6_2
  have k6_3 : W6.cell? ⟨w1.heap.size + 1, 1, none⟩ = some (.slice s1.ps.A s1.ps.n s1.ps.c) := by rw [hW6]; first | (simp [go_sem, *]; done) | (refine Gr.at ?_ (by assumption); exact gr_auto)
  have k6_4 : W6.cell? ⟨w1.heap.size + 1, 2, none⟩ = some (.slice s1.st.A s1.st.n s1.st.c) := by rw [hW6]; first | (simp [go_sem, *]; done) | (refine Gr.at ?_ (by assumption); exact gr_auto)
  have k6_5 : W6.cell? ⟨w1.heap.size + 1, 3, none⟩ = some (.slice s1.on.A s1.on.n s1.on.c) := by rw [hW6]; first | (simp [go_sem, *]; done) | (refine Gr.at ?_ (by assumption); exact gr_auto)
  have k6_6 : W6.cell? ⟨w1.heap.size + 2, 0, none⟩ = some (.slice s2.vs.A s2.vs.n s2.vs.c) := by rw [hW6]; first | (simp [go_sem, *]; done) | (refine Gr.at ?_ (by assumption); exact gr_auto)
  have b6_6 : w1.heap.size + 2 < W6.heap.size := World.block_lt_of_cell? _ _ k6_6
  have k6_7 : W6.cell? ⟨w1.heap.size + 2, 1, none⟩ = some (.slice s2.ps.A s2.ps.n s2.ps.c) := by rw [hW6]; first | (simp [go_sem, *]; done) | (refine Gr.at ?_ (by assumption); exact gr_auto)
  have k6_8 : W6.cell? ⟨w1.heap.size + 2, 2, none⟩ = some (.slice s2.st.A s2.st.n s2.st.c) := by rw [hW6]; first | (simp [go_sem, *]; done) | (refine Gr.at ?_ (by assumption); exact gr_auto)
  have k6_9 : W6.cell? ⟨w1.heap.size + 2, 3, none⟩ = some (.slice s2.on.A s2.on.n s2.on.c) := by rw [hW6]; first | (simp [go_sem, *]; done) | (refine Gr.at ?_ (by assumption); exact gr_auto)
  have k6_10 : W6.cell? ⟨w5.heap.size, 0, none⟩ = some (.string ⟨#[97]⟩) := by rw [hW6]; first | (simp [go_sem, *]; done) | (refine Gr.at ?_ (by assumption); exact gr_auto)
  have b6_10 : w5.heap.size < W6.heap.size := World.block_lt_of_cell? _ _ k6_10
  have k6_11 : W6.cell? ⟨w5.heap.size + 1, 0, none⟩ = some (.int .i64 20) := by rw [hW6]; first | (simp [go_sem, *]; done) | (refine Gr.at ?_ (by assumption); exact gr_auto)
  have b6_11 : w5.heap.size + 1 < W6.heap.size := World.block_lt_of_cell? _ _ k6_11
  have k6_12 : W6.cell? ⟨w5.heap.size + 1, 1, none⟩ = some (.int .i64 0) := by rw [hW6]; first | (simp [go_sem, *]; done) | (refine Gr.at ?_ (by assumption); exact gr_auto)
  have k6_13 : W6.cell? ⟨w5.heap.size + 1 + 1, 0, none⟩ = some (.int .i64 50) := by rw [hW6]; first | (simp [go_sem, *]; done) | (refine Gr.at ?_ (by assumption); exact gr_auto)
  have b6_13 : w5.heap.size + 1 + 1 < W6.heap.size := World.block_lt_of_cell? _ _ k6_13
  clear hW6
  have HI : Ba.SlI.At W6 ⟨some ⟨w5.heap.size + 1, 0, none⟩, 2, 2, w5.heap.size + 1, 0, fun i => if i = 0 then 20 else 0⟩ := at_two k6_11 k6_12 (Ba.i64_small (by omega)) (Ba.i64_small (by omega))
  have HG : Ba.Ledger.Ok W6 ⟨20, 50, ⟨some ⟨w5.heap.size + 1 + 1, 0, none⟩, 1, 1, w5.heap.size + 1 + 1, 0, fun _ => 50⟩⟩ := ⟨Ba.i64_small (by simp), Ba.i64_small (by simp), at_same fun i hi => ⟨by (obtain rfl : i = 0 := (by omega)); exact k6_13, Ba.i64_small (by omega)⟩⟩
  have HT : Ba.SlS.At W6 ⟨some ⟨w5.heap.size, 0, none⟩, 1, 1, w5.heap.size, 0, fun _ => ⟨#[97]⟩⟩ := ⟨fun _ => rfl, by simp, by simp, fun i hi => ⟨by (obtain rfl : i = 0 := (by simp only at hi; omega)); exact k6_10, (by show 1 ≤ 9223372036854775807; omega)⟩⟩
  obtain ⟨e1, e2⟩ := Ba.ex_part bt bn bl s1 s2 ⟨some ⟨w5.heap.size + 1, 0, none⟩, 2, 2, w5.heap.size + 1, 0, fun i => if i = 0 then 20 else 0⟩ ⟨20, 50, ⟨some ⟨w5.heap.size + 1 + 1, 0, none⟩, 1, 1, w5.heap.size + 1 + 1, 0, fun _ => 50⟩⟩ ⟨some ⟨w5.heap.size, 0, none⟩, 1, 1, w5.heap.size, 0, fun _ => ⟨#[97]⟩⟩ i1 i2 ⟨rfl, rfl⟩ ⟨rfl, rfl, rfl, rfl⟩ ⟨rfl, rfl⟩
  have HC := part_any (Ba.exN bt bn) (Ba.exL bl) s1 s2 ⟨some ⟨w5.heap.size + 1, 0, none⟩, 2, 2, w5.heap.size + 1, 0, fun i => if i = 0 then 20 else 0⟩ ⟨20, 50, ⟨some ⟨w5.heap.size + 1 + 1, 0, none⟩, 1, 1, w5.heap.size + 1 + 1, 0, fun _ => 50⟩⟩ W6 (hN.gr gb6_w1) (hL.gr gb6_w1) (o1.gr gb6_w1) (o2.gr gb6_w1) HI HG _ HT (by show 2 ≤ 12; omega) (by show 1 ≤ 20; omega) (by show 1 ≤ 1000; omega)
  rw [e1, e2] at HC
  clear e1 e2 HI HG HT
  refine HC.mono ?_
  rintro e w7 ⟨rfl, hb7⟩
  clear HC
  have g7 := g6.trans hb7
  have gb7 := gb6_w1.trans hb7
  have c0 := Gr.at hb7 k6_0
  have c1 := Gr.at hb7 k6_1
  have c2 := Gr.at hb7 k6_2
  have c3 := Gr.at hb7 k6_3
  have c4 := Gr.at hb7 k6_4
  have c5 := Gr.at hb7 k6_5
  have c6 := Gr.at hb7 k6_6
  have c7 := Gr.at hb7 k6_7
  have c8 := Gr.at hb7 k6_8
  have c9 := Gr.at hb7 k6_9
  clear k6_0 k6_1 k6_2 k6_3 k6_4 k6_5 k6_6 k6_7 k6_8 k6_9 k6_10 k6_11 k6_12 k6_13
  go_wp2_with fail
  go_ret
  exact ⟨rfl, gr_auto⟩

end Go.Proofs.Ythkmgnaeponfcaa
namespace Go.Proofs.Ythkmgnaeponfcaa
open Go.RowKit
namespace Ba
def gt (a : Int) (n : Nat) : Bool := decide (a < (n : Int))
def hv1 (d : Node) : Bool := gt 100 d.nm.size || gt 120 d.sh.n
def hv2 (d : Link) : Bool := gt 100 d.nm.size || (gt 100 d.fr.size || (gt 100 d.tt.size || (gt 100 d.sc.size || gt 120 d.cv.n)))
def heavyB (N : SlNode) (L : SlLink) : Bool := gt 12 N.n || (gt 20 L.n || (any (fun i => hv1 (N.D i)) N.n || any (fun k => hv2 (L.D k)) L.n))
def wideB (s : State) : Bool := gt 30 s.vs.n || (gt 30 s.ps.n || (gt 40 s.st.n || gt 40 s.on.n))
def largeB (N : SlNode) (L : SlLink) (s1 s2 : State) (I : SlI) (g : Ledger) : Bool := heavyB N L || (wideB s1 || (wideB s2 || (gt 30 I.n || gt 40 g.ps.n)))
def caseVal (N : SlNode) (L : SlLink) (s1 s2 : State) (I : SlI) (g : Ledger) : Value := .agg #[.slice N.A N.n N.c, .slice L.A L.n L.c, .slice s1.vs.A s1.vs.n s1.vs.c, .slice s1.ps.A s1.ps.n s1.ps.c, .slice s1.st.A s1.st.n s1.st.c, .slice s1.on.A s1.on.n s1.on.c, .slice s2.vs.A s2.vs.n s2.vs.c, .slice s2.ps.A s2.ps.n s2.ps.c, .slice s2.st.A s2.st.n s2.st.c, .slice s2.on.A s2.on.n s2.on.c, .slice I.A I.n I.c, .int .i64 g.inn, .int .i64 g.out, .slice g.ps.A g.ps.n g.ps.c]
end Ba

set_option maxRecDepth 100000 in
set_option maxHeartbeats 2000000 in
theorem heavy1_any (d : Ba.Node) (w : World) (h : d.Ok w) : Calls Try.prog 50 #[d.val] w fun e w' => e = .returned (.bool (Ba.hv1 d)) ∧ Gr w w' := by
  obtain ⟨-, -, -, -, -, -, hn, hs⟩ := h
  have hm := Nat.le_trans hs.hc hs.hb
  clear hs
  unfold Ba.hv1 Ba.gt Ba.Node.val
  obtain ⟨nm, kd, ax, ay, iv, gr, ⟨A, n, c, b, o, X, Y⟩, pr, rs⟩ := d
  simp only at *
  cases t0 : decide ((100 : Int) < (nm.size : Int))
  · cases t1 : decide ((120 : Int) < (n : Int))
    · go_enter Try.func50, Try.ntmps50
      go_wp2_with fail
      go_ret
      exact ⟨rfl, gr_auto⟩
    · go_enter Try.func50, Try.ntmps50
      go_wp2_with fail
      go_ret
      exact ⟨rfl, gr_auto⟩
  · go_enter Try.func50, Try.ntmps50
    go_wp2_with fail
    go_ret
    exact ⟨rfl, gr_auto⟩

set_option maxRecDepth 100000 in
set_option maxHeartbeats 2000000 in
theorem heavy2_any (d : Ba.Link) (w : World) (h : d.Ok w) : Calls Try.prog 52 #[d.val] w fun e w' => e = .returned (.bool (Ba.hv2 d)) ∧ Gr w w' := by
  obtain ⟨-, -, -, -, -, -, h1, h2, h3, h4, hs⟩ := h
  have hm := Nat.le_trans hs.hc hs.hb
  clear hs
  unfold Ba.hv2 Ba.gt Ba.Link.val
  obtain ⟨nm, fr, tt, kd, ln, up, dn, sc, wd, ht, ⟨A, n, c, b, o, X, Y⟩⟩ := d
  simp only at *
  cases t0 : decide ((100 : Int) < (nm.size : Int))
  · cases t1 : decide ((100 : Int) < (fr.size : Int))
    · cases t2 : decide ((100 : Int) < (tt.size : Int))
      · cases t3 : decide ((100 : Int) < (sc.size : Int))
        · cases t4 : decide ((120 : Int) < (n : Int))
          · go_enter Try.func52, Try.ntmps52
            go_wp2_with fail
            go_ret
            exact ⟨rfl, gr_auto⟩
          · go_enter Try.func52, Try.ntmps52
            go_wp2_with fail
            go_ret
            exact ⟨rfl, gr_auto⟩
        · go_enter Try.func52, Try.ntmps52
          go_wp2_with fail
          go_ret
          exact ⟨rfl, gr_auto⟩
      · go_enter Try.func52, Try.ntmps52
        go_wp2_with fail
        go_ret
        exact ⟨rfl, gr_auto⟩
    · go_enter Try.func52, Try.ntmps52
      go_wp2_with fail
      go_ret
      exact ⟨rfl, gr_auto⟩
  · go_enter Try.func52, Try.ntmps52
    go_wp2_with fail
    go_ret
    exact ⟨rfl, gr_auto⟩

set_option maxRecDepth 100000 in
set_option maxHeartbeats 2000000 in
theorem wide_any (s : Ba.State) (w : World) (h : s.Ok w) : Calls Try.prog 32 #[s.val] w fun e w' => e = .returned (.bool (Ba.wideB s)) ∧ Gr w w' := by
  obtain ⟨h1, h2, h3, h4⟩ := h
  have m1 := Nat.le_trans h1.hc h1.hb; have m2 := Nat.le_trans h2.hc h2.hb; have m3 := Nat.le_trans h3.hc h3.hb; have m4 := Nat.le_trans h4.hc h4.hb
  clear h1 h2 h3 h4
  unfold Ba.wideB Ba.gt Ba.State.val
  obtain ⟨⟨A, n, c, b, o, X⟩, ⟨A2, n2, c2, b2, o2, X2⟩, ⟨A3, n3, c3, b3, o3, X3⟩, ⟨A4, n4, c4, b4, o4, X4⟩⟩ := s
  simp only at *
  cases t0 : decide ((30 : Int) < (n : Int))
  · cases t1 : decide ((30 : Int) < (n2 : Int))
    · cases t2 : decide ((40 : Int) < (n3 : Int))
      · cases t3 : decide ((40 : Int) < (n4 : Int))
        · go_enter Try.func32, Try.ntmps32
          go_wp2_with fail
          go_ret
          exact ⟨rfl, gr_auto⟩
        · go_enter Try.func32, Try.ntmps32
          go_wp2_with fail
          go_ret
          exact ⟨rfl, gr_auto⟩
      · go_enter Try.func32, Try.ntmps32
        go_wp2_with fail
        go_ret
        exact ⟨rfl, gr_auto⟩
    · go_enter Try.func32, Try.ntmps32
      go_wp2_with fail
      go_ret
      exact ⟨rfl, gr_auto⟩
  · go_enter Try.func32, Try.ntmps32
    go_wp2_with fail
    go_ret
    exact ⟨rfl, gr_auto⟩

set_option maxRecDepth 100000 in
set_option maxHeartbeats 2000000 in
theorem heavy_any (N : Ba.SlNode) (L : Ba.SlLink) (w : World) (hN : N.At w) (hL : L.At w) : Calls Try.prog 20 #[Ba.netVal N L] w fun e w' => e = .returned (.bool (Ba.heavyB N L)) ∧ Gr w w' := by
  have H1 := Lib.hid (fun W (hh : Gr w W) => has_node 50 #[] N (fun i => Ba.hv1 (N.D i)) W (hN.gr hh) (enter_of Try.func50 (by kernel_rfl) (by kernel_rfl)) fun i hi W' hW => heavy1_any (N.D i) W' (((hN.gr hh).hD i hi).2.gr hW))
  have H2 := Lib.hid (fun W (hh : Gr w W) => has_link 52 #[] L (fun i => Ba.hv2 (L.D i)) W (hL.gr hh) (enter_of Try.func52 (by kernel_rfl) (by kernel_rfl)) fun i hi W' hW => heavy2_any (L.D i) W' (((hL.gr hh).hD i hi).2.gr hW))
  have m1 := Nat.le_trans hN.hc hN.hb; have m2 := Nat.le_trans hL.hc hL.hb
  clear hN hL
  unfold Ba.heavyB Ba.gt Ba.netVal
  generalize Ba.any (fun i => Ba.hv1 (N.D i)) N.n = q1 at *
  generalize Ba.any (fun i => Ba.hv2 (L.D i)) L.n = q2 at *
  generalize N.A = A at *; generalize N.n = n at *; generalize N.c = c at *
  generalize L.A = A2 at *; generalize L.n = n2 at *; generalize L.c = c2 at *
  cases t0 : decide ((12 : Int) < (n : Int))
  · cases t1 : decide ((20 : Int) < (n2 : Int))
    · go_enter Try.func20, Try.ntmps20
      go_wp2_with fail
      (first | refine name_world ?_ | refine (show (∀ W, W = _ → Calls _ _ _ W _) → Calls _ _ _ _ _ from fun h => h _ rfl) ?_); intro W1 hW1
      have g1 : Gr w W1 := by rw [hW1]; exact gr_auto
      have k1_0 : W1.cell? ⟨w.heap.size, 0, none⟩ = some (.slice A n c) := by rw [hW1]; first | (simp [go_sem, *]; done) | (refine Gr.at ?_ (by assumption); exact gr_auto)
      have b1_0 : w.heap.size < W1.heap.size := World.block_lt_of_cell? _ _ k1_0
      have k1_1 : W1.cell? ⟨w.heap.size, 1, none⟩ = some (.slice A2 n2 c2) := by rw [hW1]; first | (simp [go_sem, *]; done) | (refine Gr.at ?_ (by assumption); exact gr_auto)
      clear hW1
      refine (H1.out _ g1).mono ?_
      rintro e w2 ⟨rfl, hb2⟩
      have g2 := g1.trans hb2
      have k1_0 := Gr.at (w1 := w2) gr_auto k1_0; have k1_1 := Gr.at (w1 := w2) gr_auto k1_1
      cases q1
      · go_wp2_with fail
        refine (H2.out _ g2).mono ?_
        rintro e w3 ⟨rfl, hb3⟩
        have g3 := g2.trans hb3
        go_wp2_with fail
        go_ret
        exact ⟨rfl, gr_auto⟩
      · go_wp2_with fail
        go_ret
        exact ⟨rfl, gr_auto⟩
    · go_enter Try.func20, Try.ntmps20
      go_wp2_with fail
      go_ret
      exact ⟨rfl, gr_auto⟩
  · go_enter Try.func20, Try.ntmps20
    go_wp2_with fail
    go_ret
    exact ⟨rfl, gr_auto⟩

set_option maxRecDepth 100000 in
set_option maxHeartbeats 2000000 in
theorem large_w (A A2 VA1 PA1 SA1 OA1 VA2 PA2 SA2 OA2 GA IA : Option Addr) (n c n2 c2 vn1 vc1 pn1 pc1 sn1 sc1 on1 oc1 vn2 vc2 pn2 pc2 sn2 sc2 on2 oc2 gn gc m ic : Nat) (inn out : Int) (w : World) (q0 q1 q2 : Bool) (HH : Hid (∀ W, Gr w W → Calls Try.prog 20 #[.agg #[.slice A n c, .slice A2 n2 c2]] W fun e w' => e = .returned (.bool q0) ∧ Gr W w')) (HW1 : Hid (∀ W, Gr w W → Calls Try.prog 32 #[.agg #[.slice VA1 vn1 vc1, .slice PA1 pn1 pc1, .slice SA1 sn1 sc1, .slice OA1 on1 oc1]] W fun e w' => e = .returned (.bool q1) ∧ Gr W w')) (HW2 : Hid (∀ W, Gr w W → Calls Try.prog 32 #[.agg #[.slice VA2 vn2 vc2, .slice PA2 pn2 pc2, .slice SA2 sn2 sc2, .slice OA2 on2 oc2]] W fun e w' => e = .returned (.bool q2) ∧ Gr W w')) (hm : m ≤ 9223372036854775807) (hg : gn ≤ 9223372036854775807) : Calls Try.prog 9 #[.agg #[.slice A n c, .slice A2 n2 c2, .slice VA1 vn1 vc1, .slice PA1 pn1 pc1, .slice SA1 sn1 sc1, .slice OA1 on1 oc1, .slice VA2 vn2 vc2, .slice PA2 pn2 pc2, .slice SA2 sn2 sc2, .slice OA2 on2 oc2, .slice IA m ic, .int .i64 inn, .int .i64 out, .slice GA gn gc]] w fun e w' => e = .returned (.bool (q0 || (q1 || (q2 || (decide ((30 : Int) < (m : Int)) || decide ((40 : Int) < (gn : Int))))))) ∧ Gr w w' := by
  go_enter Try.func9, Try.ntmps9
  go_wp2_with fail
  (first | refine name_world ?_ | refine (show (∀ W, W = _ → Calls _ _ _ W _) → Calls _ _ _ _ _ from fun h => h _ rfl) ?_); intro W1 hW1
  have g1 : Gr w W1 := by rw [hW1]; exact gr_auto
  have k1_0 : W1.cell? ⟨w.heap.size, 0, none⟩ = some (.slice A n c) := by rw [hW1]; first | (simp [go_sem, *]; done) | (refine Gr.at ?_ (by assumption); exact gr_auto)
  have b1_0 : w.heap.size < W1.heap.size := World.block_lt_of_cell? _ _ k1_0
  have k1_1 : W1.cell? ⟨w.heap.size, 1, none⟩ = some (.slice A2 n2 c2) := by rw [hW1]; first | (simp [go_sem, *]; done) | (refine Gr.at ?_ (by assumption); exact gr_auto)
  have k1_2 : W1.cell? ⟨w.heap.size, 2, none⟩ = some (.slice VA1 vn1 vc1) := by rw [hW1]; first | (simp [go_sem, *]; done) | (refine Gr.at ?_ (by assumption); exact gr_auto)
  have k1_3 : W1.cell? ⟨w.heap.size, 3, none⟩ = some (.slice PA1 pn1 pc1) := by rw [hW1]; first | (simp [go_sem, *]; done) | (refine Gr.at ?_ (by assumption); exact gr_auto)
  have k1_4 : W1.cell? ⟨w.heap.size, 4, none⟩ = some (.slice SA1 sn1 sc1) := by rw [hW1]; first | (simp [go_sem, *]; done) | (refine Gr.at ?_ (by assumption); exact gr_auto)
  have k1_5 : W1.cell? ⟨w.heap.size, 5, none⟩ = some (.slice OA1 on1 oc1) := by rw [hW1]; first | (simp [go_sem, *]; done) | (refine Gr.at ?_ (by assumption); exact gr_auto)
  have k1_6 : W1.cell? ⟨w.heap.size, 6, none⟩ = some (.slice VA2 vn2 vc2) := by rw [hW1]; first | (simp [go_sem, *]; done) | (refine Gr.at ?_ (by assumption); exact gr_auto)
  have k1_7 : W1.cell? ⟨w.heap.size, 7, none⟩ = some (.slice PA2 pn2 pc2) := by rw [hW1]; first | (simp [go_sem, *]; done) | (refine Gr.at ?_ (by assumption); exact gr_auto)
  have k1_8 : W1.cell? ⟨w.heap.size, 8, none⟩ = some (.slice SA2 sn2 sc2) := by rw [hW1]; first | (simp [go_sem, *]; done) | (refine Gr.at ?_ (by assumption); exact gr_auto)
  have k1_9 : W1.cell? ⟨w.heap.size, 9, none⟩ = some (.slice OA2 on2 oc2) := by rw [hW1]; first | (simp [go_sem, *]; done) | (refine Gr.at ?_ (by assumption); exact gr_auto)
  have k1_10 : W1.cell? ⟨w.heap.size, 10, none⟩ = some (.slice IA m ic) := by rw [hW1]; first | (simp [go_sem, *]; done) | (refine Gr.at ?_ (by assumption); exact gr_auto)
  have k1_11 : W1.cell? ⟨w.heap.size, 11, none⟩ = some (.int .i64 inn) := by rw [hW1]; first | (simp [go_sem, *]; done) | (refine Gr.at ?_ (by assumption); exact gr_auto)
  have k1_12 : W1.cell? ⟨w.heap.size, 12, none⟩ = some (.int .i64 out) := by rw [hW1]; first | (simp [go_sem, *]; done) | (refine Gr.at ?_ (by assumption); exact gr_auto)
  have k1_13 : W1.cell? ⟨w.heap.size, 13, none⟩ = some (.slice GA gn gc) := by rw [hW1]; first | (simp [go_sem, *]; done) | (refine Gr.at ?_ (by assumption); exact gr_auto)
  clear hW1
  refine (HH.out _ g1).mono ?_
  rintro e w2 ⟨rfl, hb2⟩
  have g2 := g1.trans hb2
  have k1_0 := Gr.at (w1 := w2) gr_auto k1_0; have k1_1 := Gr.at (w1 := w2) gr_auto k1_1; have k1_2 := Gr.at (w1 := w2) gr_auto k1_2; have k1_3 := Gr.at (w1 := w2) gr_auto k1_3; have k1_4 := Gr.at (w1 := w2) gr_auto k1_4; have k1_5 := Gr.at (w1 := w2) gr_auto k1_5; have k1_6 := Gr.at (w1 := w2) gr_auto k1_6; have k1_7 := Gr.at (w1 := w2) gr_auto k1_7; have k1_8 := Gr.at (w1 := w2) gr_auto k1_8; have k1_9 := Gr.at (w1 := w2) gr_auto k1_9; have k1_10 := Gr.at (w1 := w2) gr_auto k1_10; have k1_11 := Gr.at (w1 := w2) gr_auto k1_11; have k1_12 := Gr.at (w1 := w2) gr_auto k1_12; have k1_13 := Gr.at (w1 := w2) gr_auto k1_13
  cases q0
  · go_wp2_with fail
    refine (HW1.out _ g2).mono ?_
    rintro e w3 ⟨rfl, hb3⟩
    have g3 := g2.trans hb3
    have k1_0 := Gr.at (w1 := w3) gr_auto k1_0; have k1_1 := Gr.at (w1 := w3) gr_auto k1_1; have k1_2 := Gr.at (w1 := w3) gr_auto k1_2; have k1_3 := Gr.at (w1 := w3) gr_auto k1_3; have k1_4 := Gr.at (w1 := w3) gr_auto k1_4; have k1_5 := Gr.at (w1 := w3) gr_auto k1_5; have k1_6 := Gr.at (w1 := w3) gr_auto k1_6; have k1_7 := Gr.at (w1 := w3) gr_auto k1_7; have k1_8 := Gr.at (w1 := w3) gr_auto k1_8; have k1_9 := Gr.at (w1 := w3) gr_auto k1_9; have k1_10 := Gr.at (w1 := w3) gr_auto k1_10; have k1_11 := Gr.at (w1 := w3) gr_auto k1_11; have k1_12 := Gr.at (w1 := w3) gr_auto k1_12; have k1_13 := Gr.at (w1 := w3) gr_auto k1_13
    cases q1
    · go_wp2_with fail
      refine (HW2.out _ g3).mono ?_
      rintro e w4 ⟨rfl, hb4⟩
      have g4 := g3.trans hb4
      have k1_0 := Gr.at (w1 := w4) gr_auto k1_0; have k1_1 := Gr.at (w1 := w4) gr_auto k1_1; have k1_2 := Gr.at (w1 := w4) gr_auto k1_2; have k1_3 := Gr.at (w1 := w4) gr_auto k1_3; have k1_4 := Gr.at (w1 := w4) gr_auto k1_4; have k1_5 := Gr.at (w1 := w4) gr_auto k1_5; have k1_6 := Gr.at (w1 := w4) gr_auto k1_6; have k1_7 := Gr.at (w1 := w4) gr_auto k1_7; have k1_8 := Gr.at (w1 := w4) gr_auto k1_8; have k1_9 := Gr.at (w1 := w4) gr_auto k1_9; have k1_10 := Gr.at (w1 := w4) gr_auto k1_10; have k1_11 := Gr.at (w1 := w4) gr_auto k1_11; have k1_12 := Gr.at (w1 := w4) gr_auto k1_12; have k1_13 := Gr.at (w1 := w4) gr_auto k1_13
      cases q2
      · cases t0 : decide ((30 : Int) < (m : Int))
        · cases t1 : decide ((40 : Int) < (gn : Int))
          all_goals
            go_wp2_with fail
            go_ret
            exact ⟨by first | rfl | (rw [t0]; rfl) | (rw [t0, t1]; rfl), gr_auto⟩
        · go_wp2_with fail
          go_ret
          exact ⟨by first | rfl | (rw [t0]; rfl) | (rw [t0, t1]; rfl), gr_auto⟩
      · go_wp2_with fail
        go_ret
        exact ⟨by first | rfl | (rw [t0]; rfl) | (rw [t0, t1]; rfl), gr_auto⟩
    · go_wp2_with fail
      go_ret
      exact ⟨by first | rfl | (rw [t0]; rfl) | (rw [t0, t1]; rfl), gr_auto⟩
  · go_wp2_with fail
    go_ret
    exact ⟨by first | rfl | (rw [t0]; rfl) | (rw [t0, t1]; rfl), gr_auto⟩

theorem large_any (N : Ba.SlNode) (L : Ba.SlLink) (s1 s2 : Ba.State) (I : Ba.SlI) (g : Ba.Ledger) (w : World) (hN : N.At w) (hL : L.At w) (h1 : s1.Ok w) (h2 : s2.Ok w) (hI : I.At w) (hg : g.Ok w) : Calls Try.prog 9 #[Ba.caseVal N L s1 s2 I g] w fun e w' => e = .returned (.bool (Ba.largeB N L s1 s2 I g)) ∧ Gr w w' := by
  have HH := Lib.hid (fun W (hh : Gr w W) => heavy_any N L W (hN.gr hh) (hL.gr hh))
  have HW1 := Lib.hid (fun W (hh : Gr w W) => wide_any s1 W (h1.gr hh))
  have HW2 := Lib.hid (fun W (hh : Gr w W) => wide_any s2 W (h2.gr hh))
  exact large_w _ _ _ _ _ _ _ _ _ _ _ _ _ _ _ _ _ _ _ _ _ _ _ _ _ _ _ _ _ _ _ _ _ _ _ _ _ _ _ _ _ _ HH HW1 HW2 (Nat.le_trans hI.hc hI.hb) (Nat.le_trans hg.2.2.hc hg.2.2.hb)
namespace Ba
theorem gt_no {a : Int} {n : Nat} (h : gt a n = false) : (n : Int) ≤ a := by
  unfold gt at h
  have := of_decide_eq_false h
  omega
theorem heavy_no {N : SlNode} {L : SlLink} (h : heavyB N L = false) : N.n ≤ 12 ∧ L.n ≤ 20 := by
  unfold heavyB at h
  simp only [Bool.or_eq_false_iff] at h
  have := gt_no h.1; have := gt_no h.2.1
  omega
theorem large_no {N : SlNode} {L : SlLink} {s1 s2 : State} {I : SlI} {g : Ledger} (h : largeB N L s1 s2 I g = false) : N.n ≤ 12 ∧ L.n ≤ 20 := by
  unfold largeB at h
  simp only [Bool.or_eq_false_iff] at h
  exact heavy_no h.1
end Ba

end Go.Proofs.Ythkmgnaeponfcaa
namespace Go.Proofs.Ythkmgnaeponfcaa
open Go.RowKit Go.ChangeShapes Go.WideShapes Go.Deep
def tKnot : Ty := .p .int (.p .int .u)
def tNode : Ty := .p .str (.p .int (.p (.p .int (.p .int .u)) (.p .int (.p .int (.p (.sl tKnot) (.p .bool (.p .int .u)))))))
def tLink : Ty := .p .str (.p .str (.p .str (.p .int (.p .int (.p .int (.p .int (.p .str (.p .int (.p .int (.p (.sl tKnot) .u))))))))))
def tNet : Ty := .p (.sl tNode) (.p (.sl tLink) .u)
def tState : Ty := .p (.sl .int) (.p (.sl .int) (.p (.sl .int) (.p (.sl .bool) .u)))
def tLedger : Ty := .p .int (.p .int (.p (.sl .int) .u))
def tCase : Ty := .p tNet (.p tState (.p tState (.p (.sl .int) (.p tLedger .u))))
theorem is_int : Is Try.prog 3 .int := .int Try.underlying3
theorem is_bool : Is Try.prog 4 .bool := .bool Try.underlying4
theorem is_str : Is Try.prog 9 .str := .str Try.underlying9
theorem is_ints : Is Try.prog 26 (.sl .int) := .sl Try.underlying26 (by kernel_rfl) (by decide) is_int
theorem is_bools : Is Try.prog 27 (.sl .bool) := .sl Try.underlying27 (by kernel_rfl) (by decide) is_bool
theorem is_strs : Is Try.prog 34 (.sl .str) := .sl Try.underlying34 (by kernel_rfl) (by decide) is_str
theorem is_knot : Is Try.prog 100 tKnot := .st Try.underlying100 (by kernel_rfl) (.cons rfl (by kernel_rfl) is_int (.cons rfl (by kernel_rfl) is_int .nil))
theorem is_point : Is Try.prog 56 tKnot := .st Try.underlying56 (by kernel_rfl) (.cons rfl (by kernel_rfl) is_int (.cons rfl (by kernel_rfl) is_int .nil))
theorem is_table : Is Try.prog 50 (.sl tKnot) := .sl Try.underlying50 (by kernel_rfl) (by decide) is_knot
theorem is_node : Is Try.prog 58 tNode := .st Try.underlying58 (by kernel_rfl) (.cons rfl (by kernel_rfl) is_str (.cons rfl (by kernel_rfl) is_int (.cons rfl (by kernel_rfl) is_point (.cons rfl (by kernel_rfl) is_int (.cons rfl (by kernel_rfl) is_int (.cons rfl (by kernel_rfl) is_table (.cons rfl (by kernel_rfl) is_bool (.cons rfl (by kernel_rfl) is_int .nil))))))))
theorem is_link : Is Try.prog 52 tLink := .st Try.underlying52 (by kernel_rfl) (.cons rfl (by kernel_rfl) is_str (.cons rfl (by kernel_rfl) is_str (.cons rfl (by kernel_rfl) is_str (.cons rfl (by kernel_rfl) is_int (.cons rfl (by kernel_rfl) is_int (.cons rfl (by kernel_rfl) is_int (.cons rfl (by kernel_rfl) is_int (.cons rfl (by kernel_rfl) is_str (.cons rfl (by kernel_rfl) is_int (.cons rfl (by kernel_rfl) is_int (.cons rfl (by kernel_rfl) is_table .nil)))))))))))
theorem is_nodes : Is Try.prog 22 (.sl tNode) := .sl Try.underlying22 (by kernel_rfl) (by decide) is_node
theorem is_links : Is Try.prog 23 (.sl tLink) := .sl Try.underlying23 (by kernel_rfl) (by decide) is_link
theorem is_net : Is Try.prog 25 tNet := .st Try.underlying25 (by kernel_rfl) (.cons rfl (by kernel_rfl) is_nodes (.cons rfl (by kernel_rfl) is_links .nil))
theorem is_state : Is Try.prog 29 tState := .st Try.underlying29 (by kernel_rfl) (.cons rfl (by kernel_rfl) is_ints (.cons rfl (by kernel_rfl) is_ints (.cons rfl (by kernel_rfl) is_ints (.cons rfl (by kernel_rfl) is_bools .nil))))
theorem is_ledger : Is Try.prog 31 tLedger := .st Try.underlying31 (by kernel_rfl) (.cons rfl (by kernel_rfl) is_int (.cons rfl (by kernel_rfl) is_int (.cons rfl (by kernel_rfl) is_ints .nil)))
theorem is_ledgers : Is Try.prog 64 (.sl tLedger) := .sl Try.underlying64 (by kernel_rfl) (by decide) is_ledger
theorem is_case : Is Try.prog 33 tCase := .st Try.underlying33 (by kernel_rfl) (.cons rfl (by kernel_rfl) is_net (.cons rfl (by kernel_rfl) is_state (.cons rfl (by kernel_rfl) is_state (.cons rfl (by kernel_rfl) is_ints (.cons rfl (by kernel_rfl) is_ledger .nil)))))
theorem agg_eq {cs : Array Value} {l : List Value} (h : cs.toList = l) : Value.agg cs = .agg l.toArray := by subst h; simp
namespace Ba
theorem slk_of {w : World} {cs : List Value} (h : Fits w (.sl tKnot) cs) : ∃ s : SlK, cs = [.slice s.A s.n s.c] ∧ s.At w := by
  obtain ⟨A, n, c, rfl, h1, h2, b, o, h3, h4⟩ := h
  obtain ⟨D, hD⟩ := pick (α := Int × Int) (P := fun i d => (w.cell? ⟨b, o + i * 2, none⟩ = some (.int .i64 d.1) ∧ w.cell? ⟨b, o + i * 2 + 1, none⟩ = some (.int .i64 d.2)) ∧ i64 d.1 ∧ i64 d.2) (n := n) fun i hi => by
    obtain ⟨es, -, hc, hf⟩ := h4 i hi
    simp only [tKnot, Fits] at hf
    obtain ⟨_, _, rfl, ⟨x, rfl, hx1, hx2⟩, _, _, rfl, ⟨y, rfl, hy1, hy2⟩, rfl⟩ := hf
    exact ⟨(x, y), ⟨hc 0 _ rfl, hc 1 _ rfl⟩, ⟨hx1, hx2⟩, hy1, hy2⟩
  exact ⟨⟨A, n, c, b, o, fun i => (D i).1, fun i => (D i).2⟩, rfl, ⟨h3, h1, h2, hD⟩⟩
theorem sli_of {w : World} {cs : List Value} (h : Fits w (.sl .int) cs) : ∃ s : SlI, cs = [.slice s.A s.n s.c] ∧ s.At w := by
  obtain ⟨A, n, c, rfl, h1, h2, b, o, h3, h4⟩ := h
  obtain ⟨D, hD⟩ := pick (α := Int) (P := fun i d => w.cell? ⟨b, o + i, none⟩ = some (.int .i64 d) ∧ i64 d) (n := n) fun i hi => by
    obtain ⟨es, -, hc, hf⟩ := h4 i hi
    simp only [Fits] at hf
    obtain ⟨x, rfl, hx1, hx2⟩ := hf
    have := hc 0 _ rfl
    simp only [Ty.size, Nat.mul_one, Nat.add_zero] at this
    exact ⟨x, this, hx1, hx2⟩
  exact ⟨⟨A, n, c, b, o, D⟩, rfl, ⟨h3, h1, h2, hD⟩⟩
theorem slb_of {w : World} {cs : List Value} (h : Fits w (.sl .bool) cs) : ∃ s : SlB, cs = [.slice s.A s.n s.c] ∧ s.At w := by
  obtain ⟨A, n, c, rfl, h1, h2, b, o, h3, h4⟩ := h
  obtain ⟨D, hD⟩ := pick (α := Bool) (P := fun i d => w.cell? ⟨b, o + i, none⟩ = some (.bool d)) (n := n) fun i hi => by
    obtain ⟨es, -, hc, hf⟩ := h4 i hi
    simp only [Fits] at hf
    obtain ⟨x, rfl⟩ := hf
    have := hc 0 _ rfl
    simp only [Ty.size, Nat.mul_one, Nat.add_zero] at this
    exact ⟨x, this⟩
  exact ⟨⟨A, n, c, b, o, D⟩, rfl, ⟨h3, h1, h2, hD⟩⟩
theorem sls_of {w : World} {cs : List Value} (h : Fits w (.sl .str) cs) : ∃ s : SlS, cs = [.slice s.A s.n s.c] ∧ s.At w := by
  obtain ⟨A, n, c, rfl, h1, h2, b, o, h3, h4⟩ := h
  obtain ⟨D, hD⟩ := pick (α := ByteArray) (P := fun i d => w.cell? ⟨b, o + i, none⟩ = some (.string d) ∧ d.size ≤ 9223372036854775807) (n := n) fun i hi => by
    obtain ⟨es, -, hc, hf⟩ := h4 i hi
    simp only [Fits] at hf
    obtain ⟨x, rfl, hx⟩ := hf
    have := hc 0 _ rfl
    simp only [Ty.size, Nat.mul_one, Nat.add_zero] at this
    exact ⟨x, this, hx⟩
  exact ⟨⟨A, n, c, b, o, D⟩, rfl, ⟨h3, h1, h2, hD⟩⟩
instance : Nonempty SlK := ⟨⟨none, 0, 0, 0, 0, fun _ => 0, fun _ => 0⟩⟩
instance : Nonempty SlI := ⟨⟨none, 0, 0, 0, 0, fun _ => 0⟩⟩
instance : Nonempty Node := ⟨⟨⟨#[]⟩, 0, 0, 0, 0, 0, ⟨none, 0, 0, 0, 0, fun _ => 0, fun _ => 0⟩, false, 0⟩⟩
instance : Nonempty Link := ⟨⟨⟨#[]⟩, ⟨#[]⟩, ⟨#[]⟩, 0, 0, 0, 0, ⟨#[]⟩, 0, 0, ⟨none, 0, 0, 0, 0, fun _ => 0, fun _ => 0⟩⟩⟩
instance : Nonempty Ledger := ⟨⟨0, 0, ⟨none, 0, 0, 0, 0, fun _ => 0⟩⟩⟩
theorem node_of {w : World} {cs : List Value} (h : Fits w tNode cs) : ∃ d : Node, cs = [.string d.nm, .int .i64 d.kd, .int .i64 d.ax, .int .i64 d.ay, .int .i64 d.iv, .int .i64 d.gr, .slice d.sh.A d.sh.n d.sh.c, .bool d.pr, .int .i64 d.rs] ∧ d.Ok w := by
  unfold tNode at h
  obtain ⟨_, _, rfl, ⟨nm, rfl, hnm⟩, _, _, rfl, ⟨kd, rfl, hk⟩, _, _, rfl, ⟨_, _, rfl, ⟨ax, rfl, hx⟩, _, _, rfl, ⟨ay, rfl, hy⟩, rfl⟩, _, _, rfl, ⟨iv, rfl, hi⟩, _, _, rfl, ⟨gr, rfl, hg⟩, _, _, rfl, hs, _, _, rfl, ⟨pr, rfl⟩, _, _, rfl, ⟨rs, rfl, hr⟩, rfl⟩ := h
  obtain ⟨s, rfl, hs'⟩ := slk_of hs
  exact ⟨⟨nm, kd, ax, ay, iv, gr, s, pr, rs⟩, rfl, hk, hx, hy, hi, hg, hr, hnm, hs'⟩
theorem link_of {w : World} {cs : List Value} (h : Fits w tLink cs) : ∃ d : Link, cs = [.string d.nm, .string d.fr, .string d.tt, .int .i64 d.kd, .int .i64 d.ln, .int .i64 d.up, .int .i64 d.dn, .string d.sc, .int .i64 d.wd, .int .i64 d.ht, .slice d.cv.A d.cv.n d.cv.c] ∧ d.Ok w := by
  unfold tLink at h
  obtain ⟨_, _, rfl, ⟨nm, rfl, hnm⟩, _, _, rfl, ⟨fr, rfl, hfr⟩, _, _, rfl, ⟨tt, rfl, htt⟩, _, _, rfl, ⟨kd, rfl, hk⟩, _, _, rfl, ⟨ln, rfl, hl⟩, _, _, rfl, ⟨up, rfl, hu⟩, _, _, rfl, ⟨dn, rfl, hd⟩, _, _, rfl, ⟨sc, rfl, hsc⟩, _, _, rfl, ⟨wd, rfl, hw⟩, _, _, rfl, ⟨ht, rfl, hh⟩, _, _, rfl, hs, rfl⟩ := h
  obtain ⟨s, rfl, hs'⟩ := slk_of hs
  exact ⟨⟨nm, fr, tt, kd, ln, up, dn, sc, wd, ht, s⟩, rfl, hk, hl, hu, hd, hw, hh, hnm, hfr, htt, hsc, hs'⟩
theorem ledger_of {w : World} {cs : List Value} (h : Fits w tLedger cs) : ∃ d : Ledger, cs = [.int .i64 d.inn, .int .i64 d.out, .slice d.ps.A d.ps.n d.ps.c] ∧ d.Ok w := by
  unfold tLedger at h
  obtain ⟨_, _, rfl, ⟨a, rfl, ha⟩, _, _, rfl, ⟨b, rfl, hb⟩, _, _, rfl, hs, rfl⟩ := h
  obtain ⟨s, rfl, hs'⟩ := sli_of hs
  exact ⟨⟨a, b, s⟩, rfl, ha, hb, hs'⟩
theorem slnode_of {w : World} {cs : List Value} (h : Fits w (.sl tNode) cs) : ∃ s : SlNode, cs = [.slice s.A s.n s.c] ∧ s.At w := by
  obtain ⟨A, n, c, rfl, h1, h2, b, o, h3, h4⟩ := h
  obtain ⟨D, hD⟩ := pick (α := Node) (P := fun i d => d.Cells w b (o + i * 9) ∧ d.Ok w) (n := n) fun i hi => by
    obtain ⟨es, -, hc, hf⟩ := h4 i hi
    obtain ⟨d, rfl, hd'⟩ := node_of hf
    exact ⟨d, ⟨hc 0 _ rfl, hc 1 _ rfl, hc 2 _ rfl, hc 3 _ rfl, hc 4 _ rfl, hc 5 _ rfl, hc 6 _ rfl, hc 7 _ rfl, hc 8 _ rfl⟩, hd'⟩
  exact ⟨⟨A, n, c, b, o, D⟩, rfl, ⟨h3, h1, h2, hD⟩⟩
theorem sllink_of {w : World} {cs : List Value} (h : Fits w (.sl tLink) cs) : ∃ s : SlLink, cs = [.slice s.A s.n s.c] ∧ s.At w := by
  obtain ⟨A, n, c, rfl, h1, h2, b, o, h3, h4⟩ := h
  obtain ⟨D, hD⟩ := pick (α := Link) (P := fun i d => d.Cells w b (o + i * 11) ∧ d.Ok w) (n := n) fun i hi => by
    obtain ⟨es, -, hc, hf⟩ := h4 i hi
    obtain ⟨d, rfl, hd'⟩ := link_of hf
    exact ⟨d, ⟨hc 0 _ rfl, hc 1 _ rfl, hc 2 _ rfl, hc 3 _ rfl, hc 4 _ rfl, hc 5 _ rfl, hc 6 _ rfl, hc 7 _ rfl, hc 8 _ rfl, hc 9 _ rfl, hc 10 _ rfl⟩, hd'⟩
  exact ⟨⟨A, n, c, b, o, D⟩, rfl, ⟨h3, h1, h2, hD⟩⟩
theorem slledger_of {w : World} {cs : List Value} (h : Fits w (.sl tLedger) cs) : ∃ s : SlLedger, cs = [.slice s.A s.n s.c] ∧ s.At w := by
  obtain ⟨A, n, c, rfl, h1, h2, b, o, h3, h4⟩ := h
  obtain ⟨D, hD⟩ := pick (α := Ledger) (P := fun i d => d.Cells w b (o + i * 3) ∧ d.Ok w) (n := n) fun i hi => by
    obtain ⟨es, -, hc, hf⟩ := h4 i hi
    obtain ⟨d, rfl, hd'⟩ := ledger_of hf
    exact ⟨d, ⟨hc 0 _ rfl, hc 1 _ rfl, hc 2 _ rfl⟩, hd'⟩
  exact ⟨⟨A, n, c, b, o, D⟩, rfl, ⟨h3, h1, h2, hD⟩⟩
theorem net_of {w : World} {cs : List Value} (h : Fits w tNet cs) : ∃ (N : SlNode) (L : SlLink), cs = [.slice N.A N.n N.c, .slice L.A L.n L.c] ∧ N.At w ∧ L.At w := by
  unfold tNet at h
  obtain ⟨_, _, rfl, hN, _, _, rfl, hL, rfl⟩ := h
  obtain ⟨N, rfl, hN'⟩ := slnode_of hN
  obtain ⟨L, rfl, hL'⟩ := sllink_of hL
  exact ⟨N, L, rfl, hN', hL'⟩
theorem state_of {w : World} {cs : List Value} (h : Fits w tState cs) : ∃ s : State, cs = [.slice s.vs.A s.vs.n s.vs.c, .slice s.ps.A s.ps.n s.ps.c, .slice s.st.A s.st.n s.st.c, .slice s.on.A s.on.n s.on.c] ∧ s.Ok w := by
  unfold tState at h
  obtain ⟨_, _, rfl, h1, _, _, rfl, h2, _, _, rfl, h3, _, _, rfl, h4, rfl⟩ := h
  obtain ⟨s1, rfl, h1'⟩ := sli_of h1
  obtain ⟨s2, rfl, h2'⟩ := sli_of h2
  obtain ⟨s3, rfl, h3'⟩ := sli_of h3
  obtain ⟨s4, rfl, h4'⟩ := slb_of h4
  exact ⟨⟨s1, s2, s3, s4⟩, rfl, h1', h2', h3', h4'⟩
theorem case_of {w : World} {cs : Array Value} (h : Fits w tCase cs.toList) : ∃ (N : SlNode) (L : SlLink) (s1 s2 : State) (I : SlI) (g : Ledger), .agg cs = caseVal N L s1 s2 I g ∧ N.At w ∧ L.At w ∧ s1.Ok w ∧ s2.Ok w ∧ I.At w ∧ g.Ok w := by
  unfold tCase at h
  obtain ⟨_, _, e, hN, _, _, rfl, h1, _, _, rfl, h2, _, _, rfl, hI, _, _, rfl, hg, rfl⟩ := h
  obtain ⟨N, L, rfl, hN', hL'⟩ := net_of hN
  obtain ⟨s1, rfl, h1'⟩ := state_of h1
  obtain ⟨s2, rfl, h2'⟩ := state_of h2
  obtain ⟨I, rfl, hI'⟩ := sli_of hI
  obtain ⟨g, rfl, hg'⟩ := ledger_of hg
  refine ⟨N, L, s1, s2, I, g, ?_, hN', hL', h1', h2', hI', hg'⟩
  rw [agg_eq e]
  rfl
theorem netv_of {w : World} {cs : Array Value} (h : Fits w tNet cs.toList) : ∃ (N : SlNode) (L : SlLink), .agg cs = netVal N L ∧ N.At w ∧ L.At w := by
  generalize e : cs.toList = l at h
  obtain ⟨N, L, rfl, hN', hL'⟩ := net_of h
  refine ⟨N, L, ?_, hN', hL'⟩
  rw [agg_eq e]
  rfl
theorem sl_val {A A' : Option Addr} {n n' c c' : Nat} (h : [Value.slice A n c] = [Value.slice A' n' c']) : Value.slice A n c = Value.slice A' n' c' := by simpa using h
end Ba
end Go.Proofs.Ythkmgnaeponfcaa
