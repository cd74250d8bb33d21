/-
  Law 36: small, awake.
-/
import Derived.Test.YtkgbbcmgfbipaaaGreatDoorSm11
import Derived.Test.YtkgbbcmgfbipaaaGreatDoorSm37
import Derived.Deep.RegionHeld3
import Derived.Deep.DrawnRows
set_option linter.unusedVariables false
set_option linter.unusedSimpArgs false
namespace Go.Proofs.YtkgbbcmgfbipaaaGreatDoor
open Go.RowKit
attribute [local go_sem ↓] Go.wp_at_zero Go.wp_at_succ
theorem at_two {w : World} {b : Nat} {x y : Int} (h0 : w.cell? ⟨b, 0, none⟩ = some (.int .i64 x)) (h1 : w.cell? ⟨b, 1, none⟩ = some (.int .i64 y)) (hx : Ba.i64 x) (hy : Ba.i64 y) : Ba.SlI.At w ⟨some ⟨b, 0, none⟩, 2, 2, b, 0, fun i => if i = 0 then x else y⟩ := ⟨fun _ => rfl, by simp, by simp, fun i hi => by
    simp only at hi
    rcases (by omega : i = 0 ∨ i = 1) with rfl | rfl
    · exact ⟨h0, hx⟩
    · exact ⟨h1, hy⟩⟩
theorem at_same {w : World} {b n : Nat} {x : Int} (h : ∀ i, i < n → w.cell? ⟨b, i, none⟩ = some (.int .i64 x) ∧ Ba.i64 x) (hn : n ≤ 1000 := by omega) : Ba.SlI.At w ⟨some ⟨b, 0, none⟩, n, n, b, 0, fun _ => x⟩ := ⟨fun _ => rfl, by simp, by simp only; omega, fun i hi => by simp only [Nat.zero_add]; exact h i hi⟩
theorem at_flag {w : World} {b n : Nat} {x : Bool} (h : ∀ i, i < n → w.cell? ⟨b, i, none⟩ = some (.bool x)) (hn : n ≤ 1000 := by omega) : Ba.SlB.At w ⟨some ⟨b, 0, none⟩, n, n, b, 0, fun _ => x⟩ := ⟨fun _ => rfl, by simp, by simp only; omega, fun i hi => by simp only [Nat.zero_add]; exact h i hi⟩
/-- A state of two nodes and a link comes back. -/
def RetSt (v : Int) (w : World) (e : Ending) (w' : World) : Prop := ∃ s : Ba.State, e = .returned (.agg #[.slice s.vs.A s.vs.n s.vs.c, .slice s.ps.A s.ps.n s.ps.c, .slice s.st.A s.st.n s.st.c, .slice s.on.A s.on.n s.on.c]) ∧ s.Ok w' ∧ (s.vs.n = 2 ∧ s.vs.X = fun i => if i = 0 then v else 0) ∧ (s.ps.n = 2 ∧ s.ps.X = fun _ => 0) ∧ (s.st.n = 1 ∧ s.st.X = fun _ => 1000) ∧ (s.on.n = 1 ∧ s.on.X = fun _ => false) ∧ (w.heap.size ≤ s.vs.b ∧ w.heap.size ≤ s.ps.b ∧ w.heap.size ≤ s.st.b ∧ w.heap.size ≤ s.on.b) ∧ Gr w w'
set_option maxRecDepth 100000 in
set_option maxHeartbeats 2000000 in
theorem smallf_any (v : Int) (w : World) (hv : Ba.i64 v) : Calls Tryz.prog 39 #[.int .i64 v] w (RetSt v w) := by
  go_enter Tryz.func39, Tryz.ntmps39
  go_wp2_with fail
  go_returns
  refine ⟨⟨⟨some ⟨w.heap.size + 1, 0, none⟩, 2, 2, w.heap.size + 1, 0, fun i => if i = 0 then v else 0⟩, ⟨some ⟨w.heap.size + 1 + 1, 0, none⟩, 2, 2, w.heap.size + 1 + 1, 0, fun _ => 0⟩, ⟨some ⟨w.heap.size + 1 + 1 + 1, 0, none⟩, 1, 1, w.heap.size + 1 + 1 + 1, 0, fun _ => 1000⟩, ⟨some ⟨w.heap.size + 1 + 1 + 1 + 1, 0, none⟩, 1, 1, w.heap.size + 1 + 1 + 1 + 1, 0, fun _ => false⟩⟩, rfl, ⟨at_two ?_ ?_ hv (by unfold Ba.i64; omega), at_same fun i hi => ⟨?_, by unfold Ba.i64; omega⟩, at_same fun i hi => ⟨?_, by unfold Ba.i64; omega⟩, at_flag fun i hi => ?_⟩, ⟨rfl, rfl⟩, ⟨rfl, rfl⟩, ⟨rfl, rfl⟩, ⟨rfl, rfl⟩, ⟨by simp only; omega, by simp only; omega, by simp only; omega, by simp only; omega⟩, gr_auto⟩
  · simp [go_sem]
  · simp [go_sem]
  · rcases (by omega : i = 0 ∨ i = 1) with rfl | rfl <;> simp [go_sem]
  · obtain rfl : i = 0 := by omega
    simp [go_sem]
  · obtain rfl : i = 0 := by omega
    simp [go_sem]
/-- A table of two knots. -/
def Ba.tb2 (b : Nat) : Ba.SlK := ⟨some ⟨b, 0, none⟩, 2, 2, b, 0, fun i => if i = 0 then 0 else 1000, fun i => if i = 0 then 0 else 1000⟩
/-- The example's nodes, and its link. -/
def Ba.exN (bt bn : Nat) : Ba.SlNode := ⟨some ⟨bn, 0, none⟩, 2, 2, bn, 0, fun i => if i = 0 then ⟨⟨#[97]⟩, 1, 0, 0, 0, 1000, Ba.tb2 bt, false, 0⟩ else ⟨⟨#[111]⟩, 3, 0, 0, 0, 0, ⟨none, 0, 0, 0, 0, fun _ => 0, fun _ => 0⟩, false, 0⟩⟩
def Ba.exL (bl : Nat) : Ba.SlLink := ⟨some ⟨bl, 0, none⟩, 1, 1, bl, 0, fun _ => ⟨⟨#[112]⟩, ⟨#[97]⟩, ⟨#[111]⟩, 1, 1000, 0, 0, ⟨#[99]⟩, 0, 0, ⟨none, 0, 0, 0, 0, fun _ => 0, fun _ => 0⟩⟩⟩
def Ba.StIs (s : Ba.State) (v : Int) : Prop := (s.vs.n = 2 ∧ s.vs.X = fun i => if i = 0 then v else 0) ∧ (s.ps.n = 2 ∧ s.ps.X = fun _ => 0) ∧ (s.st.n = 1 ∧ s.st.X = fun _ => 1000) ∧ (s.on.n = 1 ∧ s.on.X = fun _ => false)
theorem Ba.SlI.At.z {lo hi : Nat} {w w' : World} {s : Ba.SlI} (h : s.At w) (hg : GrZ lo hi w w') (hb : hi ≤ s.b) : s.At w' := ⟨h.hA, h.hc, h.hb, fun i hi' => ⟨hg.at (Or.inr hb) (h.hX i hi').1, (h.hX i hi').2⟩⟩
theorem Ba.SlB.At.z {lo hi : Nat} {w w' : World} {s : Ba.SlB} (h : s.At w) (hg : GrZ lo hi w w') (hb : hi ≤ s.b) : s.At w' := ⟨h.hA, h.hc, h.hb, fun i hi' => hg.at (Or.inr hb) (h.hX i hi')⟩
theorem Ba.State.Ok.z {lo hi : Nat} {w w' : World} {s : Ba.State} (h : s.Ok w) (hg : GrZ lo hi w w') (h1 : hi ≤ s.vs.b) (h2 : hi ≤ s.ps.b) (h3 : hi ≤ s.st.b) (h4 : hi ≤ s.on.b) : s.Ok w' := ⟨h.1.z hg h1, h.2.1.z hg h2, h.2.2.1.z hg h3, h.2.2.2.z hg h4⟩
/-- The example's cells. -/
def Ba.ExAt (w : World) (bt bn bl : Nat) : Prop := (w.cell? ⟨bt, 0, none⟩ = some (.int .i64 0) ∧ w.cell? ⟨bt, 1, none⟩ = some (.int .i64 0) ∧ w.cell? ⟨bt, 2, none⟩ = some (.int .i64 1000) ∧ w.cell? ⟨bt, 3, none⟩ = some (.int .i64 1000)) ∧
  ((Ba.exN bt bn).D 0).Cells w bn 0 ∧ ((Ba.exN bt bn).D 1).Cells w bn 9 ∧ ((Ba.exL bl).D 0).Cells w bl 0
theorem Ba.Node.Cells.z {lo hi : Nat} {w w' : World} {b o : Nat} {d : Ba.Node} (h : d.Cells w b o) (hg : GrZ lo hi w w') (hb : hi ≤ b) : d.Cells w' b o := by
  have hb' : b < lo ∨ hi ≤ b := Or.inr hb
  obtain ⟨h0, h1, h2, h3, h4, h5, h6, h7, h8⟩ := h
  exact ⟨hg.at hb' h0, hg.at hb' h1, hg.at hb' h2, hg.at hb' h3, hg.at hb' h4, hg.at hb' h5, hg.at hb' h6, hg.at hb' h7, hg.at hb' h8⟩
theorem Ba.Link.Cells.z {lo hi : Nat} {w w' : World} {b o : Nat} {d : Ba.Link} (h : d.Cells w b o) (hg : GrZ lo hi w w') (hb : hi ≤ b) : d.Cells w' b o := by
  have hb' : b < lo ∨ hi ≤ b := Or.inr hb
  obtain ⟨h0, h1, h2, h3, h4, h5, h6, h7, h8, h9, h10⟩ := h
  exact ⟨hg.at hb' h0, hg.at hb' h1, hg.at hb' h2, hg.at hb' h3, hg.at hb' h4, hg.at hb' h5, hg.at hb' h6, hg.at hb' h7, hg.at hb' h8, hg.at hb' h9, hg.at hb' h10⟩
theorem Ba.ExAt.gr {w w' : World} {bt bn bl : Nat} (h : Ba.ExAt w bt bn bl) (g : Gr w w') : Ba.ExAt w' bt bn bl := by
  obtain ⟨⟨t0, t1, t2, t3⟩, n0, n1, l0⟩ := h
  exact ⟨⟨Gr.at g t0, Gr.at g t1, Gr.at g t2, Gr.at g t3⟩, n0.gr g, n1.gr g, l0.gr g⟩
theorem Ba.ExAt.z {lo hi : Nat} {w w' : World} {bt bn bl : Nat} (h : Ba.ExAt w bt bn bl) (g : GrZ lo hi w w') (h1 : hi ≤ bt) (h2 : hi ≤ bn) (h3 : hi ≤ bl) : Ba.ExAt w' bt bn bl := by
  obtain ⟨⟨t0, t1, t2, t3⟩, n0, n1, l0⟩ := h
  exact ⟨⟨g.at (Or.inr h1) t0, g.at (Or.inr h1) t1, g.at (Or.inr h1) t2, g.at (Or.inr h1) t3⟩, n0.z g h2, n1.z g h2, l0.z g h3⟩
theorem Ba.i64_small {x : Int} (h : -1000000 ≤ x ∧ x ≤ 1000000) : Ba.i64 x := by unfold Ba.i64; omega
theorem Ba.nil_at (w : World) : Ba.SlK.At w ⟨none, 0, 0, 0, 0, fun _ => 0, fun _ => 0⟩ := ⟨fun h => absurd h (by simp), by simp, by simp, fun i hi => absurd hi (by simp)⟩
theorem Ba.ExAt.node {w : World} {bt bn bl : Nat} (h : Ba.ExAt w bt bn bl) : (Ba.exN bt bn).At w := by
  obtain ⟨⟨t0, t1, t2, t3⟩, n0, n1, l0⟩ := h
  have s : ∀ x : Int, -1000000 ≤ x ∧ x ≤ 1000000 → Ba.i64 x := fun x hx => Ba.i64_small hx
  refine ⟨fun _ => rfl, by simp [Ba.exN], by simp [Ba.exN], fun i hi => ?_⟩
  have hi2 : i < 2 := hi
  rcases (by omega : i = 0 ∨ i = 1) with rfl | rfl
  · refine ⟨by simpa [Ba.exN] using n0, ?_⟩
    refine ⟨s _ (by simp [Ba.exN, Ba.exL, Ba.tb2]), s _ (by simp [Ba.exN, Ba.exL, Ba.tb2]), s _ (by simp [Ba.exN, Ba.exL, Ba.tb2]), s _ (by simp [Ba.exN, Ba.exL, Ba.tb2]), s _ (by simp [Ba.exN, Ba.exL, Ba.tb2]), s _ (by simp [Ba.exN, Ba.exL, Ba.tb2]), by simp [Ba.exN]; decide, ?_⟩
    refine ⟨fun _ => rfl, by simp [Ba.exN, Ba.tb2], by simp [Ba.exN, Ba.tb2], fun j hj => ?_⟩
    have hj2 : j < 2 := hj
    rcases (by omega : j = 0 ∨ j = 1) with rfl | rfl
    · exact ⟨⟨t0, t1⟩, s _ (by simp [Ba.exN, Ba.exL, Ba.tb2]), s _ (by simp [Ba.exN, Ba.exL, Ba.tb2])⟩
    · exact ⟨⟨t2, t3⟩, s _ (by simp [Ba.exN, Ba.exL, Ba.tb2]), s _ (by simp [Ba.exN, Ba.exL, Ba.tb2])⟩
  · refine ⟨by simpa [Ba.exN] using n1, ?_⟩
    exact ⟨s _ (by simp [Ba.exN, Ba.exL, Ba.tb2]), s _ (by simp [Ba.exN, Ba.exL, Ba.tb2]), s _ (by simp [Ba.exN, Ba.exL, Ba.tb2]), s _ (by simp [Ba.exN, Ba.exL, Ba.tb2]), s _ (by simp [Ba.exN, Ba.exL, Ba.tb2]), s _ (by simp [Ba.exN, Ba.exL, Ba.tb2]), by simp [Ba.exN]; decide, Ba.nil_at w⟩
theorem Ba.ExAt.link {w : World} {bt bn bl : Nat} (h : Ba.ExAt w bt bn bl) : (Ba.exL bl).At w := by
  obtain ⟨-, -, -, l0⟩ := h
  have s : ∀ x : Int, -1000000 ≤ x ∧ x ≤ 1000000 → Ba.i64 x := fun x hx => Ba.i64_small hx
  refine ⟨fun _ => rfl, by simp [Ba.exL], by simp [Ba.exL], fun i hi => ?_⟩
  have hi2 : i < 1 := hi
  obtain rfl : i = 0 := by omega
  exact ⟨by simpa [Ba.exL] using l0, s _ (by simp [Ba.exN, Ba.exL, Ba.tb2]), s _ (by simp [Ba.exN, Ba.exL, Ba.tb2]), s _ (by simp [Ba.exN, Ba.exL, Ba.tb2]), s _ (by simp [Ba.exN, Ba.exL, Ba.tb2]), s _ (by simp [Ba.exN, Ba.exL, Ba.tb2]), s _ (by simp [Ba.exN, Ba.exL, Ba.tb2]), by simp [Ba.exL]; decide, by simp [Ba.exL]; decide, by simp [Ba.exL]; decide, by simp [Ba.exL]; decide, Ba.nil_at w⟩
theorem name_post {P : Program} {f : Func} {Q : Ending → World → Prop} {x : Exit} {a : Act} {w : World} (h : ∀ W, W = w → bodyPost P f Q x a W) : bodyPost P f Q x a w := h w rfl
set_option maxRecDepth 100000 in
set_option maxHeartbeats 2000000 in
theorem small_any (a b : Int) (w : World) (ha : Ba.i64 a) (hb : Ba.i64 b) : Calls Tryz.prog 17 #[.int .i64 a, .int .i64 b] w fun e w' => ∃ (bt bn bl : Nat) (s1 s2 : Ba.State), e = .returned (.tuple #[Ba.netVal (Ba.exN bt bn) (Ba.exL bl), s1.val, s2.val]) ∧ (Ba.exN bt bn).At w' ∧ (Ba.exL bl).At w' ∧ s1.Ok w' ∧ s2.Ok w' ∧ Ba.StIs s1 a ∧ Ba.StIs s2 b ∧ Gr w w' := by
  have HS1 := Lib.hid (fun W => smallf_any a W ha)
  have HS2 := Lib.hid (fun W => smallf_any b W hb)
  go_enter Tryz.func17, Tryz.ntmps17
  go_wp2_with fail
  refine name_world ?_; intro W2 hW2
  have hNA : Ba.ExAt W2 (w.heap.size + 1 + 1 + 1) (w.heap.size + 1 + 1 + 1 + 1) (w.heap.size + 1 + 1 + 1 + 1 + 1) := by
    rw [hW2]
    refine ⟨⟨?_, ?_, ?_, ?_⟩, ⟨?_, ?_, ?_, ?_, ?_, ?_, ?_, ?_, ?_⟩, ⟨?_, ?_, ?_, ?_, ?_, ?_, ?_, ?_, ?_⟩, ⟨?_, ?_, ?_, ?_, ?_, ?_, ?_, ?_, ?_, ?_, ?_⟩⟩ <;> simp [go_sem, Ba.exN, Ba.exL, Ba.tb2]
  have hLA : w.heap.size + 7 ≤ W2.heap.size := by rw [hW2]; simp
  subst hW2
  refine name_world ?_; intro W3 hW3
  have g3 : Gr w W3 := by rw [hW3]; exact gr_auto
  have k3_0 : ∀ w', Gr W3 w' → w'.cell? ⟨w.heap.size + 1 + 1 + 1 + 1 + 1 + 1, 0, none⟩ = some (.slice (some ⟨w.heap.size + 1 + 1 + 1 + 1, 0, none⟩) 2 2) := fun w' hgW => by first | exact (Gr.at hgW (by rw [hW3]; simp [go_sem, *]))
  have k3_1 : ∀ w', Gr W3 w' → w'.cell? ⟨w.heap.size + 1 + 1 + 1 + 1 + 1 + 1, 1, none⟩ = some (.slice (some ⟨w.heap.size + 1 + 1 + 1 + 1 + 1, 0, none⟩) 1 1) := fun w' hgW => by first | exact (Gr.at hgW (by rw [hW3]; simp [go_sem, *]))
  have k3_2 : ∀ w', Gr W3 w' → w'.cell? ⟨w.heap.size, 0, none⟩ = some (.slice none 0 0) := fun w' hgW => by first | exact (Gr.at hgW (by rw [hW3]; simp [go_sem, *]))
  (first | (have j3_2 : ∀ w', Gr W3 w' → w'.frozen? ⟨w.heap.size, 0, none⟩ = false := fun w' hgW => ((Gr.cells hgW).2 _ _ (World.block_lt_of_cell? W3 ⟨w.heap.size, 0, none⟩ (k3_2 W3 (Gr.refl _)))).trans (by rw [hW3]; simp [go_sem, *]; done)) | skip)
  have k3_3 : ∀ w', Gr W3 w' → w'.cell? ⟨w.heap.size, 1, none⟩ = some (.slice none 0 0) := fun w' hgW => by first | exact (Gr.at hgW (by rw [hW3]; simp [go_sem, *]))
  (first | (have j3_3 : ∀ w', Gr W3 w' → w'.frozen? ⟨w.heap.size, 1, none⟩ = false := fun w' hgW => ((Gr.cells hgW).2 _ _ (World.block_lt_of_cell? W3 ⟨w.heap.size, 1, none⟩ (k3_3 W3 (Gr.refl _)))).trans (by rw [hW3]; simp [go_sem, *]; done)) | skip)
  have k3_4 : ∀ w', Gr W3 w' → w'.cell? ⟨w.heap.size + 1, 0, none⟩ = some (.slice none 0 0) := fun w' hgW => by first | exact (Gr.at hgW (by rw [hW3]; simp [go_sem, *]))
  (first | (have j3_4 : ∀ w', Gr W3 w' → w'.frozen? ⟨w.heap.size + 1, 0, none⟩ = false := fun w' hgW => ((Gr.cells hgW).2 _ _ (World.block_lt_of_cell? W3 ⟨w.heap.size + 1, 0, none⟩ (k3_4 W3 (Gr.refl _)))).trans (by rw [hW3]; simp [go_sem, *]; done)) | skip)
  have k3_5 : ∀ w', Gr W3 w' → w'.cell? ⟨w.heap.size + 1, 1, none⟩ = some (.slice none 0 0) := fun w' hgW => by first | exact (Gr.at hgW (by rw [hW3]; simp [go_sem, *]))
  (first | (have j3_5 : ∀ w', Gr W3 w' → w'.frozen? ⟨w.heap.size + 1, 1, none⟩ = false := fun w' hgW => ((Gr.cells hgW).2 _ _ (World.block_lt_of_cell? W3 ⟨w.heap.size + 1, 1, none⟩ (k3_5 W3 (Gr.refl _)))).trans (by rw [hW3]; simp [go_sem, *]; done)) | skip)
  have k3_6 : ∀ w', Gr W3 w' → w'.cell? ⟨w.heap.size + 1, 2, none⟩ = some (.slice none 0 0) := fun w' hgW => by first | exact (Gr.at hgW (by rw [hW3]; simp [go_sem, *]))
  (first | (have j3_6 : ∀ w', Gr W3 w' → w'.frozen? ⟨w.heap.size + 1, 2, none⟩ = false := fun w' hgW => ((Gr.cells hgW).2 _ _ (World.block_lt_of_cell? W3 ⟨w.heap.size + 1, 2, none⟩ (k3_6 W3 (Gr.refl _)))).trans (by rw [hW3]; simp [go_sem, *]; done)) | skip)
  have k3_7 : ∀ w', Gr W3 w' → w'.cell? ⟨w.heap.size + 1, 3, none⟩ = some (.slice none 0 0) := fun w' hgW => by first | exact (Gr.at hgW (by rw [hW3]; simp [go_sem, *]))
  (first | (have j3_7 : ∀ w', Gr W3 w' → w'.frozen? ⟨w.heap.size + 1, 3, none⟩ = false := fun w' hgW => ((Gr.cells hgW).2 _ _ (World.block_lt_of_cell? W3 ⟨w.heap.size + 1, 3, none⟩ (k3_7 W3 (Gr.refl _)))).trans (by rw [hW3]; simp [go_sem, *]; done)) | skip)
  have k3_8 : ∀ w', Gr W3 w' → w'.cell? ⟨w.heap.size + 1 + 1, 0, none⟩ = some (.slice none 0 0) := fun w' hgW => by first | exact (Gr.at hgW (by rw [hW3]; simp [go_sem, *]))
  (first | (have j3_8 : ∀ w', Gr W3 w' → w'.frozen? ⟨w.heap.size + 1 + 1, 0, none⟩ = false := fun w' hgW => ((Gr.cells hgW).2 _ _ (World.block_lt_of_cell? W3 ⟨w.heap.size + 1 + 1, 0, none⟩ (k3_8 W3 (Gr.refl _)))).trans (by rw [hW3]; simp [go_sem, *]; done)) | skip)
  have k3_9 : ∀ w', Gr W3 w' → w'.cell? ⟨w.heap.size + 1 + 1, 1, none⟩ = some (.slice none 0 0) := fun w' hgW => by first | exact (Gr.at hgW (by rw [hW3]; simp [go_sem, *]))
  (first | (have j3_9 : ∀ w', Gr W3 w' → w'.frozen? ⟨w.heap.size + 1 + 1, 1, none⟩ = false := fun w' hgW => ((Gr.cells hgW).2 _ _ (World.block_lt_of_cell? W3 ⟨w.heap.size + 1 + 1, 1, none⟩ (k3_9 W3 (Gr.refl _)))).trans (by rw [hW3]; simp [go_sem, *]; done)) | skip)
  have k3_10 : ∀ w', Gr W3 w' → w'.cell? ⟨w.heap.size + 1 + 1, 2, none⟩ = some (.slice none 0 0) := fun w' hgW => by first | exact (Gr.at hgW (by rw [hW3]; simp [go_sem, *]))
  (first | (have j3_10 : ∀ w', Gr W3 w' → w'.frozen? ⟨w.heap.size + 1 + 1, 2, none⟩ = false := fun w' hgW => ((Gr.cells hgW).2 _ _ (World.block_lt_of_cell? W3 ⟨w.heap.size + 1 + 1, 2, none⟩ (k3_10 W3 (Gr.refl _)))).trans (by rw [hW3]; simp [go_sem, *]; done)) | skip)
  have k3_11 : ∀ w', Gr W3 w' → w'.cell? ⟨w.heap.size + 1 + 1, 3, none⟩ = some (.slice none 0 0) := fun w' hgW => by first | exact (Gr.at hgW (by rw [hW3]; simp [go_sem, *]))
  (first | (have j3_11 : ∀ w', Gr W3 w' → w'.frozen? ⟨w.heap.size + 1 + 1, 3, none⟩ = false := fun w' hgW => ((Gr.cells hgW).2 _ _ (World.block_lt_of_cell? W3 ⟨w.heap.size + 1 + 1, 3, none⟩ (k3_11 W3 (Gr.refl _)))).trans (by rw [hW3]; simp [go_sem, *]; done)) | skip)
  (try rw [← hW3] at hNA); (try rw [← hW3] at hLA)
  clear hW3
  have zW3 := Gr.size g3
  have qW3 := Gr.refl W3; have qD3 : Gr W3 W3.drew := Gr.drew (Gr.refl _); have qA3 := fun o => Gr.alloc (Gr.refl W3) o; have qB3 := fun o => Gr.drew (Gr.alloc (Gr.refl W3) o); have qC3 := fun o => Gr.alloc (Gr.drew (Gr.refl W3)) o; go_region_with (first | (go_at_call_of 39 (Value.int .i64 a); refine (HS1.out _).mono ?_; rintro e w4 ⟨s1, rfl, x1⟩; have q4 : Gr W3 w4 := Gr.trans gr_auto x1.2.2.2.2.2.2; have HX1 := Lib.hid x1; clear x1) | (go_at_call_of 39 (Value.int .i64 b); refine (HS2.out _).mono ?_; rintro e w5 ⟨s2, rfl, x2⟩; have q5 : Gr W3 w5 := Gr.trans gr_auto x2.2.2.2.2.2.2; have HX2 := Lib.hid x2; clear x2))
  all_goals
    go_wp2_with fail
    refine name_post ?_; intro F hF
    have y1 := HX1.out; have y2 := HX2.out
    have gz : GrZ w.heap.size (w.heap.size + 3) w5 F := by
      rw [hF]
      repeat' (first | (with_reducible exact GrZ.refl _ _ _) | (with_reducible refine GrZ.drew ?_) | (with_reducible refine GrZ.setCell ?_ ?_ _) | (simp; done) | (simp; omega))
    have c0_0 : F.cell? ⟨w.heap.size, 0, none⟩ = some (.slice (some ⟨w.heap.size + 1 + 1 + 1 + 1, 0, none⟩) 2 2) := by rw [hF]; exact (by first | (simp [go_sem, *]; done) | ((try simp [go_sem, *]); refine World.cell?_setCell_same' _ _ _ ?_; simp [go_sem, *]; done))
    have c0_1 : F.cell? ⟨w.heap.size, 1, none⟩ = some (.slice (some ⟨w.heap.size + 1 + 1 + 1 + 1 + 1, 0, none⟩) 1 1) := by rw [hF]; exact (by first | (simp [go_sem, *]; done) | ((try simp [go_sem, *]); refine World.cell?_setCell_same' _ _ _ ?_; simp [go_sem, *]; done))
    have c1_0 : F.cell? ⟨w.heap.size + 1, 0, none⟩ = some (.slice s1.vs.A s1.vs.n s1.vs.c) := by rw [hF]; exact (by first | (simp [go_sem, *]; done) | ((try simp [go_sem, *]); refine World.cell?_setCell_same' _ _ _ ?_; simp [go_sem, *]; done))
    have c1_1 : F.cell? ⟨w.heap.size + 1, 1, none⟩ = some (.slice s1.ps.A s1.ps.n s1.ps.c) := by rw [hF]; exact (by first | (simp [go_sem, *]; done) | ((try simp [go_sem, *]); refine World.cell?_setCell_same' _ _ _ ?_; simp [go_sem, *]; done))
    have c1_2 : F.cell? ⟨w.heap.size + 1, 2, none⟩ = some (.slice s1.st.A s1.st.n s1.st.c) := by rw [hF]; exact (by first | (simp [go_sem, *]; done) | ((try simp [go_sem, *]); refine World.cell?_setCell_same' _ _ _ ?_; simp [go_sem, *]; done))
    have c1_3 : F.cell? ⟨w.heap.size + 1, 3, none⟩ = some (.slice s1.on.A s1.on.n s1.on.c) := by rw [hF]; exact (by first | (simp [go_sem, *]; done) | ((try simp [go_sem, *]); refine World.cell?_setCell_same' _ _ _ ?_; simp [go_sem, *]; done))
    have c2_0 : F.cell? ⟨w.heap.size + 1 + 1, 0, none⟩ = some (.slice s2.vs.A s2.vs.n s2.vs.c) := by rw [hF]; exact (by first | (simp [go_sem, *]; done) | ((try simp [go_sem, *]); refine World.cell?_setCell_same' _ _ _ ?_; simp [go_sem, *]; done))
    have c2_1 : F.cell? ⟨w.heap.size + 1 + 1, 1, none⟩ = some (.slice s2.ps.A s2.ps.n s2.ps.c) := by rw [hF]; exact (by first | (simp [go_sem, *]; done) | ((try simp [go_sem, *]); refine World.cell?_setCell_same' _ _ _ ?_; simp [go_sem, *]; done))
    have c2_2 : F.cell? ⟨w.heap.size + 1 + 1, 2, none⟩ = some (.slice s2.st.A s2.st.n s2.st.c) := by rw [hF]; exact (by first | (simp [go_sem, *]; done) | ((try simp [go_sem, *]); refine World.cell?_setCell_same' _ _ _ ?_; simp [go_sem, *]; done))
    have c2_3 : F.cell? ⟨w.heap.size + 1 + 1, 3, none⟩ = some (.slice s2.on.A s2.on.n s2.on.c) := by rw [hF]; exact (by first | (simp [go_sem, *]; done) | ((try simp [go_sem, *]); refine World.cell?_setCell_same' _ _ _ ?_; simp [go_sem, *]; done))
    clear hF
    clear k3_0 k3_1 k3_2 j3_2 k3_3 j3_3 k3_4 j3_4 k3_5 j3_5 k3_6 j3_6 k3_7 j3_7 k3_8 j3_8 k3_9 j3_9 k3_10 j3_10 k3_11 j3_11
    refine bodyPost_ret (by simp [results, Tryz.results17, go_sem, c0_0, c0_1, c1_0, c1_1, c1_2, c1_3, c2_0, c2_1, c2_2, c2_3]; try rfl) rfl ?_
    obtain ⟨o1, e1, e2, e3, e4, ⟨f1, f2, f3, f4⟩, g4⟩ := y1
    obtain ⟨o2, l1, l2, l3, l4, ⟨m1, m2, m3, m4⟩, g5⟩ := y2
    have ex := (hNA.gr q5).z gz (by omega) (by omega) (by omega)
    have hs4 := Gr.size q4
    refine ⟨_, _, _, s1, s2, rfl, ex.node, ex.link, (o1.gr g5).z gz ?_ ?_ ?_ ?_, o2.z gz ?_ ?_ ?_ ?_, ⟨e1, e2, e3, e4⟩, ⟨l1, l2, l3, l4⟩, gz.below (g3.trans q5) (Nat.le_refl _)⟩
    all_goals (simp at *; omega)
end Go.Proofs.YtkgbbcmgfbipaaaGreatDoor
