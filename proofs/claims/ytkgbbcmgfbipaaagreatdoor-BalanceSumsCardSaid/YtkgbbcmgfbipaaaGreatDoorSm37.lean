/-
  A row of one-cell elements that a call makes and writes: what it holds.
  Worlds in which, of what was there, the blocks of one range alone have turned.
-/
import Derived.Test.YtkgbbcmgfbipaaaGreatDoorSm32
import Derived.Test.YtkgbbcmgfbipaaaGreatDoorSm29
import Derived.Test.YtkgbbcmgfbipaaaGreatDoorSm01

set_option linter.unusedVariables false
set_option linter.unusedSimpArgs false
namespace Go.Proofs.YtkgbbcmgfbipaaaGreatDoor
open Go.RowKit
/-- A row of n cells, each of which may be written. -/
def Row (w : World) (g n : Nat) (X : Nat → Value) : Prop := ∀ j, j < n → Own w g j (X j)
theorem Row.gr {w w' : World} {g n : Nat} {X : Nat → Value} (h : Row w g n X) (hg : Gr w w') : Row w' g n X := fun j hj => (h j hj).gr hg
theorem Row.set {w : World} {g n : Nat} {X Y : Nat → Value} {k : Nat} {u : Value} (h : Row w g n X) (hu : Y k = u) (ho : ∀ j, j < n → j ≠ k → Y j = X j) : Row (w.setCell ⟨g, k, none⟩ u) g n Y := fun j hj => by
  by_cases e : j = k
  · subst e; rw [hu]; exact (h j hj).set
  · rw [ho j hj e]; exact (h j hj).other (Or.inr e)
theorem made_row {w : World} {base e g n : Nat} {z : Value} (h : w.ownsRow base e 1 (.slice (some ⟨g, 0, none⟩) n n) n (madeCells #[z] n).toList) : Row w g n (fun _ => z) := by
  obtain ⟨hl, ⟨h1, -⟩ | ⟨g', cap, cur, hv, hb, hc, h3, h4, h5, h6⟩⟩ := h
  · cases h1
  · simp only [Value.slice.injEq, Option.some.injEq, Addr.mk.injEq] at hv
    obtain ⟨⟨rfl, -, -⟩, -, rfl⟩ := hv
    rw [Nat.mul_one] at h5 h6
    rw [List.take_of_length_le (by simp [h5])] at h6
    intro j hj
    have hz : cur.toList[j]? = some z := by rw [h6]; simp [madeCells, Nat.mod_one, hj]
    refine ⟨?_, ?_⟩
    · simp only [World.cell?, hc]; simpa using hz
    · simp only [World.frozen?, hc]; simp
end Go.Proofs.YtkgbbcmgfbipaaaGreatDoor
set_option linter.unusedVariables false
set_option linter.unusedSimpArgs false
namespace Go.Proofs.YtkgbbcmgfbipaaaGreatDoor
open Go.RowKit
/-- The world has grown; of what was there, the blocks from lo to hi, hi left out, alone have turned. -/
structure GrZ (lo hi : Nat) (w w' : World) : Prop where
  os : w'.os = w.os
  tape : w'.tape = w.tape
  output : w'.output = w.output
  size : w.heap.size ≤ w'.heap.size
  block : ∀ k, k < w.heap.size → (k < lo ∨ hi ≤ k) → w'.heap[k]? = w.heap[k]?
theorem GrZ.refl (lo hi : Nat) (w : World) : GrZ lo hi w w := ⟨rfl, rfl, rfl, Nat.le_refl _, fun _ _ _ => rfl⟩
theorem GrZ.gr {lo hi : Nat} {a b c : World} (h : GrZ lo hi a b) (k : Gr b c) : GrZ lo hi a c :=
  ⟨k.os.trans h.os, k.tape.trans h.tape, k.output.trans h.output, Nat.le_trans h.size (Gr.size k), fun i hi' hR => (Below.block k i (Nat.lt_of_lt_of_le hi' h.size)).trans (h.block i hi' hR)⟩
theorem GrZ.drew {lo hi : Nat} {a b : World} (h : GrZ lo hi a b) : GrZ lo hi a b.drew := h.gr (Gr.drew (Gr.refl _))
theorem GrZ.drewN {lo hi : Nat} {a b : World} (h : GrZ lo hi a b) (n : Nat) : GrZ lo hi a (b.drewN n) := h.gr (Gr.drewN (Gr.refl _) n)
theorem GrZ.alloc {lo hi : Nat} {a b : World} (h : GrZ lo hi a b) (o : Obj) : GrZ lo hi a (b.alloc o) := h.gr (Gr.alloc (Gr.refl _) o)
theorem GrZ.setCell {lo hi : Nat} {a b : World} (h : GrZ lo hi a b) {p : Addr} (hp : lo ≤ p.block ∧ p.block < hi) (u : Value) : GrZ lo hi a (b.setCell p u) :=
  ⟨h.os, h.tape, h.output, by simpa [World.setCell] using h.size, fun i hi' hR => (Below.heap_setCell _ _ _ _ (by omega)).trans (h.block i hi' hR)⟩
theorem GrZ.at {lo hi : Nat} {w w' : World} (h : GrZ lo hi w w') {b o : Nat} {v : Value} (hb : b < lo ∨ hi ≤ b) (hc : w.cell? ⟨b, o, none⟩ = some v) : w'.cell? ⟨b, o, none⟩ = some v := by
  have hlt := World.block_lt_of_cell? w ⟨b, o, none⟩ hc
  rw [← hc]; exact World.cell?_of_block (w := w) (h.block b hlt hb)
theorem GrZ.below {lo hi : Nat} {w W0 w' : World} (g : Gr w W0) (hl : w.heap.size ≤ lo) (h : GrZ lo hi W0 w') : Gr w w' :=
  ⟨h.os.trans g.os, h.tape.trans g.tape, h.output.trans g.output, Nat.le_trans (Gr.size g) h.size, fun k hk => (h.block k (Nat.lt_of_lt_of_le hk (Gr.size g)) (by omega)).trans (Below.block g k hk)⟩
end Go.Proofs.YtkgbbcmgfbipaaaGreatDoor
