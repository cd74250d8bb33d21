/-
  A row of one-cell elements that a call makes and writes: what it holds.
-/
import Derived.Test.YtajhhplgcegodaaDoorOwn
import Derived.Test.YtajhhplgcegodaaDoorTail
set_option linter.unusedVariables false
set_option linter.unusedSimpArgs false
namespace Go.Proofs.YtajhhplgcegodaaDoor
open Go.RowKit
/-- A row of n cells, each of which may be written. -/
def Row (w : World) (g n : Nat) (X : Nat → Value) : Prop := ∀ j, j < n → Own w g j (X j)
theorem Row.gr {w w' : World} {g n : Nat} {X : Nat → Value} (h : Row w g n X) (hg : Gr w w') : Row w' g n X := fun j hj => (h j hj).gr hg
theorem Row.set {w : World} {g n : Nat} {X Y : Nat → Value} {k : Nat} {u : Value} (h : Row w g n X) (hu : Y k = u) (ho : ∀ j, j < n → j ≠ k → Y j = X j) : Row (w.setCell ⟨g, k, none⟩ u) g n Y := fun j hj => by
  by_cases e : j = k
  · subst e; rw [hu]; exact (h j hj).set
  · rw [ho j hj e]; exact (h j hj).other (Or.inr e)
theorem made_row {w : World} {base e g n : Nat} {z : Value} (h : w.ownsRow base e 1 (.slice (some ⟨g, 0, none⟩) n n) n (madeCells #[z] n).toList) : Row w g n (fun _ => z) := by
  obtain ⟨hl, ⟨h1, -⟩ | ⟨g', cap, cur, hv, hb, hc, h3, h4, h5, h6⟩⟩ := h
  · cases h1
  · simp only [Value.slice.injEq, Option.some.injEq, Addr.mk.injEq] at hv
    obtain ⟨⟨rfl, -, -⟩, -, rfl⟩ := hv
    rw [Nat.mul_one] at h5 h6
    rw [List.take_of_length_le (by simp [h5])] at h6
    intro j hj
    have hz : cur.toList[j]? = some z := by rw [h6]; simp [madeCells, Nat.mod_one, hj]
    refine ⟨?_, ?_⟩
    · simp only [World.cell?, hc]; simpa using hz
    · simp only [World.frozen?, hc]; simp
end Go.Proofs.YtajhhplgcegodaaDoor
