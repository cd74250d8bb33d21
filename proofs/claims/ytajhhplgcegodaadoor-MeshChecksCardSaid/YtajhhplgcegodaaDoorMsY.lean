/-
  Surfaces: plain: how the borders are found, step by step. No condition.
-/
import Derived.Test.YtajhhplgcegodaaDoorMsX
set_option linter.unusedVariables false
set_option linter.unusedSimpArgs false
namespace Go.Proofs.YtajhhplgcegodaaDoor
namespace Ms
theorem mkL_snoc : ∀ (l : List Nat) (d : Nat → Bool) (h : Nat), mkL d (l ++ [h]) = mk (mkL d l) h
  | [], _, _ => rfl
  | a :: l, d, h => by rw [List.cons_append, mkL, mkL_snoc l (mk d a) h]; rfl
theorem rng_snoc (f : Nat → Nat) : ∀ (k x : Nat), rng f x (k + 1) = rng f x k ++ [itr f x k]
  | 0, _ => rfl
  | k + 1, x => by
    rw [rng, rng_snoc f k (f x), ← itr_succ']; rfl
theorem mkL_rng (f : Nat → Nat) (d : Nat → Bool) (x k t : Nat) : mkL d (rng f x (k + 1)) t = (mkL d (rng f x k) t || decide (t = itr f x k)) := by rw [rng_snoc, mkL_snoc]; rfl
/-- A ring that is not done goes round. -/
theorem brS_go {f : Nat → Nat} {B : Nat → Bool} {N i : Nat} (H : Per f (fun x => B x = true) N) (hi : i < N) (hB : B i = true) (hd : (brS f B N i).1 i = false) :
    ∃ p, 0 < p ∧ p ≤ N ∧ (∀ j, j < p → mkL (brS f B N i).1 (rng f i j) (itr f i j) = false) ∧ mkL (brS f B N i).1 (rng f i p) (itr f i p) = true ∧
      brS f B N (i + 1) = (mkL (brS f B N i).1 (rng f i p), (brS f B N i).2 ++ [rng f i p]) ∧ (∀ j, itr f i j < N ∧ B (itr f i j) = true) := by
  have ih := brS_rings H i (by omega)
  obtain ⟨p, p0, pN, pe, pm⟩ := H.ring hi hB
  have hI := H.itr hi hB
  have hdf : ∀ k, (brS f B N i).1 (itr f i k) = false := by
    intro k
    induction k with
    | zero => exact hd
    | succ k ihk =>
      cases e : (brS f B N i).1 (itr f i (k + 1)) with
      | false => rfl
      | true => rw [(ih.closed _ (hI k).1 (hI k).2).1 e] at ihk; cases ihk
  have hne : ∀ a b, a < b → b < p → itr f i a ≠ itr f i b := by
    intro a b hab hb e
    have := H.back hi hB a (b - a) (by rw [show a + (b - a) = b by omega]; exact e)
    exact pm (b - a) (by omega) (by omega) this
  have hl : trc f N (brS f B N i).1 i = rng f i p := trc_rng f p N _ i pN (fun k _ => hdf k) hne (Or.inr ⟨0, p0, by rw [pe]; rfl⟩)
  refine ⟨p, p0, pN, fun j hj => ?_, ?_, ?_, hI⟩
  · cases e : mkL (brS f B N i).1 (rng f i j) (itr f i j) with
    | false => rfl
    | true =>
      rcases (mkL_iff _ _ _).1 e with h | h
      · rw [hdf j] at h; cases h
      · obtain ⟨q, hq, e2⟩ := (rng_mem f j i _).1 h
        exact absurd e2 (hne q j hq hj)
  · rw [mkL_iff]; right
    rw [rng_mem]
    exact ⟨0, p0, by rw [pe]; rfl⟩
  · rw [brS_succ, hB, hd, hl]; rfl
theorem brS_skip {f : Nat → Nat} {B : Nat → Bool} {N i : Nat} (h : (B i && !(brS f B N i).1 i) = false) : brS f B N (i + 1) = brS f B N i := by rw [brS_succ, h]; rfl
/-- One more step of a chain that ends: fewer are left. -/
theorem steps_lt {g : Nat → Option Nat} {x y N : Nat} (h : it g x N = none) (e : g x = some y) : steps g N y < steps g N x ∧ it g y N = none ∧ last g N y = last g N x := by
  cases N with
  | zero => cases h
  | succ n =>
    rw [it_succ', e] at h
    have h : it g y n = none := h
    have k : it g y (n + 1) = none := by rw [it, h]; rfl
    obtain ⟨a, b⟩ := last_more h (Nat.le_succ n)
    refine ⟨?_, k, ?_⟩
    · rw [b]; simp only [steps, e]; omega
    · rw [a]; simp only [last, e]
theorem last_none {g : Nat → Option Nat} {x N : Nat} (e : g x = none) : last g N x = x := by
  cases N with
  | zero => rfl
  | succ n => simp only [last, e]
/-- The done sides and the rings, up to a side. -/
def bS (m : Mesh) (i : Nat) : (Nat → Bool) × List (List Nat) := brS (phi (op m) nx (3 * m.F.n)) (fun t => (op m t).isNone) (3 * m.F.n) i
/-- The chain behind a border side. -/
theorem bd_ends {m : Mesh} (hv : vlB m = true) {t : Nat} (ht : t < 3 * m.F.n) (ho : op m t = none) : it (rt (op m) nx) (nx t) (3 * m.F.n) = none := (hed hv).ends ht ho
end Ms
end Go.Proofs.YtajhhplgcegodaaDoor
