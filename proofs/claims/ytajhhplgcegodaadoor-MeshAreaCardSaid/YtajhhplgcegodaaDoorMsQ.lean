/-
  Surfaces: the faces that the reference's Check keeps.
-/
import Derived.Test.YtajhhplgcegodaaDoorMsO
set_option linter.unusedVariables false
set_option linter.unusedSimpArgs false
namespace Go.Proofs.YtajhhplgcegodaaDoor
open Go.RowKit
theorem own_face {w : World} {base E n : Nat} {v : Value} {l : List Ba.Face} (h : w.ownsRow base E 4 v n (fc l)) (hl : l.length = n) (hb : ∀ t ∈ l, t.Ok w) : ∃ s : Ba.SlFace, v = .slice s.A s.n s.c ∧ s.n = n ∧ s.At w ∧ ∀ j, j < n → l[j]? = some (s.D j) := by
  have h' := h
  obtain ⟨hl', ⟨rfl, he⟩ | ⟨g, cap, cur, rfl, hb', hc, hn, hm, r⟩⟩ := h
  · subst he
    exact ⟨⟨none, 0, 0, 0, 0, fun _ => ⟨0, 0, 0, 0⟩⟩, rfl, rfl, ⟨fun h => absurd h (by simp), Nat.le_refl _, by decide, fun i hi => absurd hi (by simp)⟩, fun j hj => absurd hj (by omega)⟩
  · refine ⟨⟨some ⟨g, 0, none⟩, n, cap, g, 0, fun j => l.getD j ⟨0, 0, 0, 0⟩⟩, rfl, rfl, ⟨fun _ => rfl, hn, by unfold maxLen at hm; exact hm, fun i hi => ?_⟩, fun j hj => ?_⟩
    · have hi' : i < l.length := by rw [hl]; exact hi
      have e : l[i]? = some (l.getD i ⟨0, 0, 0, 0⟩) := by rw [List.getElem?_eq_getElem hi', List.getD, List.getElem?_eq_getElem hi']; rfl
      obtain ⟨t, ht⟩ : ∃ t, l.getD i ⟨0, 0, 0, 0⟩ = t := ⟨_, rfl⟩
      rw [ht] at e
      simp only [ht]
      have ok := hb t (List.mem_of_getElem? e)
      obtain ⟨h0, h1, h2, h3⟩ := fc_get e
      have hin : i < n := hi
      have c : ∀ q, q < 4 → w.cell? ⟨g, i * 4 + q, none⟩ = (fc l)[i * 4 + q]? := fun q hq => h'.cellAt (i * 4 + q) (by omega)
      refine ⟨⟨?_, ?_, ?_, ?_⟩, ok⟩
      · rw [Nat.zero_add]; exact (c 0 (by omega)).trans h0
      · rw [Nat.zero_add]; exact (c 1 (by omega)).trans h1
      · rw [Nat.zero_add]; exact (c 2 (by omega)).trans h2
      · rw [Nat.zero_add]; exact (c 3 (by omega)).trans h3
    · have hj' : j < l.length := by omega
      simp only
      rw [List.getElem?_eq_getElem hj', List.getD, List.getElem?_eq_getElem hj']; rfl
namespace Ms
/-- The right faces below j. -/
def rgt (m : Mesh) (j : Nat) : List Ba.Face := (idx (fun i => sndB m (m.F.D i)) j).map m.F.D
theorem rgt_yes {m : Mesh} {j : Nat} (h : sndB m (m.F.D j) = true) : rgt m (j + 1) = rgt m j ++ [m.F.D j] := by unfold rgt; rw [idx_yes h, List.map_append]; rfl
theorem rgt_no {m : Mesh} {j : Nat} (h : sndB m (m.F.D j) = false) : rgt m (j + 1) = rgt m j := by unfold rgt; rw [idx_no h]
theorem rgt_len (m : Mesh) (j : Nat) : (rgt m j).length ≤ j := by unfold rgt; rw [List.length_map]; exact idx_le _ _
theorem rgt_mem {m : Mesh} {j : Nat} {t : Ba.Face} (ht : t ∈ rgt m j) : ∃ i, i < j ∧ t = m.F.D i ∧ fcB m t = true := by
  unfold rgt at ht
  obtain ⟨i, hi, rfl⟩ := List.mem_map.1 ht
  obtain ⟨h1, h2⟩ := idx_mem.1 hi
  have h2 : (fcB m (m.F.D i) && _) = true := h2
  exact ⟨i, h1, rfl, (Bool.and_eq_true_iff.1 h2).1⟩
theorem rgt_any {m : Mesh} {j : Nat} (P : Ba.Face → Bool) (D : Nat → Ba.Face) (hD : ∀ q, q < (rgt m j).length → (rgt m j)[q]? = some (D q)) : Ba.any (fun q => P (D q)) (rgt m j).length = Ba.any (fun i => sndB m (m.F.D i) && P (m.F.D i)) j := by
  rw [Bool.eq_iff_iff, any_iff, any_iff]
  constructor
  · rintro ⟨q, hq, h⟩
    have hm := List.mem_of_getElem? (hD q hq)
    obtain ⟨i, hi, e⟩ := List.mem_map.1 hm
    obtain ⟨h1, h2⟩ := idx_mem.1 hi
    exact ⟨i, h1, by show (sndB m (m.F.D i) && P (m.F.D i)) = true; rw [show sndB m (m.F.D i) = true from h2, e, h]; rfl⟩
  · rintro ⟨i, hi, h⟩
    rw [Bool.and_eq_true] at h
    have hm : m.F.D i ∈ rgt m j := List.mem_map.2 ⟨i, idx_mem.2 ⟨hi, h.1⟩, rfl⟩
    obtain ⟨q, hq, e⟩ := List.getElem_of_mem hm
    have := hD q hq
    rw [List.getElem?_eq_getElem hq] at this
    have e2 : D q = m.F.D i := by rw [← e]; simpa using this.symm
    exact ⟨q, hq, by rw [e2]; exact h.2⟩
end Ms
end Go.Proofs.YtajhhplgcegodaaDoor
