/-
  Surfaces: the state of Border's loops in memory. No condition.
-/
import Derived.Test.YtajhhplgcegodaaDoorMsY
import Derived.Test.YtajhhplgcegodaaDoorMsG
set_option linter.unusedVariables false
set_option linter.unusedSimpArgs false
namespace Go.Proofs.YtajhhplgcegodaaDoor
open Go.RowKit
/-- The starts of sides, as cells. -/
def stl (m : Ms.Mesh) (l : List Nat) : List Value := l.map fun t => Value.int .i64 (Ms.st m t)
theorem stl_len (m : Ms.Mesh) (l : List Nat) : (stl m l).length = l.length := by unfold stl; rw [List.length_map]
theorem stl_app (m : Ms.Mesh) (l : List Nat) (t : Nat) : stl m (l ++ [t]) = stl m l ++ [.int .i64 (Ms.st m t)] := by unfold stl; rw [List.map_append]; rfl
/-- The first K values of a family. -/
def vs (V : Nat → Value) : Nat → List Value
  | 0 => []
  | k + 1 => vs V k ++ [V k]
theorem vs_len (V : Nat → Value) : ∀ K, (vs V K).length = K
  | 0 => rfl
  | k + 1 => by rw [vs, List.length_append, vs_len V k]; rfl
theorem vs_congr {V U : Nat → Value} : ∀ {K : Nat}, (∀ k, k < K → V k = U k) → vs V K = vs U K
  | 0, _ => rfl
  | k + 1, h => by rw [vs, vs, vs_congr fun j hj => h j (by omega), h k (by omega)]
theorem vs_get (V : Nat → Value) : ∀ {K k : Nat}, k < K → (vs V K)[k]? = some (V k)
  | 0, k, h => absurd h (by omega)
  | K + 1, k, h => by
    rw [vs]
    by_cases e : k = K
    · subst e; rw [List.getElem?_append_right (by rw [vs_len]; omega), vs_len, Nat.sub_self]; rfl
    · rw [List.getElem?_append_left (by rw [vs_len]; omega)]; exact vs_get V (by omega)
/-- Rows of rows, and the row that is being made. -/
structure Brd (m : Ms.Mesh) (base : Nat) (W : World) (v b : Value) (V : Nat → Value) (L : List (List Nat)) (bl : List Nat) : Prop where
  out : W.ownsRow base 44 1 v L.length (vs V L.length)
  row : ∀ k l, L[k]? = some l → W.ownsRow base 3 1 (V k) l.length (stl m l)
  cur : W.ownsRow base 3 1 b bl.length (stl m bl)
  a1 : Apt v b
  a2 : ∀ k, k < L.length → Apt (V k) v ∧ Apt (V k) b
section
variable {m : Ms.Mesh} {base : Nat} {W W1 : World} {v b : Value} {V : Nat → Value} {L : List (List Nat)} {bl : List Nat}
theorem Brd.nil (m : Ms.Mesh) (base : Nat) (W : World) : Brd m base W (.slice none 0 0) (.slice none 0 0) (fun _ => .slice none 0 0) [] [] :=
  ⟨World.ownsRow_nil _ _ _ _, fun k l h => by simp at h, World.ownsRow_nil _ _ _ _, .inl rfl, fun k h => absurd h (by simp)⟩
theorem Brd.gr (h : Brd m base W v b V L bl) (hg : Gr W W1) : Brd m base W1 v b V L bl :=
  ⟨ownsRow_gr h.out hg, fun k l hl => ownsRow_gr (h.row k l hl) hg, ownsRow_gr h.cur hg, h.a1, h.a2⟩
theorem Brd.grx {D : Nat} (h : Brd m base W v b V L bl) (hg : GrX D W W1) (hD : D < base) : Brd m base W1 v b V L bl :=
  ⟨ownsRow_grx h.out hg (own_ne h.out hD), fun k l hl => ownsRow_grx (h.row k l hl) hg (own_ne (h.row k l hl) hD), ownsRow_grx h.cur hg (own_ne h.cur hD), h.a1, h.a2⟩
theorem Brd.lower (h : Brd m base W v b V L bl) {B : Nat} (hB : B ≤ base) : Brd m B W v b V L bl :=
  ⟨ownsRow_base h.out hB, fun k l hl => ownsRow_base (h.row k l hl) hB, ownsRow_base h.cur hB, h.a1, h.a2⟩
/-- The row that is being made is begun anew. -/
theorem Brd.fresh (h : Brd m base W v b V L bl) : Brd m base W v (.slice none 0 0) V L [] :=
  ⟨h.out, h.row, World.ownsRow_nil _ _ _ _, Apt.symm (.inl rfl), fun k hk => ⟨(h.a2 k hk).1, Apt.symm (.inl rfl)⟩⟩
/-- A side has been appended. -/
theorem Brd.push {g cap t n : Nat} (h : Brd m base W v b V L bl) (ho : W1.ownsRow base 3 1 (.slice (some ⟨g, 0, none⟩) n cap) n (stl m bl ++ [.int .i64 (Ms.st m t)])) (hn : n = (bl ++ [t]).length) (hgr : W.grownBy W1 b.ownBlock) (hat : b.ownBlock = some g ∨ g = W.heap.size) :
    Brd m base W1 v (.slice (some ⟨g, 0, none⟩) n cap) V L (bl ++ [t]) := by
  refine ⟨h.out.kept hgr h.a1, fun k l hl => (h.row k l hl).kept hgr (h.a2 k (List.getElem?_eq_some_iff.1 hl).1).2, ?_, ?_, fun k hk => ⟨(h.a2 k hk).1, ?_⟩⟩
  · rw [← hn, stl_app]; exact ho
  · exact apt_new h.out h.a1 hat
  · obtain ⟨l, hl⟩ : ∃ l, L[k]? = some l := ⟨_, List.getElem?_eq_getElem hk⟩
    exact apt_new (h.row k l hl) (h.a2 k hk).2 hat
/-- The row that was made has been appended. -/
theorem Brd.done {g cap n : Nat} (h : Brd m base W v b V L bl) (ho : W1.ownsRow base 44 1 (.slice (some ⟨g, 0, none⟩) n cap) n (vs V L.length ++ [b])) (hn : n = (L ++ [bl]).length) (hgr : W.grownBy W1 v.ownBlock) (hat : v.ownBlock = some g ∨ g = W.heap.size) :
    Brd m base W1 (.slice (some ⟨g, 0, none⟩) n cap) (.slice none 0 0) (upd V L.length b) (L ++ [bl]) [] := by
  have hlen : (L ++ [bl]).length = L.length + 1 := by simp
  have hb := h.cur.kept hgr h.a1.symm
  refine ⟨?_, fun k l hl => ?_, World.ownsRow_nil _ _ _ _, Apt.symm (.inl rfl), fun k hk => ⟨?_, Apt.symm (.inl rfl)⟩⟩
  · rw [← hn, hn, hlen, vs, upd_same, vs_congr (U := V) (fun k hk => upd_ne _ _ (by omega)), ← hlen, ← hn]; exact ho
  · by_cases e : k = L.length
    · subst e
      rw [List.getElem?_append_right (Nat.le_refl _), Nat.sub_self] at hl
      obtain rfl : bl = l := by simpa using hl
      rw [upd_same]; exact hb
    · have hk : k < L.length := by have := (List.getElem?_eq_some_iff.1 hl).1; omega
      rw [List.getElem?_append_left hk] at hl
      rw [upd_ne _ _ e]
      exact (h.row k l hl).kept hgr (h.a2 k hk).1
  · by_cases e : k = L.length
    · subst e; rw [upd_same]; exact apt_new h.cur h.a1.symm hat
    · have hk' : k < L.length := by omega
      rw [upd_ne _ _ e]
      obtain ⟨l, hl⟩ : ∃ l, L[k]? = some l := ⟨_, List.getElem?_eq_getElem hk'⟩
      exact apt_new (h.row k l hl) (h.a2 k hk').1 hat
end
/-- A made row of elements of three cells. -/
theorem made_row3 {w : World} {base e g n : Nat} {z : Value} (h : w.ownsRow base e 3 (.slice (some ⟨g, 0, none⟩) n n) n (madeCells #[z, z, z] (n * 3)).toList) : Row w g (3 * n) (fun _ => z) := by
  obtain ⟨hl, ⟨h1, -⟩ | ⟨g', cap, cur, hv, hb, hc, h3, h4, h5, h6⟩⟩ := h
  · cases h1
  · simp only [Value.slice.injEq, Option.some.injEq, Addr.mk.injEq] at hv
    obtain ⟨⟨rfl, -, -⟩, -, rfl⟩ := hv
    rw [List.take_of_length_le (by simp [h5])] at h6
    intro j hj
    have hz : cur.toList[j]? = some z := by
      have hj' : j < n * 3 := by omega
      have e1 : (madeCells #[z, z, z] (n * 3)).toList[j]? = some (#[z, z, z][j % 3]!) := by simp [madeCells, hj']
      rw [h6, e1]
      have h3' : j % 3 = 0 ∨ j % 3 = 1 ∨ j % 3 = 2 := by omega
      rcases h3' with e | e | e <;> rw [e] <;> rfl
    refine ⟨?_, ?_⟩
    · simp only [World.cell?, hc]; simpa using hz
    · simp only [World.frozen?, hc]; simp
end Go.Proofs.YtajhhplgcegodaaDoor
