/-
  Surfaces: rows of spots and of faces as cells; the reference's Copy: two appends in one region that draws its order. (Printed by mkcp.py.)
-/
import Derived.Test.YtajhhplgcegodaaDoorMsD
import Derived.Test.YtajhhplgcegodaaDoorMsO
import Derived.Test.YtajhhplgcegodaaDoorInv
import Derived.Deep.Upon
import Derived.Deep.RegionWith
import Derived.Deep.DrawnRows
import Derived.ArgAppend
set_option linter.unusedVariables false
set_option linter.unusedSimpArgs false
namespace Go.Proofs.YtajhhplgcegodaaDoor
open Go.RowKit
attribute [local go_sem ↓] Go.wp_at_zero Go.wp_at_succ
theorem info_spot : (Tryd.prog.info? 74).map (fun i => (i.zero, i.size, i.bytes)) = some (some (.agg #[.int .i64 0, .int .i64 0, .int .i64 0]), 3, 24) := by kernel_rfl
theorem info_face4 : (Tryd.prog.info? 43).map (fun i => (i.zero, i.size, i.bytes)) = some (some (.agg #[.int .i64 0, .int .i64 0, .int .i64 0, .int .i64 0]), 4, 32) := by kernel_rfl
/-- Elements as cells. -/
def fsp (D : Nat → Ba.Spot) : Nat → List Value
  | 0 => []
  | n + 1 => fsp D n ++ [.int .i64 (D n).x, .int .i64 (D n).y, .int .i64 (D n).z]
theorem fsp_len (D : Nat → Ba.Spot) : ∀ n, (fsp D n).length = n * 3
  | 0 => rfl
  | n + 1 => by rw [fsp, List.length_append, fsp_len D n]; simp; omega
theorem fsp_get (D : Nat → Ba.Spot) : ∀ {n j : Nat}, j < n → (fsp D n)[j * 3]? = some (.int .i64 (D j).x) ∧ (fsp D n)[j * 3 + 1]? = some (.int .i64 (D j).y) ∧ (fsp D n)[j * 3 + 2]? = some (.int .i64 (D j).z)
  | 0, _, h => by omega
  | n + 1, j, h => by
    rw [fsp]
    by_cases e : j = n
    · subst e
      have q : ∀ (l : List Value) k, l.length = j * 3 → ∀ r : List Value, (l ++ r)[j * 3 + k]? = r[k]? := fun l k hl r => by
        rw [List.getElem?_append_right (by omega), hl, show j * 3 + k - j * 3 = k by omega]
      exact ⟨q _ 0 (fsp_len D j) _, q _ 1 (fsp_len D j) _, q _ 2 (fsp_len D j) _⟩
    · obtain ⟨h0, h1, h2⟩ := fsp_get D (n := n) (j := j) (by omega)
      have hl := fsp_len D n
      exact ⟨by rw [List.getElem?_append_left (by omega)]; exact h0, by rw [List.getElem?_append_left (by omega)]; exact h1, by rw [List.getElem?_append_left (by omega)]; exact h2⟩
theorem fsp_one (D : Nat → Ba.Spot) : ∀ n, ∀ u ∈ fsp D n, u.oneCell' = true
  | 0, u, h => by simp [fsp] at h
  | n + 1, u, h => by
    rw [fsp] at h
    rcases List.mem_append.1 h with h | h
    · exact fsp_one D n u h
    · simp at h
      rcases h with rfl | rfl | rfl <;> rfl
theorem fsp_at {w : World} {n b o : Nat} {D : Nat → Ba.Spot} (hX : ∀ j, j < n → (D j).Cells w b (o + j * 3)) : ∀ (j : Nat) (u : Value), (fsp D n)[j]? = some u → w.cell? (Addr.add ⟨b, o, none⟩ j) = some u := by
  intro j u hj
  have hjn : j < n * 3 := by
    have := (List.getElem?_eq_some_iff.1 hj).1
    rwa [fsp_len] at this
  obtain ⟨q, hq5⟩ : ∃ q, j = q * 3 ∨ j = q * 3 + 1 ∨ j = q * 3 + 2 := ⟨j / 3, by omega⟩
  have hq : q < n := by omega
  obtain ⟨g0, g1, g2⟩ := fsp_get D hq
  obtain ⟨c0, c1, c2⟩ := hX _ hq
  have ha : (⟨b, o, none⟩ : Addr).add j = ⟨b, o + j, none⟩ := by
    by_cases h0 : j = 0
    · subst h0; simp [Addr.add]
    · simp [Addr.add, h0]
  rw [ha]
  rcases hq5 with rfl | rfl | rfl
  · rw [g0] at hj; cases hj; exact c0
  · rw [g1] at hj; cases hj; rw [← Nat.add_assoc]; exact c1
  · rw [g2] at hj; cases hj; rw [← Nat.add_assoc]; exact c2
/-- Elements as cells. -/
def ffc (D : Nat → Ba.Face) : Nat → List Value
  | 0 => []
  | n + 1 => ffc D n ++ [.int .i64 (D n).a, .int .i64 (D n).b, .int .i64 (D n).c, .int .i64 (D n).k]
theorem ffc_len (D : Nat → Ba.Face) : ∀ n, (ffc D n).length = n * 4
  | 0 => rfl
  | n + 1 => by rw [ffc, List.length_append, ffc_len D n]; simp; omega
theorem ffc_get (D : Nat → Ba.Face) : ∀ {n j : Nat}, j < n → (ffc D n)[j * 4]? = some (.int .i64 (D j).a) ∧ (ffc D n)[j * 4 + 1]? = some (.int .i64 (D j).b) ∧ (ffc D n)[j * 4 + 2]? = some (.int .i64 (D j).c) ∧ (ffc D n)[j * 4 + 3]? = some (.int .i64 (D j).k)
  | 0, _, h => by omega
  | n + 1, j, h => by
    rw [ffc]
    by_cases e : j = n
    · subst e
      have q : ∀ (l : List Value) k, l.length = j * 4 → ∀ r : List Value, (l ++ r)[j * 4 + k]? = r[k]? := fun l k hl r => by
        rw [List.getElem?_append_right (by omega), hl, show j * 4 + k - j * 4 = k by omega]
      exact ⟨q _ 0 (ffc_len D j) _, q _ 1 (ffc_len D j) _, q _ 2 (ffc_len D j) _, q _ 3 (ffc_len D j) _⟩
    · obtain ⟨h0, h1, h2, h3⟩ := ffc_get D (n := n) (j := j) (by omega)
      have hl := ffc_len D n
      exact ⟨by rw [List.getElem?_append_left (by omega)]; exact h0, by rw [List.getElem?_append_left (by omega)]; exact h1, by rw [List.getElem?_append_left (by omega)]; exact h2, by rw [List.getElem?_append_left (by omega)]; exact h3⟩
theorem ffc_one (D : Nat → Ba.Face) : ∀ n, ∀ u ∈ ffc D n, u.oneCell' = true
  | 0, u, h => by simp [ffc] at h
  | n + 1, u, h => by
    rw [ffc] at h
    rcases List.mem_append.1 h with h | h
    · exact ffc_one D n u h
    · simp at h
      rcases h with rfl | rfl | rfl | rfl <;> rfl
theorem ffc_at {w : World} {n b o : Nat} {D : Nat → Ba.Face} (hX : ∀ j, j < n → (D j).Cells w b (o + j * 4)) : ∀ (j : Nat) (u : Value), (ffc D n)[j]? = some u → w.cell? (Addr.add ⟨b, o, none⟩ j) = some u := by
  intro j u hj
  have hjn : j < n * 4 := by
    have := (List.getElem?_eq_some_iff.1 hj).1
    rwa [ffc_len] at this
  obtain ⟨q, hq5⟩ : ∃ q, j = q * 4 ∨ j = q * 4 + 1 ∨ j = q * 4 + 2 ∨ j = q * 4 + 3 := ⟨j / 4, by omega⟩
  have hq : q < n := by omega
  obtain ⟨g0, g1, g2, g3⟩ := ffc_get D hq
  obtain ⟨c0, c1, c2, c3⟩ := hX _ hq
  have ha : (⟨b, o, none⟩ : Addr).add j = ⟨b, o + j, none⟩ := by
    by_cases h0 : j = 0
    · subst h0; simp [Addr.add]
    · simp [Addr.add, h0]
  rw [ha]
  rcases hq5 with rfl | rfl | rfl | rfl
  · rw [g0] at hj; cases hj; exact c0
  · rw [g1] at hj; cases hj; rw [← Nat.add_assoc]; exact c1
  · rw [g2] at hj; cases hj; rw [← Nat.add_assoc]; exact c2
  · rw [g3] at hj; cases hj; rw [← Nat.add_assoc]; exact c3
/-- A slice of n elements that a call owns. -/
def OwnL (B E size n : Nat) (xs : List Value) (v : Value) (w : World) : Prop := ∃ (A : Option Addr) (c : Nat), v = .slice A n c ∧ n ≤ c ∧ c ≤ 9223372036854775807 ∧ (0 < n → w.ownsRow B E size v n xs)
theorem OwnL.gr {B E size n : Nat} {xs : List Value} {v : Value} {w w' : World} (h : OwnL B E size n xs v w) (hg : Gr w w') : OwnL B E size n xs v w' := by
  obtain ⟨A, c, h1, h2, h3, h4⟩ := h
  exact ⟨A, c, h1, h2, h3, fun h => ownsRow_gr (h4 h) hg⟩
theorem OwnL.lo {B B' E size n : Nat} {xs : List Value} {v : Value} {w : World} (h : OwnL B E size n xs v w) (hb : B' ≤ B) : OwnL B' E size n xs v w := by
  obtain ⟨A, c, h1, h2, h3, h4⟩ := h
  exact ⟨A, c, h1, h2, h3, fun h => ownsRow_base (h4 h) hb⟩
theorem OwnL.grx {B E size n R : Nat} {xs : List Value} {v : Value} {w w' : World} (h : OwnL B E size n xs v w) (hg : GrX R w w') (hb : R < B) : OwnL B E size n xs v w' := by
  obtain ⟨A, c, h1, h2, h3, h4⟩ := h
  exact ⟨A, c, h1, h2, h3, fun h => ownsRow_grx (h4 h) hg (own_ne (h4 h) hb)⟩
theorem ownl_own {B E size n : Nat} {xs : List Value} {v : Value} {w : World} (h : w.ownsRow B E size v n xs) : OwnL B E size n xs v w := by
  have h' := h
  obtain ⟨hl, ⟨rfl, rfl⟩ | ⟨g, cap, cur, rfl, hb, hc, hn, hm, hs, hxs⟩⟩ := h
  · exact ⟨none, 0, rfl, Nat.le_refl _, by omega, fun h => absurd h (by omega)⟩
  · exact ⟨_, cap, rfl, hn, by unfold maxLen at hm; exact hm, fun _ => h'⟩
/-- append([]T{}, s...): a slice of the call's own, with the same elements. -/
theorem run_copyL {P : Program} (w : World) (t ty e : TypeId) (i : TypeInfo) (z : Value) (size bytes : Nat) (ht : P.underlying t = some (.slice e)) (hi : P.info? e = some i) (hz : i.zero = some z) (hsize : i.size = size) (hby : i.bytes = bytes) (hzs : z.cells.size = size) (hs0 : 0 < size) (hb : bytes ≤ 64)
    (ad : Addr) (A : Option Addr) (m c b o : Nat) (xs : List Value) (hl : xs.length = m * size) (hA : 0 < m → A = some ⟨b, o, none⟩) (hX : ∀ j u, xs[j]? = some u → w.cell? (Addr.add ⟨b, o, none⟩ j) = some u) (h1 : ∀ u ∈ xs, u.oneCell' = true) (hm : m ≤ 1000) :
    ∃ v w', (Builtin.append_ #[t, t] ty #[.slice (some ad) 0 0, .slice A m c]).run P w = .ok v w' ∧ Gr w w' ∧ OwnL w.heap.size e size m xs v w' := by
  by_cases h0 : m = 0
  · subst h0
    refine ⟨_, w, run_append_nothing w t t ty e i ht hi (some ad) 0 0 (Nat.le_refl _) (.slice A 0 c) ?_, Gr.refl w, ⟨some ad, 0, rfl, Nat.le_refl _, by omega, fun h => absurd h (by omega)⟩⟩
    cases A with
    | none => exact Src.ofNil w ht c
    | some a => exact Src.ofSlice w ht a 0 c [] (by simp) (fun j u h => by simp at h) (fun u h => by simp at h)
  · obtain rfl := hA (by omega)
    obtain ⟨v, w', hr, ho, hg⟩ := run_append_arg_grows (P := P) w t ty e i z size bytes ht hi hz hsize hby hzs hs0 ad 0 0 [] (by simp) (fun j u h => by simp at h) ⟨b, o, none⟩ m c xs hl hX (by omega) (by unfold maxLen; omega) (by
        have : (0 + m) * bytes ≤ 1000 * 64 := Nat.mul_le_mul (by omega) hb
        omega)
    rw [Nat.zero_add, List.nil_append] at ho
    exact ⟨v, w', hr, Gr.own (v := .slice none 0 0) (e := e) (size := 1) (n := 0) (xs := []) (Gr.refl w) (Nat.le_refl _) (World.ownsRow_nil w _ e 1) hg, ownl_own ho⟩
section
variable (w : World) (A : Nat → Option Addr) (n c E sz : Nat → Nat) (X : Nat → List Value)
/-- What the operations of Copy's region leave in their slots (they come in two chains of four). -/
def PhiJ (i : Nat) (v : Value) (w' : World) : Prop :=
  if i % 4 = 0 then ∃ ad, v = .slice (some ad) 0 0
  else if i % 4 = 1 then v = .pointer (some ⟨w.heap.size, i / 4, none⟩)
  else if i % 4 = 2 then v = .slice (A (i / 4)) (n (i / 4)) (c (i / 4))
  else OwnL (w.heap.size + 2) (E (i / 4)) (sz (i / 4)) (n (i / 4)) (X (i / 4)) v w'
theorem PhiJ.gr {i : Nat} {v : Value} {w1 w2 : World} (h : PhiJ w A n c E sz X i v w1) (hg : Gr w1 w2) : PhiJ w A n c E sz X i v w2 := by
  unfold PhiJ at *
  split
  · rename_i q; rw [if_pos q] at h; exact h
  rename_i q; rw [if_neg q] at h
  split
  · rename_i q; rw [if_pos q] at h; exact h
  rename_i q; rw [if_neg q] at h
  split
  · rename_i q; rw [if_pos q] at h; exact h
  · rename_i q; rw [if_neg q] at h; exact h.gr hg
end
/-- The frame in Copy's region. -/
def actJ (v0 : Value) (B : Nat) (Y : Nat → Value) : Act := ⟨#[v0, .pointer (some ⟨B, 0, none⟩), .pointer (some ⟨B + 1, 0, none⟩), Y 0, Y 1, Y 2, Y 3, Y 4, Y 5, Y 6, Y 7, Y 8], []⟩
def upJ (Y : Nat → Value) (i : Nat) (v : Value) : Nat → Value := fun j => if j = i then v else Y j
theorem actJ_put (v0 : Value) (B : Nat) (Y : Nat → Value) (v : Value) : ∀ i : Nat, i < 9 → (actJ v0 B Y).put (some (i + 3)) v = actJ v0 B (upJ Y i v)
  | 0, _ => rfl | 1, _ => rfl | 2, _ => rfl | 3, _ => rfl | 4, _ => rfl | 5, _ => rfl | 6, _ => rfl | 7, _ => rfl | 8, _ => rfl
  | _ + 9, h => by exfalso; omega
structure CJ (w : World) (A : Nat → Option Addr) (n c E sz : Nat → Nat) (X : Nat → List Value) (v0 : Value) (Y : Nat → Value) (listed : Array Bool) (a : Act) (w' : World) : Prop where
  size : listed.size = 10
  act : a = actJ v0 w.heap.size Y
  gr : Gr w w'
  hsz : w.heap.size + 2 ≤ w'.heap.size
  box : ∀ q, q < 2 → w'.cell? ⟨w.heap.size, q, none⟩ = some (.slice (A q) (n q) (c q))
  own : listed.getD 9 false = false → ∀ q, q < 2 → ∃ u, Own w' (w.heap.size + 1) q u
  phi : ∀ i, i < 8 → listed.getD i false = true → PhiJ w A n c E sz X i (Y i) w'
  build : listed.getD 8 false = true → (listed.getD 3 false = true ∧ listed.getD 7 false = true) ∧ Y 8 = .agg #[Y 3, Y 7]
  fin : listed.getD 9 false = true → listed.getD 8 false = true ∧ ∀ q, q < 2 → Own w' (w.heap.size + 1) q (Y (4 * q + 3))
theorem getD_upj {l : Array Bool} {i j : Nat} (h : i ≠ j) : (l.setIfInBounds i true).getD j false = l.getD j false := getD_set_ne false h
theorem off_truej {l : Array Bool} {i : Nat} (h : l.getD i true = false) : l.getD i false = false := by
  unfold Array.getD at *
  split at h
  · rename_i q; simp only [q, dif_pos]; exact h
  · cases h
theorem upJ_ne {Y : Nat → Value} {i j : Nat} {v : Value} (h : j ≠ i) : upJ Y i v j = Y j := if_neg h
theorem upJ_eq {Y : Nat → Value} {i : Nat} {v : Value} : upJ Y i v i = v := if_pos rfl
section
variable {w : World} {A : Nat → Option Addr} {n c E sz : Nat → Nat} {X : Nat → List Value} {v0 : Value} {Y : Nat → Value} {listed : Array Bool} {a : Act} {w1 w2 : World}
theorem CJ.step {i : Nat} {v : Value} (h : CJ w A n c E sz X v0 Y listed a w1) (hi : i < 8) (hl : listed.getD i true = false) (hg : Gr w1 w2) (hp : PhiJ w A n c E sz X i v w2) : ∃ Y', CJ w A n c E sz X v0 Y' (listed.setIfInBounds i true) (a.put (some (i + 3)) v) w2 := by
  have hf := off_truej hl
  have hb : listed.getD 8 false = true → i ≠ 3 ∧ i ≠ 7 := fun q => by
    obtain ⟨⟨a1, a2⟩, -⟩ := h.build q
    refine ⟨fun e => ?_, fun e => ?_⟩ <;> subst e
    · rw [hf] at a1; cases a1
    · rw [hf] at a2; cases a2
  refine ⟨upJ Y i v, by simp [h.size], ?_, h.gr.trans hg, Nat.le_trans h.hsz (Gr.size hg), fun q hq => Gr.at hg (h.box q hq), fun q r hr => ?_, fun j hj hq => ?_, fun q => ?_, fun q => ?_⟩
  · rw [h.act]; exact actJ_put _ _ _ _ i (by omega)
  · rw [getD_upj (by omega)] at q
    obtain ⟨u, hu⟩ := h.own q r hr
    exact ⟨u, hu.gr hg⟩
  · by_cases e : j = i
    · subst e; rw [upJ_eq]; exact hp
    · rw [getD_upj (Ne.symm e)] at hq
      rw [upJ_ne e]; exact PhiJ.gr _ _ _ _ _ _ _ (h.phi j hj hq) hg
  · rw [getD_upj (by omega)] at q
    obtain ⟨e3, e7⟩ := hb q
    rw [getD_upj e3, getD_upj e7, upJ_ne (by omega), upJ_ne (Ne.symm e3), upJ_ne (Ne.symm e7)]
    exact h.build q
  · rw [getD_upj (by omega)] at q
    obtain ⟨f1, f2⟩ := h.fin q
    obtain ⟨e3, e7⟩ := hb f1
    rw [getD_upj (by omega)]
    refine ⟨f1, fun r hr => ?_⟩
    rw [upJ_ne (by omega)]
    exact (f2 r hr).gr hg
theorem CJ.step8 (h : CJ w A n c E sz X v0 Y listed a w1) (hl : listed.getD 8 true = false) (h3 : listed.getD 3 false = true) (h7 : listed.getD 7 false = true) :
    ∃ Y', CJ w A n c E sz X v0 Y' (listed.setIfInBounds 8 true) (a.put (some 11) (.agg #[Y 3, Y 7])) w1 := by
  have hf := off_truej hl
  refine ⟨upJ Y 8 (.agg #[Y 3, Y 7]), by simp [h.size], ?_, h.gr, h.hsz, h.box, fun q => ?_, fun j hj hq => ?_, fun q => ?_, fun q => ?_⟩
  · rw [h.act]; exact actJ_put _ _ _ _ 8 (by omega)
  · rw [getD_upj (by omega)] at q; exact h.own q
  · rw [getD_upj (show 8 ≠ j by omega)] at hq; rw [upJ_ne (show j ≠ 8 by omega)]; exact h.phi j hj hq
  · rw [getD_upj (show 8 ≠ 3 by omega), getD_upj (show 8 ≠ 7 by omega), upJ_eq, upJ_ne (show 3 ≠ 8 by omega), upJ_ne (show 7 ≠ 8 by omega)]
    exact ⟨⟨h3, h7⟩, rfl⟩
  · rw [getD_upj (by omega)] at q
    obtain ⟨f1, -⟩ := h.fin q
    rw [hf] at f1; cases f1
/-- Two cells are written. -/
def cpJ (w1 : World) (B : Nat) (y0 y1 : Value) : World := (w1.setCell ⟨B, 0, none⟩ y0).setCell ⟨B, 1, none⟩ y1
theorem cpJ_grx (w1 : World) (B : Nat) (y0 y1 : Value) : GrX B w1 (cpJ w1 B y0 y1) := GrX.setCell (GrX.setCell (GrX.refl B w1) rfl _) rfl _
theorem PhiJ.cp {i : Nat} {v y0 y1 : Value} (h : PhiJ w A n c E sz X i v w1) : PhiJ w A n c E sz X i v (cpJ w1 (w.heap.size + 1) y0 y1) := by
  unfold PhiJ at *
  split
  · rename_i q; rw [if_pos q] at h; exact h
  rename_i q; rw [if_neg q] at h
  split
  · rename_i q; rw [if_pos q] at h; exact h
  rename_i q; rw [if_neg q] at h
  split
  · rename_i q; rw [if_pos q] at h; exact h
  · rename_i q; rw [if_neg q] at h; exact h.grx (cpJ_grx _ _ _ _) (by omega)
theorem CJ.step9 (h : CJ w A n c E sz X v0 Y listed a w1) (h8 : listed.getD 8 false = true) (hl : listed.getD 9 true = false) :
    CJ w A n c E sz X v0 Y (listed.setIfInBounds 9 true) (a.put none undef) (cpJ w1 (w.heap.size + 1) (Y 3) (Y 7)) := by
  have hown := h.own (off_truej hl)
  refine ⟨by simp [h.size], h.act, ?_, ?_, fun q hq => ?_, fun q => ?_, fun j hj hq => ?_, fun q => ?_, fun q => ?_⟩
  · exact Gr.setCell (Gr.setCell h.gr (by simp) _) (by simp) _
  · have := h.hsz; simpa [cpJ, World.setCell] using this
  · have hb := h.box q hq
    unfold cpJ
    rw [World.cell?_setCell_other _ _ _ _ (by simp), World.cell?_setCell_other _ _ _ _ (by simp)]
    exact hb
  · exfalso
    have hz := h.size
    simp [Array.getD, hz] at q
  · rw [getD_upj (show 9 ≠ j by omega)] at hq; exact (h.phi j hj hq).cp
  · rw [getD_upj (show 9 ≠ 8 by omega)] at q
    rw [getD_upj (show 9 ≠ 3 by omega), getD_upj (show 9 ≠ 7 by omega)]
    exact h.build q
  · rw [getD_upj (show 9 ≠ 8 by omega)]
    refine ⟨h8, fun r hr => ?_⟩
    obtain ⟨u0, o0⟩ := hown 0 (by omega); obtain ⟨u1, o1⟩ := hown 1 (by omega)
    unfold cpJ
    rcases (by omega : r = 0 ∨ r = 1) with rfl | rfl
    · exact Own.other (Own.set o0) (Or.inr (by omega))
    · exact Own.set (Own.other o1 (Or.inr (by omega)))
end
def q2 {α : Type} (a b : α) : Nat → α
  | 0 => a
  | _ => b
/-- What a copy of a surface is: two slices of the call's own. -/
def RetCp (m : Ms.Mesh) (w w' : World) (v : Value) : Prop := ∃ y0 y1 : Value, v = .agg #[y0, y1] ∧ Gr w w' ∧ OwnL w.heap.size 74 3 m.S.n (fsp m.S.D m.S.n) y0 w' ∧ OwnL w.heap.size 43 4 m.F.n (ffc m.F.D m.F.n) y1 w'
set_option maxRecDepth 100000 in
set_option maxHeartbeats 4000000 in
theorem rs_copy (m : Ms.Mesh) (w : World) (h : m.At w) (hs : m.S.n ≤ 1000 ∧ m.F.n ≤ 1000) : Calls Tryd.prog 31 #[m.val] w fun e w' => ∃ v, e = .returned v ∧ RetCp m w w' v := by
  obtain ⟨i0, HI0, HZ0, HS0, HB0⟩ := info_parts info_spot
  obtain ⟨i1, HI1, HZ1, HS1, HB1⟩ := info_parts info_face4
  have hA0 := h.s.hA; have hA1 := h.f.hA
  have hX0 := fsp_at (n := m.S.n) (D := m.S.D) (fun j hj => (h.s.hD j hj).1)
  have hX1 := ffc_at (n := m.F.n) (D := m.F.D) (fun j hj => (h.f.hD j hj).1)
  obtain ⟨hm0, hm1⟩ := hs
  unfold RetCp
  have hl0 := fsp_len m.S.D m.S.n; have hl1 := ffc_len m.F.D m.F.n
  have ho0 := fsp_one m.S.D m.S.n; have ho1 := ffc_one m.F.D m.F.n
  clear h
  unfold Ms.Mesh.val
  generalize fsp m.S.D m.S.n = x0 at *
  generalize ffc m.F.D m.F.n = x1 at *
  generalize m.S.A = sA at *; generalize m.S.n = sn at *; generalize m.S.c = sc at *; generalize m.F.A = fA at *; generalize m.F.n = fn at *; generalize m.F.c = fc at *
  generalize m.S.b = sb at *; generalize m.S.o = so at *; generalize m.F.b = fb at *; generalize m.F.o = fo at *
  go_enter Tryd.func31, Tryd.ntmps31
  go_wp2_with fail
  refine wp_region_inv (by kernel_rfl) (by kernel_rfl) (fun listed a w' => ∃ Y, CJ w (q2 sA fA) (q2 sn fn) (q2 sc fc) (q2 74 43) (q2 3 4) (q2 x0 x1) (.agg #[.slice sA sn sc, .slice fA fn fc]) Y listed a w') ?_ ?_ ?_
  · refine ⟨fun _ => undef, rfl, rfl, gr_auto, by simp [go_sem], fun q hq => ?_, fun _ q hq => ?_, fun i hi h => ?_, fun h => ?_, fun h => ?_⟩
    · rcases (by omega : q = 0 ∨ q = 1) with rfl | rfl <;> simp [go_sem, q2]
    · rcases (by omega : q = 0 ∨ q = 1) with rfl | rfl <;> exact ⟨.slice none 0 0, by simp [go_sem], by simp [go_sem]⟩
    · exfalso; revert h; simp [Array.getD]
    · exfalso; revert h; simp [Array.getD]
    · exfalso; revert h; simp [Array.getD]
  · rintro listed a w1 i o ho ⟨Y, hI⟩ hl hd
    have hi : i < 10 := (Array.getElem?_eq_some_iff.1 ho).1
    rcases (by omega : i = 0 ∨ i = 1 ∨ i = 2 ∨ i = 3 ∨ i = 4 ∨ i = 5 ∨ i = 6 ∨ i = 7 ∨ i = 8 ∨ i = 9) with rfl | rfl | rfl | rfl | rfl | rfl | rfl | rfl | rfl | rfl <;> obtain rfl := Option.some.inj ho
    · refine wpOp_of ho rfl (oper_value (v := .slice (some ⟨w1.heap.size, 0, none⟩) 0 0) (w' := w1.alloc (.cells #[] 74)) (by kernel_rfl) ?_)
      exact hI.step (i := 0) (by omega) hl (Gr.alloc (Gr.refl _) _) ⟨_, rfl⟩
    · refine wpOp_of ho rfl (oper_value (v := .pointer (some ⟨w.heap.size, 0, none⟩)) (w' := w1) (by rw [hI.act]; kernel_rfl) ?_)
      exact hI.step (i := 1) (by omega) hl (Gr.refl _) rfl
    · have d1 : Y 1 = .pointer (some ⟨w.heap.size, 0, none⟩) := hI.phi 1 (by omega) (hd ⟨1, .data⟩ (by simp) rfl)
      have hc : w1.cell? ⟨w.heap.size, 0, none⟩ = some (.slice sA sn sc) := hI.box 0 (by omega)
      refine wpOp_of ho rfl (oper_value (v := .slice sA sn sc) (w' := w1) (by rw [hI.act]; simp [execOp, actJ, Act.eval, d1, hc, Instr.loadAt, go_sem]) ?_)
      exact hI.step (i := 2) (by omega) hl (Gr.refl _) rfl
    · have d1 : ∃ ad, Y 0 = .slice (some ad) 0 0 := hI.phi 0 (by omega) (hd ⟨0, .data⟩ (by simp) rfl)
      have d2 : Y 2 = .slice sA sn sc := hI.phi 2 (by omega) (hd ⟨2, .data⟩ (by simp) rfl)
      obtain ⟨ad, d1⟩ := d1
      obtain ⟨v, w2, hr, hg, ho2⟩ := run_copyL (P := Tryd.prog) w1 22 22 74 i0 _ 3 _ Tryd.underlying22 HI0 HZ0 HS0 HB0 rfl (by omega) (by omega) ad sA sn sc sb so x0 hl0 hA0 (fun j u hj => cell_later hI.gr (hX0 j u hj)) ho0 hm0
      refine wpOp_of ho rfl (oper_value (v := v) (w' := w2) (by rw [hI.act]; simp [execOp, actJ, Act.eval, resolve, invoke, builtin, d1, d2, hr]) ?_)
      exact hI.step (i := 3) (by omega) hl hg (ho2.lo hI.hsz)
    · refine wpOp_of ho rfl (oper_value (v := .slice (some ⟨w1.heap.size, 0, none⟩) 0 0) (w' := w1.alloc (.cells #[] 43)) (by kernel_rfl) ?_)
      exact hI.step (i := 4) (by omega) hl (Gr.alloc (Gr.refl _) _) ⟨_, rfl⟩
    · refine wpOp_of ho rfl (oper_value (v := .pointer (some ⟨w.heap.size, 1, none⟩)) (w' := w1) (by rw [hI.act]; kernel_rfl) ?_)
      exact hI.step (i := 5) (by omega) hl (Gr.refl _) rfl
    · have d1 : Y 5 = .pointer (some ⟨w.heap.size, 1, none⟩) := hI.phi 5 (by omega) (hd ⟨5, .data⟩ (by simp) rfl)
      have hc : w1.cell? ⟨w.heap.size, 1, none⟩ = some (.slice fA fn fc) := hI.box 1 (by omega)
      refine wpOp_of ho rfl (oper_value (v := .slice fA fn fc) (w' := w1) (by rw [hI.act]; simp [execOp, actJ, Act.eval, d1, hc, Instr.loadAt, go_sem]) ?_)
      exact hI.step (i := 6) (by omega) hl (Gr.refl _) rfl
    · have d1 : ∃ ad, Y 4 = .slice (some ad) 0 0 := hI.phi 4 (by omega) (hd ⟨4, .data⟩ (by simp) rfl)
      have d2 : Y 6 = .slice fA fn fc := hI.phi 6 (by omega) (hd ⟨6, .data⟩ (by simp) rfl)
      obtain ⟨ad, d1⟩ := d1
      obtain ⟨v, w2, hr, hg, ho2⟩ := run_copyL (P := Tryd.prog) w1 23 23 43 i1 _ 4 _ Tryd.underlying23 HI1 HZ1 HS1 HB1 rfl (by omega) (by omega) ad fA fn fc fb fo x1 hl1 hA1 (fun j u hj => cell_later hI.gr (hX1 j u hj)) ho1 hm1
      refine wpOp_of ho rfl (oper_value (v := v) (w' := w2) (by rw [hI.act]; simp [execOp, actJ, Act.eval, resolve, invoke, builtin, d1, d2, hr]) ?_)
      exact hI.step (i := 7) (by omega) hl hg (ho2.lo hI.hsz)
    · obtain ⟨y', hI'⟩ := hI.step8 hl (hd ⟨3, .data⟩ (by simp) rfl) (hd ⟨7, .data⟩ (by simp) rfl)
      have p3 : OwnL (w.heap.size + 2) _ 3 sn x0 (Y 3) w1 := hI.phi 3 (by omega) (hd ⟨3, .data⟩ (by simp) rfl)
      have p7 : OwnL (w.heap.size + 2) _ 4 fn x1 (Y 7) w1 := hI.phi 7 (by omega) (hd ⟨7, .data⟩ (by simp) rfl)
      obtain ⟨A3, c3, e3, -⟩ := p3; obtain ⟨A7, c7, e7, -⟩ := p7
      refine wpOp_of ho rfl (oper_value (v := .agg #[Y 3, Y 7]) (w' := w1) (by rw [hI.act]; unfold actJ; rw [e3, e7]; kernel_rfl) ⟨y', hI'⟩)
    · have p3 : OwnL (w.heap.size + 2) _ 3 sn x0 (Y 3) w1 := hI.phi 3 (by omega) (hd ⟨3, .phase⟩ (by simp) rfl)
      have p7 : OwnL (w.heap.size + 2) _ 4 fn x1 (Y 7) w1 := hI.phi 7 (by omega) (hd ⟨7, .phase⟩ (by simp) rfl)
      obtain ⟨-, h8⟩ := hI.build (hd ⟨8, .phase⟩ (by simp) rfl)
      have hown := hI.own (off_truej hl)
      obtain ⟨u0, o0⟩ := hown 0 (by omega); obtain ⟨u1, o1⟩ := hown 1 (by omega)
      obtain ⟨A3, c3, e3, -⟩ := p3; obtain ⟨A7, c7, e7, -⟩ := p7
      refine wpOp_of ho rfl (oper_skip (w' := cpJ w1 (w.heap.size + 1) (Y 3) (Y 7)) (by rw [hI.act]; have q0 := o0.1; have q1 := o1.1; have r0 := o0.2; have r1 := o1.2; simp [execOp, actJ, Act.eval, cpJ, h8, e3, e7, go_sem, *]) ⟨Y, hI.step9 (hd ⟨8, .phase⟩ (by simp) rfl) hl⟩)
  · rintro listed a w1 hall ⟨Y, hI⟩
    obtain ⟨-, hf⟩ := hI.fin (hall 9 (by simp))
    have f0 := (hf 0 (by omega)).1; have f1 := (hf 1 (by omega)).1
    have p3 : OwnL (w.heap.size + 2) 74 3 sn x0 (Y 3) w1 := hI.phi 3 (by omega) (hall 3 (by simp))
    have p7 : OwnL (w.heap.size + 2) 43 4 fn x1 (Y 7) w1 := hI.phi 7 (by omega) (hall 7 (by simp))
    have hg := hI.gr
    have ha := hI.act
    clear hI hf hall
    subst ha
    unfold actJ
    generalize Y 3 = y0 at *; generalize Y 7 = y1 at *
    go_wp2_with fail
    refine bodyPost_ret (by simp [results, Tryd.results31, go_sem, f0, f1]; try rfl) rfl ?_
    exact ⟨_, rfl, y0, y1, rfl, hg, p3.lo (by omega), p7.lo (by omega)⟩
end Go.Proofs.YtajhhplgcegodaaDoor
