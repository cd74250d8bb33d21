/-
  The reference's Copy of a state: four appends in one region that draws its order.
-/
import Derived.Test.YthkmgnaeponfcaaBaThree
import Derived.Test.YthkmgnaeponfcaaBaStrs
import Derived.Test.YthkmgnaeponfcaaInv
import Derived.Deep.Upon
import Derived.ArgAppend
set_option linter.unusedVariables false
set_option linter.unusedSimpArgs false
namespace Go.Proofs.Ythkmgnaeponfcaa
open Go.RowKit
attribute [local go_sem ↓] Go.wp_at_zero Go.wp_at_succ
/-- A slice of a call's own: n one-cell elements, in a block from B on. -/
def OwnSl (B n : Nat) (X : Nat → Value) (v : Value) (w : World) : Prop := ∃ (A : Option Addr) (c b : Nat), v = .slice A n c ∧ (0 < n → A = some ⟨b, 0, none⟩ ∧ B ≤ b) ∧ n ≤ c ∧ c ≤ 9223372036854775807 ∧ Row w b n X
theorem OwnSl.gr {B n : Nat} {X : Nat → Value} {v : Value} {w w' : World} (h : OwnSl B n X v w) (hg : Gr w w') : OwnSl B n X v w' := by
  obtain ⟨A, c, b, h1, h2, h3, h4, h5⟩ := h
  exact ⟨A, c, b, h1, h2, h3, h4, h5.gr hg⟩
theorem OwnSl.lo {B B' n : Nat} {X : Nat → Value} {v : Value} {w : World} (h : OwnSl B n X v w) (hb : B' ≤ B) : OwnSl B' n X v w := by
  obtain ⟨A, c, b, h1, h2, h3, h4, h5⟩ := h
  exact ⟨A, c, b, h1, fun hn => ⟨(h2 hn).1, Nat.le_trans hb (h2 hn).2⟩, h3, h4, h5⟩
theorem ownsl_own {B e n : Nat} {X : Nat → Value} {v : Value} {w : World} {xs : List Value} (h : w.ownsRow B e 1 v n xs) (hx : ∀ j, j < n → xs[j]? = some (X j)) : OwnSl B n X v w := by
  obtain ⟨hl, ⟨rfl, rfl⟩ | ⟨g, cap, cur, rfl, hb, hc, hn, hm, hs, hxs⟩⟩ := h
  · exact ⟨none, 0, 0, rfl, fun h => absurd h (by omega), Nat.le_refl _, by omega, fun j hj => absurd hj (by omega)⟩
  · refine ⟨_, cap, g, rfl, fun _ => ⟨rfl, hb⟩, hn, by unfold maxLen at hm; exact hm, fun j hj => ?_⟩
    have hv := hx j hj
    have hcv : cur.toList[j]? = some (X j) := by
      rw [← hxs, List.getElem?_take_of_lt (by omega)] at hv; exact hv
    refine ⟨?_, ?_⟩
    · simp only [World.cell?, hc]; simpa using hcv
    · simp only [World.frozen?, hc]; simp
/-- append([]T{}, s...): a slice of the call's own, with the same elements. -/
theorem run_copy {P : Program} (w : World) (t ty e : TypeId) (i : TypeInfo) (z : Value) (bytes : Nat) (ht : P.underlying t = some (.slice e)) (hi : P.info? e = some i) (hz : i.zero = some z) (hsize : i.size = 1) (hby : i.bytes = bytes) (hzs : z.cells.size = 1) (hb : bytes ≤ 16)
    (ad : Addr) (A : Option Addr) (m c b o : Nat) (X : Nat → Value) (hA : 0 < m → A = some ⟨b, o, none⟩) (hX : ∀ j, j < m → w.cell? ⟨b, o + j, none⟩ = some (X j)) (h1 : ∀ j, (X j).oneCell' = true) (hm : m ≤ 1000) :
    ∃ v w', (Builtin.append_ #[t, t] ty #[.slice (some ad) 0 0, .slice A m c]).run P w = .ok v w' ∧ Gr w w' ∧ OwnSl w.heap.size m X v w' := by
  by_cases h0 : m = 0
  · subst h0
    refine ⟨_, w, run_append_nothing w t t ty e i ht hi (some ad) 0 0 (Nat.le_refl _) (.slice A 0 c) ?_, Gr.refl w, ⟨some ad, 0, 0, rfl, fun h => absurd h (by omega), Nat.le_refl _, by omega, fun j hj => absurd hj (by omega)⟩⟩
    rw [hsize]
    cases A with
    | none => exact Src.ofNil w ht c
    | some a => exact Src.ofSlice w ht a 0 c [] rfl (fun j u h => by simp at h) (fun u h => by simp at h)
  · obtain rfl := hA (by omega)
    obtain ⟨v, w', hr, ho, hg⟩ := run_append_arg_grows (P := P) w t ty e i z 1 bytes ht hi hz hsize hby hzs (by omega) ad 0 0 [] rfl (fun j u h => by simp at h) ⟨b, o, none⟩ m c ((List.range m).map X) (by simp) (fun j u hj => by
      have hj2 : j < m := by
        rcases Nat.lt_or_ge j m with q | q
        · exact q
        · rw [List.getElem?_eq_none (by simpa using q)] at hj; cases hj
      simp [hj2] at hj
      rw [Addr.add_lit, ← hj]
      exact hX j hj2) (by omega) (by unfold maxLen; omega) (by
        have : (0 + m) * bytes ≤ 1000 * 16 := Nat.mul_le_mul (by omega) hb
        omega)
    rw [Nat.zero_add, List.nil_append] at ho
    refine ⟨v, w', hr, Gr.own (v := .slice none 0 0) (e := e) (size := 1) (n := 0) (xs := []) (Gr.refl w) (Nat.le_refl _) (World.ownsRow_nil w _ e 1) hg, ownsl_own ho fun j hj => by simp [hj]⟩
section
variable (w : World) (A : Nat → Option Addr) (n c : Nat → Nat) (X : Nat → Nat → Value)
/-- What the operations of Copy's region leave in their slots (they come in four chains of four). -/
def PhiC (i : Nat) (v : Value) (w' : World) : Prop :=
  if i % 4 = 0 then ∃ ad, v = .slice (some ad) 0 0
  else if i % 4 = 1 then v = .pointer (some ⟨w.heap.size, i / 4, none⟩)
  else if i % 4 = 2 then v = .slice (A (i / 4)) (n (i / 4)) (c (i / 4))
  else OwnSl (w.heap.size + 2) (n (i / 4)) (X (i / 4)) v w'
theorem PhiC.gr {i : Nat} {v : Value} {w1 w2 : World} (h : PhiC w A n c X i v w1) (hg : Gr w1 w2) : PhiC w A n c X i v w2 := by
  unfold PhiC at *
  split
  · rename_i q; rw [if_pos q] at h; exact h
  rename_i q; rw [if_neg q] at h
  split
  · rename_i q; rw [if_pos q] at h; exact h
  rename_i q; rw [if_neg q] at h
  split
  · rename_i q; rw [if_pos q] at h; exact h
  · rename_i q; rw [if_neg q] at h; exact h.gr hg
end
/-- The frame in Copy's region. -/
def actC (v0 : Value) (B : Nat) (Y : Nat → Value) : Act := ⟨#[v0, .pointer (some ⟨B, 0, none⟩), .pointer (some ⟨B + 1, 0, none⟩), Y 0, Y 1, Y 2, Y 3, Y 4, Y 5, Y 6, Y 7, Y 8, Y 9, Y 10, Y 11, Y 12, Y 13, Y 14, Y 15, Y 16], []⟩
def upV (Y : Nat → Value) (i : Nat) (v : Value) : Nat → Value := fun j => if j = i then v else Y j
theorem actC_put (v0 : Value) (B : Nat) (Y : Nat → Value) (v : Value) : ∀ i : Nat, i < 17 → (actC v0 B Y).put (some (i + 3)) v = actC v0 B (upV Y i v)
  | 0, _ => rfl | 1, _ => rfl | 2, _ => rfl | 3, _ => rfl | 4, _ => rfl | 5, _ => rfl | 6, _ => rfl | 7, _ => rfl | 8, _ => rfl | 9, _ => rfl | 10, _ => rfl | 11, _ => rfl | 12, _ => rfl | 13, _ => rfl | 14, _ => rfl | 15, _ => rfl | 16, _ => rfl
  | _ + 17, h => by exfalso; omega
structure CI (w : World) (A : Nat → Option Addr) (n c : Nat → Nat) (X : Nat → Nat → Value) (v0 : Value) (Y : Nat → Value) (listed : Array Bool) (a : Act) (w' : World) : Prop where
  size : listed.size = 18
  act : a = actC v0 w.heap.size Y
  gr : Gr w w'
  sz : w.heap.size + 2 ≤ w'.heap.size
  box : ∀ q, q < 4 → w'.cell? ⟨w.heap.size, q, none⟩ = some (.slice (A q) (n q) (c q))
  own : listed.getD 17 false = false → ∀ q, q < 4 → ∃ u, Own w' (w.heap.size + 1) q u
  phi : ∀ i, i < 16 → listed.getD i false = true → PhiC w A n c X i (Y i) w'
  dist : ∀ q r, q < r → r < 4 → listed.getD (4 * r + 3) false = true → listed.getD (4 * q + 3) false = true ∧ (0 < n q → ∀ b, (Y (4 * q + 3)).ownBlock = some b → 0 < n r → (Y (4 * r + 3)).ownBlock ≠ some b)
  build : listed.getD 16 false = true → (listed.getD 3 false = true ∧ listed.getD 7 false = true ∧ listed.getD 11 false = true ∧ listed.getD 15 false = true) ∧ Y 16 = .agg #[Y 3, Y 7, Y 11, Y 15]
  fin : listed.getD 17 false = true → listed.getD 16 false = true ∧ ∀ q, q < 4 → Own w' (w.heap.size + 1) q (Y (4 * q + 3))
theorem getD_up {l : Array Bool} {i j : Nat} (h : i ≠ j) : (l.setIfInBounds i true).getD j false = l.getD j false := getD_set_ne false h
theorem off_true {l : Array Bool} {i : Nat} (h : l.getD i true = false) : l.getD i false = false := by
  unfold Array.getD at *
  split at h
  · rename_i q; simp only [q, dif_pos]; exact h
  · cases h
theorem upV_ne {Y : Nat → Value} {i j : Nat} {v : Value} (h : j ≠ i) : upV Y i v j = Y j := if_neg h
theorem upV_eq {Y : Nat → Value} {i : Nat} {v : Value} : upV Y i v i = v := if_pos rfl
/-- One more of the first sixteen operations has come up. -/
theorem CI.step {w : World} {A : Nat → Option Addr} {n c : Nat → Nat} {X : Nat → Nat → Value} {v0 : Value} {Y : Nat → Value} {listed : Array Bool} {a : Act} {w1 w2 : World} {i : Nat} {v : Value} (h : CI w A n c X v0 Y listed a w1) (hi : i < 16) (hl : listed.getD i true = false) (hg : Gr w1 w2) (hp : PhiC w A n c X i v w2)
    (hd : ∀ r, i = 4 * r + 3 → ∀ q, q < r → listed.getD (4 * q + 3) false = true ∧ (0 < n q → ∀ b, (Y (4 * q + 3)).ownBlock = some b → 0 < n r → v.ownBlock ≠ some b)) : ∃ Y', CI w A n c X v0 Y' (listed.setIfInBounds i true) (a.put (some (i + 3)) v) w2 := by
  have hf := off_true hl
  have hb : listed.getD 16 false = true → i ≠ 3 ∧ i ≠ 7 ∧ i ≠ 11 ∧ i ≠ 15 := fun q => by
    obtain ⟨⟨a1, a2, a3, a4⟩, -⟩ := h.build q
    refine ⟨fun e => ?_, fun e => ?_, fun e => ?_, fun e => ?_⟩ <;> subst e
    · rw [hf] at a1; cases a1
    · rw [hf] at a2; cases a2
    · rw [hf] at a3; cases a3
    · rw [hf] at a4; cases a4
  refine ⟨upV Y i v, by simp [h.size], ?_, h.gr.trans hg, Nat.le_trans h.sz (Gr.size hg), fun q hq => Gr.at hg (h.box q hq), fun q r hr => ?_, fun j hj hq => ?_, fun q r hqr hr4 hr => ?_, fun q => ?_, fun q => ?_⟩
  · rw [h.act]; exact actC_put _ _ _ _ i (by omega)
  · rw [getD_up (by omega)] at q
    obtain ⟨u, hu⟩ := h.own q r hr
    exact ⟨u, hu.gr hg⟩
  · by_cases e : j = i
    · subst e; rw [upV_eq]; exact hp
    · rw [getD_up (Ne.symm e)] at hq
      rw [upV_ne e]; exact PhiC.gr _ _ _ _ _ (h.phi j hj hq) hg
  · by_cases e : i = 4 * r + 3
    · obtain ⟨d1, d2⟩ := hd r e q hqr
      subst e
      rw [getD_up (by omega), upV_eq, upV_ne (by omega)]
      exact ⟨d1, d2⟩
    · rw [getD_up e] at hr
      obtain ⟨d1, d2⟩ := h.dist q r hqr hr4 hr
      have e3 : i ≠ 4 * q + 3 := by rintro rfl; rw [hf] at d1; cases d1
      rw [getD_up e3, upV_ne (Ne.symm e3), upV_ne (Ne.symm e)]
      exact ⟨d1, d2⟩
  · rw [getD_up (by omega)] at q
    obtain ⟨e3, e7, e11, e15⟩ := hb q
    rw [getD_up e3, getD_up e7, getD_up e11, getD_up e15, upV_ne (by omega), upV_ne (Ne.symm e3), upV_ne (Ne.symm e7), upV_ne (Ne.symm e11), upV_ne (Ne.symm e15)]
    exact h.build q
  · rw [getD_up (by omega)] at q
    obtain ⟨f1, f2⟩ := h.fin q
    obtain ⟨e3, e7, e11, e15⟩ := hb f1
    rw [getD_up (by omega)]
    refine ⟨f1, fun r hr => ?_⟩
    rw [upV_ne (by omega)]
    exact (f2 r hr).gr hg
theorem OwnSl.apart {B n b : Nat} {X : Nat → Value} {v : Value} {w : World} (h : OwnSl B n X v w) (hn : 0 < n) (hb : b < B) : v.ownBlock ≠ some b := by
  obtain ⟨A, c, b', h1, h2, -⟩ := h
  obtain ⟨h2, h3⟩ := h2 hn
  rw [h1, h2]
  intro hh
  have q1 : b' = b := by simpa [Value.ownBlock] using hh
  omega
theorem CI.lt {w : World} {A : Nat → Option Addr} {n c : Nat → Nat} {X : Nat → Nat → Value} {v0 : Value} {Y : Nat → Value} {listed : Array Bool} {a : Act} {w1 : World} {q b : Nat} (h : CI w A n c X v0 Y listed a w1) (hq : q < 4) (hl : listed.getD (4 * q + 3) false = true) (h0 : 0 < n q) (hb : (Y (4 * q + 3)).ownBlock = some b) : b < w1.heap.size := by
  have hp := h.phi (4 * q + 3) (by omega) hl
  unfold PhiC at hp
  rw [if_neg (by omega), if_neg (by omega), if_neg (by omega), show (4 * q + 3) / 4 = q by omega] at hp
  obtain ⟨A', c', b', h1, h2, -, -, h5⟩ := hp
  obtain ⟨h2, -⟩ := h2 h0
  rw [h1, h2] at hb
  have q1 : b' = b := by simpa [Value.ownBlock] using hb
  have := World.block_lt_of_cell? w1 ⟨b', 0, none⟩ (h5 0 h0).1
  simp only at this
  omega
theorem CI.step16 {w : World} {A : Nat → Option Addr} {n c : Nat → Nat} {X : Nat → Nat → Value} {v0 : Value} {Y : Nat → Value} {listed : Array Bool} {a : Act} {w1 : World} (h : CI w A n c X v0 Y listed a w1) (hl : listed.getD 16 true = false) (h3 : listed.getD 3 false = true) (h7 : listed.getD 7 false = true) (h11 : listed.getD 11 false = true) (h15 : listed.getD 15 false = true) :
    ∃ Y', CI w A n c X v0 Y' (listed.setIfInBounds 16 true) (a.put (some 19) (.agg #[Y 3, Y 7, Y 11, Y 15])) w1 := by
  have hf := off_true hl
  refine ⟨upV Y 16 (.agg #[Y 3, Y 7, Y 11, Y 15]), by simp [h.size], ?_, h.gr, h.sz, h.box, fun q => ?_, fun j hj hq => ?_, fun q r hqr hr4 hr => ?_, fun q => ?_, fun q => ?_⟩
  · rw [h.act]; exact actC_put _ _ _ _ 16 (by omega)
  · rw [getD_up (by omega)] at q; exact h.own q
  · rw [getD_up (show 16 ≠ j by omega)] at hq; rw [upV_ne (show j ≠ 16 by omega)]; exact h.phi j hj hq
  · rw [getD_up (show 16 ≠ 4 * r + 3 by omega)] at hr; rw [getD_up (show 16 ≠ 4 * q + 3 by omega), upV_ne (show 4 * q + 3 ≠ 16 by omega), upV_ne (show 4 * r + 3 ≠ 16 by omega)]; exact h.dist q r hqr hr4 hr
  · rw [getD_up (show 16 ≠ 3 by omega), getD_up (show 16 ≠ 7 by omega), getD_up (show 16 ≠ 11 by omega), getD_up (show 16 ≠ 15 by omega), upV_eq, upV_ne (show 3 ≠ 16 by omega), upV_ne (show 7 ≠ 16 by omega), upV_ne (show 11 ≠ 16 by omega), upV_ne (show 15 ≠ 16 by omega)]
    exact ⟨⟨h3, h7, h11, h15⟩, rfl⟩
  · rw [getD_up (by omega)] at q
    obtain ⟨f1, -⟩ := h.fin q
    rw [hf] at f1; cases f1
/-- Four cells are written. -/
def cpSet (w1 : World) (B : Nat) (y0 y1 y2 y3 : Value) : World := (((w1.setCell ⟨B, 0, none⟩ y0).setCell ⟨B, 1, none⟩ y1).setCell ⟨B, 2, none⟩ y2).setCell ⟨B, 3, none⟩ y3
theorem Own.cp {w1 : World} {B b o : Nat} {v y0 y1 y2 y3 : Value} (h : Own w1 b o v) (hb : b ≠ B) : Own (cpSet w1 B y0 y1 y2 y3) b o v := (((h.other (Or.inl hb)).other (Or.inl hb)).other (Or.inl hb)).other (Or.inl hb)
theorem OwnSl.cp {w1 : World} {B B' n : Nat} {X : Nat → Value} {v y0 y1 y2 y3 : Value} (h : OwnSl B' n X v w1) (hb : B < B') : OwnSl B' n X v (cpSet w1 B y0 y1 y2 y3) := by
  obtain ⟨A, c, b, h1, h2, h3, h4, h5⟩ := h
  exact ⟨A, c, b, h1, h2, h3, h4, fun j hj => (h5 j hj).cp (by have := (h2 (by omega)).2; omega)⟩
theorem PhiC.cp {w : World} {A : Nat → Option Addr} {n c : Nat → Nat} {X : Nat → Nat → Value} {i : Nat} {v y0 y1 y2 y3 : Value} {w1 : World} (h : PhiC w A n c X i v w1) : PhiC w A n c X i v (cpSet w1 (w.heap.size + 1) y0 y1 y2 y3) := by
  unfold PhiC at *
  split
  · rename_i q; rw [if_pos q] at h; exact h
  rename_i q; rw [if_neg q] at h
  split
  · rename_i q; rw [if_pos q] at h; exact h
  rename_i q; rw [if_neg q] at h
  split
  · rename_i q; rw [if_pos q] at h; exact h
  · rename_i q; rw [if_neg q] at h; exact h.cp (by omega)
theorem CI.step17 {w : World} {A : Nat → Option Addr} {n c : Nat → Nat} {X : Nat → Nat → Value} {v0 : Value} {Y : Nat → Value} {listed : Array Bool} {a : Act} {w1 : World} (h : CI w A n c X v0 Y listed a w1) (h16 : listed.getD 16 false = true) (hl : listed.getD 17 true = false) :
    CI w A n c X v0 Y (listed.setIfInBounds 17 true) (a.put none undef) (cpSet w1 (w.heap.size + 1) (Y 3) (Y 7) (Y 11) (Y 15)) := by
  have hown := h.own (off_true hl)
  refine ⟨by simp [h.size], h.act, ?_, ?_, fun q hq => ?_, fun q => ?_, fun j hj hq => ?_, fun q r hqr hr4 hr => ?_, fun q => ?_, fun q => ?_⟩
  · exact Gr.setCell (Gr.setCell (Gr.setCell (Gr.setCell h.gr (by simp) _) (by simp) _) (by simp) _) (by simp) _
  · have := h.sz; simpa [cpSet, World.setCell] using this
  · have hb := h.box q hq
    unfold cpSet
    rw [World.cell?_setCell_other _ _ _ _ (by simp), World.cell?_setCell_other _ _ _ _ (by simp), World.cell?_setCell_other _ _ _ _ (by simp), World.cell?_setCell_other _ _ _ _ (by simp)]
    exact hb
  · exfalso
    have hz := h.size
    simp [Array.getD, hz] at q
  · rw [getD_up (show 17 ≠ j by omega)] at hq; exact (h.phi j hj hq).cp
  · rw [getD_up (show 17 ≠ 4 * r + 3 by omega)] at hr; rw [getD_up (show 17 ≠ 4 * q + 3 by omega)]; exact h.dist q r hqr hr4 hr
  · rw [getD_up (show 17 ≠ 16 by omega)] at q
    rw [getD_up (show 17 ≠ 3 by omega), getD_up (show 17 ≠ 7 by omega), getD_up (show 17 ≠ 11 by omega), getD_up (show 17 ≠ 15 by omega)]
    exact h.build q
  · rw [getD_up (show 17 ≠ 16 by omega)]
    refine ⟨h16, fun r hr => ?_⟩
    obtain ⟨u0, o0⟩ := hown 0 (by omega); obtain ⟨u1, o1⟩ := hown 1 (by omega); obtain ⟨u2, o2⟩ := hown 2 (by omega); obtain ⟨u3, o3⟩ := hown 3 (by omega)
    unfold cpSet
    rcases (by omega : r = 0 ∨ r = 1 ∨ r = 2 ∨ r = 3) with rfl | rfl | rfl | rfl
    · exact Own.other (Own.other (Own.other (Own.set o0) (Or.inr (by omega))) (Or.inr (by omega))) (Or.inr (by omega))
    · exact Own.other (Own.other (Own.set (Own.other o1 (Or.inr (by omega)))) (Or.inr (by omega))) (Or.inr (by omega))
    · exact Own.other (Own.set (Own.other (Own.other o2 (Or.inr (by omega))) (Or.inr (by omega)))) (Or.inr (by omega))
    · exact Own.set (Own.other (Own.other (Own.other o3 (Or.inr (by omega))) (Or.inr (by omega))) (Or.inr (by omega)))
/-- Two slices with elements lie in two blocks. -/
def Apt (n m : Nat) (x y : Value) : Prop := 0 < n → ∀ b, x.ownBlock = some b → 0 < m → y.ownBlock ≠ some b
theorem info_i : (Try.prog.info? 3).map (fun i => (i.zero, i.size, i.bytes)) = some (some (.int .i64 0), 1, 8) := by kernel_rfl
theorem info_b : (Try.prog.info? 4).map (fun i => (i.zero, i.size, i.bytes)) = some (some (.bool false), 1, 1) := by kernel_rfl
set_option maxRecDepth 100000 in
set_option maxHeartbeats 4000000 in
theorem copy_row (w : World) (A : Nat → Option Addr) (n c B O : Nat → Nat) (X : Nat → Nat → Value) (hA : ∀ q, q < 4 → 0 < n q → A q = some ⟨B q, O q, none⟩) (hX : ∀ q, q < 4 → ∀ j, j < n q → w.cell? ⟨B q, O q + j, none⟩ = some (X q j)) (h1 : ∀ q j, (X q j).oneCell' = true) (hm : ∀ q, q < 4 → n q ≤ 1000) :
    Calls Try.prog 16 #[.agg #[.slice (A 0) (n 0) (c 0), .slice (A 1) (n 1) (c 1), .slice (A 2) (n 2) (c 2), .slice (A 3) (n 3) (c 3)]] w fun e w' => ∃ y0 y1 y2 y3 : Value, e = .returned (.agg #[y0, y1, y2, y3]) ∧ Gr w w' ∧ OwnSl w.heap.size (n 0) (X 0) y0 w' ∧ OwnSl w.heap.size (n 1) (X 1) y1 w' ∧ OwnSl w.heap.size (n 2) (X 2) y2 w' ∧ OwnSl w.heap.size (n 3) (X 3) y3 w' ∧ Apt (n 0) (n 1) y0 y1 ∧ Apt (n 0) (n 2) y0 y2 ∧ Apt (n 0) (n 3) y0 y3 ∧ Apt (n 1) (n 2) y1 y2 ∧ Apt (n 1) (n 3) y1 y3 := by
  obtain ⟨i0, HI0, HZ0, HS0, HB0⟩ := info_parts info_i
  obtain ⟨i1, HI1, HZ1, HS1, HB1⟩ := info_parts info_b
  go_enter Try.func16, Try.ntmps16
  go_wp2_with fail
  refine wp_region_inv (by kernel_rfl) (by kernel_rfl) (fun listed a w' => ∃ Y, CI w A n c X (.agg #[.slice (A 0) (n 0) (c 0), .slice (A 1) (n 1) (c 1), .slice (A 2) (n 2) (c 2), .slice (A 3) (n 3) (c 3)]) Y listed a w') ?_ ?_ ?_
  · refine ⟨fun _ => undef, rfl, rfl, gr_auto, by simp [go_sem], fun q hq => ?_, fun _ q hq => ?_, fun i hi h => ?_, fun q r _ _ h => ?_, fun h => ?_, fun h => ?_⟩
    · rcases (by omega : q = 0 ∨ q = 1 ∨ q = 2 ∨ q = 3) with rfl | rfl | rfl | rfl <;> simp [go_sem]
    · rcases (by omega : q = 0 ∨ q = 1 ∨ q = 2 ∨ q = 3) with rfl | rfl | rfl | rfl <;> exact ⟨.slice none 0 0, by simp [go_sem], by simp [go_sem]⟩
    · exfalso; revert h; simp [Array.getD]
    · exfalso; revert h; simp [Array.getD]
    · exfalso; revert h; simp [Array.getD]
    · exfalso; revert h; simp [Array.getD]
  · rintro listed a w1 i o ho ⟨Y, hI⟩ hl hd
    have hi : i < 18 := (Array.getElem?_eq_some_iff.1 ho).1
    rcases (by omega : i = 0 ∨ i = 1 ∨ i = 2 ∨ i = 3 ∨ i = 4 ∨ i = 5 ∨ i = 6 ∨ i = 7 ∨ i = 8 ∨ i = 9 ∨ i = 10 ∨ i = 11 ∨ i = 12 ∨ i = 13 ∨ i = 14 ∨ i = 15 ∨ i = 16 ∨ i = 17) with rfl | rfl | rfl | rfl | rfl | rfl | rfl | rfl | rfl | rfl | rfl | rfl | rfl | rfl | rfl | rfl | rfl | rfl <;> obtain rfl := Option.some.inj ho
    · refine wpOp_of ho rfl (oper_value (v := .slice (some ⟨w1.heap.size, 0, none⟩) 0 0) (w' := w1.alloc (.cells #[] 3)) (by kernel_rfl) ?_)
      exact hI.step (i := 0) (by omega) hl (Gr.alloc (Gr.refl _) _) ⟨_, rfl⟩ (fun r e => absurd e (by omega))
    · refine wpOp_of ho rfl (oper_value (v := .pointer (some ⟨w.heap.size, 0, none⟩)) (w' := w1) (by rw [hI.act]; kernel_rfl) ?_)
      exact hI.step (i := 1) (by omega) hl (Gr.refl _) rfl (fun r e => absurd e (by omega))
    · have d1 := hI.phi 1 (by omega) (hd ⟨1, .data⟩ (by simp) rfl)
      have d1 : Y 1 = .pointer (some ⟨w.heap.size, 0, none⟩) := d1
      have hc := hI.box 0 (by omega)
      refine wpOp_of ho rfl (oper_value (v := .slice (A 0) (n 0) (c 0)) (w' := w1) (by rw [hI.act]; simp [execOp, actC, Act.eval, d1, hc, Instr.loadAt, go_sem]) ?_)
      exact hI.step (i := 2) (by omega) hl (Gr.refl _) rfl (fun r e => absurd e (by omega))
    · have d1 : ∃ ad, Y 0 = .slice (some ad) 0 0 := hI.phi 0 (by omega) (hd ⟨0, .data⟩ (by simp) rfl)
      have d2 : Y 2 = .slice (A 0) (n 0) (c 0) := hI.phi 2 (by omega) (hd ⟨2, .data⟩ (by simp) rfl)
      obtain ⟨ad, d1⟩ := d1
      obtain ⟨v, w2, hr, hg, ho2⟩ := run_copy (P := Try.prog) w1 26 26 3 i0 _ _ Try.underlying26 HI0 HZ0 HS0 HB0 rfl (by omega) ad (A 0) (n 0) (c 0) (B 0) (O 0) (X 0) (hA 0 (by omega)) (fun j hj => Gr.at hI.gr (hX 0 (by omega) j hj)) (h1 0) (hm 0 (by omega))
      refine wpOp_of ho rfl (oper_value (v := v) (w' := w2) (by rw [hI.act]; simp [execOp, actC, Act.eval, resolve, invoke, builtin, d1, d2, hr]) ?_)
      exact hI.step (i := 3) (by omega) hl hg (ho2.lo hI.sz) (fun r e q hq => absurd hq (by omega))
    · refine wpOp_of ho rfl (oper_value (v := .slice (some ⟨w1.heap.size, 0, none⟩) 0 0) (w' := w1.alloc (.cells #[] 3)) (by kernel_rfl) ?_)
      exact hI.step (i := 4) (by omega) hl (Gr.alloc (Gr.refl _) _) ⟨_, rfl⟩ (fun r e => absurd e (by omega))
    · refine wpOp_of ho rfl (oper_value (v := .pointer (some ⟨w.heap.size, 1, none⟩)) (w' := w1) (by rw [hI.act]; kernel_rfl) ?_)
      exact hI.step (i := 5) (by omega) hl (Gr.refl _) rfl (fun r e => absurd e (by omega))
    · have d1 := hI.phi 5 (by omega) (hd ⟨5, .data⟩ (by simp) rfl)
      have d1 : Y 5 = .pointer (some ⟨w.heap.size, 1, none⟩) := d1
      have hc := hI.box 1 (by omega)
      refine wpOp_of ho rfl (oper_value (v := .slice (A 1) (n 1) (c 1)) (w' := w1) (by rw [hI.act]; simp [execOp, actC, Act.eval, d1, hc, Instr.loadAt, go_sem]) ?_)
      exact hI.step (i := 6) (by omega) hl (Gr.refl _) rfl (fun r e => absurd e (by omega))
    · have d1 : ∃ ad, Y 4 = .slice (some ad) 0 0 := hI.phi 4 (by omega) (hd ⟨4, .data⟩ (by simp) rfl)
      have d2 : Y 6 = .slice (A 1) (n 1) (c 1) := hI.phi 6 (by omega) (hd ⟨6, .data⟩ (by simp) rfl)
      obtain ⟨ad, d1⟩ := d1
      obtain ⟨v, w2, hr, hg, ho2⟩ := run_copy (P := Try.prog) w1 26 26 3 i0 _ _ Try.underlying26 HI0 HZ0 HS0 HB0 rfl (by omega) ad (A 1) (n 1) (c 1) (B 1) (O 1) (X 1) (hA 1 (by omega)) (fun j hj => Gr.at hI.gr (hX 1 (by omega) j hj)) (h1 1) (hm 1 (by omega))
      refine wpOp_of ho rfl (oper_value (v := v) (w' := w2) (by rw [hI.act]; simp [execOp, actC, Act.eval, resolve, invoke, builtin, d1, d2, hr]) ?_)
      exact hI.step (i := 7) (by omega) hl hg (ho2.lo hI.sz) (fun r e q hq => (by
      obtain rfl : r = 1 := by omega
      have hz : listed.getD (4 * q + 3) false = true := by
        rcases (by omega : q = 0) with rfl
        · exact hd ⟨3, .chain⟩ (by simp) rfl
      exact ⟨hz, fun h0 b hb h1' => ho2.apart h1' (hI.lt (by omega) hz h0 hb)⟩))
    · refine wpOp_of ho rfl (oper_value (v := .slice (some ⟨w1.heap.size, 0, none⟩) 0 0) (w' := w1.alloc (.cells #[] 3)) (by kernel_rfl) ?_)
      exact hI.step (i := 8) (by omega) hl (Gr.alloc (Gr.refl _) _) ⟨_, rfl⟩ (fun r e => absurd e (by omega))
    · refine wpOp_of ho rfl (oper_value (v := .pointer (some ⟨w.heap.size, 2, none⟩)) (w' := w1) (by rw [hI.act]; kernel_rfl) ?_)
      exact hI.step (i := 9) (by omega) hl (Gr.refl _) rfl (fun r e => absurd e (by omega))
    · have d1 := hI.phi 9 (by omega) (hd ⟨9, .data⟩ (by simp) rfl)
      have d1 : Y 9 = .pointer (some ⟨w.heap.size, 2, none⟩) := d1
      have hc := hI.box 2 (by omega)
      refine wpOp_of ho rfl (oper_value (v := .slice (A 2) (n 2) (c 2)) (w' := w1) (by rw [hI.act]; simp [execOp, actC, Act.eval, d1, hc, Instr.loadAt, go_sem]) ?_)
      exact hI.step (i := 10) (by omega) hl (Gr.refl _) rfl (fun r e => absurd e (by omega))
    · have d1 : ∃ ad, Y 8 = .slice (some ad) 0 0 := hI.phi 8 (by omega) (hd ⟨8, .data⟩ (by simp) rfl)
      have d2 : Y 10 = .slice (A 2) (n 2) (c 2) := hI.phi 10 (by omega) (hd ⟨10, .data⟩ (by simp) rfl)
      obtain ⟨ad, d1⟩ := d1
      obtain ⟨v, w2, hr, hg, ho2⟩ := run_copy (P := Try.prog) w1 26 26 3 i0 _ _ Try.underlying26 HI0 HZ0 HS0 HB0 rfl (by omega) ad (A 2) (n 2) (c 2) (B 2) (O 2) (X 2) (hA 2 (by omega)) (fun j hj => Gr.at hI.gr (hX 2 (by omega) j hj)) (h1 2) (hm 2 (by omega))
      refine wpOp_of ho rfl (oper_value (v := v) (w' := w2) (by rw [hI.act]; simp [execOp, actC, Act.eval, resolve, invoke, builtin, d1, d2, hr]) ?_)
      exact hI.step (i := 11) (by omega) hl hg (ho2.lo hI.sz) (fun r e q hq => (by
      obtain rfl : r = 2 := by omega
      have hz : listed.getD (4 * q + 3) false = true := by
        rcases (by omega : q = 1 ∨ q < 1) with rfl | hq2
        · exact hd ⟨7, .chain⟩ (by simp) rfl
        · exact (hI.dist q 1 hq2 (by omega) (hd ⟨7, .chain⟩ (by simp) rfl)).1
      exact ⟨hz, fun h0 b hb h1' => ho2.apart h1' (hI.lt (by omega) hz h0 hb)⟩))
    · refine wpOp_of ho rfl (oper_value (v := .slice (some ⟨w1.heap.size, 0, none⟩) 0 0) (w' := w1.alloc (.cells #[] 4)) (by kernel_rfl) ?_)
      exact hI.step (i := 12) (by omega) hl (Gr.alloc (Gr.refl _) _) ⟨_, rfl⟩ (fun r e => absurd e (by omega))
    · refine wpOp_of ho rfl (oper_value (v := .pointer (some ⟨w.heap.size, 3, none⟩)) (w' := w1) (by rw [hI.act]; kernel_rfl) ?_)
      exact hI.step (i := 13) (by omega) hl (Gr.refl _) rfl (fun r e => absurd e (by omega))
    · have d1 := hI.phi 13 (by omega) (hd ⟨13, .data⟩ (by simp) rfl)
      have d1 : Y 13 = .pointer (some ⟨w.heap.size, 3, none⟩) := d1
      have hc := hI.box 3 (by omega)
      refine wpOp_of ho rfl (oper_value (v := .slice (A 3) (n 3) (c 3)) (w' := w1) (by rw [hI.act]; simp [execOp, actC, Act.eval, d1, hc, Instr.loadAt, go_sem]) ?_)
      exact hI.step (i := 14) (by omega) hl (Gr.refl _) rfl (fun r e => absurd e (by omega))
    · have d1 : ∃ ad, Y 12 = .slice (some ad) 0 0 := hI.phi 12 (by omega) (hd ⟨12, .data⟩ (by simp) rfl)
      have d2 : Y 14 = .slice (A 3) (n 3) (c 3) := hI.phi 14 (by omega) (hd ⟨14, .data⟩ (by simp) rfl)
      obtain ⟨ad, d1⟩ := d1
      obtain ⟨v, w2, hr, hg, ho2⟩ := run_copy (P := Try.prog) w1 27 27 4 i1 _ _ Try.underlying27 HI1 HZ1 HS1 HB1 rfl (by omega) ad (A 3) (n 3) (c 3) (B 3) (O 3) (X 3) (hA 3 (by omega)) (fun j hj => Gr.at hI.gr (hX 3 (by omega) j hj)) (h1 3) (hm 3 (by omega))
      refine wpOp_of ho rfl (oper_value (v := v) (w' := w2) (by rw [hI.act]; simp [execOp, actC, Act.eval, resolve, invoke, builtin, d1, d2, hr]) ?_)
      exact hI.step (i := 15) (by omega) hl hg (ho2.lo hI.sz) (fun r e q hq => (by
      obtain rfl : r = 3 := by omega
      have hz : listed.getD (4 * q + 3) false = true := by
        rcases (by omega : q = 2 ∨ q < 2) with rfl | hq2
        · exact hd ⟨11, .chain⟩ (by simp) rfl
        · exact (hI.dist q 2 hq2 (by omega) (hd ⟨11, .chain⟩ (by simp) rfl)).1
      exact ⟨hz, fun h0 b hb h1' => ho2.apart h1' (hI.lt (by omega) hz h0 hb)⟩))
    · obtain ⟨y', hI'⟩ := hI.step16 hl (hd ⟨3, .data⟩ (by simp) rfl) (hd ⟨7, .data⟩ (by simp) rfl) (hd ⟨11, .data⟩ (by simp) rfl) (hd ⟨15, .data⟩ (by simp) rfl)
      have p3 : OwnSl (w.heap.size + 2) (n 0) (X 0) (Y 3) w1 := hI.phi 3 (by omega) (hd ⟨3, .data⟩ (by simp) rfl)
      have p7 : OwnSl (w.heap.size + 2) (n 1) (X 1) (Y 7) w1 := hI.phi 7 (by omega) (hd ⟨7, .data⟩ (by simp) rfl)
      have p11 : OwnSl (w.heap.size + 2) (n 2) (X 2) (Y 11) w1 := hI.phi 11 (by omega) (hd ⟨11, .data⟩ (by simp) rfl)
      have p15 : OwnSl (w.heap.size + 2) (n 3) (X 3) (Y 15) w1 := hI.phi 15 (by omega) (hd ⟨15, .data⟩ (by simp) rfl)
      obtain ⟨A3, c3, b3, e3, -⟩ := p3; obtain ⟨A7, c7, b7, e7, -⟩ := p7; obtain ⟨A11, c11, b11, e11, -⟩ := p11; obtain ⟨A15, c15, b15, e15, -⟩ := p15
      refine wpOp_of ho rfl (oper_value (v := .agg #[Y 3, Y 7, Y 11, Y 15]) (w' := w1) (by rw [hI.act]; unfold actC; rw [e3, e7, e11, e15]; kernel_rfl) ⟨y', hI'⟩)
    · have p3 : OwnSl (w.heap.size + 2) (n 0) (X 0) (Y 3) w1 := hI.phi 3 (by omega) (hd ⟨3, .phase⟩ (by simp) rfl)
      have p7 : OwnSl (w.heap.size + 2) (n 1) (X 1) (Y 7) w1 := hI.phi 7 (by omega) (hd ⟨7, .phase⟩ (by simp) rfl)
      have p11 : OwnSl (w.heap.size + 2) (n 2) (X 2) (Y 11) w1 := hI.phi 11 (by omega) (hd ⟨11, .phase⟩ (by simp) rfl)
      have p15 : OwnSl (w.heap.size + 2) (n 3) (X 3) (Y 15) w1 := hI.phi 15 (by omega) (hd ⟨15, .phase⟩ (by simp) rfl)
      obtain ⟨-, h16⟩ := hI.build (hd ⟨16, .phase⟩ (by simp) rfl)
      have hown := hI.own (off_true hl)
      obtain ⟨u0, o0⟩ := hown 0 (by omega); obtain ⟨u1, o1⟩ := hown 1 (by omega); obtain ⟨u2, o2⟩ := hown 2 (by omega); obtain ⟨u3, o3⟩ := hown 3 (by omega)
      obtain ⟨A3, c3, b3, e3, -⟩ := p3; obtain ⟨A7, c7, b7, e7, -⟩ := p7; obtain ⟨A11, c11, b11, e11, -⟩ := p11; obtain ⟨A15, c15, b15, e15, -⟩ := p15
      refine wpOp_of ho rfl (oper_skip (w' := cpSet w1 (w.heap.size + 1) (Y 3) (Y 7) (Y 11) (Y 15)) (by rw [hI.act]; have q0 := o0.1; have q1 := o1.1; have q2 := o2.1; have q3 := o3.1; have r0 := o0.2; have r1 := o1.2; have r2 := o2.2; have r3 := o3.2; simp [execOp, actC, Act.eval, cpSet, h16, e3, e7, e11, e15, go_sem, *]) ⟨Y, hI.step17 (hd ⟨16, .phase⟩ (by simp) rfl) hl⟩)
  · rintro listed a w1 hall ⟨Y, hI⟩
    obtain ⟨-, hf⟩ := hI.fin (hall 17 (by simp))
    have f0 := (hf 0 (by omega)).1; have f1 := (hf 1 (by omega)).1; have f2 := (hf 2 (by omega)).1; have f3 := (hf 3 (by omega)).1
    have p3 : OwnSl (w.heap.size + 2) (n 0) (X 0) (Y 3) w1 := hI.phi 3 (by omega) (hall 3 (by simp))
    have p7 : OwnSl (w.heap.size + 2) (n 1) (X 1) (Y 7) w1 := hI.phi 7 (by omega) (hall 7 (by simp))
    have p11 : OwnSl (w.heap.size + 2) (n 2) (X 2) (Y 11) w1 := hI.phi 11 (by omega) (hall 11 (by simp))
    have p15 : OwnSl (w.heap.size + 2) (n 3) (X 3) (Y 15) w1 := hI.phi 15 (by omega) (hall 15 (by simp))
    have hg := hI.gr; have d01 : Apt (n 0) (n 1) (Y 3) (Y 7) := (hI.dist 0 1 (by omega) (by omega) (hall 7 (by simp))).2; have d02 : Apt (n 0) (n 2) (Y 3) (Y 11) := (hI.dist 0 2 (by omega) (by omega) (hall 11 (by simp))).2; have d03 : Apt (n 0) (n 3) (Y 3) (Y 15) := (hI.dist 0 3 (by omega) (by omega) (hall 15 (by simp))).2; have d12 : Apt (n 1) (n 2) (Y 7) (Y 11) := (hI.dist 1 2 (by omega) (by omega) (hall 11 (by simp))).2; have d13 : Apt (n 1) (n 3) (Y 7) (Y 15) := (hI.dist 1 3 (by omega) (by omega) (hall 15 (by simp))).2
    have ha := hI.act
    clear hI hf hall
    subst ha
    unfold actC
    generalize Y 3 = y0 at *; generalize Y 7 = y1 at *; generalize Y 11 = y2 at *; generalize Y 15 = y3 at *
    go_wp2_with fail
    refine bodyPost_ret (by simp [results, Try.results16, go_sem, f0, f1, f2, f3]; try rfl) rfl ?_
    exact ⟨y0, y1, y2, y3, rfl, hg, p3.lo (by omega), p7.lo (by omega), p11.lo (by omega), p15.lo (by omega), d01, d02, d03, d12, d13⟩
/-- What Copy answers: a state of its own, with the same numbers. -/
def RetCopy (s : Ba.State) (w : World) (e : Ending) (w' : World) : Prop := ∃ s' : Ba.State, e = .returned (.agg #[.slice s'.vs.A s'.vs.n s'.vs.c, .slice s'.ps.A s'.ps.n s'.ps.c, .slice s'.st.A s'.st.n s'.st.c, .slice s'.on.A s'.on.n s'.on.c]) ∧ Gr w w' ∧ s'.Ok w' ∧ (s'.vs.n = s.vs.n ∧ s'.ps.n = s.ps.n ∧ s'.st.n = s.st.n ∧ s'.on.n = s.on.n) ∧ (s'.vs.X = s.vs.X ∧ s'.ps.X = s.ps.X ∧ s'.st.X = s.st.X ∧ s'.on.X = s.on.X) ∧ (s'.vs.o = 0 ∧ s'.ps.o = 0 ∧ s'.st.o = 0 ∧ s'.on.o = 0) ∧
  (0 < s.vs.n → w.heap.size ≤ s'.vs.b) ∧ (0 < s.ps.n → w.heap.size ≤ s'.ps.b) ∧ (0 < s.st.n → w.heap.size ≤ s'.st.b) ∧ (0 < s.on.n → w.heap.size ≤ s'.on.b) ∧
  Row w' s'.vs.b s.vs.n (fun j => .int .i64 (s.vs.X j)) ∧ Row w' s'.ps.b s.ps.n (fun j => .int .i64 (s.ps.X j)) ∧
  (0 < s.vs.n → 0 < s.ps.n → s'.ps.b ≠ s'.vs.b) ∧ (0 < s.vs.n → 0 < s.st.n → s'.st.b ≠ s'.vs.b) ∧ (0 < s.vs.n → 0 < s.on.n → s'.on.b ≠ s'.vs.b) ∧ (0 < s.ps.n → 0 < s.st.n → s'.st.b ≠ s'.ps.b) ∧ (0 < s.ps.n → 0 < s.on.n → s'.on.b ≠ s'.ps.b)
def q4 {α : Type} (a b c d : α) : Nat → α
  | 0 => a
  | 1 => b
  | 2 => c
  | _ => d
def q4X (s : Ba.State) : Nat → Nat → Value
  | 0 => fun j => .int .i64 (s.vs.X j)
  | 1 => fun j => .int .i64 (s.ps.X j)
  | 2 => fun j => .int .i64 (s.st.X j)
  | _ => fun j => .bool (s.on.X j)
theorem apt_b {n m b b' : Nat} {A A' : Option Addr} {c c' : Nat} (h : Apt n m (.slice A n c) (.slice A' m c')) (hA : 0 < n → A = some ⟨b, 0, none⟩) (hA' : 0 < m → A' = some ⟨b', 0, none⟩) (hn : 0 < n) (hm : 0 < m) : b' ≠ b := by
  have := h hn b (by rw [hA hn]; rfl) hm
  rw [hA' hm] at this
  intro e; subst e; exact this rfl
set_option maxHeartbeats 1000000 in
theorem copy_any (s : Ba.State) (w : World) (h : s.Ok w) (m1 : s.vs.n ≤ 1000) (m2 : s.ps.n ≤ 1000) (m3 : s.st.n ≤ 1000) (m4 : s.on.n ≤ 1000) : Calls Try.prog 16 #[s.val] w (RetCopy s w) := by
  obtain ⟨h1, h2, h3, h4⟩ := h
  have hc := copy_row w (q4 s.vs.A s.ps.A s.st.A s.on.A) (q4 s.vs.n s.ps.n s.st.n s.on.n) (q4 s.vs.c s.ps.c s.st.c s.on.c) (q4 s.vs.b s.ps.b s.st.b s.on.b) (q4 s.vs.o s.ps.o s.st.o s.on.o) (q4X s)
    (fun q hq => by rcases (by omega : q = 0 ∨ q = 1 ∨ q = 2 ∨ q = 3) with rfl | rfl | rfl | rfl; exact h1.hA; exact h2.hA; exact h3.hA; exact h4.hA)
    (fun q hq => by rcases (by omega : q = 0 ∨ q = 1 ∨ q = 2 ∨ q = 3) with rfl | rfl | rfl | rfl; exact fun j hj => (h1.hX j hj).1; exact fun j hj => (h2.hX j hj).1; exact fun j hj => (h3.hX j hj).1; exact fun j hj => h4.hX j hj)
    (fun q j => by match q with | 0 => rfl | 1 => rfl | 2 => rfl | _ + 3 => rfl)
    (fun q hq => by rcases (by omega : q = 0 ∨ q = 1 ∨ q = 2 ∨ q = 3) with rfl | rfl | rfl | rfl; exact m1; exact m2; exact m3; exact m4)
  refine hc.mono fun e w' hr => ?_
  obtain ⟨y0, y1, y2, y3, rfl, hg, p0, p1, p2, p3, d01, d02, d03, d12, d13⟩ := hr
  change OwnSl w.heap.size s.vs.n (fun j => .int .i64 (s.vs.X j)) y0 w' at p0
  change OwnSl w.heap.size s.ps.n (fun j => .int .i64 (s.ps.X j)) y1 w' at p1
  change OwnSl w.heap.size s.st.n (fun j => .int .i64 (s.st.X j)) y2 w' at p2
  change OwnSl w.heap.size s.on.n (fun j => .bool (s.on.X j)) y3 w' at p3
  change Apt s.vs.n s.ps.n y0 y1 at d01
  change Apt s.vs.n s.st.n y0 y2 at d02
  change Apt s.vs.n s.on.n y0 y3 at d03
  change Apt s.ps.n s.st.n y1 y2 at d12
  change Apt s.ps.n s.on.n y1 y3 at d13
  obtain ⟨A0, c0, b0, rfl, a0, l0, u0, r0⟩ := p0
  obtain ⟨A1, c1, b1, rfl, a1, l1, u1, r1⟩ := p1
  obtain ⟨A2, c2, b2, rfl, a2, l2, u2, r2⟩ := p2
  obtain ⟨A3, c3, b3, rfl, a3, l3, u3, r3⟩ := p3
  have k0 := fun h => (a0 h).1; have k1 := fun h => (a1 h).1; have k2 := fun h => (a2 h).1; have k3 := fun h => (a3 h).1
  refine ⟨⟨⟨A0, s.vs.n, c0, b0, 0, s.vs.X⟩, ⟨A1, s.ps.n, c1, b1, 0, s.ps.X⟩, ⟨A2, s.st.n, c2, b2, 0, s.st.X⟩, ⟨A3, s.on.n, c3, b3, 0, s.on.X⟩⟩, rfl, hg,
    ⟨⟨k0, l0, u0, fun j hj => ⟨by rw [Nat.zero_add]; exact (r0 j hj).1, (h1.hX j hj).2⟩⟩, ⟨k1, l1, u1, fun j hj => ⟨by rw [Nat.zero_add]; exact (r1 j hj).1, (h2.hX j hj).2⟩⟩, ⟨k2, l2, u2, fun j hj => ⟨by rw [Nat.zero_add]; exact (r2 j hj).1, (h3.hX j hj).2⟩⟩, ⟨k3, l3, u3, fun j hj => by rw [Nat.zero_add]; exact (r3 j hj).1⟩⟩,
    ⟨rfl, rfl, rfl, rfl⟩, ⟨rfl, rfl, rfl, rfl⟩, ⟨rfl, rfl, rfl, rfl⟩, fun h => (a0 h).2, fun h => (a1 h).2, fun h => (a2 h).2, fun h => (a3 h).2, r0, r1, apt_b d01 k0 k1, apt_b d02 k0 k2, apt_b d03 k0 k3, apt_b d12 k1 k2, apt_b d13 k1 k3⟩
end Go.Proofs.Ythkmgnaeponfcaa
