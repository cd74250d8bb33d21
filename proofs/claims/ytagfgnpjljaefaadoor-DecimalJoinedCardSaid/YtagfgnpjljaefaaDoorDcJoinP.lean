/-
  The tokens of the texts of tokens, plainly. No program here.
-/
import Derived.Test.YtagfgnpjljaefaaDoorDcPlain
set_option linter.unusedVariables false
set_option linter.unusedSimpArgs false
namespace Go.Proofs.YtagfgnpjljaefaaDoor
namespace Dc
section
variable {l r : List UInt8} {m : Nat}
theorem cut_lt (h : m ≤ l.length) {j : Nat} (hj : j < m) : (l.take m ++ 32 :: r).getD j 0 = l.getD j 0 := by
  rw [List.getD_eq_getElem?_getD, List.getD_eq_getElem?_getD, List.getElem?_append_left (by rw [List.length_take]; omega), List.getElem?_take_of_lt hj]
theorem cut_at (h : m ≤ l.length) : (l.take m ++ 32 :: r).getD m 0 = 32 := by
  rw [List.getD_eq_getElem?_getD, List.getElem?_append_right (by rw [List.length_take]; omega), List.length_take, Nat.min_eq_left h, Nat.sub_self]; rfl
theorem cut_len (h : m ≤ l.length) : (l.take m ++ 32 :: r).length = m + 1 + r.length := by
  rw [List.length_append, List.length_take, List.length_cons]; omega
theorem spn_cut {p : UInt8 → Bool} (hp : p 32 = false) (h : m ≤ l.length) (hj : ∀ j, j < m → p (l.getD j 0) = true) : spn p (l.take m ++ 32 :: r) = m :=
  spn_stop (fun j hjm => by rw [cut_lt h hjm]; exact hj j hjm) (by rw [cut_len h]; omega) (Or.inr (by rw [cut_at h]; exact hp))
theorem spn_cut_self {p : UInt8 → Bool} (hp : p 32 = false) : spn p (l.take (spn p l) ++ 32 :: r) = spn p l :=
  spn_cut hp (spn_le _ _) fun _ hj => spn_get hj
theorem drop_cut (h : m ≤ l.length) {a : Nat} (ha : a ≤ m) : (l.take m ++ 32 :: r).drop a = (l.drop a).take (m - a) ++ 32 :: r := by
  rw [List.drop_append_of_le_length (by rw [List.length_take]; omega), List.drop_take]
theorem numeral_cut : numeral (l.take (numeral l) ++ 32 :: r) = numeral l := by
  by_cases c : figs l + 1 < l.length ∧ (l.getD (figs l) 0).toNat = 46 ∧ isD (l.getD (figs l + 1) 0) = true
  · have e : numeral l = figs l + 1 + figs (l.drop (figs l + 1)) := if_pos c
    have hl := spn_le isD (l.drop (figs l + 1))
    rw [List.length_drop] at hl
    have hp : 1 ≤ figs (l.drop (figs l + 1)) := by
      refine spn_pos (fun h => ?_) ?_
      · have := congrArg List.length h; simp at this; omega
      · rw [List.getD_eq_getElem?_getD, List.getElem?_drop, ← List.getD_eq_getElem?_getD]; exact c.2.2
    have hm : numeral l ≤ l.length := by rw [e]; unfold figs at *; omega
    rw [e] at hm ⊢
    generalize hf : figs (l.drop (figs l + 1)) = f at *
    have h1 : figs (l.take (figs l + 1 + f) ++ 32 :: r) = figs l := by
      refine spn_stop (fun j hj => ?_) (by rw [cut_len hm]; omega) (Or.inr ?_)
      · rw [cut_lt hm (by omega)]; exact spn_get hj
      · rw [cut_lt hm (by omega)]; unfold isD; rw [c.2.1]; rfl
    have h2 : (l.take (figs l + 1 + f) ++ 32 :: r).drop (figs l + 1) = (l.drop (figs l + 1)).take f ++ 32 :: r := by
      rw [drop_cut hm (by omega), show figs l + 1 + f - (figs l + 1) = f by omega]
    have h3 : figs ((l.drop (figs l + 1)).take f ++ 32 :: r) = f := by rw [← hf]; exact spn_cut_self (p := isD) (by decide)
    unfold numeral
    rw [h1, h2, h3, if_pos ⟨by rw [cut_len hm]; omega, by rw [cut_lt hm (by omega)]; exact c.2.1, by rw [cut_lt hm (by omega)]; exact c.2.2⟩]
  · have e : numeral l = figs l := if_neg c
    rw [e]
    have h1 : figs (l.take (figs l) ++ 32 :: r) = figs l := spn_cut_self (p := isD) (by decide)
    unfold numeral
    rw [h1, if_neg]
    rintro ⟨-, h, -⟩
    rw [cut_at (show figs l ≤ l.length from spn_le _ _)] at h
    exact absurd h (by decide)
theorem symbol_cut (h0 : symbol l ≠ 0) (hl : l ≠ []) : symbol (l.take (symbol l) ++ 32 :: r) = symbol l := by
  have hp : 1 ≤ l.length := by cases l with | nil => exact absurd rfl hl | cons => simp
  by_cases c : 1 < l.length ∧ (l.getD 1 0).toNat = 61 ∧ ((l.getD 0 0).toNat = 62 ∨ (l.getD 0 0).toNat = 60 ∨ (l.getD 0 0).toNat = 58)
  · have e : symbol l = 2 := if_pos c
    rw [e]
    unfold symbol
    rw [if_pos]
    rw [cut_len (by omega), cut_lt (by omega) (by omega), cut_lt (by omega) (by omega)]
    exact ⟨by omega, c.2⟩
  · have e : symbol l = if isS (l.getD 0 0) then 1 else 0 := if_neg c
    by_cases hs : isS (l.getD 0 0) = true
    · rw [if_pos hs] at e
      rw [e]
      unfold symbol
      rw [if_neg, cut_lt (by omega) (by omega), if_pos hs]
      rintro ⟨-, h, -⟩
      rw [cut_at (by omega)] at h
      exact absurd h (by decide)
    · rw [if_neg hs] at e; exact absurd e h0
theorem symbol_len (hl : l ≠ []) : symbol l ≤ l.length := by
  have hp : 1 ≤ l.length := by cases l with | nil => exact absurd rfl hl | cons => simp
  unfold symbol; split
  · omega
  · split <;> omega
/-- A token's text, and a blank behind it, is the same token. -/
theorem nx_cut {k : Int} (h : nx l = (k, m)) (hk : 0 < k) (h4 : k ≠ 4) (hl : l ≠ []) : nx (l.take m ++ 32 :: r) = (k, m) := by
  have hm := nx_len hl (by rw [h]; exact Int.le_of_lt hk)
  have hm1 := nx_pos hl
  rw [h] at hm hm1
  simp only at hm hm1
  have g0 : (l.take m ++ 32 :: r).getD 0 0 = l.getD 0 0 := cut_lt hm (by omega)
  unfold nx at h
  simp only at h
  unfold nx
  simp only
  rw [g0]
  split at h
  · simp at h; omega
  · rename_i n0; rw [if_neg n0]
    split at h
    · simp at h; omega
    · rename_i n1; rw [if_neg n1]
      split at h
      · simp at h; omega
      · rename_i n2; rw [if_neg n2]
        split at h
        · rename_i hL
          rw [if_pos hL]
          split at h
          · simp at h; omega
          · rename_i hw
            simp only [Prod.mk.injEq] at h
            obtain ⟨rfl, rfl⟩ := h
            have : word (l.take (word l) ++ 32 :: r) = word l := spn_cut_self (p := isW) (by decide)
            rw [this, if_neg hw]
        · rename_i hL
          rw [if_neg hL]
          split at h
          · rename_i hD
            rw [if_pos hD]
            simp only [Prod.mk.injEq] at h
            obtain ⟨rfl, rfl⟩ := h
            rw [numeral_cut]
          · rename_i hD
            rw [if_neg hD]
            split at h
            · simp at h; omega
            · rename_i hs
              simp only [Prod.mk.injEq] at h
              obtain ⟨rfl, rfl⟩ := h
              rw [symbol_cut hs hl, if_neg hs]
end
/-- The tokens of a text, one by one: kind, text, line, column. -/
inductive TokL : List Value → List (Int × List UInt8 × Int × Int) → Prop
  | nil : TokL [] []
  | snoc {cs : List Value} {ts : List (Int × List UInt8 × Int × Int)} (k : Int) (t : List UInt8) (ln col : Int) : TokL cs ts → TokL (cs ++ tok k t ln col) (ts ++ [(k, t, ln, col)])
/-- A kind and a text that stand for themselves when a blank follows. -/
def Good (k : Int) (t : List UInt8) : Prop := (k = 4 ∧ t = []) ∨ (0 < k ∧ k ≠ 4 ∧ k ≠ 5 ∧ t ≠ [] ∧ ∀ r, nx (t ++ 32 :: r) = (k, t.length))
/-- What is written for a token. -/
def wr (k : Int) (t : List UInt8) : List UInt8 := if k = 4 then [10] else t
def jn : List (Int × List UInt8) → List UInt8
  | [] => []
  | [(k, t)] => wr k t
  | (k, t) :: x :: ts => wr k t ++ 32 :: jn (x :: ts)
inductive GoodL : List (Int × List UInt8) → Prop
  | last : GoodL [(5, [])]
  | cons {k : Int} {t : List UInt8} {x : Int × List UInt8} {ts : List (Int × List UInt8)} : Good k t → GoodL (x :: ts) → GoodL ((k, t) :: x :: ts)
theorem nx_32 (r : List UInt8) : nx (32 :: r) = (0, 1) := by unfold nx; simp
theorem nx_10 (r : List UInt8) : nx (10 :: r) = (4, 1) := by unfold nx; simp
/-- The tokens of what is joined. -/
theorem go_jn {ts : List (Int × List UInt8)} (hg : GoodL ts) : ∀ (f : Nat) (ln col : Int) (acc : List Value) (ats : List (Int × List UInt8 × Int × Int)), (jn ts).length ≤ f → TokL acc ats →
    ∃ cs ats', go f (jn ts) ln col acc = .inl cs ∧ TokL cs (ats ++ ats') ∧ ats'.map (fun x => (x.1, x.2.1)) = ts := by
  induction hg with
  | last =>
    intro f ln col acc ats _ ha
    refine ⟨acc ++ tok 5 [] ln col, [(5, [], ln, col)], ?_, .snoc _ _ _ _ ha, rfl⟩
    have : jn [(5, [])] = [] := rfl
    rw [this]
    cases f <;> simp [go]
  | @cons k t x ts hk _ ih =>
    intro f ln col acc ats hf ha
    have hj : jn ((k, t) :: x :: ts) = wr k t ++ 32 :: jn (x :: ts) := rfl
    rw [hj] at hf ⊢
    rcases hk with ⟨rfl, rfl⟩ | ⟨k0, k4, k5, ht, hn⟩
    · have hw : wr 4 [] = [10] := rfl
      rw [hw] at hf ⊢
      simp only [List.length_append, List.length_cons, List.length_nil] at hf
      obtain ⟨f, rfl⟩ : ∃ g, f = g + 2 := ⟨f - 2, by omega⟩
      obtain ⟨cs, ats', h1, h2, h3⟩ := ih f (ln + 1) (1 + 1) (acc ++ tok 4 [] ln col) (ats ++ [(4, [], ln, col)]) (by omega) (.snoc _ _ _ _ ha)
      refine ⟨cs, (4, [], ln, col) :: ats', ?_, by rw [List.append_assoc] at h2; exact h2, by rw [List.map_cons, h3]⟩
      show go (f + 1 + 1) (10 :: (32 :: jn (x :: ts))) ln col acc = _
      rw [go, if_neg (by simp), nx_10]
      simp only
      rw [if_neg (by decide), if_pos trivial]
      show go (f + 1) (32 :: jn (x :: ts)) (ln + 1) 1 _ = _
      rw [go, if_neg (by simp), nx_32]
      simp only
      rw [if_neg (by decide), if_neg (by decide), if_pos trivial]
      exact h1
    · have hw : wr k t = t := if_neg k4
      rw [hw] at hf ⊢
      have hl : 1 ≤ t.length := by cases t with | nil => exact absurd rfl ht | cons => simp
      simp only [List.length_append, List.length_cons] at hf
      obtain ⟨f, rfl⟩ : ∃ g, f = g + 2 := ⟨f - 2, by omega⟩
      obtain ⟨cs, ats', h1, h2, h3⟩ := ih f ln (col + (t.length : Int) + 1) (acc ++ tok k t ln col) (ats ++ [(k, t, ln, col)]) (by omega) (.snoc _ _ _ _ ha)
      refine ⟨cs, (k, t, ln, col) :: ats', ?_, by rw [List.append_assoc] at h2; exact h2, by rw [List.map_cons, h3]⟩
      rw [go, if_neg (by simp), hn]
      simp only
      rw [if_neg (by omega), if_neg k4, if_neg (by omega), List.drop_left, List.take_left]
      show go (f + 1) (32 :: jn (x :: ts)) ln _ _ = _
      rw [go, if_neg (by simp), nx_32]
      simp only
      rw [if_neg (by decide), if_neg (by decide), if_pos trivial]
      exact h1
end Dc
end Go.Proofs.YtagfgnpjljaefaaDoor
