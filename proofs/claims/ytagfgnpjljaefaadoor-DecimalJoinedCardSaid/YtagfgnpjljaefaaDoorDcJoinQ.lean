/-
  Where the tokens of a text stand, plainly. No program here.
-/
import Derived.Test.YtagfgnpjljaefaaDoorDcJoinP
set_option linter.unusedVariables false
set_option linter.unusedSimpArgs false
namespace Go.Proofs.YtagfgnpjljaefaaDoor
namespace Dc
/-- The lines of a text, the first begun with cur. -/
def sp : List UInt8 → List UInt8 → List (List UInt8)
  | cur, [] => [cur]
  | cur, c :: l => if c.toNat = 10 then cur :: sp [] l else sp (cur ++ [c]) l
theorem rest_cons {c : UInt8} {l : List UInt8} (h : c.toNat ≠ 10) : rest (c :: l) = rest l + 1 := by
  unfold rest; rw [spn, if_pos (by simpa using h)]
theorem rest_line {c : UInt8} {l : List UInt8} (h : c.toNat = 10) : rest (c :: l) = 0 := by
  unfold rest; rw [spn, if_neg (by simpa using h)]
theorem sp_head : ∀ (l cur : List UInt8), ∃ t, sp cur l = (cur ++ l.take (rest l)) :: t
  | [], cur => ⟨[], by simp [sp]⟩
  | c :: l, cur => by
    unfold sp
    by_cases h : c.toNat = 10
    · rw [if_pos h, rest_line h]; exact ⟨sp [] l, by simp⟩
    · rw [if_neg h, rest_cons h]
      obtain ⟨t, ht⟩ := sp_head l (cur ++ [c])
      exact ⟨t, by rw [ht]; simp⟩
theorem sp_step : ∀ (m : Nat) (l cur : List UInt8), m ≤ rest l → sp cur l = sp (cur ++ l.take m) (l.drop m)
  | 0, l, cur, _ => by simp
  | m + 1, [], cur, h => by simp [rest, spn] at h
  | m + 1, c :: l, cur, h => by
    by_cases hc : c.toNat = 10
    · rw [rest_line hc] at h; omega
    · rw [rest_cons hc] at h
      rw [sp, if_neg hc, sp_step m l _ (by omega)]
      simp
theorem rest_all {l : List UInt8} {m : Nat} (h : m ≤ l.length) (hj : ∀ j, j < m → (l.getD j 0).toNat ≠ 10) : m ≤ rest l :=
  spn_all h fun j hjm => decide_eq_true (hj j hjm)
theorem isL_no10 {c : UInt8} (h : isL c = true) : c.toNat ≠ 10 := by unfold isL at h; simp at h; omega
theorem isD_no10 {c : UInt8} (h : isD c = true) : c.toNat ≠ 10 := by unfold isD at h; simp at h; omega
theorem isW_no10 {c : UInt8} (h : isW c = true) : c.toNat ≠ 10 := by
  unfold isW at h
  simp only [Bool.or_eq_true, decide_eq_true_eq] at h
  rcases h with (h | h) | h
  · exact isL_no10 h
  · exact isD_no10 h
  · omega
theorem isS_no10 {c : UInt8} (h : isS c = true) : c.toNat ≠ 10 := by
  intro e
  have : c = 10 := UInt8.toNat_inj.1 e
  subst this
  exact absurd h (by decide)
/-- No token but a line's end holds a line's end. -/
theorem nx_rest {l : List UInt8} {k : Int} {m : Nat} (h : nx l = (k, m)) (hk : 0 ≤ k) (h4 : k ≠ 4) (hl : l ≠ []) : m ≤ rest l := by
  have hm := nx_len hl (by rw [h]; exact hk)
  have hp : 1 ≤ l.length := by cases l with | nil => exact absurd rfl hl | cons => simp
  rw [h] at hm
  simp only at hm
  unfold nx at h
  simp only at h
  split at h
  · rename_i n0
    simp at h
    refine rest_all hm fun j hj => ?_
    obtain rfl : j = 0 := by omega
    omega
  · split at h
    · simp at h; omega
    · split at h
      · simp at h; omega
      · split at h
        · split at h
          · simp at h; omega
          · simp only [Prod.mk.injEq] at h
            exact rest_all hm fun j hj => isW_no10 (spn_get (p := isW) (by have := h.2; unfold word at this; omega))
        · split at h
          · simp only [Prod.mk.injEq] at h
            have hn := h.2
            unfold numeral at hn
            refine rest_all hm fun j hj => ?_
            split at hn
            · rename_i c
              rcases Nat.lt_trichotomy j (figs l) with q | q | q
              · exact isD_no10 (spn_get q)
              · rw [q, c.2.1]; decide
              · have hq : j = figs l + 1 + (j - (figs l + 1)) := by omega
                have := spn_get (p := isD) (l := l.drop (figs l + 1)) (j := j - (figs l + 1)) (by unfold figs at *; omega)
                rw [List.getD_eq_getElem?_getD, List.getElem?_drop, ← List.getD_eq_getElem?_getD, ← hq] at this
                exact isD_no10 this
            · exact isD_no10 (spn_get (p := isD) (by unfold figs at hn; omega))
          · split at h
            · simp at h; omega
            · rename_i hs
              simp only [Prod.mk.injEq] at h
              have hn := h.2
              unfold symbol at hn
              refine rest_all hm fun j hj => ?_
              split at hn
              · rename_i c
                have : j = 0 ∨ j = 1 := by omega
                rcases this with rfl | rfl
                · omega
                · omega
              · split at hn
                · rename_i c
                  obtain rfl : j = 0 := by omega
                  exact isS_no10 c
                · omega
/-- A token stands where it says. -/
def Stands (ls : List (List UInt8)) (x : Int × List UInt8 × Int × Int) : Prop :=
  1 ≤ x.2.2.1 ∧ 1 ≤ x.2.2.2 ∧ ∃ line, ls[(x.2.2.1 - 1).toNat]? = some line ∧ (x.2.2.2 - 1).toNat ≤ line.length ∧ x.2.1 <+: line.drop (x.2.2.2 - 1).toNat
def Ahead (x y : Int × List UInt8 × Int × Int) : Prop := x.2.2.1 < y.2.2.1 ∨ x.2.2.1 = y.2.2.1 ∧ x.2.2.2 < y.2.2.2
/-- The tokens that are read stand where they say, one behind the other, all ahead of a place. -/
def PosL (ls : List (List UInt8)) (ts : List (Int × List UInt8 × Int × Int)) (ln col : Int) : Prop :=
  (∀ (i : Nat) (x : Int × List UInt8 × Int × Int), ts[i]? = some x → Stands ls x) ∧ (∀ (i : Nat) (x y : Int × List UInt8 × Int × Int), ts[i]? = some x → ts[i + 1]? = some y → Ahead x y) ∧
  ∀ (i : Nat) (x : Int × List UInt8 × Int × Int), ts[i]? = some x → x.2.2.1 < ln ∨ x.2.2.1 = ln ∧ x.2.2.2 < col
theorem PosL.on {ls : List (List UInt8)} {ts : List (Int × List UInt8 × Int × Int)} {ln col ln' col' : Int} (h : PosL ls ts ln col) (hc : ln < ln' ∨ ln = ln' ∧ col ≤ col') : PosL ls ts ln' col' :=
  ⟨h.1, h.2.1, fun i x hx => by have := h.2.2 i x hx; omega⟩
theorem PosL.add {ls : List (List UInt8)} {ts : List (Int × List UInt8 × Int × Int)} {k : Int} {t : List UInt8} {ln col ln' col' : Int} (h : PosL ls ts ln col) (hs : Stands ls (k, t, ln, col)) (hc : ln < ln' ∨ ln = ln' ∧ col < col') : PosL ls (ts ++ [(k, t, ln, col)]) ln' col' := by
  obtain ⟨h1, h2, h3⟩ := h
  have at_ : ∀ (i : Nat) x, (ts ++ [(k, t, ln, col)])[i]? = some x → (i < ts.length ∧ ts[i]? = some x) ∨ (i = ts.length ∧ x = (k, t, ln, col)) := by
    intro i x hx
    by_cases hi : i < ts.length
    · rw [List.getElem?_append_left hi] at hx; exact Or.inl ⟨hi, hx⟩
    · rw [List.getElem?_append_right (by omega)] at hx
      by_cases e : i - ts.length = 0
      · rw [e] at hx; simp at hx; exact Or.inr ⟨by omega, hx.symm⟩
      · obtain ⟨j, hj⟩ : ∃ j, i - ts.length = j + 1 := ⟨i - ts.length - 1, by omega⟩
        rw [hj] at hx; simp at hx
  refine ⟨fun i x hx => ?_, fun i x y hx hy => ?_, fun i x hx => ?_⟩
  · rcases at_ i x hx with ⟨_, h⟩ | ⟨_, rfl⟩
    · exact h1 i x h
    · exact hs
  · rcases at_ (i + 1) y hy with ⟨hi, h⟩ | ⟨hi, rfl⟩
    · rcases at_ i x hx with ⟨_, h'⟩ | ⟨_, _⟩
      · exact h2 i x y h' h
      · omega
    · rcases at_ i x hx with ⟨_, h'⟩ | ⟨_, _⟩
      · exact h3 i x h'
      · omega
  · rcases at_ i x hx with ⟨_, h⟩ | ⟨_, rfl⟩
    · have := h3 i x h; omega
    · exact hc
theorem stands_of {dn : List (List UInt8)} {cur l t : List UInt8} {k ln col : Int} {m : Nat} (h1 : ln = (dn.length : Int) + 1) (h2 : col = (cur.length : Int) + 1) (hm : m ≤ rest l) (ht : t = l.take m) : Stands (dn ++ sp cur l) (k, t, ln, col) := by
  obtain ⟨tl, hh⟩ := sp_head l cur
  refine ⟨by show 1 ≤ ln; omega, by show 1 ≤ col; omega, cur ++ l.take (rest l), ?_, ?_, ?_⟩
  · show (dn ++ sp cur l)[(ln - 1).toNat]? = _
    rw [show (ln - 1).toNat = dn.length by omega, List.getElem?_append_right (Nat.le_refl _), Nat.sub_self, hh]; rfl
  · show (col - 1).toNat ≤ _
    rw [List.length_append]; omega
  · show t <+: List.drop (col - 1).toNat _
    rw [show (col - 1).toNat = cur.length by omega, List.drop_left, ht]
    exact List.take_prefix_take_left (l := l) hm
def sumT (ts : List (Int × List UInt8 × Int × Int)) : Nat := (ts.map fun x => x.2.1.length).sum
theorem sumT_add (ts : List (Int × List UInt8 × Int × Int)) (x : Int × List UInt8 × Int × Int) : sumT (ts ++ [x]) = sumT ts + x.2.1.length := by unfold sumT; simp
theorem go_all (ls : List (List UInt8)) (N : Nat) : ∀ (f : Nat) (l : List UInt8) (ln col : Int) (acc : List Value) (ats : List (Int × List UInt8 × Int × Int)) (cur : List UInt8) (dn : List (List UInt8)) (cs : List Value),
    l.length ≤ f → go f l ln col acc = .inl cs → TokL acc ats → ls = dn ++ sp cur l → ln = (dn.length : Int) + 1 → col = (cur.length : Int) + 1 → PosL ls ats ln col → (∀ x ∈ ats, Good x.1 x.2.1) → sumT ats + l.length ≤ N →
    ∃ ats' ln' col', TokL cs (ats' ++ [(5, [], ln', col')]) ∧ PosL ls (ats' ++ [(5, [], ln', col')]) (ln' + 1) 1 ∧ (∀ x ∈ ats', Good x.1 x.2.1) ∧ ats'.length ≤ ats.length + f ∧ sumT ats' ≤ N := by
  intro f
  induction f with
  | zero =>
    intro l ln col acc ats cur dn cs hf h ha hls h1 h2 hp hg hN
    have hl : l = [] := List.eq_nil_of_length_eq_zero (by omega)
    subst hl
    unfold go at h; injection h with h; subst h
    exact ⟨ats, ln, col, .snoc _ _ _ _ ha, hp.add (hls ▸ stands_of h1 h2 (Nat.zero_le _) (by simp)) (by omega), hg, by omega, by omega⟩
  | succ f ih =>
    intro l ln col acc ats cur dn cs hf h ha hls h1 h2 hp hg hN
    unfold go at h
    split at h
    · rename_i hl
      subst hl
      injection h with h; subst h
      exact ⟨ats, ln, col, .snoc _ _ _ _ ha, hp.add (hls ▸ stands_of h1 h2 (Nat.zero_le _) (by simp)) (by omega), hg, by omega, by omega⟩
    · rename_i hl
      have hpos := nx_pos hl
      have hlp : 1 ≤ l.length := by cases l with | nil => exact absurd rfl hl | cons => simp
      split at h
      · cases h
      · rename_i hk0
        split at h
        · rename_i hk4
          have hc : (l.getD 0 0).toNat = 10 := by
            unfold nx at hk4
            simp only at hk4
            split at hk4
            · simp at hk4
            · split at hk4
              · assumption
              · split at hk4
                · simp at hk4
                · split at hk4
                  · split at hk4 <;> simp at hk4
                  · split at hk4
                    · simp at hk4
                    · split at hk4 <;> simp at hk4
          cases l with
          | nil => exact absurd rfl hl
          | cons c l =>
            simp at hc
            have e : sp cur (c :: l) = cur :: sp [] l := by rw [sp, if_pos hc]
            obtain ⟨ats', ln', col', r1, r2, r3, r4, r5⟩ := ih l (ln + 1) 1 _ (ats ++ [(4, [], ln, col)]) [] (dn ++ [cur]) cs (by simpa using hf) h (.snoc _ _ _ _ ha) (by rw [hls, e]; simp) (by simp; omega) rfl
              (hp.add (hls ▸ stands_of h1 h2 (Nat.zero_le _) (by simp)) (by omega)) (fun x hx => by
                rcases List.mem_append.1 hx with hx | hx
                · exact hg x hx
                · rw [List.mem_singleton] at hx; subst hx; exact Or.inl ⟨rfl, rfl⟩) (by rw [sumT_add]; simp at hN ⊢; omega)
            exact ⟨ats', ln', col', r1, r2, r3, by simp at r4; omega, r5⟩
        · rename_i hk4
          have hr := nx_rest (l := l) (k := (nx l).1) (m := (nx l).2) rfl (by omega) hk4 hl
          have hlen := nx_len hl (by omega)
          have hls' : ls = dn ++ sp (cur ++ l.take (nx l).2) (l.drop (nx l).2) := by rw [hls, sp_step _ _ _ hr]
          have hcl : (cur ++ l.take (nx l).2).length = cur.length + (nx l).2 := by rw [List.length_append, List.length_take]; omega
          split at h
          · rename_i hkz
            obtain ⟨ats', ln', col', r1, r2, r3, r4, r5⟩ := ih (l.drop (nx l).2) ln (col + ((nx l).2 : Int)) acc ats (cur ++ l.take (nx l).2) dn cs (by rw [List.length_drop]; omega) h ha hls' h1 (by rw [hcl]; omega) (hp.on (by omega)) hg (by rw [List.length_drop]; omega)
            exact ⟨ats', ln', col', r1, r2, r3, by omega, r5⟩
          · rename_i hkz
            have hg1 : Good (nx l).1 (l.take (nx l).2) := by
              refine Or.inr ⟨by omega, hk4, ?_, ?_, fun r => ?_⟩
              · unfold nx
                simp only
                split
                · simp
                · split
                  · simp
                  · split
                    · simp
                    · split
                      · split <;> simp
                      · split
                        · simp
                        · split <;> simp
              · intro e
                have := congrArg List.length e
                rw [List.length_take, List.length_nil] at this; omega
              · rw [List.length_take, Nat.min_eq_left hlen]
                exact nx_cut rfl (by omega) hk4 hl
            obtain ⟨ats', ln', col', r1, r2, r3, r4, r5⟩ := ih (l.drop (nx l).2) ln (col + ((nx l).2 : Int)) _ (ats ++ [((nx l).1, l.take (nx l).2, ln, col)]) (cur ++ l.take (nx l).2) dn cs (by rw [List.length_drop]; omega) h (.snoc _ _ _ _ ha) hls' h1 (by rw [hcl]; omega)
              (hp.add (hls ▸ stands_of h1 h2 hr rfl) (by omega)) (fun x hx => by
                rcases List.mem_append.1 hx with hx | hx
                · exact hg x hx
                · rw [List.mem_singleton] at hx; subst hx; exact hg1) (by rw [sumT_add, List.length_drop]; show sumT ats + (l.take (nx l).2).length + _ ≤ N; rw [List.length_take]; omega)
            exact ⟨ats', ln', col', r1, r2, r3, by simp at r4; omega, r5⟩
theorem goodL_of : ∀ (ts : List (Int × List UInt8)), (∀ x ∈ ts, Good x.1 x.2) → GoodL (ts ++ [(5, [])])
  | [], _ => .last
  | [(k, t)], h => .cons (h (k, t) (by simp)) .last
  | (k, t) :: y :: ts, h => .cons (h (k, t) (by simp)) (goodL_of (y :: ts) fun x hx => h x (List.mem_cons_of_mem _ hx))
/-- All that the law wants of a text's tokens. -/
theorem tokens_stand {l : List UInt8} {cs : List Value} (h : tokens l = .inl cs) :
    ∃ ts : List (Int × List UInt8 × Int × Int), TokL cs ts ∧ ts ≠ [] ∧ ts.length ≤ l.length + 1 ∧ sumT ts ≤ l.length ∧ (∃ x, ts.getLast? = some x ∧ x.1 = 5) ∧ GoodL (ts.map fun x => (x.1, x.2.1)) ∧ (∀ (i : Nat) (x : Int × List UInt8 × Int × Int), ts[i]? = some x → Stands (sp [] l) x) ∧ (∀ (i : Nat) (x y : Int × List UInt8 × Int × Int), ts[i]? = some x → ts[i + 1]? = some y → Ahead x y) := by
  obtain ⟨ats', ln', col', r1, r2, r3, r4, r5⟩ := go_all (sp [] l) l.length l.length l 1 1 [] [] [] [] cs (Nat.le_refl _) h .nil rfl rfl rfl ⟨fun i x hx => by simp at hx, fun i x y hx => by simp at hx, fun i x hx => by simp at hx⟩ (fun x hx => by cases hx) (by simp [sumT])
  refine ⟨_, r1, by simp, by simp at r4 ⊢; omega, by rw [sumT_add]; simpa using r5, ⟨(5, [], ln', col'), List.getLast?_concat, rfl⟩, ?_, r2.1, r2.2.1⟩
  rw [List.map_append]
  exact goodL_of _ fun x hx => by
    obtain ⟨y, hy, rfl⟩ := List.mem_map.1 hx
    exact r3 y hy
theorem sp_len : ∀ (l cur : List UInt8), (sp cur l).length ≤ l.length + 1 ∧ ∀ x ∈ sp cur l, x.length ≤ cur.length + l.length
  | [], cur => ⟨by simp [sp], fun x hx => by simp [sp] at hx; subst hx; simp⟩
  | c :: l, cur => by
    unfold sp
    split
    · obtain ⟨h1, h2⟩ := sp_len l []
      refine ⟨by simp; omega, fun x hx => ?_⟩
      rcases List.mem_cons.1 hx with rfl | hx
      · omega
      · have := h2 x hx; simp at this ⊢; omega
    · obtain ⟨h1, h2⟩ := sp_len l (cur ++ [c])
      refine ⟨by simp; omega, fun x hx => ?_⟩
      have := h2 x hx; simp at this ⊢; omega
theorem jn_len : ∀ ts : List (Int × List UInt8), (jn ts).length ≤ (ts.map fun x => x.2.length).sum + 2 * ts.length
  | [] => by simp [jn]
  | [(k, t)] => by
    show (wr k t).length ≤ _
    unfold wr; split <;> simp <;> omega
  | (k, t) :: x :: ts => by
    have := jn_len (x :: ts)
    show (wr k t ++ 32 :: jn (x :: ts)).length ≤ _
    rw [List.length_append, List.length_cons, List.map_cons, List.sum_cons, List.length_cons]
    have hw : (wr k t).length ≤ t.length + 1 := by unfold wr; split <;> simp
    show _ ≤ t.length + _ + _
    omega
end Dc
end Go.Proofs.YtagfgnpjljaefaaDoor
