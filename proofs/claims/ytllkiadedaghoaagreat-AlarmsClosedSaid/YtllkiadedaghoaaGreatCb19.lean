/-
  A row of one-cell elements that a call makes and writes: what it holds.
  Alarms, plain and in memory: indices that are dropped; rows of messages as slices. Typed.
  Alarms: the reference's Before and With on messages. Typed.
-/
import Derived.Test.YtllkiadedaghoaaGreatCb08
import Derived.Test.YtllkiadedaghoaaGreatCm02
import Derived.Test.YtllkiadedaghoaaGreatCb18
import Derived.Deep.CutBlock
import Derived.Laws.AppendOwnNone
set_option linter.unusedVariables false
set_option linter.unusedSimpArgs false
namespace Go.Proofs.YtllkiadedaghoaaGreat
open Go.RowKit
/-- A row of n cells, each of which may be written. -/
def Row (w : World) (g n : Nat) (X : Nat → Value) : Prop := ∀ j, j < n → Own w g j (X j)
theorem Row.gr {w w' : World} {g n : Nat} {X : Nat → Value} (h : Row w g n X) (hg : Gr w w') : Row w' g n X := fun j hj => (h j hj).gr hg
theorem Row.set {w : World} {g n : Nat} {X Y : Nat → Value} {k : Nat} {u : Value} (h : Row w g n X) (hu : Y k = u) (ho : ∀ j, j < n → j ≠ k → Y j = X j) : Row (w.setCell ⟨g, k, none⟩ u) g n Y := fun j hj => by
  by_cases e : j = k
  · subst e; rw [hu]; exact (h j hj).set
  · rw [ho j hj e]; exact (h j hj).other (Or.inr e)
end Go.Proofs.YtllkiadedaghoaaGreat
set_option linter.unusedVariables false
set_option linter.unusedSimpArgs false
namespace Go.Proofs.YtllkiadedaghoaaGreat
open Go.RowKit Go.Shelf Go.Sort
namespace Al
theorem ownM_sl {w : World} {base : Nat} {v : Value} {l : List M} (h : w.ownsRow base 57 5 v l.length (flat l)) (hok : ∀ m ∈ l, m.Ok) : ∃ s : SlM, v = .slice s.A s.n s.c ∧ s.At w ∧ s.lst = l ∧ (0 < s.n → base ≤ s.b) ∧ (s.A = none → s.c = 0) := by
  have h' := h
  obtain ⟨hl, ⟨rfl, z⟩ | ⟨g, cap, cur, rfl, hb, hc, hn, hm, hs, r⟩⟩ := h
  · have z' := List.length_eq_zero_iff.1 z
    subst z'
    exact ⟨⟨none, 0, 0, 0, 0, fun _ => default⟩, rfl, ⟨fun h => absurd h (Nat.lt_irrefl _), Nat.le_refl _, Nat.zero_le _, fun i hi => absurd hi (Nat.not_lt_zero _)⟩, by simp [SlM.lst], fun h => absurd h (Nat.lt_irrefl _), fun _ => rfl⟩
  · refine ⟨⟨some ⟨g, 0, none⟩, l.length, cap, g, 0, fun i => l[i]!⟩, rfl, ⟨fun _ => rfl, hn, by unfold maxLen at hm; exact hm, fun i hi => ?_⟩, ?_, fun _ => hb, fun h => (by cases h)⟩
    · have hi' : i < l.length := hi
      have key : ∀ c, c < 5 → w.cell? ⟨g, 0 + i * 5 + c, none⟩ = some (l[i]!.enc)[c]! := fun c h => by
        rw [Nat.zero_add]
        have e := flat_get M.enc 5 (fun _ => rfl) l i c hi' h
        have := h'.cellAt (i * 5 + c) (by omega)
        rw [this]; exact e
      refine ⟨⟨key 0 (by omega), key 1 (by omega), key 2 (by omega), key 3 (by omega), key 4 (by omega)⟩, ?_⟩
      show l[i]!.Ok
      rw [getElem!_pos l i hi']; exact hok _ (List.getElem_mem _)
    · unfold SlM.lst
      apply List.ext_getElem
      · simp
      · intro i h1 h2; simp [h2]
/-- Is an index among the first ones? -/
def gonB (X : Nat → Int) : Nat → Nat → Bool
  | 0, _ => false
  | k + 1, i => gonB X k i || (X k == (i : Int))
/-- The messages that are left. -/
def leftL (D : Nat → M) (g : Nat → Bool) : Nat → List M
  | 0 => []
  | k + 1 => leftL D g k ++ (if g k = true then [] else [D k])
def SlM.left (s : SlM) (d : Ba.SlI) : List M := leftL s.D (gonB d.X d.n) s.n
end Al
end Go.Proofs.YtllkiadedaghoaaGreat
set_option linter.unusedVariables false
set_option linter.unusedSimpArgs false
namespace Go.Proofs.YtllkiadedaghoaaGreat
open Go.RowKit Go.Sort Go.Shelf
attribute [local go_sem ↓] Go.wp_at_zero Go.wp_at_succ
namespace Al
/-- A message comes before another one. -/
def bfM (a b : M) : Bool := decide (kcmp a.key b.key < 0)
theorem cmp_lt {x y : Int} : Lib.compareInt x y < 0 ↔ x < y := by
  unfold Lib.compareInt
  split
  · exact ⟨fun _ => by assumption, fun _ => by omega⟩
  · split <;> exact ⟨fun h => by omega, fun h => by omega⟩
theorem bfM_tm {a b : M} (h : a.tm ≠ b.tm) : bfM a b = decide (a.tm < b.tm) := by
  unfold bfM kcmp thn M.key
  have : Lib.compareInt a.tm b.tm ≠ 0 := fun e => h (cmp_zero.1 e)
  simp only [if_neg this, cmp_lt]
theorem bytes_lt (a b : ByteArray) : Op.bytesLess a.toList b.toList = decide (cmpS a b < 0) := by
  rw [Go.Proofs.bytesLess_eq, Bool.eq_iff_iff, decide_eq_true_eq, decide_eq_true_eq, cmpS_lt]
theorem bfM_nd {a b : M} (h : a.tm = b.tm) (h2 : a.nd ≠ b.nd) : bfM a b = Op.bytesLess a.nd.toList b.nd.toList := by
  rw [bytes_lt]
  unfold bfM kcmp thn M.key
  have e1 : Lib.compareInt a.tm b.tm = 0 := cmp_zero.2 h
  have e2 : cmpS a.nd b.nd ≠ 0 := fun e => h2 (Gd.str.zero _ _ e)
  simp only [if_pos e1, if_neg e2]
theorem bfM_nu {a b : M} (h : a.tm = b.tm) (h2 : a.nd = b.nd) : bfM a b = decide (a.nu < b.nu) := by
  unfold bfM kcmp thn M.key
  have e1 : Lib.compareInt a.tm b.tm = 0 := cmp_zero.2 h
  have e2 : cmpS a.nd b.nd = 0 := by rw [h2]; exact Gd.str.self _
  simp only [if_pos e1, if_pos e2, cmp_lt]
/-- A message put into its place. -/
def insM (l : List M) (m : M) : List M := l.takeWhile (fun x => bfM x m) ++ m :: l.dropWhile (fun x => bfM x m)
theorem insM_perm (l : List M) (m : M) : (insM l m).Perm (m :: l) := by
  unfold insM
  refine List.perm_middle.trans ?_
  rw [List.takeWhile_append_dropWhile]
theorem dw_not {l : List M} {p : M → Bool} {a : M} {r : List M} (h : l.dropWhile p = a :: r) : p a = false := by
  have := List.head?_dropWhile_not (p := p) (l := l)
  rw [h] at this
  simpa using this
theorem insM_ok {l : List M} {m : M} (h : l.Pairwise fun a b => kcmp a.key b.key ≤ 0) : (insM l m).Pairwise fun a b => kcmp a.key b.key ≤ 0 := by
  unfold insM
  have h0 : (l.takeWhile (fun x => bfM x m) ++ l.dropWhile (fun x => bfM x m)).Pairwise fun a b => kcmp a.key b.key ≤ 0 := by rw [List.takeWhile_append_dropWhile]; exact h
  rw [List.pairwise_append] at h0 ⊢
  obtain ⟨h1, h2, h3⟩ := h0
  have ht : ∀ a ∈ l.takeWhile (fun x => bfM x m), kcmp a.key m.key < 0 := fun a ha => by
    have := List.all_takeWhile (p := fun x => bfM x m) (l := l)
    rw [List.all_eq_true] at this
    have := this a ha
    unfold bfM at this
    simpa using this
  have hd : ∀ b ∈ l.dropWhile (fun x => bfM x m), kcmp m.key b.key ≤ 0 := fun b hb => by
    cases e : l.dropWhile (fun x => bfM x m) with
    | nil => rw [e] at hb; simp at hb
    | cons x r =>
      have hx := dw_not e
      unfold bfM at hx
      have hx' : ¬ kcmp x.key m.key < 0 := by simpa using hx
      have hmx : kcmp m.key x.key ≤ 0 := by
        rcases Gd.key.tot m.key x.key with q | q
        · exact q
        · rcases Int.lt_or_eq_of_le q with z | z
          · exact absurd z hx'
          · rw [Gd.key.zero _ _ z, Gd.key.self]; exact Int.le_refl _
      rw [e] at hb h2
      rcases List.mem_cons.1 hb with rfl | hb
      · exact hmx
      · exact Gd.key.tle hmx ((List.pairwise_cons.1 h2).1 b hb)
  refine ⟨h1, List.pairwise_cons.2 ⟨hd, h2⟩, fun a ha b hb => ?_⟩
  rcases List.mem_cons.1 hb with rfl | hb
  · exact Int.le_of_lt (ht a ha)
  · exact h3 a ha b hb
/-- Where the place is found. -/
theorem insM_at {l : List M} {m : M} {k : Nat} (hk : k ≤ l.length) (h1 : ∀ i (hi : i < l.length), i < k → bfM l[i] m = true) (h2 : ∀ hk : k < l.length, bfM l[k] m = false) : insM l m = l.take k ++ m :: l.drop k := by
  unfold insM
  obtain ⟨e1, e2⟩ := tw (p := fun x => bfM x m) (r := l) (k := k) hk (fun x hx => by
    obtain ⟨i, hi, rfl⟩ := List.getElem_of_mem hx
    simp only [List.length_take] at hi
    rw [List.getElem_take]; exact h1 i (by omega) (by omega)) (fun x hx => by
    obtain ⟨hk', rfl⟩ := List.getElem?_eq_some_iff.1 hx
    exact h2 hk')
  rw [e1, e2]
end Al
set_option maxRecDepth 100000 in
set_option maxHeartbeats 4000000 in
theorem rbef_any (a b : Al.M) (w : World) : Calls Tryz.prog 132 #[.agg a.enc.toArray, .agg b.enc.toArray] w fun e w' => e = .returned (.bool (Al.bfM a b)) ∧ Gr w w' := by
  by_cases h1 : a.tm = b.tm
  · by_cases h2 : a.nd = b.nd
    · rw [Al.bfM_nu h1 h2]
      unfold Al.M.enc
      cases a with | mk an au at_ aa al => cases b with | mk bn bu bt ba bl =>
      simp only [] at *
      subst h1; subst h2
      go_enter Tryz.func132, Tryz.ntmps132
      go_wp2_with fail
      all_goals (
        go_ret
        exact ⟨ret_bool (by first | rfl | (simp; omega)), gr_auto⟩)
    · rw [Al.bfM_nd h1 h2]
      unfold Al.M.enc
      cases a with | mk an au at_ aa al => cases b with | mk bn bu bt ba bl =>
      simp only [] at *
      have h3 : (an.toList == bn.toList) = false := beq_eq_false_iff_ne.2 fun e => h2 (Al.tl_inj e)
      subst h1
      clear h2
      go_enter Tryz.func132, Tryz.ntmps132
      go_wp2_with fail
      go_ret
      exact ⟨rfl, gr_auto⟩
  · rw [Al.bfM_tm h1]
    unfold Al.M.enc
    cases a with | mk an au at_ aa al => cases b with | mk bn bu bt ba bl =>
    simp only [] at *
    have h3 : (at_ == bt) = false := beq_eq_false_iff_ne.2 h1
    go_enter Tryz.func132, Tryz.ntmps132
    go_wp2_with fail
    all_goals (
      go_ret
      exact ⟨ret_bool (by first | rfl | (simp; omega)), gr_auto⟩)
end Go.Proofs.YtllkiadedaghoaaGreat
