/-
  Alarms: the law AlarmsKinds. (Printed by mkams.py.)
  Alarms: closures that ask for an alarm. (Printed by mkamu.py.)
  Alarms: slices.Clone at alarms. Typed.
  Alarms: slices.DeleteFunc at a row of alarms that a call has made. Typed.
-/
import Derived.Test.YtllkiadedaghoaaGreatCb26
import Derived.Test.YtllkiadedaghoaaGreatCm43
import Derived.Test.YtllkiadedaghoaaGreatCb27
import Derived.Test.YtllkiadedaghoaaGreatCb22
import Derived.Test.YtllkiadedaghoaaGreatCb18
import Derived.Test.YtllkiadedaghoaaGreatCm11
import Derived.Test.YtllkiadedaghoaaGreatCb24
import Derived.Test.YtllkiadedaghoaaGreatCb17
import Derived.Shelf.SlicesE.Clone
import Derived.Deep.CutBlock
import Derived.Lib.SliceRun
set_option linter.unusedVariables false
set_option linter.unusedSimpArgs false
namespace Go.Proofs.YtllkiadedaghoaaGreat
open Go.RowKit Go.Shelf Go.Sort
attribute [local go_sem ↓] Go.wp_at_zero Go.wp_at_succ
namespace Al
theorem RetAe.nil {k : Int} {w w' : World} {e : Ending} (h : RetAe [] k w e w') : ∃ A c, e = .returned (.tuple #[.slice A 0 c, .int .i64 k]) ∧ Gr w w' := by
  obtain ⟨r, rfl, -, hc, hg⟩ := h
  have : r.n = 0 := by rw [← r.con_len, hc]; rfl
  exact ⟨r.A, r.c, by unfold SlA.val; rw [this], hg⟩
theorem RetAe.at {X : List C} {k : Int} {w w' : World} {e : Ending} (h : RetAe X k w e w') : ∃ r : SlA, e = .returned (.tuple #[.slice r.A r.n r.c, .int .i64 k]) ∧ r.At w' ∧ r.con = X ∧ Gr w w' := h
theorem RetAl.at {X : List C} {w w' : World} {e : Ending} (h : RetAl X w e w') : ∃ r : SlA, e = .returned (.slice r.A r.n r.c) ∧ r.At w' ∧ r.con = X ∧ Gr w w' := h
theorem RetAl.own {X : List C} {w w' : World} {b : Nat} {e : Ending} (h : ∃ v d, e = .returned v ∧ OwnA w' b v d ∧ d.map A.con = X ∧ Gr w w') : RetAl X w e w' := by
  obtain ⟨v, d, rfl, ho, hc, hg⟩ := h
  obtain ⟨r, hr, hr1, hr2⟩ := ho.sl
  exact ⟨r, by rw [hr]; try rfl, hr1, hr2.trans hc, hg⟩
end Al
theorem same_yes (r t : Al.SlA) (w : World) (hr : r.At w) (ht : t.At w) (h : r.con = t.con) : Calls Tryz.prog 15 #[.slice r.A r.n r.c, .slice t.A t.n t.c] w fun e w' => e = .returned (.bool true) ∧ Gr w w' := by
  have := rsameA_any r t w hr.rd ht.rd
  rw [Al.samB_iff.2 h] at this
  exact this
end Go.Proofs.YtllkiadedaghoaaGreat
set_option linter.unusedVariables false
set_option linter.unusedSimpArgs false
namespace Go.Proofs.YtllkiadedaghoaaGreat
open Go.RowKit Go.Shelf Go.Sort
attribute [local go_sem ↓] Go.wp_at_zero Go.wp_at_succ
namespace Al
/-- One alarm as a slice. -/
def one (B : Nat) (a : A) : SlA := ⟨some ⟨B, 0, none⟩, 1, 1, B, 0, fun _ => a⟩
end Al
end Go.Proofs.YtllkiadedaghoaaGreat
set_option linter.unusedVariables false
set_option linter.unusedSimpArgs false
namespace Go.Proofs.YtllkiadedaghoaaGreat
open Go.RowKit Go.Shelf Go.Sort
attribute [local go_sem ↓] Go.wp_at_zero Go.wp_at_succ
def Al.SlA.lst (s : SlA) : List Al.A := (List.range s.n).map s.D
theorem Al.SlA.lst_len (s : SlA) : s.lst.length = s.n := by simp [SlA.lst]
end Go.Proofs.YtllkiadedaghoaaGreat
set_option linter.unusedVariables false
set_option linter.unusedSimpArgs false
namespace Go.Proofs.YtllkiadedaghoaaGreat
open Go.RowKit Go.Shelf Go.Sort
attribute [local go_sem ↓] Go.wp_at_zero Go.wp_at_succ
theorem GrX.trans {R : Nat} {a b c : World} (h : GrX R a b) (k : GrX R b c) : GrX R a c :=
  ⟨k.os.trans h.os, k.tape.trans h.tape, k.output.trans h.output, Nat.le_trans h.size k.size, fun i hi hR => (k.block i (Nat.lt_of_lt_of_le hi h.size) hR).trans (h.block i hi hR), fun o ho => k.row o (h.row o ho), fun o ho => (k.free o (h.row o ho)).trans (h.free o ho)⟩
namespace Al
/-- An alarm in a block of alarms; its cells may be written. -/
def R4 (w : World) (b i : Nat) (a : A) : Prop := Go.Proofs.YtllkiadedaghoaaGreat.Own w b (i * 4) (.int .i64 a.kd) ∧ Go.Proofs.YtllkiadedaghoaaGreat.Own w b (i * 4 + 1) (.string a.nd) ∧ Go.Proofs.YtllkiadedaghoaaGreat.Own w b (i * 4 + 2) (.int .i64 a.tm) ∧ Go.Proofs.YtllkiadedaghoaaGreat.Own w b (i * 4 + 3) (.slice a.p a.n a.c)
theorem R4.gr {w w' : World} {b i : Nat} {a : A} (h : R4 w b i a) (g : Gr w w') : R4 w' b i a := ⟨h.1.gr g, h.2.1.gr g, h.2.2.1.gr g, h.2.2.2.gr g⟩
/-- A row of n alarms. -/
def Rw (w : World) (b n : Nat) (F : Nat → A) : Prop := ∀ t, t < n → R4 w b t (F t)
theorem Rw.gr {w w' : World} {b n : Nat} {F : Nat → A} (h : Rw w b n F) (g : Gr w w') : Rw w' b n F := fun t ht => (h t ht).gr g
/-- One alarm is written. -/
def st4 (w : World) (b i : Nat) (a : A) : World := (((w.setCell ⟨b, i * 4, none⟩ (.int .i64 a.kd)).setCell ⟨b, i * 4 + 1, none⟩ (.string a.nd)).setCell ⟨b, i * 4 + 2, none⟩ (.int .i64 a.tm)).setCell ⟨b, i * 4 + 3, none⟩ (.slice a.p a.n a.c)
theorem st4_other {w : World} {b i o : Nat} {a : A} {u : Value} (h : Go.Proofs.YtllkiadedaghoaaGreat.Own w b o u) (h0 : o ≠ i * 4) (h1 : o ≠ i * 4 + 1) (h2 : o ≠ i * 4 + 2) (h3 : o ≠ i * 4 + 3) : Go.Proofs.YtllkiadedaghoaaGreat.Own (st4 w b i a) b o u :=
  Own.other (Own.other (Own.other (Own.other h (Or.inr h0)) (Or.inr h1)) (Or.inr h2)) (Or.inr h3)
theorem Rw.put {w : World} {b n i : Nat} {F : Nat → A} {a : A} (h : Rw w b n F) (hi : i < n) : Rw (st4 w b i a) b n (fun t => if t = i then a else F t) := by
  intro t ht
  by_cases q : t = i
  · subst q
    simp only [if_pos]
    obtain ⟨h0, h1, h2, h3⟩ := h t ht
    exact ⟨Own.other (Own.other (Own.other (Own.set h0) (Or.inr (by omega))) (Or.inr (by omega))) (Or.inr (by omega)), Own.other (Own.other (Own.set (Own.other h1 (Or.inr (by omega)))) (Or.inr (by omega))) (Or.inr (by omega)), Own.other (Own.set (Own.other (Own.other h2 (Or.inr (by omega))) (Or.inr (by omega)))) (Or.inr (by omega)), Own.set (Own.other (Own.other (Own.other h3 (Or.inr (by omega))) (Or.inr (by omega))) (Or.inr (by omega)))⟩
  · simp only [if_neg q]
    obtain ⟨h0, h1, h2, h3⟩ := h t ht
    exact ⟨st4_other h0 (by omega) (by omega) (by omega) (by omega), st4_other h1 (by omega) (by omega) (by omega) (by omega), st4_other h2 (by omega) (by omega) (by omega) (by omega), st4_other h3 (by omega) (by omega) (by omega) (by omega)⟩
/-- The loop of DeleteFunc: of the first j alarms those that stay stand first. -/
structure DfS (p : A → Bool) (D : Nat → A) (n i j : Nat) (F : Nat → A) : Prop where
  lt : i < j
  le : j ≤ n
  fl : (List.range i).map F = ((List.range j).map D).filter fun a => !p a
  rest : ∀ t, j ≤ t → t < n → F t = D t
  from' : ∀ t, t < n → ∃ s, s < n ∧ F t = D s
theorem DfS.start {p : A → Bool} {D : Nat → A} {n i : Nat} (hi : i < n) (h : p (D i) = true) (hno : ∀ t, t < i → p (D t) = false) : DfS p D n i (i + 1) D :=
  ⟨by omega, by omega, by
    rw [List.range_succ, List.map_append, List.filter_append, List.filter_eq_self.2 fun a ha => by
      obtain ⟨t, ht, rfl⟩ := List.mem_map.1 ha
      rw [hno t (List.mem_range.1 ht)]; rfl]
    simp [h], fun _ _ _ => rfl, fun t ht => ⟨t, ht, rfl⟩⟩
theorem DfS.skip {p : A → Bool} {D : Nat → A} {n i j : Nat} {F : Nat → A} (h : DfS p D n i j F) (hj : j < n) (hp : p (D j) = true) : DfS p D n i (j + 1) F :=
  ⟨by have := h.lt; omega, by omega, by rw [h.fl, List.range_succ, List.map_append, List.filter_append]; simp [hp], fun t h1 h2 => h.rest t (by omega) h2, h.from'⟩
theorem DfS.put {p : A → Bool} {D : Nat → A} {n i j : Nat} {F : Nat → A} (h : DfS p D n i j F) (hj : j < n) (hp : p (D j) = false) : DfS p D n (i + 1) (j + 1) (fun t => if t = i then D j else F t) := by
  have hlt := h.lt
  refine ⟨by omega, by omega, ?_, fun t h1 h2 => by rw [if_neg (by omega)]; exact h.rest t (by omega) h2, fun t ht => ?_⟩
  · rw [List.range_succ, List.map_append, List.range_succ, List.map_append, List.filter_append, ← h.fl]
    congr 1
    · refine List.map_congr_left fun t ht => ?_
      rw [if_neg (by have := List.mem_range.1 ht; omega)]
    · simp [hp]
  · by_cases q : t = i
    · rw [if_pos q]; exact ⟨j, hj, rfl⟩
    · rw [if_neg q]; exact h.from' t ht
end Al
theorem Al.OwnA.len {w : World} {b : Nat} {v : Value} {l : List Al.A} (h : Al.OwnA w b v l) : ∃ A c, v = .slice A l.length c := by
  rcases h.open with ⟨rfl, rfl⟩ | ⟨g, c, cur, rfl, -⟩
  · exact ⟨none, 0, rfl⟩
  · exact ⟨_, c, rfl⟩
end Go.Proofs.YtllkiadedaghoaaGreat
