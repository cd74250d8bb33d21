/-
  Names of any size: decimal.IsName and the reference's.
  Runoff: plain words. (Printed by mkplain.py.)
-/
import Derived.Test.YtajhhplgcegodaaGreatDoorInf05
import Derived.KernelRfl
set_option linter.unusedVariables false
set_option linter.unusedSimpArgs false
namespace Go.Proofs.YtajhhplgcegodaaGreatDoor
open Go.RowKit
theorem Dc.isName_big (s : ByteArray) (h : 1000 < s.size) : Dc.isName s.data.toList = false := by
  unfold Dc.isName
  rw [show s.data.toList.length = s.size by simp, decide_eq_false (by omega : ¬ s.size ≤ 20)]
  simp
set_option maxRecDepth 100000 in
theorem isname_all (s : ByteArray) (w : World) (hm : s.size ≤ 9223372036854775807) : Calls Tryz.prog 76 #[.string s] w fun e w' => e = .returned (.bool (Dc.isName s.data.toList)) ∧ w = w' := by
  by_cases h : s.size ≤ 1000
  · exact isname_any s w h
  · rw [Dc.isName_big s (by omega)]
    have hE := empty_no s (by omega)
    have t1 : decide ((s.size : Int) ≤ 20) = false := decide_eq_false (by omega)
    clear h
    go_enter Tryz.func76, Tryz.ntmps76
    go_wp2_with fail
    go_ret
    exact ⟨rfl, rfl⟩
set_option maxRecDepth 100000 in
theorem risname_all (s : ByteArray) (w : World) (hm : s.size ≤ 9223372036854775807) : Calls Tryz.prog 40 #[.string s] w fun e w' => e = .returned (.bool (Dc.isName s.data.toList)) ∧ w = w' := by
  by_cases h : s.size ≤ 1000
  · exact risname_any s w h
  · rw [Dc.isName_big s (by omega)]
    have t0 : ((s.size : Int) == 0) = false := by rw [beq_eq_false_iff_ne]; omega
    have t1 : decide ((20 : Int) < (s.size : Int)) = true := decide_eq_true (by omega)
    clear h
    go_enter Tryz.func40, Tryz.ntmps40
    go_wp2_with fail
    go_ret
    exact ⟨rfl, rfl⟩
end Go.Proofs.YtajhhplgcegodaaGreatDoor
set_option linter.unusedVariables false
set_option linter.unusedSimpArgs false
namespace Go.Proofs.YtajhhplgcegodaaGreatDoor
open Go.RowKit
/-- A function with a body is entered. -/
theorem enter_of {P : Program} {f : FuncId} {fn : Func} (hf : P.funcs[f]? = some fn) (hn : (fn.name == "runtime.NumGoroutine") = false) (hb : fn.body.isNone = false) (args : Array Value) (w : World) :
    (callFunc f args).run P w = .ok (.enter f args) w := by
  have h1 : fn.name ≠ "runtime.NumGoroutine" := by simpa using hn
  have h2 : fn.body ≠ none := fun h => by rw [h] at hb; exact absurd hb (by decide)
  simp [callFunc, hf, h1, h2]
namespace Ba
def bet (x l h : Int) : Bool := decide (l ≤ x) && decide (x ≤ h)
theorem bet_iff (x l h : Int) : bet x l h = true ↔ l ≤ x ∧ x ≤ h := by unfold bet; simp only [Bool.and_eq_true, decide_eq_true_eq]
theorem any_iff (p : Nat → Bool) : ∀ n, any p n = true ↔ ∃ i, i < n ∧ p i = true
  | 0 => by simp [any, fst]
  | n + 1 => by
    have ih := any_iff p n
    unfold any at ih ⊢
    rw [fst]
    cases e : fst p n with
    | some k =>
      rw [e] at ih
      obtain ⟨i, hi, hp⟩ := ih.1 rfl
      simp only [Option.isSome_some, true_iff]
      exact ⟨i, by omega, hp⟩
    | none =>
      rw [e] at ih
      simp only [Option.isSome_none, Bool.false_eq_true, false_iff] at ih
      cases hp : p n
      · simp only [Bool.false_eq_true, if_false, Option.isSome_none, false_iff]
        rintro ⟨i, hi, h⟩
        by_cases e2 : i = n
        · subst e2; rw [hp] at h; cases h
        · exact ih ⟨i, by omega, h⟩
      · simp only [if_true, Option.isSome_some, true_iff]
        exact ⟨n, by omega, hp⟩
/-- Are two names the same? -/
def eqS (a b : ByteArray) : Bool := a.toList == b.toList
/-- All of them have the property. -/
def allB (p : Nat → Bool) : Nat → Bool
  | 0 => true
  | k + 1 => allB p k && p k
theorem allB_no {p : Nat → Bool} {k : Nat} (h : p k = false) : ∀ j, allB p (k + 1 + j) = false
  | 0 => by rw [Nat.add_zero, allB, h, Bool.and_false]
  | j + 1 => by rw [show k + 1 + (j + 1) = k + 1 + j + 1 by omega, allB, allB_no h j, Bool.false_and]
theorem allB_stop {p : Nat → Bool} {k n : Nat} (hk : k < n) (h : p k = false) : allB p n = false := by
  rw [show n = k + 1 + (n - (k + 1)) by omega]; exact allB_no h _
theorem allB_go {p : Nat → Bool} {k : Nat} (h : allB p k = true) (hk : p k = true) : allB p (k + 1) = true := by rw [allB, h, hk]; rfl
theorem allB_at {p : Nat → Bool} : ∀ {n k : Nat}, allB p n = true → k < n → p k = true
  | 0, _, _, h => by omega
  | n + 1, k, h, hk => by
    rw [allB, Bool.and_eq_true] at h
    by_cases e : k = n
    · subst e; exact h.2
    · exact allB_at h.1 (by omega)
theorem allB_iff {p : Nat → Bool} {n : Nat} : allB p n = true ↔ ∀ k, k < n → p k = true := by
  constructor
  · intro h k hk; exact allB_at h hk
  · induction n with
    | zero => intro _; rfl
    | succ n ih => intro h; rw [allB, Bool.and_eq_true]; exact ⟨ih fun k hk => h k (by omega), h n (by omega)⟩
theorem any_not {p : Nat → Bool} {n : Nat} : (!any (fun i => !p i) n) = allB p n := by
  rw [Bool.eq_iff_iff, allB_iff]
  have h := any_iff (fun i => !p i) n
  cases e : any (fun i => !p i) n
  · rw [e] at h
    simp only [Bool.not_false, true_iff]
    intro k hk
    cases hp : p k
    · exact absurd (h.2 ⟨k, hk, by simp [hp]⟩) Bool.false_ne_true
    · rfl
  · rw [e] at h
    obtain ⟨i, hi, hp⟩ := h.1 rfl
    simp only [Bool.not_true, Bool.false_eq_true, false_iff]
    intro h2
    have := h2 i hi
    simp [this] at hp
/-- The sum of the first numbers. -/
def sumI (X : Nat → Int) : Nat → Int
  | 0 => 0
  | k + 1 => sumI X k + X k
theorem sumI_le {X : Nat → Int} {lo hi : Int} : ∀ {n : Nat}, (∀ i, i < n → lo ≤ X i ∧ X i ≤ hi) → lo * n ≤ sumI X n ∧ sumI X n ≤ hi * n
  | 0, _ => by simp [sumI]
  | n + 1, h => by
    have a := sumI_le (n := n) fun i hi => h i (by omega)
    have b := h n (by omega)
    rw [sumI]
    constructor
    · rw [show lo * ((n + 1 : Nat) : Int) = lo * n + lo by push_cast; rw [Int.mul_add, Int.mul_one]]; omega
    · rw [show hi * ((n + 1 : Nat) : Int) = hi * n + hi by push_cast; rw [Int.mul_add, Int.mul_one]]; omega
theorem sumI_congr {X Y : Nat → Int} : ∀ {n : Nat}, (∀ i, i < n → X i = Y i) → sumI X n = sumI Y n
  | 0, _ => rfl
  | n + 1, h => by rw [sumI, sumI, sumI_congr fun i hi => h i (by omega), h n (by omega)]
theorem sumI_zero {X : Nat → Int} : ∀ {n : Nat}, (∀ i, i < n → X i = 0) → sumI X n = 0
  | 0, _ => rfl
  | n + 1, h => by rw [sumI, sumI_zero fun i hi => h i (by omega), h n (by omega)]; rfl
end Ba
end Go.Proofs.YtajhhplgcegodaaGreatDoor
