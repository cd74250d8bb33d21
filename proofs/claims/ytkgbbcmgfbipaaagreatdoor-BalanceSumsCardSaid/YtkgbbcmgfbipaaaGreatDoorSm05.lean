/-
  The small tests of numbers: between, level, and the reference's position, level, within. (Printed by mksmall.py.)
-/
import Derived.Test.YtkgbbcmgfbipaaaGreatDoorSm04
import Derived.KernelRfl
set_option linter.unusedVariables false
set_option linter.unusedSimpArgs false
namespace Go.Proofs.YtkgbbcmgfbipaaaGreatDoor
open Go.RowKit
/-- A function with a body is entered. -/
theorem enter_of {P : Program} {f : FuncId} {fn : Func} (hf : P.funcs[f]? = some fn) (hn : (fn.name == "runtime.NumGoroutine") = false) (hb : fn.body.isNone = false) (args : Array Value) (w : World) :
    (callFunc f args).run P w = .ok (.enter f args) w := by
  have h1 : fn.name ≠ "runtime.NumGoroutine" := by simpa using hn
  have h2 : fn.body ≠ none := fun h => by rw [h] at hb; exact absurd hb (by decide)
  simp [callFunc, hf, h1, h2]
namespace Ba
def bet (x l h : Int) : Bool := decide (l ≤ x) && decide (x ≤ h)
theorem bet_iff (x l h : Int) : bet x l h = true ↔ l ≤ x ∧ x ≤ h := by unfold bet; simp only [Bool.and_eq_true, decide_eq_true_eq]
theorem any_one (p : Nat → Bool) : any p 1 = p 0 := by unfold any; simp only [fst]; cases h : p 0 <;> simp [h]
theorem any_two (p : Nat → Bool) : any p 2 = (p 0 || p 1) := by unfold any; simp only [fst]; cases h : p 0 <;> cases h1 : p 1 <;> simp [h, h1]
end Ba
set_option maxRecDepth 100000 in
theorem between_any (x l h : Int) (w : World) : Calls Tryz.prog 68 #[.int .i64 x, .int .i64 l, .int .i64 h] w fun e w' => e = .returned (.bool (Ba.bet x l h)) ∧ w = w' := by
  unfold Ba.bet
  cases t0 : decide (l ≤ x)
  · go_enter Tryz.func68, Tryz.ntmps68
    go_wp2
    go_ret
    exact ⟨rfl, rfl⟩
  · cases t1 : decide (x ≤ h)
    · go_enter Tryz.func68, Tryz.ntmps68
      go_wp2
      go_ret
      exact ⟨rfl, rfl⟩
    · go_enter Tryz.func68, Tryz.ntmps68
      go_wp2
      go_ret
      exact ⟨rfl, rfl⟩
set_option maxRecDepth 100000 in
theorem rposition_any (x : Int) (w : World) : Calls Tryz.prog 57 #[.int .i64 x] w fun e w' => e = .returned (.bool (Ba.bet x (-16777216) 16777216)) ∧ w = w' := by
  unfold Ba.bet
  cases t0 : decide ((-16777216) ≤ x)
  · go_enter Tryz.func57, Tryz.ntmps57
    go_wp2
    go_ret
    exact ⟨rfl, rfl⟩
  · cases t1 : decide (x ≤ 16777216)
    · go_enter Tryz.func57, Tryz.ntmps57
      go_wp2
      go_ret
      exact ⟨rfl, rfl⟩
    · go_enter Tryz.func57, Tryz.ntmps57
      go_wp2
      go_ret
      exact ⟨rfl, rfl⟩
set_option maxRecDepth 100000 in
theorem rlevel_any (x : Int) (w : World) : Calls Tryz.prog 58 #[.int .i64 x] w fun e w' => e = .returned (.bool (Ba.bet x (-4194304) 4194304)) ∧ w = w' := by
  unfold Ba.bet
  cases t0 : decide ((-4194304) ≤ x)
  · go_enter Tryz.func58, Tryz.ntmps58
    go_wp2
    go_ret
    exact ⟨rfl, rfl⟩
  · cases t1 : decide (x ≤ 4194304)
    · go_enter Tryz.func58, Tryz.ntmps58
      go_wp2
      go_ret
      exact ⟨rfl, rfl⟩
    · go_enter Tryz.func58, Tryz.ntmps58
      go_wp2
      go_ret
      exact ⟨rfl, rfl⟩
set_option maxRecDepth 100000 in
theorem rwithin_any (x h : Int) (w : World) : Calls Tryz.prog 60 #[.int .i64 x, .int .i64 h] w fun e w' => e = .returned (.bool (Ba.bet x 1 h)) ∧ w = w' := by
  unfold Ba.bet
  cases t0 : decide (1 ≤ x)
  · go_enter Tryz.func60, Tryz.ntmps60
    go_wp2
    go_ret
    exact ⟨rfl, rfl⟩
  · cases t1 : decide (x ≤ h)
    · go_enter Tryz.func60, Tryz.ntmps60
      go_wp2
      go_ret
      exact ⟨rfl, rfl⟩
    · go_enter Tryz.func60, Tryz.ntmps60
      go_wp2
      go_ret
      exact ⟨rfl, rfl⟩
set_option maxRecDepth 100000 in
theorem levelc_any (x : Int) (w : World) : Calls Tryz.prog 90 #[.int .i64 x] w fun e w' => e = .returned (.bool (!Ba.bet x (-4194304) 4194304)) ∧ w = w' := by
  have hb := Ba.bet_iff x (-4194304) 4194304
  cases e : Ba.bet x (-4194304) 4194304
  · rw [e] at hb
    have hb' := fun h => Bool.false_ne_true (hb.2 h)
    rcases Bool.eq_false_or_eq_true (decide (x < -4194304)) with t0 | t0
    · clear hb hb' e
      go_enter Tryz.func90, Tryz.ntmps90
      go_wp2
      go_ret
      exact ⟨rfl, rfl⟩
    · have t1 : decide (4194304 < x) = true := decide_eq_true (by have := of_decide_eq_false t0; apply Decidable.byContradiction; intro h; exact hb' ⟨by omega, by omega⟩)
      clear hb hb' e
      go_enter Tryz.func90, Tryz.ntmps90
      go_wp2
      go_ret
      exact ⟨rfl, rfl⟩
  · have hc := hb.1 e
    have t0 : decide (x < -4194304) = false := decide_eq_false (by omega)
    have t1 : decide (4194304 < x) = false := decide_eq_false (by omega)
    clear hb e hc
    go_enter Tryz.func90, Tryz.ntmps90
    go_wp2
    go_ret
    exact ⟨rfl, rfl⟩
theorem level_any (s : Ba.SlI) (w : World) (h : s.At w) : Calls Tryz.prog 69 #[.slice s.A s.n s.c] w fun e w' => e = .returned (.bool (!Ba.any (fun i => !Ba.bet (s.X i) (-4194304) 4194304) s.n)) ∧ Gr w w' := by
  have HI := Lib.hid (has_int 90 #[] s (fun i => !Ba.bet (s.X i) (-4194304) 4194304) w h (enter_of Tryz.func90 (by kernel_rfl) (by kernel_rfl)) fun i hi W hW => (levelc_any (s.X i) W).mono fun e w' ⟨he, hw⟩ => ⟨he, hw ▸ Gr.refl _⟩)
  clear h
  generalize Ba.any (fun i => !Ba.bet (s.X i) (-4194304) 4194304) s.n = q at *
  generalize s.A = A at *
  generalize s.n = n at *
  generalize s.c = c at *
  go_enter Tryz.func69, Tryz.ntmps69
  go_wp2_with fail
  refine HI.out.mono ?_
  rintro e w1 ⟨rfl, hb1⟩
  go_wp2
  go_ret
  exact ⟨rfl, hb1⟩
end Go.Proofs.YtkgbbcmgfbipaaaGreatDoor
