/-
  slices.IndexFunc and slices.ContainsFunc, whatever the closure: the first element that has a property.
-/
import Derived.Test.YtajhhplgcegodaaGreatDoorInf01

set_option linter.unusedVariables false
set_option linter.unusedSimpArgs false
namespace Go.Proofs.YtajhhplgcegodaaGreatDoor
open Go.RowKit
theorem ret_bool {a b : Bool} (h : a = b) : Ending.returned (.bool a) = .returned (.bool b) := by rw [h]
namespace Ba
/-- The first index below n that has a property. -/
def fst (p : Nat → Bool) : Nat → Option Nat
  | 0 => none
  | k + 1 => match fst p k with
    | some i => some i
    | none => if p k then some k else none
def fstI (p : Nat → Bool) (n : Nat) : Int := match fst p n with
  | some i => (i : Int)
  | none => -1
theorem fst_hit {p : Nat → Bool} {i : Nat} (h : fst p i = none) (hp : p i = true) : ∀ k, fst p (i + 1 + k) = some i
  | 0 => by rw [Nat.add_zero, fst, h]; simp [hp]
  | k + 1 => by rw [show i + 1 + (k + 1) = i + 1 + k + 1 by omega, fst, fst_hit h hp k]
theorem fst_miss {p : Nat → Bool} {i : Nat} (h : fst p i = none) (hp : p i = false) : fst p (i + 1) = none := by rw [fst, h]; simp [hp]
theorem fstI_hit {p : Nat → Bool} {i n : Nat} (h : fst p i = none) (hp : p i = true) (hi : i < n) : fstI p n = (i : Int) := by
  unfold fstI
  rw [show n = i + 1 + (n - (i + 1)) by omega, fst_hit h hp]
theorem fstI_none {p : Nat → Bool} {n : Nat} (h : fst p n = none) : fstI p n = -1 := by unfold fstI; rw [h]
/-- Has one of them the property? -/
def any (p : Nat → Bool) (n : Nat) : Bool := (fst p n).isSome
theorem fstI_ge (p : Nat → Bool) (n : Nat) : decide (0 ≤ fstI p n) = any p n := by
  unfold fstI any
  cases e : fst p n with
  | none => simp
  | some i => simp
end Ba
set_option maxRecDepth 100000 in
set_option maxHeartbeats 1000000 in
theorem idx_ints (f : FuncId) (cap : Array Value) (A : Option Addr) (n c b o : Nat) (X : Nat → Int) (p : Nat → Bool) (w : World) (hn : n ≤ 9223372036854775807) (hen : ∀ args w, (callFunc f args).run Tryz.prog w = .ok (.enter f args) w)
    (hA : 0 < n → A = some ⟨b, o, none⟩) (hX : ∀ i, i < n → w.cell? ⟨b, o + i, none⟩ = some (.int .i64 (X i)))
    (hp : ∀ i, i < n → ∀ W, Gr w W → Calls Tryz.prog f (#[.int .i64 (X i)] ++ cap) W fun e w' => e = .returned (.bool (p i)) ∧ Gr W w') :
    Calls Tryz.prog 44 #[.slice A n c, .func (.func f) #[] cap] w fun e w' => e = .returned (.int .i64 (Ba.fstI p n)) ∧ Gr w w' := by
  have HA := Lib.hid hA; have HX := Lib.hid hX; have HP := Lib.hid hp
  clear hA hX hp
  go_enter Tryz.func44, Tryz.ntmps44
  go_wp2_with fail
  go_loopw [8] (fun s8 wr => ∃ i : Nat, i ≤ n ∧ s8 = .int .i64 (i : Int) ∧ Gr w wr ∧ Hid (Ba.fst p i = none)) (fun s8 _ => n - (intOf s8).toNat)
  case atStart => exact ⟨0, Nat.zero_le _, rfl, Gr.refl _, rfl⟩
  case round =>
    obtain ⟨i, hi, rfl, hg, hf⟩ := hrel
    by_cases hlt : i < n
    · obtain rfl := HA.out (by omega)
      have a0 := Gr.at hg (HX.out i hlt)
      have HC := Lib.hid (HP.out i hlt)
      cases hpi : p i
      · rw [hpi] at HC
        have HF := Lib.hid (Ba.fst_miss hf.out hpi)
        clear hpi hi
        go_wp2_with fail
        refine (HC.out _ gr_auto).mono ?_
        rintro e w1 ⟨rfl, hb1⟩
        go_wp2_with fail
        go_roundw
        case rel => exact ⟨i + 1, by omega, by go_num, gr_auto, HF⟩
        case measure => simp [intOf]; omega
      · rw [hpi] at HC
        have HF := Lib.hid (Ba.fstI_hit hf.out hpi hlt)
        clear hpi hi
        go_wp2_with fail
        refine (HC.out _ gr_auto).mono ?_
        rintro e w1 ⟨rfl, hb1⟩
        go_wp2_with fail
        go_ret
        exact ⟨ret_int HF.out.symm, gr_auto⟩
    · obtain rfl : i = n := by omega
      have HF := Lib.hid (Ba.fstI_none hf.out)
      go_wp2_with fail
      go_ret
      exact ⟨ret_int HF.out.symm, hg⟩
end Go.Proofs.YtajhhplgcegodaaGreatDoor
