/-
  Decimal digits, plainly: the last k digits of a number; the text of a number with zeros ahead. No program here.
-/
import Derived.WalkKit
import Derived.Lib.ItoaNum
set_option linter.unusedVariables false
set_option linter.unusedSimpArgs false
namespace Go.Proofs.YtajhhplgcegodaaGreatDoor
namespace Dg
/-- The last k digits. -/
def pd (n : Nat) : Nat → List UInt8
  | 0 => []
  | k + 1 => pd (n / 10) k ++ [UInt8.ofNat (48 + n % 10)]
theorem pd_len : ∀ (k n : Nat), (pd n k).length = k
  | 0, _ => rfl
  | k + 1, n => by rw [pd, List.length_append, pd_len k]; rfl
theorem pd_cons : ∀ (k n : Nat), pd n (k + 1) = UInt8.ofNat (48 + n / 10 ^ k % 10) :: pd n k
  | 0, n => by simp [pd]
  | k + 1, n => by
    rw [pd, pd_cons k (n / 10), pd, List.cons_append, Nat.div_div_eq_div_mul, Nat.pow_succ, Nat.mul_comm]
theorem nDigits_lt : ∀ n : Nat, n < 10 ^ Lib.nDigits n := by
  intro n
  induction n using Nat.strongRecOn with
  | ind n ih =>
    rw [Lib.nDigits]
    split
    · omega
    · have := ih (n / 10) (by omega)
      rw [Nat.pow_succ]
      have := (Nat.div_lt_iff_lt_mul (by omega : 0 < 10)).1 this
      omega
theorem nDigits_pos (n : Nat) : 1 ≤ Lib.nDigits n := by rw [Lib.nDigits]; split <;> omega
theorem dec_pd : ∀ n : Nat, Lib.decDigits n = pd n (Lib.nDigits n) := by
  intro n
  induction n using Nat.strongRecOn with
  | ind n ih =>
    rw [Lib.decDigits, Lib.nDigits]
    split
    · rename_i h; rw [pd, pd, List.nil_append, Nat.mod_eq_of_lt h]
    · rw [ih (n / 10) (by omega), pd]
/-- The digits of a number, zeros ahead, at least c of them. -/
def dig (n c : Nat) : List UInt8 := List.replicate (c - (Lib.decDigits n).length) 48 ++ Lib.decDigits n
theorem nDigits_le : ∀ {c n : Nat}, 1 ≤ c → n < 10 ^ c → Lib.nDigits n ≤ c
  | 0, _, h, _ => by omega
  | 1, n, _, h => by rw [Lib.nDigits, dif_pos (by simpa using h)]; omega
  | c + 2, n, _, h => by
    rw [Lib.nDigits]
    split
    · omega
    · have := nDigits_le (c := c + 1) (n := n / 10) (by omega) (by rw [Nat.div_lt_iff_lt_mul (by omega)]; rw [Nat.pow_succ] at h; omega); omega
/-- The number that digits stand for. -/
def val (l : List UInt8) : Nat := l.foldl (fun a c => 10 * a + (c.toNat - 48)) 0
end Dg
end Go.Proofs.YtajhhplgcegodaaGreatDoor
