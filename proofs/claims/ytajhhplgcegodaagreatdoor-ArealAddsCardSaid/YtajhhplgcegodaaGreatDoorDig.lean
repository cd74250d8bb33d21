/-
  Decimal digits, plainly: the last k digits of a number; the text of a number with zeros ahead. No program here.
-/
import Derived.WalkKit
import Derived.Lib.ItoaNum
set_option linter.unusedVariables false
set_option linter.unusedSimpArgs false
namespace Go.Proofs.YtajhhplgcegodaaGreatDoor
namespace Dg
/-- The last k digits. -/
def pd (n : Nat) : Nat → List UInt8
  | 0 => []
  | k + 1 => pd (n / 10) k ++ [UInt8.ofNat (48 + n % 10)]
theorem pd_len : ∀ (k n : Nat), (pd n k).length = k
  | 0, _ => rfl
  | k + 1, n => by rw [pd, List.length_append, pd_len k]; rfl
theorem pd_cons : ∀ (k n : Nat), pd n (k + 1) = UInt8.ofNat (48 + n / 10 ^ k % 10) :: pd n k
  | 0, n => by simp [pd]
  | k + 1, n => by
    rw [pd, pd_cons k (n / 10), pd, List.cons_append, Nat.div_div_eq_div_mul, Nat.pow_succ, Nat.mul_comm]
theorem nDigits_lt : ∀ n : Nat, n < 10 ^ Lib.nDigits n := by
  intro n
  induction n using Nat.strongRecOn with
  | ind n ih =>
    rw [Lib.nDigits]
    split
    · omega
    · have := ih (n / 10) (by omega)
      rw [Nat.pow_succ]
      have := (Nat.div_lt_iff_lt_mul (by omega : 0 < 10)).1 this
      omega
theorem nDigits_pos (n : Nat) : 1 ≤ Lib.nDigits n := by rw [Lib.nDigits]; split <;> omega
theorem dec_pd : ∀ n : Nat, Lib.decDigits n = pd n (Lib.nDigits n) := by
  intro n
  induction n using Nat.strongRecOn with
  | ind n ih =>
    rw [Lib.decDigits, Lib.nDigits]
    split
    · rename_i h; rw [pd, pd, List.nil_append, Nat.mod_eq_of_lt h]
    · rw [ih (n / 10) (by omega), pd]
theorem pd_zeros : ∀ (j k n : Nat), n < 10 ^ k → pd n (k + j) = List.replicate j 48 ++ pd n k
  | 0, k, n, _ => by simp
  | j + 1, k, n, h => by
    rw [← Nat.add_assoc, pd_cons, pd_zeros j k n h, List.replicate_succ, List.cons_append]
    have : n / 10 ^ (k + j) = 0 := Nat.div_eq_of_lt (Nat.lt_of_lt_of_le h (Nat.pow_le_pow_right (by omega) (by omega)))
    rw [this]; rfl
/-- The digits of a number, zeros ahead, at least c of them. -/
def dig (n c : Nat) : List UInt8 := List.replicate (c - (Lib.decDigits n).length) 48 ++ Lib.decDigits n
theorem dig_pd (n c : Nat) : dig n c = pd n (max c (Lib.nDigits n)) := by
  unfold dig
  rw [Lib.decDigits_length, dec_pd, ← pd_zeros _ _ _ (nDigits_lt n)]
  congr 1; omega
theorem dig_len (n c : Nat) : (dig n c).length = max c (Lib.nDigits n) := by rw [dig_pd, pd_len]
theorem nDigits_le : ∀ {c n : Nat}, 1 ≤ c → n < 10 ^ c → Lib.nDigits n ≤ c
  | 0, _, h, _ => by omega
  | 1, n, _, h => by rw [Lib.nDigits, dif_pos (by simpa using h)]; omega
  | c + 2, n, _, h => by
    rw [Lib.nDigits]
    split
    · omega
    · have := nDigits_le (c := c + 1) (n := n / 10) (by omega) (by rw [Nat.div_lt_iff_lt_mul (by omega)]; rw [Nat.pow_succ] at h; omega); omega
theorem dig_pad {n c : Nat} (h : n < 10 ^ c) (hc : 1 ≤ c) : dig n c = pd n c := by
  rw [dig_pd]
  have : Lib.nDigits n ≤ c := nDigits_le hc h
  rw [Nat.max_eq_left this]
/-- The number that digits stand for. -/
def val (l : List UInt8) : Nat := l.foldl (fun a c => 10 * a + (c.toNat - 48)) 0
theorem val_snoc (l : List UInt8) (c : UInt8) : val (l ++ [c]) = 10 * val l + (c.toNat - 48) := by unfold val; rw [List.foldl_append]; rfl
theorem dig_byte (n : Nat) : (UInt8.ofNat (48 + n % 10)).toNat = 48 + n % 10 := by
  rw [UInt8.toNat_ofNat']; omega
theorem val_pd : ∀ (k n : Nat), val (pd n k) = n % 10 ^ k
  | 0, n => by simp [pd, val, Nat.mod_one]
  | k + 1, n => by
    rw [pd, val_snoc, val_pd k, dig_byte]
    rw [Nat.pow_succ, Nat.mul_comm (10 ^ k) 10, Nat.mod_mul]
    omega
theorem val_dec (n : Nat) : val (Lib.decDigits n) = n := by rw [dec_pd, val_pd]; exact Nat.mod_eq_of_lt (nDigits_lt n)
theorem dec_inj {a b : Nat} (h : Lib.decDigits a = Lib.decDigits b) : a = b := by rw [← val_dec a, h, val_dec]
theorem pd_inj {k a b : Nat} (ha : a < 10 ^ k) (hb : b < 10 ^ k) (h : pd a k = pd b k) : a = b := by
  have := congrArg val h; rw [val_pd, val_pd, Nat.mod_eq_of_lt ha, Nat.mod_eq_of_lt hb] at this; exact this
/-- All digits are digits. -/
theorem pd_digit : ∀ (k n : Nat), ∀ c ∈ pd n k, 48 ≤ c.toNat ∧ c.toNat ≤ 57
  | 0, _, c, h => by cases h
  | k + 1, n, c, h => by
    rw [pd, List.mem_append] at h
    rcases h with h | h
    · exact pd_digit k _ c h
    · rw [List.mem_singleton] at h; subst h; rw [dig_byte]; omega
end Dg
end Go.Proofs.YtajhhplgcegodaaGreatDoor
