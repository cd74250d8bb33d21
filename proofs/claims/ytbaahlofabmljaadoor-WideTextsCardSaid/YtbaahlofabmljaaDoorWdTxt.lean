/-
  The text of a wide number, and the reference's root, plainly. No program here.
-/
import Derived.Test.YtbaahlofabmljaaDoorDig
import Derived.Test.YtbaahlofabmljaaDoorWdUse
set_option linter.unusedVariables false
set_option linter.unusedSimpArgs false
namespace Go.Proofs.YtbaahlofabmljaaDoor
namespace Dg
theorem dec_step {n : Nat} (h : ¬ n < 10) : Lib.decDigits n = Lib.decDigits (n / 10) ++ [UInt8.ofNat (48 + n % 10)] := by
  rw [Lib.decDigits, dif_neg h]
theorem dec_split : ∀ (c n : Nat), 10 ^ c ≤ n → Lib.decDigits n = Lib.decDigits (n / 10 ^ c) ++ pd n c
  | 0, n, _ => by simp [pd]
  | c + 1, n, h => by
    have h1 : 10 * 10 ^ c ≤ n := by rw [Nat.pow_succ, Nat.mul_comm] at h; exact h
    have hp : 0 < 10 ^ c := Nat.pow_pos (by omega)
    have h10 : ¬ n < 10 := by omega
    rw [dec_step h10, dec_split c (n / 10) (by rw [Nat.le_div_iff_mul_le (by omega)]; omega), pd, List.append_assoc, Nat.div_div_eq_div_mul, Nat.pow_succ, Nat.mul_comm]
theorem pd_mod : ∀ (c n : Nat), pd (n % 10 ^ c) c = pd n c
  | 0, n => rfl
  | c + 1, n => by
    have e1 : n % 10 ^ (c + 1) / 10 = n / 10 % 10 ^ c := by rw [Nat.pow_succ, Nat.mul_comm, Nat.mod_mul_right_div_self]
    have e2 : n % 10 ^ (c + 1) % 10 = n % 10 := Nat.mod_mod_of_dvd n (by rw [Nat.pow_succ]; exact Nat.dvd_mul_left _ _)
    rw [pd, pd, e1, e2, pd_mod c]
/-- A group. -/
def grp : Nat := 1000000000000000000
theorem grp_eq : grp = 10 ^ 18 := by decide
theorem txt_step {m : Nat} (h : grp ≤ m) : Lib.decDigits m = Lib.decDigits (m / grp) ++ dig (m % grp) 18 := by
  rw [grp_eq] at h ⊢
  rw [dec_split 18 m h, dig_pad (Nat.mod_lt _ (Nat.pow_pos (by omega))) (by omega), pd_mod]
/-- The groups of a number, from the least on. -/
def gAt (n i : Nat) : Nat := n / grp ^ i % grp
/-- What is written when the groups from j on are, of k. -/
def tx (n k j : Nat) : List UInt8 := if j = k then [] else Lib.decDigits (n / grp ^ j)
theorem tx_step {n k j : Nat} (hj : j + 1 < k) (hk : 1 ≤ n / grp ^ (k - 1)) : tx n k j = tx n k (j + 1) ++ dig (gAt n j) 18 := by
  have hp : 0 < grp := by decide
  have e : n / grp ^ j / grp = n / grp ^ (j + 1) := by rw [Nat.div_div_eq_div_mul, Nat.pow_succ]
  have h1 : 1 ≤ n / grp ^ (j + 1) := by
    have : grp ^ (k - 1) ≤ n := by rw [Nat.le_div_iff_mul_le (Nat.pow_pos hp)] at hk; omega
    have h2 : grp ^ (j + 1) ≤ grp ^ (k - 1) := Nat.pow_le_pow_right hp (by omega)
    rw [Nat.le_div_iff_mul_le (Nat.pow_pos hp)]; omega
  have h2 : grp ≤ n / grp ^ j := by
    rw [← e, Nat.le_div_iff_mul_le hp] at h1; omega
  unfold tx gAt
  rw [if_neg (by omega), if_neg (by omega), txt_step h2, e]
theorem tx_top {n k j : Nat} (hj : j + 1 = k) (hk : n / grp ^ k = 0) : tx n k j = Lib.decDigits (gAt n j) := by
  have hp : 0 < grp := by decide
  unfold tx gAt
  rw [if_neg (by omega)]
  have : n / grp ^ j < grp := by
    subst hj
    rw [Nat.pow_succ, ← Nat.div_div_eq_div_mul] at hk
    exact Nat.lt_of_div_eq_zero hp hk
  rw [Nat.mod_eq_of_lt this]
theorem tx_all {n k : Nat} (hk : k ≠ 0) : tx n k 0 = Lib.decDigits n := by unfold tx; rw [if_neg (by omega), Nat.pow_zero, Nat.div_one]
theorem gAt_lt (n i : Nat) : gAt n i < 1000000000000000000 := Nat.mod_lt _ (by decide)
end Dg
namespace Wd
/-- The text. -/
def txt (v : Int) : List UInt8 := (if v < 0 then [45] else []) ++ Lib.decDigits (mag v).toNat
def RInvB (k : Nat) (v r : Int) : Prop := 0 ≤ r ∧ r + 2 ^ k ≤ 9223372036854775808 ∧ r * r ≤ v ∧ v < (r + 2 ^ k) * (r + 2 ^ k)
theorem rinvB_step {k : Nat} {v r : Int} (h : RInvB (k + 1) v r) : (if (r + 2 ^ k) * (r + 2 ^ k) ≤ v then RInvB k v (r + 2 ^ k) else RInvB k v r) := by
  obtain ⟨a, c, d, e⟩ := h
  have p := two_pos k
  rw [Int.pow_succ] at c e
  split
  · rename_i g
    refine ⟨by omega, by omega, g, ?_⟩
    have : r + 2 ^ k + 2 ^ k = r + 2 ^ k * 2 := by omega
    rw [this]; exact e
  · rename_i g
    exact ⟨a, by omega, d, by omega⟩
theorem rinvB_start {v : Int} (h0 : 0 ≤ v) (h1 : v ≤ 1329227995784915872903807060280344575) : RInvB 63 v 0 := by
  refine ⟨by omega, by decide, by omega, ?_⟩
  have : (0 + 2 ^ 63 : Int) * (0 + 2 ^ 63) = 85070591730234615865843651857942052864 := by decide
  rw [this]; omega
theorem rinvB_end {v r : Int} (h : RInvB 0 v r) (h1 : v ≤ 1329227995784915872903807060280344575) : r = root v := by
  obtain ⟨a, c, d, e⟩ := h
  have p1 : (2 : Int) ^ 0 = 1 := rfl
  rw [p1] at c e
  exact (root_uniq a d e h1).symm
end Wd
end Go.Proofs.YtbaahlofabmljaaDoor
