/-
  Texts of wide numbers, plainly: sign, digits, and that they tell the numbers apart. No program here.
-/
import Derived.Test.YtbaahlofabmljaaDoorWdText
import Derived.Lib.SlTrimSet
set_option linter.unusedVariables false
set_option linter.unusedSimpArgs false
namespace Go.Proofs.YtbaahlofabmljaaDoor
namespace Wd
theorem dec_digit {n : Nat} {c : UInt8} (h : c ∈ Lib.decDigits n) : 48 ≤ c.toNat ∧ c.toNat ≤ 57 := by
  rw [Dg.dec_pd] at h; exact Dg.pd_digit _ _ c h
theorem dec_ne (n : Nat) : Lib.decDigits n ≠ [] := by
  intro h
  have := congrArg List.length h
  rw [Lib.decDigits_length] at this
  have := Dg.nDigits_pos n
  simp at *; omega
theorem dec_head {n : Nat} (h : n ≠ 0) : ((Lib.decDigits n).getD 0 0).toNat ≠ 48 := by
  rw [Dg.dec_pd]
  obtain ⟨k, hk⟩ : ∃ k, Lib.nDigits n = k + 1 := ⟨Lib.nDigits n - 1, by have := Dg.nDigits_pos n; omega⟩
  have h1 := Dg.nDigits_ge n (by omega)
  have h2 := Dg.nDigits_lt n
  rw [hk] at h1 h2 ⊢
  rw [Nat.add_sub_cancel] at h1
  rw [Dg.pd_cons]
  show (UInt8.ofNat (48 + n / 10 ^ k % 10)).toNat ≠ 48
  rw [Dg.dig_byte]
  have hp : 0 < 10 ^ k := Nat.pow_pos (by omega)
  have h3 : 1 ≤ n / 10 ^ k := (Nat.le_div_iff_mul_le hp).2 (by omega)
  have h4 : n / 10 ^ k < 10 := (Nat.div_lt_iff_lt_mul hp).2 (by rw [Nat.pow_succ, Nat.mul_comm] at h2; exact h2)
  omega
def nums : List UInt8 := [48, 49, 50, 51, 52, 53, 54, 55, 56, 57]
theorem nums_all {c : UInt8} (h : 48 ≤ c.toNat ∧ c.toNat ≤ 57) : nums.contains c = true := by
  have : c = UInt8.ofNat c.toNat := by simp
  rw [this]
  generalize c.toNat = n at *
  have : n = 48 ∨ n = 49 ∨ n = 50 ∨ n = 51 ∨ n = 52 ∨ n = 53 ∨ n = 54 ∨ n = 55 ∨ n = 56 ∨ n = 57 := by omega
  rcases this with rfl | rfl | rfl | rfl | rfl | rfl | rfl | rfl | rfl | rfl <;> decide
theorem drop_all {p : UInt8 → Bool} : ∀ l : List UInt8, (∀ c ∈ l, p c = true) → l.dropWhile p = []
  | [], _ => rfl
  | c :: l, h => by rw [List.dropWhile_cons_of_pos (h c (by simp))]; exact drop_all l fun x hx => h x (by simp [hx])
theorem trim_dec (n : Nat) : Lib.trimS (Lib.decDigits n) nums = [] := by
  unfold Lib.trimS Lib.trimRightS Lib.trimLeftS
  rw [drop_all (Lib.decDigits n).reverse fun c hc => nums_all (dec_digit (by simpa using hc))]
  rfl
theorem txt_neg {v : Int} (h : v < 0) : txt v = 45 :: Lib.decDigits (mag v).toNat := by unfold txt; rw [if_pos h]; rfl
theorem txt_pos {v : Int} (h : ¬ v < 0) : txt v = Lib.decDigits (mag v).toNat := by unfold txt; rw [if_neg h]; rfl
theorem pre_dec (n : Nat) : Lib.trimPrefix (Lib.decDigits n) [45] = Lib.decDigits n := by
  unfold Lib.trimPrefix
  rw [if_neg]
  intro h
  unfold Lib.hasPrefix at h
  cases e : Lib.decDigits n with
  | nil => exact dec_ne n e
  | cons c l =>
    rw [e] at h
    have hc := dec_digit (n := n) (c := c) (by rw [e]; simp)
    simp [List.isPrefixOf] at h
    subst h
    exact absurd hc.1 (by decide)
theorem pre_neg (n : Nat) : Lib.trimPrefix (45 :: Lib.decDigits n) [45] = Lib.decDigits n := by
  unfold Lib.trimPrefix
  rw [if_pos (by simp [Lib.hasPrefix, List.isPrefixOf])]; rfl
theorem txt_inj {a b : Int} (h : txt a = txt b) : a = b := by
  have no : ∀ n m : Nat, (45 : UInt8) :: Lib.decDigits n ≠ Lib.decDigits m := fun n m e => by
    have hc := dec_digit (n := m) (c := 45) (by rw [← e]; simp)
    exact absurd hc.1 (by decide)
  have ma := mag_nonneg a; have mb := mag_nonneg b
  by_cases ha : a < 0
  · by_cases hb : b < 0
    · rw [txt_neg ha, txt_neg hb] at h
      injection h with _ h
      have := Dg.dec_inj h
      have e1 := mag_of_neg ha; have e2 := mag_of_neg hb
      omega
    · rw [txt_neg ha, txt_pos hb] at h; exact absurd h (no _ _)
  · by_cases hb : b < 0
    · rw [txt_pos ha, txt_neg hb] at h; exact absurd h.symm (no _ _)
    · rw [txt_pos ha, txt_pos hb] at h
      have := Dg.dec_inj h
      have e1 := mag_of_nonneg (v := a) (by omega); have e2 := mag_of_nonneg (v := b) (by omega)
      omega
end Wd
end Go.Proofs.YtbaahlofabmljaaDoor
