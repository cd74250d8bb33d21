/-
  Plain reading of a text, part by part: what the reference reads where clock.numbers reads position by position. No program here.
-/
import Derived.Test.YtlcbjkkcfenlmaaDoorCkPlainC
set_option linter.unusedVariables false
set_option linter.unusedSimpArgs false
namespace Go.Proofs.YtlcbjkkcfenlmaaDoor
namespace Ck
/-- The number that j bytes from a on stand for, if they are digits. -/
def seg (sl : List UInt8) (a : Nat) : Nat → Option Int
  | 0 => some 0
  | j + 1 => (seg sl a j).bind fun n => if 48 ≤ (sl.getD (a + j) 0).toNat ∧ (sl.getD (a + j) 0).toNat ≤ 57 then some (10 * n + (((sl.getD (a + j) 0).toNat : Int) - 48)) else none
theorem seg_succ (sl : List UInt8) (a j : Nat) : seg sl a (j + 1) = (seg sl a j).bind fun n => if 48 ≤ (sl.getD (a + j) 0).toNat ∧ (sl.getD (a + j) 0).toNat ≤ 57 then some (10 * n + (((sl.getD (a + j) 0).toNat : Int) - 48)) else none := rfl
theorem seg_none {sl : List UInt8} {a k : Nat} (h : seg sl a k = none) : ∀ j, k ≤ j → seg sl a j = none := by
  intro j hj
  obtain ⟨i, rfl⟩ : ∃ i, j = k + i := ⟨j - k, by omega⟩
  clear hj
  induction i with
  | zero => exact h
  | succ i ih => rw [← Nat.add_assoc, seg_succ, ih]; rfl
theorem seg_yes {sl : List UInt8} {a k : Nat} {n : Int} (h : seg sl a k = some n) (h0 : 48 ≤ (sl.getD (a + k) 0).toNat) (h1 : (sl.getD (a + k) 0).toNat ≤ 57) : seg sl a (k + 1) = some (10 * n + (((sl.getD (a + k) 0).toNat : Int) - 48)) := by
  rw [seg_succ, h]; simp only [Option.bind_some]; rw [if_pos ⟨h0, h1⟩]
theorem seg_no {sl : List UInt8} {a k : Nat} {n : Int} (h : seg sl a k = some n) (h0 : (sl.getD (a + k) 0).toNat < 48 ∨ 57 < (sl.getD (a + k) 0).toNat) : seg sl a (k + 1) = none := by
  rw [seg_succ, h]; simp only [Option.bind_some]; rw [if_neg (by omega)]
theorem seg_bd {sl : List UInt8} {a : Nat} : ∀ (j : Nat) (n : Int), seg sl a j = some n → 0 ≤ n ∧ n < 10 ^ j
  | 0, n, h => by simp only [seg, Option.some.injEq] at h; subst h; decide
  | j + 1, n, h => by
    rw [seg_succ] at h
    cases hs : seg sl a j with
    | none => rw [hs] at h; cases h
    | some m =>
      rw [hs] at h
      simp only [Option.bind_some] at h
      obtain ⟨m0, m1⟩ := seg_bd j m hs
      split at h
      · simp only [Option.some.injEq] at h
        have e : (10 : Int) ^ (j + 1) = 10 ^ j * 10 := Int.pow_succ _ _
        omega
      · cases h
/-- The number of a text of digits, -1 of another one. -/
def rnum (l : List UInt8) : Int := (seg l 0 l.length).getD (-1)
theorem seg_piece (sl : List UInt8) (a b : Nat) (hb : a + b ≤ sl.length) : ∀ j, j ≤ b → seg ((sl.drop a).take b) 0 j = seg sl a j
  | 0, _ => rfl
  | j + 1, h => by
    rw [seg_succ, seg_succ, seg_piece sl a b hb j (by omega)]
    have e : ((sl.drop a).take b).getD (0 + j) 0 = sl.getD (a + j) 0 := by
      rw [List.getD_eq_getElem?_getD, List.getD_eq_getElem?_getD, List.getElem?_take, if_pos (by omega), List.getElem?_drop, Nat.zero_add]
    rw [e]
theorem rnum_piece (sl : List UInt8) (a b : Nat) (hb : a + b ≤ sl.length) : rnum ((sl.drop a).take b) = (seg sl a b).getD (-1) := by
  unfold rnum
  have : ((sl.drop a).take b).length = b := by simp; omega
  rw [this, seg_piece sl a b hb b (Nat.le_refl _)]
theorem run_seg {pl sl : List UInt8} {a : Nat} {L : List Int} {o : Bool} (h : run pl sl a = some (L, 0, o)) : ∀ j, (∀ i, i < j → (pl.getD (a + i) 0).toNat = 48) → run pl sl (a + j) = (seg sl a j).map fun n => (L, n, if j = 0 then o else true)
  | 0, _ => by rw [Nat.add_zero, h]; rfl
  | j + 1, hp => by
    have ih := run_seg h j fun i hi => hp i (by omega)
    rw [← Nat.add_assoc, run_succ, ih, seg_succ]
    have p := hp j (by omega)
    cases hs : seg sl a j with
    | none => rfl
    | some n =>
      simp only [Option.map_some, Option.bind_some, stp]
      rw [if_pos p]
      by_cases hd : 48 ≤ (sl.getD (a + j) 0).toNat ∧ (sl.getD (a + j) 0).toNat ≤ 57
      · rw [if_pos hd, if_neg (by omega)]; rfl
      · rw [if_neg hd, if_pos (by omega)]; rfl
/-- A part and the separator behind it. -/
theorem run_part {sl : List UInt8} {a : Nat} {L : List Int} {o : Bool} (h : run pat sl a = some (L, 0, o)) (j : Nat) (hj : j ≠ 0) (hp : ∀ i, i < j → (pat.getD (a + i) 0).toNat = 48) (hs : (pat.getD (a + j) 0).toNat ≠ 48) :
    run pat sl (a + j + 1) = if (sl.getD (a + j) 0).toNat = (pat.getD (a + j) 0).toNat then (seg sl a j).map fun n => (L ++ [n], 0, false) else none := by
  have e := run_seg h j hp
  rw [if_neg hj] at e
  cases hg : seg sl a j with
  | none => rw [hg] at e; rw [run_succ, e]; simp
  | some n =>
    rw [hg] at e
    by_cases hc : (sl.getD (a + j) 0).toNat = (pat.getD (a + j) 0).toNat
    · rw [if_pos hc, run_sep e hs hc]; rfl
    · rw [if_neg hc, run_miss e hs hc]
/-- Are the separators there? -/
def seps (sl : List UInt8) : Prop := (sl.getD 4 0).toNat = 45 ∧ (sl.getD 7 0).toNat = 45 ∧ (sl.getD 10 0).toNat = 32 ∧ (sl.getD 13 0).toNat = 58 ∧ (sl.getD 16 0).toNat = 58
theorem run_parts (sl : List UInt8) :
    (seps sl ∧ ∃ y m d h i c, seg sl 0 4 = some y ∧ seg sl 5 2 = some m ∧ seg sl 8 2 = some d ∧ seg sl 11 2 = some h ∧ seg sl 14 2 = some i ∧ seg sl 17 2 = some c ∧ run pat sl 19 = some ([y, m, d, h, i], c, true)) ∨
    (run pat sl 19 = none ∧ (¬ seps sl ∨ seg sl 0 4 = none ∨ seg sl 5 2 = none ∨ seg sl 8 2 = none ∨ seg sl 11 2 = none ∨ seg sl 14 2 = none ∨ seg sl 17 2 = none)) := by
  unfold seps
  have r0 : run pat sl 0 = some ([], 0, false) := rfl
  have r1 := run_part r0 4 (by decide) (by decide) (by decide)
  cases h0 : seg sl 0 4 with
  | none => right; rw [h0] at r1; exact ⟨run_none (k := 5) (by rw [r1]; simp) 19 (by omega), by simp⟩
  | some y =>
  rw [h0] at r1
  by_cases c0 : (sl.getD 4 0).toNat = 45
  case neg => right; exact ⟨run_none (k := 5) (by rw [r1]; exact if_neg c0) 19 (by omega), Or.inl fun h => c0 h.1⟩
  have r1 : run pat sl 5 = some ([y], 0, false) := by rw [r1]; exact if_pos c0
  have r2 := run_part r1 2 (by decide) (by decide) (by decide)
  cases h1 : seg sl 5 2 with
  | none => right; rw [h1] at r2; exact ⟨run_none (k := 8) (by rw [r2]; simp) 19 (by omega), by simp⟩
  | some m =>
  rw [h1] at r2
  by_cases c1 : (sl.getD 7 0).toNat = 45
  case neg => right; exact ⟨run_none (k := 8) (by rw [r2]; exact if_neg c1) 19 (by omega), Or.inl fun h => c1 h.2.1⟩
  have r2 : run pat sl 8 = some ([y, m], 0, false) := by rw [r2]; exact if_pos c1
  have r3 := run_part r2 2 (by decide) (by decide) (by decide)
  cases h2 : seg sl 8 2 with
  | none => right; rw [h2] at r3; exact ⟨run_none (k := 11) (by rw [r3]; simp) 19 (by omega), by simp⟩
  | some d =>
  rw [h2] at r3
  by_cases c2 : (sl.getD 10 0).toNat = 32
  case neg => right; exact ⟨run_none (k := 11) (by rw [r3]; exact if_neg c2) 19 (by omega), Or.inl fun h => c2 h.2.2.1⟩
  have r3 : run pat sl 11 = some ([y, m, d], 0, false) := by rw [r3]; exact if_pos c2
  have r4 := run_part r3 2 (by decide) (by decide) (by decide)
  cases h3 : seg sl 11 2 with
  | none => right; rw [h3] at r4; exact ⟨run_none (k := 14) (by rw [r4]; simp) 19 (by omega), by simp⟩
  | some h =>
  rw [h3] at r4
  by_cases c3 : (sl.getD 13 0).toNat = 58
  case neg => right; exact ⟨run_none (k := 14) (by rw [r4]; exact if_neg c3) 19 (by omega), Or.inl fun h => c3 h.2.2.2.1⟩
  have r4 : run pat sl 14 = some ([y, m, d, h], 0, false) := by rw [r4]; exact if_pos c3
  have r5 := run_part r4 2 (by decide) (by decide) (by decide)
  cases h4 : seg sl 14 2 with
  | none => right; rw [h4] at r5; exact ⟨run_none (k := 17) (by rw [r5]; simp) 19 (by omega), by simp⟩
  | some i =>
  rw [h4] at r5
  by_cases c4 : (sl.getD 16 0).toNat = 58
  case neg => right; exact ⟨run_none (k := 17) (by rw [r5]; exact if_neg c4) 19 (by omega), Or.inl fun h => c4 h.2.2.2.2⟩
  have r5 : run pat sl 17 = some ([y, m, d, h, i], 0, false) := by rw [r5]; exact if_pos c4
  have r6 := run_seg r5 2 (by decide)
  cases h5 : seg sl 17 2 with
  | none => right; rw [h5] at r6; exact ⟨r6, by simp⟩
  | some c => left; rw [h5] at r6; exact ⟨⟨c0, c1, c2, c3, c4⟩, y, m, d, h, i, c, rfl, rfl, rfl, rfl, rfl, rfl, r6⟩
end Ck
end Go.Proofs.YtlcbjkkcfenlmaaDoor
