/-
  Areal, plain: the mean lies between the weighted depths; a common factor, the order, a single weight. No condition.
-/
import Derived.Test.YtnfjebfmfjpepaaArH
set_option linter.unusedVariables false
set_option linter.unusedSimpArgs false
namespace Go.Proofs.Ytnfjebfmfjpepaa
open Go.RowKit
namespace Ba
def smI (f : Nat → Int) : Nat → Int
  | 0 => 0
  | n + 1 => smI f n + f n
theorem smI_congr {f g : Nat → Int} : ∀ {n}, (∀ i, i < n → f i = g i) → smI f n = smI g n
  | 0, _ => rfl
  | n + 1, h => by rw [smI, smI, smI_congr fun i hi => h i (by omega), h n (by omega)]
theorem smI_head (f : Nat → Int) : ∀ n, smI f (n + 1) = f 0 + smI (fun i => f (i + 1)) n
  | 0 => by rw [smI, smI, smI]; omega
  | n + 1 => by rw [smI, smI_head f n, smI]; omega
theorem smI_rev (f : Nat → Int) : ∀ n, smI (fun i => f (n - 1 - i)) n = smI f n
  | 0 => rfl
  | n + 1 => by
    rw [smI_head, smI, ← smI_rev f n, smI_congr (f := fun i => f (n + 1 - 1 - (i + 1))) (g := fun i => f (n - 1 - i)) fun i _ => by show f _ = f _; congr 1; omega]
    rw [show n + 1 - 1 - 0 = n by omega]; omega
theorem smI_mul (f : Nat → Int) (F : Int) : ∀ n, smI (fun i => f i * F) n = smI f n * F
  | 0 => by rw [smI, smI, Int.zero_mul]
  | n + 1 => by rw [smI, smI, smI_mul f F n, Int.add_mul]
def snT (S : SlSer) (u : SlI) (t : Int) (j : Nat) : Int := if dV S t j < 0 then 0 else u.X j * dV S t j
def whT (S : SlSer) (u : SlI) (t : Int) (j : Nat) : Int := if dV S t j < 0 then 0 else u.X j
theorem snI_sum (S : SlSer) (u : SlI) (t : Int) : ∀ n, snI S u t n = smI (snT S u t) n
  | 0 => rfl
  | n + 1 => by rw [snI, smI, snI_sum S u t n]; unfold snT; split <;> omega
theorem whI_sum (S : SlSer) (u : SlI) (t : Int) : ∀ n, whI S u t n = smI (whT S u t) n
  | 0 => rfl
  | n + 1 => by rw [whI, smI, whI_sum S u t n]; unfold whT; split <;> omega
/-- The order of the records does not matter. -/
theorem dV_rev {S T : SlSer} {n : Nat} (hD : ∀ j, j < n → T.D j = S.D (n - 1 - j)) (t : Int) {j : Nat} (hj : j < n) : dV T t j = dV S t (n - 1 - j) := by
  unfold dV xN; rw [hD j hj]
theorem mn_rev {S T : SlSer} {u v : SlI} (hn : T.n = S.n) (hD : ∀ j, j < S.n → T.D j = S.D (S.n - 1 - j)) (hX : ∀ j, j < S.n → v.X j = u.X (S.n - 1 - j)) (t : Int) : mnV T v t = mnV S u t := by
  have e1 : snI T v t S.n = snI S u t S.n := by
    rw [snI_sum, snI_sum, ← smI_rev (snT S u t)]
    exact smI_congr fun i hi => by unfold snT; rw [dV_rev hD t hi, hX i hi]
  have e2 : whI T v t S.n = whI S u t S.n := by
    rw [whI_sum, whI_sum, ← smI_rev (whT S u t)]
    exact smI_congr fun i hi => by unfold whT; rw [dV_rev hD t hi, hX i hi]
  unfold mnV
  rw [hn, e1, e2]
theorem frI_ge (S : SlSer) : ∀ i k, k < i → (S.D k).fr ≤ frI S i
  | 0, k, h => by omega
  | i + 1, k, h => by
    rw [frI]
    by_cases e : k = i
    · subst e; omega
    · have := frI_ge S i k (by omega); omega
theorem frI_mem (S : SlSer) {n : Nat} (h1 : 1 ≤ n) : ∀ i, i ≤ n → ∃ k, k < n ∧ frI S i = (S.D k).fr
  | 0, _ => ⟨0, h1, rfl⟩
  | i + 1, hi => by
    obtain ⟨k, hk, e⟩ := frI_mem S h1 i (by omega)
    rw [frI, e]
    by_cases c : (S.D k).fr ≤ (S.D i).fr
    · exact ⟨i, by omega, by omega⟩
    · exact ⟨k, hk, by omega⟩
theorem enI_le (S : SlSer) : ∀ i k, k < i → enI S i ≤ (S.D k).fr + (S.D 0).st * (S.D k).ds.n
  | 0, k, h => by omega
  | i + 1, k, h => by
    rw [enI]
    by_cases e : k = i
    · subst e; omega
    · have := enI_le S i k (by omega); omega
theorem enI_mem (S : SlSer) {n : Nat} (h1 : 1 ≤ n) : ∀ i, i ≤ n → ∃ k, k < n ∧ enI S i = (S.D k).fr + (S.D 0).st * (S.D k).ds.n
  | 0, _ => ⟨0, h1, rfl⟩
  | i + 1, hi => by
    obtain ⟨k, hk, e⟩ := enI_mem S h1 i (by omega)
    rw [enI, e]
    by_cases c : (S.D k).fr + (S.D 0).st * (S.D k).ds.n ≤ (S.D i).fr + (S.D 0).st * (S.D i).ds.n
    · exact ⟨k, hk, by omega⟩
    · exact ⟨i, by omega, by omega⟩
theorem fr_rev {S T : SlSer} (h1 : 1 ≤ S.n) (hD : ∀ j, j < S.n → T.D j = S.D (S.n - 1 - j)) : frI T S.n = frI S S.n := by
  obtain ⟨k, hk, e⟩ := frI_mem S h1 S.n (Nat.le_refl _)
  obtain ⟨l, hl, f⟩ := frI_mem T h1 S.n (Nat.le_refl _)
  have a := frI_ge S S.n (S.n - 1 - l) (by omega)
  have b := frI_ge T S.n (S.n - 1 - k) (by omega)
  rw [hD _ (by omega), show S.n - 1 - (S.n - 1 - k) = k by omega] at b
  rw [hD l hl] at f
  omega
theorem en_rev {S T : SlSer} (h1 : 1 ≤ S.n) (hD : ∀ j, j < S.n → T.D j = S.D (S.n - 1 - j)) (hs : (T.D 0).st = (S.D 0).st) : enI T S.n = enI S S.n := by
  obtain ⟨k, hk, e⟩ := enI_mem S h1 S.n (Nat.le_refl _)
  obtain ⟨l, hl, f⟩ := enI_mem T h1 S.n (Nat.le_refl _)
  have a := enI_le S S.n (S.n - 1 - l) (by omega)
  have b := enI_le T S.n (S.n - 1 - k) (by omega)
  rw [hs, hD _ (by omega), show S.n - 1 - (S.n - 1 - k) = k by omega] at b
  rw [hs, hD l hl] at f
  omega
theorem gi_rev {S T : SlSer} (hn : T.n = S.n) (hD : ∀ j, j < S.n → T.D j = S.D (S.n - 1 - j)) (hg : giE S = 0) : giE T = 0 := by
  obtain ⟨n1, n2, hv⟩ := gi_parts hg
  have a : allB (fun i => serB (T.D i)) T.n = true := allB_iff.2 fun i hi => by rw [hn] at hi; rw [hD i hi]; exact hv _ (by omega)
  unfold giE
  rw [if_pos a, if_neg (by omega), if_neg (by omega)]
theorem ft_parts {S : SlSer} (hf : fitB S = true) {i : Nat} (hi : i < S.n) : (S.D i).st = (S.D 0).st ∧ (S.D 0).st ∣ ((S.D i).fr - (S.D 0).fr) := by
  have := allB_at hf hi
  unfold ftB at this
  rw [Bool.and_eq_true, beq_iff_eq, beq_iff_eq] at this
  exact ⟨this.1, Int.dvd_of_tmod_eq_zero this.2⟩
theorem fit_rev {S T : SlSer} (hn : T.n = S.n) (h1 : 1 ≤ S.n) (hD : ∀ j, j < S.n → T.D j = S.D (S.n - 1 - j)) (hf : fitB S = true) : fitB T = true ∧ (T.D 0).st = (S.D 0).st := by
  have h0 := hD 0 (by omega)
  have p0 := ft_parts hf (i := S.n - 1 - 0) (by omega)
  have hs : (T.D 0).st = (S.D 0).st := by rw [h0]; exact p0.1
  refine ⟨allB_iff.2 fun i hi => ?_, hs⟩
  rw [hn] at hi
  have pi := ft_parts hf (i := S.n - 1 - i) (by omega)
  unfold ftB
  rw [Bool.and_eq_true, beq_iff_eq, beq_iff_eq, hs, hD i hi, h0]
  refine ⟨pi.1, Int.tmod_eq_zero_of_dvd ?_⟩
  have := Int.dvd_sub pi.2 p0.2
  rwa [show (S.D (S.n - 1 - i)).fr - (S.D 0).fr - ((S.D (S.n - 1 - 0)).fr - (S.D 0).fr) = (S.D (S.n - 1 - i)).fr - (S.D (S.n - 1 - 0)).fr by omega] at this
theorem cm_rev {S T : SlSer} (hn : T.n = S.n) (h1 : 1 ≤ S.n) (hD : ∀ j, j < S.n → T.D j = S.D (S.n - 1 - j)) (hf : fitB S = true) : cmN T = cmN S := by
  have hs := (fit_rev hn h1 hD hf).2
  unfold cmN
  rw [hn, hs, fr_rev h1 hD, en_rev h1 hD hs]
/-- A factor of all weights does not matter. -/
theorem mn_mul {S : SlSer} {u v : SlI} {F : Int} (hF : 0 < F) (hX : ∀ j, j < S.n → v.X j = u.X j * F) (t : Int) : mnV S v t = mnV S u t := by
  have e1 : snI S v t S.n = snI S u t S.n * F := by
    rw [snI_sum, snI_sum, ← smI_mul]
    exact smI_congr fun i hi => by
      unfold snT
      rw [hX i hi]
      split
      · rw [Int.zero_mul]
      · rw [Int.mul_right_comm]
  have e2 : whI S v t S.n = whI S u t S.n * F := by
    rw [whI_sum, whI_sum, ← smI_mul]
    exact smI_congr fun i hi => by
      unfold whT
      rw [hX i hi]
      split
      · rw [Int.zero_mul]
      · rfl
  unfold mnV
  rw [e1, e2]
  by_cases h0 : whI S u t S.n = 0
  · rw [if_pos h0, if_pos (by rw [h0, Int.zero_mul])]
  · rw [if_neg h0, if_neg fun e => by rcases Int.mul_eq_zero.1 e with e | e <;> omega, Int.mul_ediv_mul_of_pos_left _ _ hF]
/-- One record alone has a weight. -/
theorem sg_all {S : SlSer} {v : SlI} {q : Nat} {K : Int} {t : Int} (hX : ∀ j, j < S.n → v.X j = if j = q then K else 0) : ∀ i, i ≤ S.n → snI S v t i = (if q < i ∧ 0 ≤ dV S t q then K * dV S t q else 0) ∧ whI S v t i = (if q < i ∧ 0 ≤ dV S t q then K else 0)
  | 0, _ => by rw [snI, whI, if_neg (by omega), if_neg (by omega)]; exact ⟨rfl, rfl⟩
  | i + 1, hi => by
    obtain ⟨a, b⟩ := sg_all (t := t) hX i (by omega)
    rw [snI, whI, a, b, hX i (by omega)]
    by_cases e : i = q
    · subst e
      by_cases d : dV S t i < 0
      · simp [d, Int.not_le.2 d]
      · simp [d, Int.not_lt.1 d]
    · have h1 : (q < i + 1) = (q < i) := by apply propext; omega
      simp only [if_neg e, h1, Int.zero_mul, Int.add_zero, ite_self, and_self]
theorem mn_one {S : SlSer} {v : SlI} {q : Nat} {K : Int} {t : Int} (hX : ∀ j, j < S.n → v.X j = if j = q then K else 0) (hq : q < S.n) (hK : 0 < K) (hd : -1 ≤ dV S t q) : mnV S v t = dV S t q := by
  obtain ⟨a, b⟩ := sg_all (t := t) hX S.n (Nat.le_refl _)
  unfold mnV
  rw [a, b]
  by_cases d : 0 ≤ dV S t q
  · rw [if_pos (And.intro hq d), if_pos (And.intro hq d), if_neg (by omega), Int.mul_ediv_cancel_left _ (by omega)]
  · have z : ¬(q < S.n ∧ 0 ≤ dV S t q) := fun z => d z.2
    rw [if_neg z, if_neg z, if_pos rfl]; omega
/-- The least and the greatest depth with a weight. -/
def loI (S : SlSer) (u : SlI) (t : Int) : Nat → Int
  | 0 => 4194305
  | i + 1 => if 0 < u.X i ∧ 0 ≤ dV S t i then min (loI S u t i) (dV S t i) else loI S u t i
def hiI (S : SlSer) (u : SlI) (t : Int) : Nat → Int
  | 0 => -1
  | i + 1 => if 0 < u.X i ∧ 0 ≤ dV S t i then max (hiI S u t i) (dV S t i) else hiI S u t i
theorem lohi {S : SlSer} {u : SlI} {t : Int} : ∀ i, (∀ j, j < i → 0 ≤ u.X j) → -1 ≤ hiI S u t i ∧ 0 ≤ loI S u t i ∧ (hiI S u t i < 0 → whI S u t i = 0 ∧ snI S u t i = 0) ∧ (0 ≤ hiI S u t i → 0 < whI S u t i ∧ loI S u t i * whI S u t i ≤ snI S u t i ∧ snI S u t i ≤ hiI S u t i * whI S u t i)
  | 0, _ => by rw [hiI, loI, snI, whI]; omega
  | i + 1, h => by
    obtain ⟨a, b, c, d⟩ := lohi (S := S) (t := t) i fun j hj => h j (by omega)
    have ui := h i (by omega)
    rw [hiI, loI, snI, whI]
    generalize hiI S u t i = H at *
    generalize loI S u t i = L at *
    generalize whI S u t i = W at *
    generalize snI S u t i = N at *
    generalize dV S t i = v at *
    generalize u.X i = x at *
    by_cases q : v < 0
    · rw [if_pos q, if_pos q, if_neg (by omega), if_neg (by omega)]; exact ⟨a, b, c, d⟩
    · rw [if_neg q, if_neg q]
      by_cases z : 0 < x
      · rw [if_pos ⟨z, by omega⟩, if_pos ⟨z, by omega⟩]
        refine ⟨by omega, by omega, fun hh => by omega, fun _ => ?_⟩
        have m1 : min L v * x ≤ v * x := Int.mul_le_mul_of_nonneg_right (by omega) ui
        have m2 : v * x ≤ max H v * x := Int.mul_le_mul_of_nonneg_right (by omega) ui
        have e := Int.mul_comm x v
        rw [Int.mul_add, Int.mul_add]
        by_cases hh : H < 0
        · obtain ⟨rfl, rfl⟩ := c hh
          rw [Int.mul_zero, Int.mul_zero]; omega
        · obtain ⟨d1, d2, d3⟩ := d (by omega)
          have m3 : min L v * W ≤ L * W := Int.mul_le_mul_of_nonneg_right (by omega) (by omega)
          have m4 : H * W ≤ max H v * W := Int.mul_le_mul_of_nonneg_right (by omega) (by omega)
          omega
      · obtain rfl : x = 0 := by omega
        rw [if_neg (by omega), if_neg (by omega), Int.zero_mul, Int.add_zero, Int.add_zero]; exact ⟨a, b, c, d⟩
theorem mn_between {S : SlSer} {u : SlI} (t : Int) (h : ∀ j, j < S.n → 0 ≤ u.X j) : (hiI S u t S.n < 0 ∧ mnV S u t = -1) ∨ (0 ≤ hiI S u t S.n ∧ loI S u t S.n ≤ mnV S u t ∧ mnV S u t ≤ hiI S u t S.n) := by
  obtain ⟨a, b, c, d⟩ := lohi (S := S) (t := t) S.n h
  unfold mnV
  by_cases q : hiI S u t S.n < 0
  · rw [if_pos (c q).1]; exact .inl ⟨q, rfl⟩
  · obtain ⟨d1, d2, d3⟩ := d (by omega)
    rw [if_neg (by omega)]
    exact .inr ⟨by omega, Int.le_ediv_of_mul_le d1 d2, Int.ediv_le_of_le_mul d1 d3⟩
theorem lohi_bd {S : SlSer} {u : SlI} {t : Int} : ∀ i, (∀ j, j < i → dV S t j ≤ 4194304) → (0 ≤ loI S u t i ∧ loI S u t i ≤ 4194305) ∧ -1 ≤ hiI S u t i ∧ hiI S u t i ≤ 4194304
  | 0, _ => by rw [loI, hiI]; omega
  | i + 1, h => by
    have a := lohi_bd (S := S) (u := u) (t := t) i fun j hj => h j (by omega)
    have b := h i (by omega)
    rw [loI, hiI]
    by_cases c : 0 < u.X i ∧ 0 ≤ dV S t i
    · rw [if_pos c, if_pos c]; omega
    · rw [if_neg c, if_neg c]; exact a
/-- A slice of uint32s. -/
structure SlU where
  A : Option Addr
  n : Nat
  c : Nat
  b : Nat
  o : Nat
  X : Nat → Int
structure SlU.At (w : World) (s : SlU) : Prop where
  hA : 0 < s.n → s.A = some ⟨s.b, s.o, none⟩
  hc : s.n ≤ s.c
  hb : s.c ≤ 9223372036854775807
  hX : ∀ i, i < s.n → w.cell? ⟨s.b, s.o + i, none⟩ = some (.int .u32 (s.X i)) ∧ 0 ≤ s.X i ∧ s.X i ≤ 4294967295
theorem SlU.At.gr {w w1 : World} {s : SlU} (h : s.At w) (hg : Gr w w1) : s.At w1 := ⟨h.hA, h.hc, h.hb, fun i hi => ⟨Gr.at hg (h.hX i hi).1, (h.hX i hi).2⟩⟩
end Ba
end Go.Proofs.Ytnfjebfmfjpepaa
