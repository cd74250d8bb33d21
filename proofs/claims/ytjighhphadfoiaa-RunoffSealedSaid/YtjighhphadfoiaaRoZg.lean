/-
  Runoff: sealed ground, plain. (Printed by mkze.py.)
-/
import Derived.Test.YtjighhphadfoiaaRoDb
set_option linter.unusedVariables false
set_option linter.unusedSimpArgs false
namespace Go.Proofs.Ytjighhphadfoiaa
open Go.RowKit

namespace Ba
/-- A class of sealed ground; one class; one number. -/
def roD (k : Int) : Class := ⟨⟨#[114, 111, 111, 102]⟩, 1000, k, 0, 0⟩
def roC (b : Nat) (k : Int) : SlClass := ⟨some ⟨b, 0, none⟩, 1, 1, b, 0, fun _ => roD k⟩
def oneI (b : Nat) (x : Int) : SlI := ⟨some ⟨b, 0, none⟩, 1, 1, b, 0, fun _ => x⟩
theorem one_at {w : World} {b : Nat} {x : Int} (h : w.cell? ⟨b, 0, none⟩ = some (.int .i64 x)) (hx : i64 x) : (oneI b x).At w := ⟨fun _ => rfl, Nat.le_refl _, by simp [oneI], fun i hi => by
  have : i = 0 := by simp only [oneI] at hi; omega
  subst this
  exact ⟨by simpa [oneI] using h, hx⟩⟩
theorem roC_cls (b : Nat) {k : Int} (hk : 0 ≤ k ∧ k ≤ 100000) : clsB (roC b k) = true := by
  unfold roC
  rw [cls_one]
  have h1 : Dc.isName (roD k).nm.data.toList = true := by kernel_rfl
  unfold cl1 clN
  rw [h1, Bool.true_and]
  simp only [Bool.and_eq_true, bet_iff, roD]
  omega
theorem roC_giv {b b' b2 b2' : Nat} {k k' ar : Int} (hk : 0 ≤ k ∧ k ≤ 100000) (hk' : 0 ≤ k' ∧ k' ≤ 100000) (s : Ser) : givR (roC b k) (oneI b2 ar) s = givR (roC b' k') (oneI b2' ar) s := by
  unfold givR
  rw [roC_cls b hk, roC_cls b' hk']
  rfl
section
variable {b b2 : Nat} {k ar : Int} {s : Ser}
theorem roC_vol (j : Nat) : vol (roC b k) (oneI b2 ar) s j = ar * offJ (roC b k) s 0 j := by
  rw [vol_sum]
  show sumI (fun i => (oneI b2 ar).X i * offJ (roC b k) s i j) 1 = _
  rw [sumI, sumI, Int.zero_add]
  rfl
theorem roC_str (R : Right (roC b 0) (oneI b2 ar) s) {j : Nat} (hj : j ≤ s.ds.n) : (str (roC b 0) s j 0).1 = 0 ∧ (str (roC b 0) s j 0).2 = 0 := by
  have F := R.fit (i := 0) (by show 0 < 1; omega) j hj
  have a := F.wet; have c := F.held
  have e1 : ((roC b 0).D 0).we = 0 := rfl
  have e2 : ((roC b 0).D 0).ro = 0 := rfl
  omega
theorem roC_off (R : Right (roC b 0) (oneI b2 ar) s) {j : Nat} (hj : j < s.ds.n) : offJ (roC b 0) s 0 j = 1000 * dpt s j := by
  obtain ⟨h1, h2⟩ := roC_str R (Nat.le_of_lt hj)
  have d := R.dep hj
  unfold offJ offI rH rR rW
  rw [h1, h2]
  show (dpt s j - min (dpt s j) (0 - 0)) * 1000 + (dpt s j - min (dpt s j) (0 - 0) - min (dpt s j - min (dpt s j) (0 - 0)) (0 - 0)) * (1000 - 1000) = _
  omega
theorem roC_lft (R : Right (roC b 0) (oneI b2 ar) s) : ∀ j, j ≤ s.ds.n → lft (roC b 0) (oneI b2 ar) s j = 0
  | 0, _ => rfl
  | j + 1, h => by
    rw [lft, roC_lft R j (by omega), roC_vol, roC_off R (by omega), Int.mul_left_comm]
    omega
theorem roC_out (R : Right (roC b 0) (oneI b2 ar) s) {j : Nat} (hj : j < s.ds.n) : out (roC b 0) (oneI b2 ar) s j = ar * dpt s j := by
  unfold out
  rw [roC_lft R j (by omega), roC_vol, roC_off R hj, Int.mul_left_comm]
  omega
theorem roC_sum (R : Right (roC b 0) (oneI b2 ar) s) : sumI (out (roC b 0) (oneI b2 ar) s) s.ds.n = ar * sumP s.ds.X s.ds.n := by
  rw [sumI_congr (Y := fun j => ar * dpt s j) fun j hj => roC_out R hj, sumI_mul, dpt_sum]
theorem one_sum : sumI (oneI b2 ar).X (roC b k).n = ar := by
  show sumI (fun _ => ar) 1 = ar
  rw [sumI, sumI, Int.zero_add]
theorem one_sumP (ha : 0 ≤ ar) : sumP (oneI b2 ar).X (oneI b2 ar).n = ar := by
  unfold sumP
  show sumI (fun _ => max 0 ar) 1 = ar
  rw [sumI, sumI, Int.zero_add]
  omega
theorem dep_giv {C : SlClass} {a : SlI} {s : Ser} (h : depE C a s = 0) : givR C a s = 0 := by
  unfold depE at h
  by_cases g : givR C a s = 0
  · exact g
  · rw [if_neg g] at h; exact h
theorem roC_dep {b' b2' : Nat} (he : depE (roC b 0) (oneI b2 ar) s = 0) (ha : 0 ≤ ar ∧ ar ≤ 1048576) (hk : 0 ≤ k ∧ k ≤ 100000) : depE (roC b' k) (oneI b2' ar) s = 0 := by
  have hg : givR (roC b' k) (oneI b2' ar) s = 0 := by rw [← dep_giv he]; exact roC_giv hk (by omega) s
  have R := right_of hg
  unfold depE
  rw [if_pos hg, if_pos]
  rw [allB_iff]
  intro j hj
  unfold fitO
  rw [decide_eq_true_iff]
  have v := vol_rain R hj
  have l := lft_le (C := roC b' k) (a := oneI b2' ar) (s := s) j
  have d := R.dep hj
  rw [one_sum, Int.mul_assoc] at v
  have m := mul_bd (a := ar) (A := 1048576) (b := dpt s j) (B := 4194304) ha d
  unfold out
  omega
theorem cvI_one {V : Nat → Int} {u : SlI} (hu : uniB u = true) (h1 : u.n = 1) : ∀ i j, cvI V u i j = if j < i then V j else 0
  | 0, j => by rw [cvI, if_neg (by omega)]
  | i + 1, j => by
    rw [cvI, cvI_one hu h1 i j, h1]
    by_cases c : j < i
    · rw [if_pos c, if_neg (by omega), if_pos (by omega)]; omega
    · rw [if_neg c]
      by_cases d : j = i
      · subst d
        have s := shr_all hu (V j)
        rw [h1, sumI, sumI, Int.zero_add] at s
        rw [if_pos (by omega), if_pos (by omega), Nat.sub_self, s]; omega
      · rw [if_neg (by omega), if_neg (by omega)]; rfl
theorem one_uni {b3 : Nat} {wg : Int} (hw : 1 ≤ wg ∧ wg ≤ 1073741824) : uniB (oneI b3 wg) = true := by
  unfold uniB wiB
  simp only [Bool.and_eq_true, decide_eq_true_iff, allB_iff, bne_iff_ne, oneI]
  refine ⟨decide_eq_true (by show (1 : Int) ≤ ((1 : Nat) : Int); omega), decide_eq_true (by show ((1 : Nat) : Int) ≤ 1000; omega), fun i _ => (bet_iff _ _ _).2 (by show 0 ≤ wg ∧ wg ≤ 1073741824; omega), by show wg ≠ 0; omega⟩
theorem roC_of {b3 : Nat} {wg : Int} (he : depE (roC b 0) (oneI b2 ar) s = 0) (hn : s.ds.n ≤ 100) (hw : 1 ≤ wg ∧ wg ≤ 1073741824) : ofE (roC b 0) (oneI b2 ar) (oneI b3 wg) s = 0 ∧ ofN (roC b 0) (oneI b2 ar) (oneI b3 wg) s = s.ds.n ∧ ∀ j, j < s.ds.n → ofX (roC b 0) (oneI b2 ar) (oneI b3 wg) s j = out (roC b 0) (oneI b2 ar) s j := by
  have hu := one_uni (b3 := b3) hw
  obtain ⟨R, O⟩ := dep_right he
  have hN : cnvN (outL (roC b 0) (oneI b2 ar) s) (oneI b3 wg) = s.ds.n := by show s.ds.n + 1 - 1 = s.ds.n; omega
  have hX : ∀ j, j < s.ds.n → cvI (out (roC b 0) (oneI b2 ar) s) (oneI b3 wg) s.ds.n j = out (roC b 0) (oneI b2 ar) s j := fun j hj => by rw [cvI_one hu rfl, if_pos hj]
  refine ⟨?_, ?_, hX⟩
  · unfold ofE
    rw [if_pos hu, if_pos he]
    unfold cnvE
    have hv : volB (outL (roC b 0) (oneI b2 ar) s) = true := by
      unfold volB wiB
      simp only [Bool.and_eq_true, decide_eq_true_iff, allB_iff, outL]
      exact ⟨decide_eq_true (by show (s.ds.n : Int) ≤ 10000; omega), fun i hi => (bet_iff _ _ _).2 (O i hi)⟩
    rw [if_pos hv, if_pos hu, hN]
    split
    · rfl
    · rw [if_neg (by omega), if_pos]
      rw [allB_iff]
      intro j hj
      exact (bet_iff _ _ _).2 (by rw [show (outL (roC b 0) (oneI b2 ar) s).X = out (roC b 0) (oneI b2 ar) s from rfl, show (outL (roC b 0) (oneI b2 ar) s).n = s.ds.n from rfl, hX j hj]; exact O j hj)
  · unfold ofN
    split
    · omega
    · show s.ds.n + 1 - 1 = s.ds.n; omega
theorem lft_one (b2 b2' : Nat) : ∀ j, lft (roC b k) (oneI b2 ar) s j = lft (roC b k) (oneI b2' ar) s j
  | 0 => rfl
  | j + 1 => by rw [lft, lft, lft_one b2 b2' j, roC_vol, roC_vol]
theorem out_one (b2 b2' : Nat) : out (roC b k) (oneI b2 ar) s = out (roC b k) (oneI b2' ar) s := by
  funext j; unfold out; rw [lft_one b2 b2', roC_vol, roC_vol]
/-- What is seen of a class of sealed ground. -/
theorem roC_low (he : depE (roC b k) (oneI b2 ar) s = 0) : (∀ i, i ≤ s.ds.n → 0 ≤ sumI (out (roC b k) (oneI b2 ar) s) i ∧ sumI (out (roC b k) (oneI b2 ar) s) i ≤ sumI (out (roC b k) (oneI b2 ar) s) s.ds.n) ∧ sumI (out (roC b k) (oneI b2 ar) s) s.ds.n ≤ ar * sumP s.ds.X s.ds.n := by
  obtain ⟨R, O⟩ := dep_right he
  have h := out_rain R
  rw [one_sum] at h
  exact ⟨(sum_all (X := out (roC b k) (oneI b2 ar) s) (n := s.ds.n) fun j hj => (O j hj).1).2, h⟩
theorem roC_cof (he : depE (roC b k) (oneI b2 ar) s = 0) (ha : 0 ≤ ar) : (ar * sumP s.ds.X s.ds.n = 0 → cofE (roC b k) (oneI b2 ar) s = 16 ∧ cofV (roC b k) (oneI b2 ar) s = 0) ∧ (ar * sumP s.ds.X s.ds.n ≠ 0 → cofE (roC b k) (oneI b2 ar) s = 0 ∧ cofV (roC b k) (oneI b2 ar) s = 1000 * sumI (out (roC b k) (oneI b2 ar) s) s.ds.n / (ar * sumP s.ds.X s.ds.n)) := by
  have p := one_sumP (b2 := b2) ha
  refine ⟨fun h => ?_, fun h => ?_⟩
  · unfold cofE cofV; rw [if_pos he, if_pos he, p, if_pos h, if_pos h]; exact ⟨rfl, rfl⟩
  · unfold cofE cofV; rw [if_pos he, if_pos he, p, if_neg h, if_neg h]; exact ⟨rfl, rfl⟩
end
theorem quot_in {S T : Int} (h0 : 0 ≤ S) (h1 : S ≤ T) (hT : T ≠ 0) : 0 ≤ 1000 * S / T ∧ 1000 * S / T ≤ 1000 := ⟨Int.ediv_nonneg (by omega) (by omega), Int.ediv_le_of_le_mul (by omega) (by omega)⟩
theorem quot_one {T : Int} (hT : T ≠ 0) : 1000 * T / T = 1000 := Int.mul_ediv_cancel _ hT
end Ba
end Go.Proofs.Ytjighhphadfoiaa
