/-
  Runoff: losses.Lost of what is right; plain: what is lost and what runs off add up to the rain. (Printed by mkxb.py.)
  Law 25: RunoffWhole, all ways. (Printed by mkxc.py.)
-/
import Derived.Test.YtajhhplgcegodaaDoorGA12
import Derived.Test.YtajhhplgcegodaaDoorRoV
import Derived.Test.YtajhhplgcegodaaDoorRoW
import Derived.Test.YtajhhplgcegodaaDoorRoO
set_option linter.unusedVariables false
set_option linter.unusedSimpArgs false
namespace Go.Proofs.YtajhhplgcegodaaDoor
open Go.RowKit
attribute [local go_sem ↓] Go.wp_at_zero Go.wp_at_succ

namespace Ba
theorem dpt_sum (s : Ser) : ∀ n, sumI (dpt s) n = sumP s.ds.X n
  | 0 => rfl
  | n + 1 => by unfold sumP; rw [sumI, sumI, dpt_sum s n]; rfl
theorem sumI_mul (a : Int) (X : Nat → Int) : ∀ n, sumI (fun i => a * X i) n = a * sumI X n
  | 0 => by simp [sumI]
  | n + 1 => by rw [sumI, sumI, sumI_mul a X n, Int.mul_add]
theorem sumI_swap (f : Nat → Nat → Int) (n : Nat) : ∀ m, sumI (fun i => sumI (f i) n) m = sumI (fun j => sumI (fun i => f i j) m) n
  | 0 => by
    rw [sumI]
    exact (sumI_zero fun _ _ => rfl).symm
  | m + 1 => by
    rw [sumI, sumI_swap f n m, ← sumI_add]
    exact sumI_congr fun j _ => rfl
/-- What a class lets off in a step; what it loses in the first steps. -/
def offJ (C : SlClass) (s : Ser) (i j : Nat) : Int := offI (C.D i) (str C s j i).1 (str C s j i).2 (dpt s j)
def losJ (C : SlClass) (s : Ser) (i n : Nat) : Int := sumI (fun j => 1000 * dpt s j - offJ C s i j) n
theorem losJ_eq (C : SlClass) (s : Ser) (i n : Nat) : losJ C s i n = 1000 * sumP s.ds.X n - sumI (offJ C s i) n := by
  unfold losJ
  rw [sumI_sub, sumI_mul, dpt_sum]
/-- The volumes, taken together. -/
theorem out_all (C : SlClass) (a : SlI) (s : Ser) : ∀ n, 1000 * sumI (out C a s) n + lft C a s n = sumI (vol C a s) n
  | 0 => rfl
  | n + 1 => by
    have ih := out_all C a s n
    rw [sumI, sumI, lft]
    unfold out
    unfold out at ih
    omega
theorem out_quot (C : SlClass) (a : SlI) (s : Ser) (n : Nat) : sumI (vol C a s) n / 1000 = sumI (out C a s) n := by
  have h := out_all C a s n
  have l := lft_le (C := C) (a := a) (s := s) n
  omega
/-- What the classes let off, area by area. -/
theorem tot_vol (C : SlClass) (a : SlI) (s : Ser) (n : Nat) : sumI (fun i => a.X i * (1000 * sumP s.ds.X n - losJ C s i n)) C.n = sumI (vol C a s) n := by
  have e : ∀ i, i < C.n → a.X i * (1000 * sumP s.ds.X n - losJ C s i n) = sumI (fun j => a.X i * offJ C s i j) n := fun i _ => by
    rw [losJ_eq, sumI_mul]
    congr 1
    omega
  rw [sumI_congr e, sumI_swap (fun i j => a.X i * offJ C s i j) n C.n]
  exact sumI_congr fun j _ => rfl
theorem sumI_point (c : Int) (p : Nat) : ∀ n, sumI (fun j => if j = p then c else 0) n = if p < n then c else 0
  | 0 => by rw [sumI, if_neg (by omega)]
  | n + 1 => by
    rw [sumI, sumI_point c p n]
    by_cases h1 : n = p
    · subst h1; rw [if_neg (by omega), if_pos rfl, if_pos (by omega)]; omega
    · rw [if_neg h1]
      by_cases h2 : p < n
      · rw [if_pos h2, if_pos (by omega)]; omega
      · rw [if_neg h2, if_neg (by omega)]; rfl
theorem sumI_shift (f : Nat → Int) (i N : Nat) : ∀ k, i + k ≤ N → sumI (fun j => if i ≤ j ∧ j < i + k then f (j - i) else 0) N = sumI f k
  | 0, _ => by
    rw [sumI]
    exact sumI_zero fun j _ => if_neg (by omega)
  | k + 1, h => by
    have ih := sumI_shift f i N k (by omega)
    have e : ∀ j, j < N → (if i ≤ j ∧ j < i + (k + 1) then f (j - i) else 0) = (if i ≤ j ∧ j < i + k then f (j - i) else 0) + (if j = i + k then f k else 0) := fun j _ => by
      by_cases h1 : j = i + k
      · subst h1; rw [if_pos (by omega), if_neg (by omega), if_pos rfl, show i + k - i = k by omega]; omega
      · rw [if_neg h1]
        by_cases h2 : i ≤ j ∧ j < i + k
        · rw [if_pos h2, if_pos (by omega)]; omega
        · rw [if_neg h2, if_neg (by omega)]; rfl
    rw [sumI_congr e, sumI_add, ih, sumI_point, if_pos (by omega), sumI]
theorem shr_all {u : SlI} (hu : uniB u = true) (v : Int) : sumI (shrI u.X v u.n) u.n = v := by
  have h : ∀ k, sumI (shrI u.X v u.n) k = cutI u.X v u.n k - cutI u.X v u.n 0 := fun k => by
    induction k with
    | zero => rw [sumI]; omega
    | succ k ih => rw [sumI, ih]; unfold shrI; omega
  have p := (uni_parts hu).2.2.2
  rw [h]
  unfold cutI
  rw [Int.mul_ediv_cancel _ (by omega), show sumI u.X 0 = 0 from rfl, Int.mul_zero, Int.zero_ediv]
  omega
/-- A convolution has the volumes' sum. -/
theorem cv_sum {V : Nat → Int} {u : SlI} (hu : uniB u = true) (N : Nat) : ∀ i, i + u.n ≤ N + 1 → sumI (cvI V u i) N = sumI V i
  | 0, _ => sumI_zero fun _ _ => rfl
  | i + 1, h => by
    have ih := cv_sum (V := V) hu N i (by omega)
    rw [sumI, ← ih]
    have e : sumI (cvI V u (i + 1)) N = sumI (cvI V u i) N + sumI (fun j => if i ≤ j ∧ j < i + u.n then shrI u.X (V i) u.n (j - i) else 0) N := by
      rw [← sumI_add]
      exact sumI_congr fun j _ => rfl
    rw [e, sumI_shift _ _ _ _ (by omega), shr_all hu]
end Ba

end Go.Proofs.YtajhhplgcegodaaDoor
namespace Go.Proofs.YtajhhplgcegodaaDoor
open Go.RowKit
attribute [local go_sem ↓] Go.wp_at_zero Go.wp_at_succ

theorem info_intz : (Tryd.prog.info? 3).map (fun i => (i.zero, i.size, i.bytes)) = some (some (.int .i64 0), 1, 8) := by kernel_rfl
namespace Ba
def areB (a : SlI) : Bool := any (fun i => decide ((131072 : Int) < a.X i)) a.n
theorem are_no {a : SlI} (h : areB a = false) {i : Nat} (hi : i < a.n) : a.X i ≤ 131072 := by
  unfold areB at h
  rcases Int.lt_or_le 131072 (a.X i) with q | q
  · have := (any_iff (fun i => decide ((131072 : Int) < a.X i)) a.n).2 ⟨i, hi, decide_eq_true q⟩
    rw [h] at this; cases this
  · exact q
/-- The errors of Of, where Depths has none. -/
theorem of_errs {C : SlClass} {a u : SlI} {s : Ser} (hd : depE C a s = 0) (hn : s.ds.n ≤ 100) (hu : u.n ≤ 60) : (ofE C a u s = 0 ∧ uniB u = true ∧ (s.ds.n = 0 ∨ ∀ j, j < s.ds.n + u.n - 1 → 0 ≤ ofX C a u s j ∧ ofX C a u s j ≤ 1125899906842624)) ∨ ofE C a u s = 1 ∨ ofE C a u s = 5 := by
  unfold ofE
  cases hv : uniB u
  · exact .inr (.inl rfl)
  rw [if_pos rfl, if_pos hd]
  have ob := (dep_right hd).2
  have hvol : volB (outL C a s) = true := by
    unfold volB wiB outL
    simp only [Bool.and_eq_true, decide_eq_true_eq]
    exact ⟨by omega, allB_iff.2 fun j hj => (bet_iff _ _ _).2 (ob j hj)⟩
  unfold cnvE
  rw [if_pos hvol, if_pos hv]
  by_cases h0 : (outL C a s).n = 0
  · rw [if_pos h0]; exact .inl ⟨rfl, rfl, .inl h0⟩
  rw [if_neg h0, if_neg (by unfold cnvN; show ¬ (10000 : Int) < ((s.ds.n + u.n - 1 : Nat) : Int); omega)]
  cases hok : allB (fun j => bet (cvI (outL C a s).X u (outL C a s).n j) 0 1125899906842624) (cnvN (outL C a s) u)
  · exact .inr (.inr rfl)
  · refine .inl ⟨rfl, rfl, .inr fun j hj => ?_⟩
    exact (bet_iff _ _ _).1 (allB_at hok (show j < cnvN (outL C a s) u from hj))
theorem of_sum {C : SlClass} {a u : SlI} {s : Ser} (hv : uniB u = true) : sumI (ofX C a u s) (ofN C a u s) = sumI (out C a s) s.ds.n := by
  unfold ofX ofN
  by_cases h0 : s.ds.n = 0
  · rw [if_pos h0, h0]; rfl
  · rw [if_neg h0]
    exact cv_sum hv _ _ (by have := (uni_parts hv).1; omega)
theorem sumI_bd {X : Nat → Int} {n : Nat} (hn : n ≤ 200) (h : ∀ j, j < n → 0 ≤ X j ∧ X j ≤ 1125899906842624) : ∀ i, i ≤ n → i64 (sumI X i) := fun i hi => by
  have := sumI_le (X := X) (lo := 0) (hi := 1125899906842624) (n := i) fun j hj => h j (by omega)
  unfold i64
  have : (i : Int) ≤ 200 := by omega
  omega
end Ba

namespace Ba
theorem los_bd {C : SlClass} {a : SlI} {s : Ser} (R : Right C a s) {i : Nat} (hi : i < C.n) : 0 ≤ losJ C s i s.ds.n ∧ losJ C s i s.ds.n ≤ 1000 * sumP s.ds.X s.ds.n := by
  have ob : ∀ j, j < s.ds.n → 0 ≤ offJ C s i j ∧ offJ C s i j ≤ 1000 * dpt s j := fun j hj => ((R.fit hi j (by omega)).parts (R.dep hj)).2.2
  have h : ∀ j, j ≤ s.ds.n → 0 ≤ losJ C s i j ∧ losJ C s i j ≤ 1000 * sumP s.ds.X j := fun j hj => by
    induction j with
    | zero => unfold losJ sumP; rw [sumI, sumI]; omega
    | succ j ih =>
      have h1 := ih (by omega)
      have h2 := ob j (by omega); have h3 := R.dep (j := j) (by omega)
      have e : losJ C s i (j + 1) = losJ C s i j + (1000 * dpt s j - offJ C s i j) := rfl
      have e2 : sumP s.ds.X (j + 1) = sumP s.ds.X j + dpt s j := rfl
      rw [e, e2]; omega
  exact h _ (Nat.le_refl _)
theorem tot_bd {C : SlClass} {a : SlI} {s : Ser} (R : Right C a s) (h : ∀ i, i < C.n → a.X i ≤ 131072) : ∀ i, i ≤ C.n → 0 ≤ sumI (fun i => a.X i * (1000 * sumP s.ds.X s.ds.n - losJ C s i s.ds.n)) i ∧ sumI (fun i => a.X i * (1000 * sumP s.ds.X s.ds.n - losJ C s i s.ds.n)) i ≤ 4611686018427387904 := fun i hi => by
  have b := sumI_le (X := fun i => a.X i * (1000 * sumP s.ds.X s.ds.n - losJ C s i s.ds.n)) (lo := 0) (hi := 140737488355328000) (n := i) fun j hj => by
    have l := los_bd R (i := j) (by omega)
    have m := (R.mtr j (by omega)).1
    have p0 : 0 ≤ a.X j * (1000 * sumP s.ds.X s.ds.n - losJ C s j s.ds.n) := Int.mul_nonneg m (by omega)
    have p1 : a.X j * (1000 * sumP s.ds.X s.ds.n - losJ C s j s.ds.n) ≤ 131072 * 1073741824000 := Int.mul_le_mul (h j (by omega)) (by have := R.rain; omega) (by omega) (by omega)
    omega
  have := R.few
  have : (i : Int) ≤ 16 := by omega
  omega
end Ba
theorem gtot_any (s : Ba.Ser) (w : World) (hs : s.Ok w) (h : Ba.serB s = true) : Calls Tryd.prog 47 #[s.val] w fun e w' => ∃ m : Int, e = .returned (.tuple #[.int .i64 (Ba.sumP s.ds.X s.ds.n), .int .i64 m, .int .i64 0]) ∧ Gr w w' := by
  have sp := Ba.ser_parts h
  refine gtotal_ok s.fr s.st s.ds.A s.ds.n s.ds.c s.ds.b s.ds.o s.ds.X (Ba.sumP s.ds.X) w sp.2.2.1 (Lib.hid fun W hW => ?_) (Lib.hid hs.2.2.hA) (Lib.hid fun i hi => ⟨(hs.2.2.hX i hi).1, sp.2.2.2 i hi⟩) (Lib.hid rfl) (Lib.hid fun _ => rfl) (Lib.hid fun i hi => ?_)
  · have z := gvalid_any s W (hs.gr hW)
    rw [h] at z
    exact z
  · have z := Ba.sumP_le (X := s.ds.X) (n := i) (hi := 4194304) (by omega) fun j hj => (sp.2.2.2 j (by omega)).2
    have : (i : Int) ≤ 10000 := by omega
    omega

end Go.Proofs.YtajhhplgcegodaaDoor
