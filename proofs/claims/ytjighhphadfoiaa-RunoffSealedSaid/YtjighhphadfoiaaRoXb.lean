/-
  Runoff: losses.Lost of what is right; plain: what is lost and what runs off add up to the rain. (Printed by mkxb.py.)
-/
import Derived.Test.YtjighhphadfoiaaRoXa
import Derived.Test.YtjighhphadfoiaaRoV
import Derived.Test.YtjighhphadfoiaaRoW
set_option linter.unusedVariables false
set_option linter.unusedSimpArgs false
namespace Go.Proofs.Ytjighhphadfoiaa
open Go.RowKit
attribute [local go_sem ↓] Go.wp_at_zero Go.wp_at_succ

set_option maxRecDepth 100000 in
set_option maxHeartbeats 4000000 in
theorem lost_ok (nm : ByteArray) (se we ro dr sec : Int) (A : Option Addr) (n c b oo : Nat) (X of LT : Nat → Int) (a0v a1v : Int) (w : World) (hn : n ≤ 10000) (HA : Hid (0 < n → A = some ⟨b, oo, none⟩)) (HX : Hid (∀ i, i < n → w.cell? ⟨b, oo + i, none⟩ = some (.int .i64 (X i)) ∧ 0 ≤ X i ∧ X i ≤ 4194304)) (HOB : Hid (∀ i, i < n → 0 ≤ of i ∧ of i ≤ 4194304000))
    (HL0 : Hid (LT 0 = 0)) (HLS : Hid (∀ i, i < n → LT (i + 1) = LT i + (1000 * X i - of i))) (HLB : Hid (∀ i, i ≤ n → 0 ≤ LT i ∧ LT i ≤ 4611686018427387904))
    (HR : Hid (∀ W, Gr w W → Calls Try.prog 61 #[.agg #[.string nm, .int .i64 se, .int .i64 we, .int .i64 ro, .int .i64 dr], .agg #[.int .i64 0, .int .i64 0], .slice A n c, .int .i64 sec] W fun e w' => ∃ s : Ba.SlI, e = .returned (.tuple #[.agg #[.int .i64 a0v, .int .i64 a1v], .slice s.A s.n s.c, .int .i64 0]) ∧ s.At w' ∧ s.n = n ∧ (∀ i, i < n → s.X i = of i) ∧ Gr W w')) :
    Calls Try.prog 32 #[.agg #[.string nm, .int .i64 se, .int .i64 we, .int .i64 ro, .int .i64 dr], .slice A n c, .int .i64 sec] w fun e w' => e = .returned (.tuple #[.int .i64 (LT n), .int .i64 0]) ∧ Gr w w' := by
  go_enter Try.func32, Try.ntmps32
  go_wp2_with fail
  refine (HR.out _ (by exact gr_auto)).mono ?_
  rintro e w1 ⟨s, rfl, s1, s2, s3, hb1⟩
  have g1 : Gr w w1 := Gr.trans gr_auto hb1
  obtain ⟨sA, sn, sc, sb, so, sX⟩ := s
  simp only at s2 s3
  subst s2
  have SA := Lib.hid s1.hA; have SX := Lib.hid (fun i (hi : i < sn) => show w1.cell? ⟨sb, so + i, none⟩ = some (.int .i64 (of i)) from by rw [← s3 i hi]; exact (s1.hX i hi).1)
  have sc1 := s1.hc; have sc2 := s1.hb
  simp only at sc1 sc2
  clear s1 s3 HR hb1
  go_wp2_with fail
  go_loopw [11, 28] (fun v x wr => ∃ i : Nat, i ≤ sn ∧ x = .int .i64 (i : Int) ∧ v = .int .i64 (LT i) ∧ Gr w1 wr) (fun _ x _ => sn - (intOf x).toNat)
  case atStart => exact ⟨0, Nat.zero_le _, rfl, by rw [HL0.out], by exact gr_auto⟩
  case round =>
    obtain ⟨i, hi, rfl, rfl, hg⟩ := hrel
    have t := HLB.out i hi
    by_cases hlt : i < sn
    · obtain rfl := HA.out (by omega)
      obtain rfl := SA.out (by first | omega | (simp only; omega))
      obtain ⟨a0, x0, x1⟩ := HX.out i hlt
      replace a0 := Gr.at (g1.trans hg) a0
      have b0 := Gr.at hg (SX.out i hlt)
      have ob := HOB.out i hlt
      have T := Lib.hid (HLS.out i hlt)
      have tc := HLB.out (i + 1) hlt
      rw [T.out] at tc
      have ib0 : (0 : Int) ≤ (i : Int) := by omega
      have ib1 : (i : Int) < (sn : Int) := by omega
      clear HX HA HL0 HLS HLB HOB SX SA
      generalize LT i = s0 at *
      generalize X i = x at *
      generalize of i = oi at *
      go_wp2_with fail
      go_roundw
      case rel => exact ⟨i + 1, by omega, by go_num, by rw [T.out], hg⟩
      case measure => simp [intOf]; omega
    · obtain rfl : sn = i := by omega
      clear HX HA HL0 HLS HLB HOB SX SA
      go_wp2_with fail
      refine bodyPost_ret (by simp [results, Try.results32, go_sem]; try rfl) rfl ?_
      exact ⟨rfl, g1.trans hg⟩

namespace Ba
theorem dpt_sum (s : Ser) : ∀ n, sumI (dpt s) n = sumP s.ds.X n
  | 0 => rfl
  | n + 1 => by unfold sumP; rw [sumI, sumI, dpt_sum s n]; rfl
theorem sumI_mul (a : Int) (X : Nat → Int) : ∀ n, sumI (fun i => a * X i) n = a * sumI X n
  | 0 => by simp [sumI]
  | n + 1 => by rw [sumI, sumI, sumI_mul a X n, Int.mul_add]
theorem sumI_swap (f : Nat → Nat → Int) (n : Nat) : ∀ m, sumI (fun i => sumI (f i) n) m = sumI (fun j => sumI (fun i => f i j) m) n
  | 0 => by
    rw [sumI]
    exact (sumI_zero fun _ _ => rfl).symm
  | m + 1 => by
    rw [sumI, sumI_swap f n m, ← sumI_add]
    exact sumI_congr fun j _ => rfl
/-- What a class lets off in a step; what it loses in the first steps. -/
def offJ (C : SlClass) (s : Ser) (i j : Nat) : Int := offI (C.D i) (str C s j i).1 (str C s j i).2 (dpt s j)
def losJ (C : SlClass) (s : Ser) (i n : Nat) : Int := sumI (fun j => 1000 * dpt s j - offJ C s i j) n
theorem losJ_eq (C : SlClass) (s : Ser) (i n : Nat) : losJ C s i n = 1000 * sumP s.ds.X n - sumI (offJ C s i) n := by
  unfold losJ
  rw [sumI_sub, sumI_mul, dpt_sum]
/-- The volumes, taken together. -/
theorem out_all (C : SlClass) (a : SlI) (s : Ser) : ∀ n, 1000 * sumI (out C a s) n + lft C a s n = sumI (vol C a s) n
  | 0 => rfl
  | n + 1 => by
    have ih := out_all C a s n
    rw [sumI, sumI, lft]
    unfold out
    unfold out at ih
    omega
theorem out_quot (C : SlClass) (a : SlI) (s : Ser) (n : Nat) : sumI (vol C a s) n / 1000 = sumI (out C a s) n := by
  have h := out_all C a s n
  have l := lft_le (C := C) (a := a) (s := s) n
  omega
/-- What the classes let off, area by area. -/
theorem tot_vol (C : SlClass) (a : SlI) (s : Ser) (n : Nat) : sumI (fun i => a.X i * (1000 * sumP s.ds.X n - losJ C s i n)) C.n = sumI (vol C a s) n := by
  have e : ∀ i, i < C.n → a.X i * (1000 * sumP s.ds.X n - losJ C s i n) = sumI (fun j => a.X i * offJ C s i j) n := fun i _ => by
    rw [losJ_eq, sumI_mul]
    congr 1
    omega
  rw [sumI_congr e, sumI_swap (fun i j => a.X i * offJ C s i j) n C.n]
  exact sumI_congr fun j _ => rfl
theorem sumI_point (c : Int) (p : Nat) : ∀ n, sumI (fun j => if j = p then c else 0) n = if p < n then c else 0
  | 0 => by rw [sumI, if_neg (by omega)]
  | n + 1 => by
    rw [sumI, sumI_point c p n]
    by_cases h1 : n = p
    · subst h1; rw [if_neg (by omega), if_pos rfl, if_pos (by omega)]; omega
    · rw [if_neg h1]
      by_cases h2 : p < n
      · rw [if_pos h2, if_pos (by omega)]; omega
      · rw [if_neg h2, if_neg (by omega)]; rfl
theorem sumI_shift (f : Nat → Int) (i N : Nat) : ∀ k, i + k ≤ N → sumI (fun j => if i ≤ j ∧ j < i + k then f (j - i) else 0) N = sumI f k
  | 0, _ => by
    rw [sumI]
    exact sumI_zero fun j _ => if_neg (by omega)
  | k + 1, h => by
    have ih := sumI_shift f i N k (by omega)
    have e : ∀ j, j < N → (if i ≤ j ∧ j < i + (k + 1) then f (j - i) else 0) = (if i ≤ j ∧ j < i + k then f (j - i) else 0) + (if j = i + k then f k else 0) := fun j _ => by
      by_cases h1 : j = i + k
      · subst h1; rw [if_pos (by omega), if_neg (by omega), if_pos rfl, show i + k - i = k by omega]; omega
      · rw [if_neg h1]
        by_cases h2 : i ≤ j ∧ j < i + k
        · rw [if_pos h2, if_pos (by omega)]; omega
        · rw [if_neg h2, if_neg (by omega)]; rfl
    rw [sumI_congr e, sumI_add, ih, sumI_point, if_pos (by omega), sumI]
theorem shr_all {u : SlI} (hu : uniB u = true) (v : Int) : sumI (shrI u.X v u.n) u.n = v := by
  have h : ∀ k, sumI (shrI u.X v u.n) k = cutI u.X v u.n k - cutI u.X v u.n 0 := fun k => by
    induction k with
    | zero => rw [sumI]; omega
    | succ k ih => rw [sumI, ih]; unfold shrI; omega
  have p := (uni_parts hu).2.2.2
  rw [h]
  unfold cutI
  rw [Int.mul_ediv_cancel _ (by omega), show sumI u.X 0 = 0 from rfl, Int.mul_zero, Int.zero_ediv]
  omega
/-- A convolution has the volumes' sum. -/
theorem cv_sum {V : Nat → Int} {u : SlI} (hu : uniB u = true) (N : Nat) : ∀ i, i + u.n ≤ N + 1 → sumI (cvI V u i) N = sumI V i
  | 0, _ => sumI_zero fun _ _ => rfl
  | i + 1, h => by
    have ih := cv_sum (V := V) hu N i (by omega)
    rw [sumI, ← ih]
    have e : sumI (cvI V u (i + 1)) N = sumI (cvI V u i) N + sumI (fun j => if i ≤ j ∧ j < i + u.n then shrI u.X (V i) u.n (j - i) else 0) N := by
      rw [← sumI_add]
      exact sumI_congr fun j _ => rfl
    rw [e, sumI_shift _ _ _ _ (by omega), shr_all hu]
end Ba

set_option maxHeartbeats 1000000 in
theorem lost_any (C : Ba.SlClass) (a : Ba.SlI) (s : Ba.Ser) (R : Ba.Right C a s) (i : Nat) (hi : i < C.n) (hn : s.ds.n ≤ 1000) (x : Ba.SlI) (w : World) (hC : (C.D i).Ok w) (hx : x.At w) (xn : x.n = s.ds.n) (xX : ∀ j, j < s.ds.n → x.X j = Ba.dpt s j) : Calls Try.prog 32 #[(C.D i).val, .slice x.A x.n x.c, .int .i64 s.st] w fun e w' => e = .returned (.tuple #[.int .i64 (Ba.losJ C s i s.ds.n), .int .i64 0]) ∧ Gr w w' := by
  have sp := Ba.ser_parts R.ser
  have fit := fun j (hj : j ≤ s.ds.n) => R.fit hi j hj
  have ob : ∀ j, j < s.ds.n → 0 ≤ Ba.offJ C s i j ∧ Ba.offJ C s i j ≤ 1000 * Ba.dpt s j := fun j hj => ((fit j (by omega)).parts (R.dep hj)).2.2
  have lb : ∀ j, j ≤ s.ds.n → 0 ≤ Ba.losJ C s i j ∧ Ba.losJ C s i j ≤ 4194304000 * (j : Int) := fun j hj => by
    induction j with
    | zero => unfold Ba.losJ; rw [Ba.sumI]; omega
    | succ j ih =>
      have h1 := ih (by omega)
      have h2 := ob j (by omega); have h3 := R.dep (j := j) (by omega)
      have e : Ba.losJ C s i (j + 1) = Ba.losJ C s i j + (1000 * Ba.dpt s j - Ba.offJ C s i j) := rfl
      rw [e]; push_cast; omega
  have cl := Ba.cls_at R.cls hi
  have HRun := Lib.hid (fun W (hW : Gr w W) => run_ok (C.D i).nm (C.D i).se (C.D i).we (C.D i).ro (C.D i).dr s.st x.A x.n x.c x.b x.o x.X (fun j => (Ba.str C s j i).1) (fun j => (Ba.str C s j i).2) (Ba.offJ C s i) W (by omega) (Lib.hid hx.hA) (Lib.hid fun j hj => Gr.at hW (hx.hX j hj).1) (Lib.hid ⟨rfl, rfl⟩) (Lib.hid fun j hj => by have := ob j (by omega); have := R.dep (j := j) (by omega); omega)
    (Lib.hid fun W' hW' => by
      have z := vstore_any (C.D i) 0 0 W' ((hC.gr hW).gr hW')
      rw [cl.1, (Ba.bet_iff 0 0 (C.D i).we).2 (by omega), (Ba.bet_iff 0 0 (C.D i).ro).2 (by omega)] at z
      exact z)
    (Lib.hid fun W' => by
      have z := length_any s.st W'
      rw [(Ba.bet_iff s.st 1 86400).2 sp.2.1] at z
      exact z)
    (Lib.hid fun W' hW' => by
      have z := has_int 91 #[] x (fun j => !Ba.bet (x.X j) 0 4194304) W' ((hx.gr hW).gr hW') (enter_of Try.func91 (by kernel_rfl) (by kernel_rfl)) fun j hj W'' _ => gr_of (runf_any (x.X j) W'')
      rw [show Ba.any (fun j => !Ba.bet (x.X j) 0 4194304) x.n = false from by
        have e := Ba.any_not (p := fun j => Ba.bet (x.X j) 0 4194304) (n := x.n)
        rw [Ba.allB_iff.2 fun j hj => (Ba.bet_iff _ _ _).2 (by rw [xX j (by omega)]; exact R.dep (by omega))] at e
        simpa using e] at z
      exact z)
    (Lib.hid fun j hj W' _ => by
      have z := lstep_any (C.D i).nm (C.D i).se (C.D i).we (C.D i).ro (C.D i).dr (Ba.str C s j i).1 (Ba.str C s j i).2 (Ba.dpt s j) s.st W' (fit j (by omega)) (R.dep (by omega)) sp.2.1
      rw [xX j (by omega), Ba.str]
      exact z))
  have key := lost_ok (C.D i).nm (C.D i).se (C.D i).we (C.D i).ro (C.D i).dr s.st x.A x.n x.c x.b x.o x.X (Ba.offJ C s i) (Ba.losJ C s i) _ _ w (by omega) (Lib.hid hx.hA) (Lib.hid fun j hj => ⟨(hx.hX j hj).1, by rw [xX j (by omega)]; exact R.dep (by omega)⟩) (Lib.hid fun j hj => by have := ob j (by omega); have := R.dep (j := j) (by omega); omega) (Lib.hid rfl) (Lib.hid fun j hj => by rw [xX j (by omega)]; rfl) (Lib.hid fun j hj => by have := lb j (by omega); omega) HRun
  rw [xn] at key ⊢
  exact key

end Go.Proofs.Ytjighhphadfoiaa
