/-
  Tables: slices.BinarySearchFunc at knots, table.piece, table.Floor. Typed.
-/
import Derived.Test.YtllkiadedaghoaaGreatCb01
import Derived.Test.YtllkiadedaghoaaGreatCm07
import Derived.Test.YtllkiadedaghoaaGreatCb02
import Derived.Test.YtllkiadedaghoaaGreatCb03
import Derived.Test.YtllkiadedaghoaaGreatCm02

set_option linter.unusedVariables false
set_option linter.unusedSimpArgs false
namespace Go.Proofs.YtllkiadedaghoaaGreat
open Go.RowKit
attribute [local go_sem ↓] Go.wp_at_zero Go.wp_at_succ
/-- The comparison of a knot with a number. -/
def Ba.cm3 (a x : Int) : Int := if a < x then -1 else if x < a then 1 else 0
set_option maxRecDepth 100000 in
set_option maxHeartbeats 4000000 in
theorem pcl_any (a y x : Int) (w : World) : Calls Tryz.prog 177 #[.agg #[.int .i64 a, .int .i64 y], .int .i64 x] w fun e w' => e = .returned (.int .i64 (Ba.cm3 a x)) ∧ Gr w w' := by
  unfold Ba.cm3
  by_cases h : a < x
  · rw [if_pos h]
    go_enter Tryz.func177, Tryz.ntmps177
    go_wp2_with fail
    go_ret
    exact ⟨rfl, gr_auto⟩
  · rw [if_neg h]
    by_cases h2 : x < a
    · rw [if_pos h2]
      go_enter Tryz.func177, Tryz.ntmps177
      go_wp2_with fail
      go_ret
      exact ⟨rfl, gr_auto⟩
    · rw [if_neg h2]
      go_enter Tryz.func177, Tryz.ntmps177
      go_wp2_with fail
      go_ret
      exact ⟨rfl, gr_auto⟩
set_option maxRecDepth 100000 in
set_option maxHeartbeats 4000000 in
theorem bsf_any (s : Ba.SlK) (x : Int) (w : World) (h : s.At w) (hv : Ba.tblB s = true) :
    Calls Tryz.prog 176 #[.slice s.A s.n s.c, .int .i64 x, .func (.func 177) #[] #[]] w fun e w' => e = .returned (.tuple #[.int .i64 ((Ba.ltC s.X x s.n : Nat) : Int), .bool (decide (Ba.ltC s.X x s.n < s.n) && (s.X (Ba.ltC s.X x s.n) == x))]) ∧ Gr w w' := by
  obtain ⟨hn1, hn2, hs⟩ := Ba.tbl_parts hv
  have hA := h.hA (by omega)
  have HX := Lib.hid h.hX
  have HU := Lib.hid (fun (k : Nat) (hk : k ≤ s.n) (h1 : ∀ i, i < k → s.X i < x) (h2 : ∀ i, k ≤ i → i < s.n → x ≤ s.X i) => show Ba.ltC s.X x s.n = k from Ba.ltC_is hk h1 h2)
  have HM := Lib.hid (fun (i j : Nat) (hij : i ≤ j) (hj : j < s.n) => (Ba.kns_pair hs hij hj).1)
  have HP := Lib.hid (fun a y W => pcl_any a y x W)
  have hen := enter_of Tryz.func177 (by kernel_rfl) (by kernel_rfl)
  clear h hv hs
  generalize Ba.ltC s.X x s.n = K at *
  obtain ⟨RES, hRES⟩ : ∃ RES, (decide (K < s.n) && (s.X K == x)) = RES := ⟨_, rfl⟩
  rw [hRES]
  have HRES := Lib.hid hRES
  clear hRES
  cases s with | mk A n c b o X Y =>
  simp only [] at *
  subst hA
  go_enter Tryz.func176, Tryz.ntmps176
  go_wp2_with fail
  go_loopw [9, 10] (fun u v wr => ∃ i j : Nat, i ≤ j ∧ j ≤ n ∧ u = .int .i64 (i : Int) ∧ v = .int .i64 (j : Int) ∧ Hid (∀ t, t < i → X t < x) ∧ Hid (∀ t, j ≤ t → t < n → x ≤ X t) ∧ Gr w wr) (fun u v _ => (intOf v).toNat - (intOf u).toNat)
  case atStart => exact ⟨0, n, Nat.zero_le _, Nat.le_refl _, rfl, rfl, Lib.hid (fun t h => absurd h (Nat.not_lt_zero _)), Lib.hid (fun t h1 h2 => by omega), Gr.refl _⟩
  case round =>
    obtain ⟨i, j, hij, hjn, rfl, rfl, HL, HH, hg⟩ := hrel
    by_cases hlt : i < j
    · have hm1 : i ≤ (i + j) / 2 := by omega
      have hm2 : (i + j) / 2 < j := by omega
      obtain ⟨⟨a0, a1⟩, -, -⟩ := HX.out ((i + j) / 2) (by omega)
      replace a0 := Gr.at hg a0; replace a1 := Gr.at hg a1
      have i1 : (i : Int) < (j : Int) := by omega
      have ib0 : (0 : Int) ≤ ((i : Int) + (j : Int)) / 2 := by omega
      have ib1 : ((i : Int) + (j : Int)) / 2 < (n : Int) := by omega
      have HPm := Lib.hid (HP.out (X ((i + j) / 2)) (Y ((i + j) / 2)))
      have HMa := Lib.hid (fun t (ht : t ≤ (i + j) / 2) => HM.out t ((i + j) / 2) ht (by omega))
      have HMb := Lib.hid (fun t (ht : (i + j) / 2 ≤ t) (h2 : t < n) => HM.out ((i + j) / 2) t ht h2)
      clear HX HU HM HP
      obtain ⟨y, hy⟩ : ∃ y, Y ((i + j) / 2) = y := ⟨_, rfl⟩
      rw [hy] at a1 HPm
      obtain ⟨xm, hxm⟩ : ∃ xm, X ((i + j) / 2) = xm := ⟨_, rfl⟩
      rw [hxm] at a0 HPm HMa HMb
      clear hy hxm
      by_cases hc : xm < x
      · have HR := Lib.hid (show ∀ t, t < (i + j) / 2 + 1 → X t < x from fun t ht => by have := HMa.out t (by omega); omega)
        have ec : Ba.cm3 xm x = -1 := by unfold Ba.cm3; rw [if_pos hc]
        rw [ec] at HPm
        clear HMa HMb ec hc HL
        go_wp2_with fail
        refine (HPm.out _).mono ?_
        rintro e w1 ⟨rfl, hb⟩
        have g1 : Gr w w1 := gr_auto
        clear hb HPm
        go_wp2_with fail
        go_roundw
        case rel => exact ⟨(i + j) / 2 + 1, j, by omega, hjn, by first | (congr 1; omega) | go_num, rfl, HR, HH, g1⟩
        case measure => simp [intOf]; omega
      · have HR := Lib.hid (show ∀ t, (i + j) / 2 ≤ t → t < n → x ≤ X t from fun t h1 h2 => by have := HMb.out t h1 h2; omega)
        obtain ⟨r, hr, hr0⟩ : ∃ r, Ba.cm3 xm x = r ∧ ¬ r < 0 := ⟨_, rfl, by unfold Ba.cm3; rw [if_neg hc]; split <;> decide⟩
        rw [hr] at HPm
        have tr : decide (r < 0) = false := decide_eq_false hr0
        clear HMa HMb hr hc HH
        go_wp2_with fail
        refine (HPm.out _).mono ?_
        rintro e w1 ⟨rfl, hb⟩
        have g1 : Gr w w1 := gr_auto
        clear hb HPm
        go_wp2_with fail
        go_roundw
        case rel => exact ⟨i, (i + j) / 2, hm1, by omega, rfl, by first | rfl | (congr 1; omega) | go_num, HL, HR, g1⟩
        case measure => simp [intOf]; omega
    · obtain rfl : i = j := by omega
      have hK := HU.out i hjn HL.out HH.out
      subst hK
      by_cases hin : K < n
      · obtain ⟨⟨a0, a1⟩, -, -⟩ := HX.out K hin
        replace a0 := Gr.at hg a0; replace a1 := Gr.at hg a1
        have ib0 : (0 : Int) ≤ (K : Int) := by omega
        have ib1 : (K : Int) < (n : Int) := by omega
        have HPi := Lib.hid (HP.out (X K) (Y K))
        have HE := Lib.hid (show (Ba.cm3 (X K) x == 0) = RES from by
          rw [← HRES.out, decide_eq_true hin, Bool.true_and, Bool.eq_iff_iff, beq_iff_eq, beq_iff_eq]
          unfold Ba.cm3
          constructor
          · intro z
            split at z
            · omega
            · split at z <;> omega
          · intro z
            rw [if_neg (by omega), if_neg (by omega)])
        clear HRES
        generalize X K = xi at *
        generalize Y K = yi at *
        generalize Ba.cm3 xi x = r at *
        clear HX HU HM HP HL HH
        go_wp2_with fail
        refine (HPi.out _).mono ?_
        rintro e w1 ⟨rfl, hb⟩
        have g1 : Gr w w1 := gr_auto
        clear hb HPi
        go_wp2_with fail
        go_ret2
        exact ⟨by rw [← HE.out]; rfl, g1⟩
      · obtain rfl : RES = false := by rw [← HRES.out, decide_eq_false hin]; rfl
        obtain rfl : n = K := by omega
        clear HX HU HM HP HL HH HRES
        go_wp2_with fail
        go_ret2
        exact ⟨rfl, hg⟩
theorem Wd.vld_w (v : Int) : Wd.vld (Wd.wH v) (Wd.wL v) = true := by
  by_cases h : -1329227995784915872903807060280344576 ≤ v ∧ v ≤ 1329227995784915872903807060280344575
  · obtain ⟨a, b, -⟩ := Wd.has_true h.1 h.2
    rw [a, b]
    exact Wd.vld_mk (by omega) (by omega) (by omega) (by omega)
  · obtain ⟨a, b, -⟩ := Wd.has_false (v := v) (by omega)
    rw [a, b]; decide
theorem prod_ex (a b : Int) (w : World) (a0 : Ba.i64 a) (b0 : Ba.i64 b) : Calls Tryz.prog 179 #[.int .i64 a, .int .i64 b] w fun e w' => ∃ h l k, e = .returned (.tuple #[.agg #[.int .i64 h, .int .i64 l], .int .i64 k]) ∧ Wd.vld h l = true ∧ Gr w w' :=
  (product_any a b w a0.1 a0.2 b0.1 b0.2).mono fun _ _ ⟨he, hg⟩ => ⟨_, _, _, he, Wd.vld_w _, hg⟩
theorem subw_ex (h l k m : Int) (w : World) (hv : Wd.vld h l = true) (hv2 : Wd.vld k m = true) : Calls Tryz.prog 180 #[.agg #[.int .i64 h, .int .i64 l], .agg #[.int .i64 k, .int .i64 m]] w fun e w' => ∃ h' l' k', e = .returned (.tuple #[.agg #[.int .i64 h', .int .i64 l'], .int .i64 k']) ∧ Wd.vld h' l' = true ∧ Gr w w' :=
  (sub_any h l k m w hv hv2).mono fun _ _ ⟨he, hg⟩ => ⟨_, _, _, he, Wd.vld_w _, hg⟩
theorem intw_ex (h l : Int) (w : World) (hv : Wd.vld h l = true) : Calls Tryz.prog 181 #[.agg #[.int .i64 h, .int .i64 l]] w fun e w' => ∃ q k, e = .returned (.tuple #[.int .i64 q, .int .i64 k]) ∧ Gr w w' :=
  (int_any h l w hv).mono fun _ _ ⟨he, hg⟩ => ⟨_, _, he, hg⟩
/-- The quotient of Scale, where it fits. -/
theorem scale_ex (u a d q : Int) (w : World) (u0 : Ba.i64 u) (a0 : Ba.i64 a) (d0 : 0 < d) (d1 : d ≤ 9223372036854775807) (hq : u * a / d = q) (q0 : 0 ≤ q) (q1 : q ≤ 4611686018427387904) : Calls Tryz.prog 178 #[.int .i64 u, .int .i64 a, .int .i64 d] w fun e w' => ∃ hi k, e = .returned (.tuple #[.int .i64 q, .int .i64 hi, .int .i64 k]) ∧ Gr w w' := by
  refine (scale_any u a d w u0.1 u0.2 a0.1 a0.2 (by omega) d1).mono fun e w' ⟨he, hg⟩ => ⟨Wd.scHi (u * a) d, Wd.scE (u * a) d, ?_, hg⟩
  rw [he]
  have h1 : Wd.flr (u * a) d = q := by unfold Wd.flr; rw [if_pos d0, hq]
  have h2 : Wd.cel (u * a) d = -(-(u * a) / d) := by unfold Wd.cel Wd.flr; rw [if_pos d0]
  have h3 : q ≤ Wd.cel (u * a) d ∧ Wd.cel (u * a) d ≤ q + 1 := by
    rw [h2]
    generalize u * a = p at *
    have m1 := Int.emod_nonneg p (show d ≠ 0 by omega)
    have m2 := Int.emod_lt_of_pos p d0
    have m3 := Int.mul_ediv_add_emod p d
    have n1 := Int.emod_nonneg (-p) (show d ≠ 0 by omega)
    have n2 := Int.emod_lt_of_pos (-p) d0
    have n3 := Int.mul_ediv_add_emod (-p) d
    rw [hq] at m3
    generalize -p / d = z at *
    have k1 : d * (q + z) ≤ 0 := by rw [Int.mul_add]; omega
    have k2 : -(2 * d) < d * (q + z) := by rw [Int.mul_add]; omega
    have k3 : q + z ≤ 0 := Classical.byContradiction fun c => by
      have : 0 < d * (q + z) := Int.mul_pos d0 (by omega)
      omega
    have k4 : -2 < q + z := Classical.byContradiction fun c => by
      have : d * (q + z) ≤ d * (-2) := Int.mul_le_mul_of_nonneg_left (by omega) (by omega)
      omega
    omega
  have hok : Wd.scOK (u * a) d = true := by
    unfold Wd.scOK Wd.fits
    rw [h1]
    simp
    omega
  unfold Wd.scLo
  rw [if_neg (by omega), hok, if_pos rfl, h1]
end Go.Proofs.YtllkiadedaghoaaGreat
