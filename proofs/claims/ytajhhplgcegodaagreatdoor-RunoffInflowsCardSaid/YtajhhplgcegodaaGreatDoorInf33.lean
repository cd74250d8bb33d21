/-
  Runoff: hydrograph.series, hydrograph.Convolve. (Printed by mkv.py.)
-/
import Derived.Test.YtajhhplgcegodaaGreatDoorInf31
import Derived.Test.YtajhhplgcegodaaGreatDoorInf32
import Derived.Test.YtajhhplgcegodaaGreatDoorInf02

set_option linter.unusedVariables false
set_option linter.unusedSimpArgs false
namespace Go.Proofs.YtajhhplgcegodaaGreatDoor
open Go.RowKit
attribute [local go_sem ↓] Go.wp_at_zero Go.wp_at_succ
namespace Ba
/-- Are volumes a series? -/
def volB (l : SlI) : Bool := decide ((l.n : Int) ≤ 10000) && wiB l 1125899906842624
/-- What has come together behind some volumes; and behind some shares of the next one. -/
def cvI (V : Nat → Int) (u : SlI) : Nat → Nat → Int
  | 0, _ => 0
  | i + 1, j => cvI V u i j + (if i ≤ j ∧ j < i + u.n then shrI u.X (V i) u.n (j - i) else 0)
def cvK (V : Nat → Int) (u : SlI) (i k j : Nat) : Int := cvI V u i j + (if i ≤ j ∧ j < i + k then shrI u.X (V i) u.n (j - i) else 0)
theorem cvK_zero (V : Nat → Int) (u : SlI) (i j : Nat) : cvK V u i 0 j = cvI V u i j := by
  unfold cvK; rw [if_neg (by omega)]; omega
theorem cvK_next (V : Nat → Int) (u : SlI) (i k : Nat) : cvK V u i (k + 1) (i + k) = cvK V u i k (i + k) + shrI u.X (V i) u.n k := by
  unfold cvK; rw [if_pos (by omega), if_neg (by omega), show i + k - i = k by omega]; omega
theorem cvK_same (V : Nat → Int) (u : SlI) (i k j : Nat) (h : j ≠ i + k) : cvK V u i (k + 1) j = cvK V u i k j := by
  unfold cvK
  by_cases c : i ≤ j ∧ j < i + k
  · rw [if_pos (by omega), if_pos c]
  · rw [if_neg (by omega), if_neg c]
theorem shr_zero (X : Nat → Int) (n k : Nat) : shrI X 0 n k = 0 := by
  unfold shrI cutI; rw [Int.zero_mul, Int.zero_mul, Int.zero_ediv]; rfl
theorem cvI_skip (V : Nat → Int) (u : SlI) (i : Nat) (h : V i = 0) : cvI V u (i + 1) = cvI V u i := by
  funext j
  rw [cvI, h, shr_zero]
  split <;> omega
theorem cvK_le {V : Nat → Int} {u : SlI} (hu : uniB u = true) {n : Nat} (hV : ∀ i, i < n → 0 ≤ V i ∧ V i ≤ 1125899906842624) : ∀ i, (i ≤ n → ∀ j, 0 ≤ cvI V u i j ∧ cvI V u i j ≤ 1125899906842624 * i)
  | 0, _, j => by rw [cvI]; omega
  | i + 1, hi, j => by
    have a := cvK_le hu hV i (by omega) j
    have v := hV i (by omega)
    rw [cvI]
    by_cases c : i ≤ j ∧ j < i + u.n
    · rw [if_pos c]
      have s := shr_le hu v.1 (i := j - i) (by omega)
      have e : (1125899906842624 : Int) * ((i + 1 : Nat) : Int) = 1125899906842624 * i + 1125899906842624 := by push_cast; rw [Int.mul_add, Int.mul_one]
      omega
    · rw [if_neg c]
      have e : (1125899906842624 : Int) * ((i + 1 : Nat) : Int) = 1125899906842624 * i + 1125899906842624 := by push_cast; rw [Int.mul_add, Int.mul_one]
      omega
/-- The error of Convolve. -/
def cnvN (l u : SlI) : Nat := l.n + u.n - 1
def cnvE (l u : SlI) : Int := if volB l = true then if uniB u = true then if l.n = 0 then 0 else if (10000 : Int) < (cnvN l u : Int) then 4 else if allB (fun j => bet (cvI l.X u l.n j) 0 1125899906842624) (cnvN l u) = true then 0 else 5 else 1 else 1
end Ba
/-- What Convolve answers. -/
def RetCnv (l u : Ba.SlI) (w : World) (e : Ending) (w' : World) : Prop := ∃ r : Ba.SlI, e = .returned (.tuple #[.slice r.A r.n r.c, .int .i64 (Ba.cnvE l u)]) ∧ r.At w' ∧ (Ba.cnvE l u = 0 → r.n = (if l.n = 0 then 0 else Ba.cnvN l u) ∧ ∀ j, j < r.n → r.X j = Ba.cvI l.X u l.n j) ∧ (Ba.cnvE l u ≠ 0 → r.n = 0) ∧ (0 < r.n → w.heap.size ≤ r.b) ∧ Gr w w'
def CnvP (okB : Bool) (N : Nat) (cv : Nat → Int) (w : World) (e : Ending) (w' : World) : Prop := ∃ (A : Option Addr) (N' : Nat), e = .returned (.tuple #[.slice A N' N', .int .i64 (if okB = true then 0 else 5)]) ∧ (okB = true → ∃ R, N' = N ∧ A = some ⟨R, 0, none⟩ ∧ Row w' R N (fun j => .int .i64 (cv j)) ∧ w.heap.size ≤ R) ∧ (okB = false → N' = 0) ∧ Gr w w'
set_option maxRecDepth 100000 in
set_option maxHeartbeats 4000000 in
theorem hseries_any (s : Ba.SlI) (w : World) (h : s.At w) : Calls Tryz.prog 154 #[.slice s.A s.n s.c] w fun e w' => e = .returned (.bool (Ba.volB s)) ∧ Gr w w' := by
  have HC := Lib.hid (fun W (hh : Gr w W) => hwithin_any s 1125899906842624 W (h.gr hh))
  have hm := Nat.le_trans h.hc h.hb
  clear h
  unfold Ba.volB
  generalize Ba.wiB s 1125899906842624 = q at *
  obtain ⟨A, n, c, b, o, X⟩ := s
  simp only at *
  cases t0 : decide ((n : Int) ≤ 10000)
  · clear HC
    go_enter Tryz.func154, Tryz.ntmps154
    go_wp2_with fail
    go_ret
    exact ⟨rfl, gr_auto⟩
  · go_enter Tryz.func154, Tryz.ntmps154
    go_wp2_with fail
    refine (HC.out _ gr_auto).mono ?_
    rintro e w1 ⟨rfl, hb1⟩
    go_wp2_with fail
    go_ret
    exact ⟨by simp, gr_auto⟩
set_option maxRecDepth 100000 in
set_option maxHeartbeats 4000000 in
theorem cnv_no1 (A A2 : Option Addr) (n c m c2 : Nat) (w : World) (hm1 : n ≤ 9223372036854775807) (hm2 : m ≤ 9223372036854775807) (HS : Hid (∀ W, Gr w W → Calls Tryz.prog 154 #[.slice A n c] W fun e w' => e = .returned (.bool false) ∧ Gr W w')) : Calls Tryz.prog 108 #[.slice A n c, .slice A2 m c2] w fun e w' => e = .returned (.tuple #[.slice none 0 0, .int .i64 1]) ∧ Gr w w' := by
  go_enter Tryz.func108, Tryz.ntmps108
  go_wp2_with fail
  refine (HS.out _ (by exact Gr.refl _)).mono ?_
  rintro e w1 ⟨rfl, hb1⟩
  go_wp2_with fail
  refine bodyPost_ret (by simp [results, Tryz.results108, go_sem]; try rfl) rfl ?_
  exact ⟨rfl, gr_auto⟩
set_option maxRecDepth 100000 in
set_option maxHeartbeats 4000000 in
theorem cnv_no2 (A A2 : Option Addr) (n c m c2 : Nat) (w : World) (hm1 : n ≤ 9223372036854775807) (hm2 : m ≤ 9223372036854775807) (HS : Hid (∀ W, Gr w W → Calls Tryz.prog 154 #[.slice A n c] W fun e w' => e = .returned (.bool true) ∧ Gr W w')) (HV : Hid (∀ W, Gr w W → Calls Tryz.prog 94 #[.slice A2 m c2] W fun e w' => e = .returned (.bool false) ∧ Gr W w')) : Calls Tryz.prog 108 #[.slice A n c, .slice A2 m c2] w fun e w' => e = .returned (.tuple #[.slice none 0 0, .int .i64 1]) ∧ Gr w w' := by
  go_enter Tryz.func108, Tryz.ntmps108
  go_wp2_with fail
  refine (HS.out _ (by exact Gr.refl _)).mono ?_
  rintro e w1 ⟨rfl, hb1⟩
  go_wp2_with fail
  refine (HV.out _ (by exact hb1)).mono ?_
  rintro e w2 ⟨rfl, hb2⟩
  have g2 := hb1.trans hb2
  go_wp2_with fail
  refine bodyPost_ret (by simp [results, Tryz.results108, go_sem]; try rfl) rfl ?_
  exact ⟨rfl, gr_auto⟩
set_option maxRecDepth 100000 in
set_option maxHeartbeats 4000000 in
theorem cnv_no3 (A A2 : Option Addr) (n c m c2 : Nat) (w : World) (hm1 : n ≤ 9223372036854775807) (hm2 : m ≤ 9223372036854775807) (HS : Hid (∀ W, Gr w W → Calls Tryz.prog 154 #[.slice A n c] W fun e w' => e = .returned (.bool true) ∧ Gr W w')) (HV : Hid (∀ W, Gr w W → Calls Tryz.prog 94 #[.slice A2 m c2] W fun e w' => e = .returned (.bool true) ∧ Gr W w')) (h0 : n = 0) : Calls Tryz.prog 108 #[.slice A n c, .slice A2 m c2] w fun e w' => e = .returned (.tuple #[.slice none 0 0, .int .i64 0]) ∧ Gr w w' := by
  have t0 : ((n : Int) == 0) = true := by rw [h0]; rfl
  clear h0
  go_enter Tryz.func108, Tryz.ntmps108
  go_wp2_with fail
  refine (HS.out _ (by exact Gr.refl _)).mono ?_
  rintro e w1 ⟨rfl, hb1⟩
  go_wp2_with fail
  refine (HV.out _ (by exact hb1)).mono ?_
  rintro e w2 ⟨rfl, hb2⟩
  have g2 := hb1.trans hb2
  go_wp2_with fail
  refine bodyPost_ret (by simp [results, Tryz.results108, go_sem]; try rfl) rfl ?_
  exact ⟨rfl, gr_auto⟩
set_option maxRecDepth 100000 in
set_option maxHeartbeats 4000000 in
theorem cnv_no4 (A A2 : Option Addr) (n c m c2 : Nat) (w : World) (hm1 : n ≤ 9223372036854775807) (hm2 : m ≤ 9223372036854775807) (HS : Hid (∀ W, Gr w W → Calls Tryz.prog 154 #[.slice A n c] W fun e w' => e = .returned (.bool true) ∧ Gr W w')) (HV : Hid (∀ W, Gr w W → Calls Tryz.prog 94 #[.slice A2 m c2] W fun e w' => e = .returned (.bool true) ∧ Gr W w')) (h0 : ((n : Int) == 0) = false) (hn : n ≤ 10000) (hm : m ≤ 1000) (hl : (10000 : Int) < (n : Int) + (m : Int) - 1) : Calls Tryz.prog 108 #[.slice A n c, .slice A2 m c2] w fun e w' => e = .returned (.tuple #[.slice none 0 0, .int .i64 4]) ∧ Gr w w' := by
  go_enter Tryz.func108, Tryz.ntmps108
  go_wp2_with fail
  refine (HS.out _ (by exact Gr.refl _)).mono ?_
  rintro e w1 ⟨rfl, hb1⟩
  go_wp2_with fail
  refine (HV.out _ (by exact hb1)).mono ?_
  rintro e w2 ⟨rfl, hb2⟩
  have g2 := hb1.trans hb2
  go_wp2_with fail
  refine bodyPost_ret (by simp [results, Tryz.results108, go_sem]; try rfl) rfl ?_
  exact ⟨rfl, gr_auto⟩
set_option maxRecDepth 100000 in
set_option maxHeartbeats 4000000 in
theorem cnv_ok (A A2 : Option Addr) (n c m c2 : Nat) (w : World) (hm1 : n ≤ 9223372036854775807) (hm2 : m ≤ 9223372036854775807) (HS : Hid (∀ W, Gr w W → Calls Tryz.prog 154 #[.slice A n c] W fun e w' => e = .returned (.bool true) ∧ Gr W w')) (HV : Hid (∀ W, Gr w W → Calls Tryz.prog 94 #[.slice A2 m c2] W fun e w' => e = .returned (.bool true) ∧ Gr W w')) (h0 : ((n : Int) == 0) = false) (hn0 : 0 < n) (hn : n ≤ 1000) (hm : 1 ≤ m ∧ m ≤ 1000) (N : Nat) (hN : (n : Int) + (m : Int) - 1 = (N : Int)) (hN2 : (N : Int) ≤ 10000) (b oo : Nat) (V : Nat → Int) (HA : Hid (0 < n → A = some ⟨b, oo, none⟩)) (HX : Hid (∀ i, i < n → w.cell? ⟨b, oo + i, none⟩ = some (.int .i64 (V i)) ∧ 0 ≤ V i ∧ V i ≤ 1125899906842624))
    (P : Nat → Nat → Int) (HPB : Hid (∀ i, i < n → ∀ k, k < m → 0 ≤ P i k ∧ P i k ≤ 1125899906842624)) (HSh : Hid (∀ i, i < n → V i ≠ 0 → ∀ W, Gr w W → Calls Tryz.prog 96 #[.int .i64 (V i), .slice A2 m c2] W fun e w' => ∃ s : Ba.SlI, e = .returned (.tuple #[.slice s.A s.n s.c, .int .i64 0]) ∧ s.At w' ∧ s.n = m ∧ (∀ k, k < m → s.X k = P i k) ∧ W.heap.size ≤ s.b ∧ Gr W w'))
    (cv : Nat → Nat → Int) (ck : Nat → Nat → Nat → Int) (HC0 : Hid (∀ j, cv 0 j = 0)) (HCZ : Hid (∀ i, i < n → V i = 0 → cv (i + 1) = cv i)) (HCE : Hid (∀ i, i < n → ck i m = cv (i + 1))) (HCS : Hid (∀ i, i < n → ck i 0 = cv i ∧ ∀ k, k < m → ck i (k + 1) (i + k) = ck i k (i + k) + P i k ∧ ∀ j, j ≠ i + k → ck i (k + 1) j = ck i k j)) (HCB : Hid (∀ i, i < n → ∀ k, k ≤ m → ∀ j, j < N → 0 ≤ ck i k j ∧ ck i k j ≤ 2305843009213693952))
    (okB : Bool) (HW : Hid (∀ (R : Nat) (W : World), Gr w W → Row W R N (fun j => .int .i64 (cv n j)) → Calls Tryz.prog 150 #[.slice (some ⟨R, 0, none⟩) N N, .int .i64 1125899906842624] W fun e w' => e = .returned (.bool okB) ∧ Gr W w')) :
    Calls Tryz.prog 108 #[.slice A n c, .slice A2 m c2] w (CnvP okB N (cv n) w) := by
  go_enter Tryz.func108, Tryz.ntmps108
  go_wp2_with fail
  refine (HS.out _ (by exact Gr.refl _)).mono ?_
  rintro e w1 ⟨rfl, hb1⟩
  go_wp2_with fail
  refine (HV.out _ (by exact hb1)).mono ?_
  rintro e w2 ⟨rfl, hb2⟩
  have g2 := hb1.trans hb2
  obtain ⟨i1, hi0, hz0, hz1, hz2⟩ := info_parts info_int
  have KI := Lib.hid hi0; have KZ0 := Lib.hid hz0; have KZ1 := Lib.hid hz1; have KZ2 := Lib.hid hz2
  clear hi0 hz0 hz1 hz2
  go_wp2_with (at_make; refine wpList_make_full _ rfl _ _ _ rfl w.heap.size 3 i1 (.int .i64 0) 1 Tryz.underlying26 KI.out KZ0.out KZ1.out .i64 .i64 N N N rfl rfl rfl rfl ?d1 ?d2 ?d3 ?_)
  case d1 => rw [KZ2.out]; omega
  case d2 => unfold maxLen; omega
  case d3 => exact Gr.size g2
  intro w3 hown hgrow
  obtain ⟨R, hR⟩ : ∃ R, R = w2.heap.size := ⟨_, rfl⟩
  rw [← hR] at hown
  have zR : w.heap.size ≤ R := by rw [hR]; exact Gr.size g2
  have hrow := Lib.hid (made_row hown)
  have G3 : Gr w w3 := Gr.trans g2 (Gr.own (Gr.refl _) (Nat.le_refl _) (n := 0) (e := 3) (size := 1) (xs := []) (v := .slice none 0 0) ⟨rfl, Or.inl ⟨rfl, rfl⟩⟩ hgrow)
  rw [← hR]
  clear hown hgrow hR HS HV
  go_wp2_with fail
  go_loopw [43] (fun x wr => ∃ i : Nat, i ≤ n ∧ x = .int .i64 (i : Int) ∧ Hid (Row wr R N (fun j => .int .i64 (cv i j))) ∧ Gr w wr) (fun x _ => n - (intOf x).toNat)
  case atStart => exact ⟨0, Nat.zero_le _, rfl, Lib.hid (by rw [show (fun j => Value.int .i64 (cv 0 j)) = fun _ => Value.int .i64 0 from funext fun j => by rw [HC0.out]]; exact hrow.out), G3⟩
  case round =>
    clear hrow
    obtain ⟨i, hi, rfl, HR, hg⟩ := hrel
    by_cases hlt : i < n
    · obtain rfl := HA.out (by omega)
      obtain ⟨a0, v0, v1⟩ := HX.out i hlt
      replace a0 := Gr.at hg a0
      have ib0 : (0 : Int) ≤ (i : Int) := by omega
      have ib1 : (i : Int) < (n : Int) := by omega
      by_cases hz : V i = 0
      · have HRn := Lib.hid (show Row wr R N (fun j => .int .i64 (cv (i + 1) j)) from by rw [HCZ.out i hlt hz]; exact HR.out)
        have tz : (V i == 0) = true := by rw [hz]; rfl
        clear HX HC0 HCZ HCE HCS HCB HPB HSh hz
        generalize V i = v at *
        go_wp2_with fail
        go_roundw
        case rel => exact ⟨i + 1, by omega, by go_num, HRn, hg⟩
        case measure => simp [intOf]; omega
      · have HShi := Lib.hid (fun W (hW : Gr w W) => HSh.out i hlt hz W hW)
        have tz : (V i == 0) = false := beq_eq_false_iff_ne.2 hz
        have HKS := Lib.hid (HCS.out i hlt); have HKB := Lib.hid (HCB.out i hlt); have HKP := Lib.hid (HPB.out i hlt)
        have HR0 := Lib.hid (show Row wr R N (fun j => .int .i64 (ck i 0 j)) from by rw [HKS.out.1]; exact HR.out)
        have HEi := Lib.hid (HCE.out i hlt)
        clear HX HC0 HCZ HCE HCS HCB HPB HSh hz HR
        generalize V i = v at *
        go_wp2_with fail
        have HRw := Lib.hid (HR0.out 0 (by omega)).1
        refine (HShi.out _ (by exact hg)).mono ?_
        rintro e w5 ⟨s, rfl, s1, s2, s3, s4, hb5⟩
        have g5 := hg.trans hb5
        replace HR0 := Lib.hid (HR0.out.gr hb5)
        have hRs : R < s.b := by
          have := Gr.size hb5
          have zz := Nat.lt_of_lt_of_le (World.block_lt_of_cell? _ _ (HRw.out)) s4
          exact zz
        obtain ⟨sA, sn, sc, sb, so, sX⟩ := s
        simp only at s2 s3 s4 hRs
        subst s2
        have HSC := Lib.hid s1.hA; have HSX := Lib.hid (fun k (hk : k < sn) => show w5.cell? ⟨sb, so + k, none⟩ = some (.int .i64 (P i k)) from by rw [← s3 k hk]; exact (s1.hX k hk).1)
        clear s1 s3 s4 HShi hb5 hg
        go_wp2_with fail
        go_loopw [61] (fun x wz => ∃ k : Nat, k ≤ sn ∧ x = .int .i64 (k : Int) ∧ Hid (Row wz R N (fun j => .int .i64 (ck i k j))) ∧ Hid (∀ k, k < sn → wz.cell? ⟨sb, so + k, none⟩ = some (.int .i64 (P i k))) ∧ Gr w wz) (fun x _ => sn - (intOf x).toNat)
        case atStart => exact ⟨0, Nat.zero_le _, rfl, HR0, HSX, g5⟩
        case round =>
          clear HR0 HSX g5 a0
          rename_i wq
          obtain ⟨k, hk, rfl, HRk, HX2, hgk⟩ := hrel
          by_cases hkn : k < sn
          · obtain rfl := HSC.out (by omega)
            have b0 := HX2.out k hkn
            have p := HKP.out k hkn
            have kb0 : (0 : Int) ≤ (k : Int) := by omega
            have kb1 : (k : Int) < (sn : Int) := by omega
            have eik : ((i + k : Nat) : Int) = (i : Int) + (k : Int) := by omega
            have ik0 : (0 : Int) ≤ (i : Int) + (k : Int) := by omega
            have ik1 : (i : Int) + (k : Int) < (N : Int) := by omega
            have ik2 : ((i : Int) + (k : Int)).toNat = i + k := by omega
            have r0 : wr.cell? ⟨R, i + k, none⟩ = some (.int .i64 (ck i k (i + k))) := (HRk.out (i + k) (by omega)).1
            have r1 := (HRk.out (i + k) (by omega)).2
            have cb := HKB.out k (by omega) (i + k) (by omega)
            have HN := Lib.hid ((HKS.out.2 k hkn).1)
            have HRn := Lib.hid (fun x (hx : x = ck i (k + 1) (i + k)) => show Row (wr.setCell ⟨R, i + k, none⟩ (.int .i64 x)) R N (fun j => .int .i64 (ck i (k + 1) j)) from Row.set (k := i + k) HRk.out (by show Value.int .i64 _ = _; rw [hx]) (fun j _ hj => by show Value.int .i64 _ = Value.int .i64 _; rw [(HKS.out.2 k hkn).2 j hj]))
            have HXn := Lib.hid (fun x => show ∀ k', k' < sn → (wr.setCell ⟨R, i + k, none⟩ x).cell? ⟨sb, so + k', none⟩ = some (.int .i64 (P i k')) from fun k' hk' => by rw [World.cell?_setCell_other _ _ _ _ (fun e => by simp only [Addr.mk.injEq] at e; omega)]; exact HX2.out k' hk')
            have HGn := Lib.hid (fun x => Gr.setCell hgk (p := ⟨R, i + k, none⟩) zR x)
            clear HKS HKB HKP HX2 HRk HEi
            generalize P i k = pk at *
            generalize ck i k (i + k) = ckk at *
            go_wp2_with fail
            go_roundw
            case rel => exact ⟨k + 1, by omega, by go_num, HRn.out _ (by rw [HN.out]), HXn.out _, HGn.out _⟩
            case measure => simp [intOf]; omega
          · obtain rfl : sn = k := by omega
            have HRn := Lib.hid (show Row wr R N (fun j => .int .i64 (cv (i + 1) j)) from by rw [← HEi.out]; exact HRk.out)
            clear HKS HKB HKP HX2 HRk HEi
            go_wp2_with fail
            go_roundw
            case rel => exact ⟨i + 1, by omega, by go_num, HRn, hgk⟩
            case measure => simp [intOf]; omega
    · obtain rfl : n = i := by omega
      have HRF := Lib.hid (fun (w6 : World) (h : Gr wr w6) => HR.out.gr h)
      have HWi := Lib.hid (HW.out R wr hg HR.out)
      clear HX HC0 HCZ HCE HCS HCB HPB HSh HR HW
      cases okB
      · go_wp2_with fail
        refine (HWi.out).mono ?_
        rintro e w6 ⟨rfl, hb6⟩
        go_wp2_with fail
        refine bodyPost_ret (by simp [results, Tryz.results108, go_sem]; try rfl) rfl ?_
        exact ⟨none, 0, rfl, fun h => absurd h (by simp), fun _ => rfl, hg.trans hb6⟩
      · go_wp2_with fail
        refine (HWi.out).mono ?_
        rintro e w6 ⟨rfl, hb6⟩
        go_wp2_with fail
        refine bodyPost_ret (by simp [results, Tryz.results108, go_sem]; try rfl) rfl ?_
        exact ⟨some ⟨R, 0, none⟩, N, rfl, fun _ => ⟨R, rfl, rfl, HRF.out _ hb6, zR⟩, fun h => absurd h (by simp), hg.trans hb6⟩
theorem convolve_any (l u : Ba.SlI) (w : World) (hl : l.At w) (hu : u.At w) (hn : l.n ≤ 1000) : Calls Tryz.prog 108 #[.slice l.A l.n l.c, .slice u.A u.n u.c] w (RetCnv l u w) := by
  have HS := Lib.hid (fun W (hh : Gr w W) => hseries_any l W (hl.gr hh))
  have HV := Lib.hid (fun W (hh : Gr w W) => hvalid_any u W (hu.gr hh))
  have m1 := Nat.le_trans hl.hc hl.hb; have m2 := Nat.le_trans hu.hc hu.hb
  have nil : ∀ {w : World}, Ba.SlI.At w ⟨none, 0, 0, 0, 0, fun _ => 0⟩ := ⟨fun h => absurd h (by simp), Nat.le_refl _, by simp, fun i hi => absurd hi (by simp)⟩
  cases hb : Ba.volB l
  · have e : Ba.cnvE l u = 1 := by unfold Ba.cnvE; rw [hb]; rfl
    rw [hb] at HS
    refine (cnv_no1 l.A u.A l.n l.c u.n u.c w m1 m2 HS).mono ?_
    rintro e' w' ⟨rfl, h1⟩
    exact ⟨⟨none, 0, 0, 0, 0, fun _ => 0⟩, by rw [e], nil, fun h => by rw [e] at h; omega, fun _ => rfl, fun h => absurd h (by simp), h1⟩
  rw [hb] at HS
  cases hv : Ba.uniB u
  · have e : Ba.cnvE l u = 1 := by unfold Ba.cnvE; rw [hb, hv]; rfl
    rw [hv] at HV
    refine (cnv_no2 l.A u.A l.n l.c u.n u.c w m1 m2 HS HV).mono ?_
    rintro e' w' ⟨rfl, h1⟩
    exact ⟨⟨none, 0, 0, 0, 0, fun _ => 0⟩, by rw [e], nil, fun h => by rw [e] at h; omega, fun _ => rfl, fun h => absurd h (by simp), h1⟩
  rw [hv] at HV
  obtain ⟨u1, u2, -, -⟩ := Ba.uni_parts hv
  by_cases h0 : l.n = 0
  · have e : Ba.cnvE l u = 0 := by unfold Ba.cnvE; rw [if_pos hb, if_pos hv, if_pos h0]
    refine (cnv_no3 l.A u.A l.n l.c u.n u.c w m1 m2 HS HV h0).mono ?_
    rintro e' w' ⟨rfl, h1⟩
    exact ⟨⟨none, 0, 0, 0, 0, fun _ => 0⟩, by rw [e], nil, fun _ => ⟨by rw [if_pos h0], fun j hj => absurd hj (by simp)⟩, fun h => absurd e h, fun h => absurd h (by simp), h1⟩
  have t0 : ((l.n : Int) == 0) = false := beq_eq_false_iff_ne.2 (by omega)
  have vb := hb
  unfold Ba.volB Ba.wiB at vb
  simp only [Bool.and_eq_true, decide_eq_true_eq] at vb
  by_cases hx : (10000 : Int) < (Ba.cnvN l u : Int)
  · have e : Ba.cnvE l u = 4 := by unfold Ba.cnvE; rw [if_pos hb, if_pos hv, if_neg h0, if_pos hx]
    refine (cnv_no4 l.A u.A l.n l.c u.n u.c w m1 m2 HS HV t0 (by omega) u2 (by unfold Ba.cnvN at hx; omega)).mono ?_
    rintro e' w' ⟨rfl, h1⟩
    exact ⟨⟨none, 0, 0, 0, 0, fun _ => 0⟩, by rw [e], nil, fun h => by rw [e] at h; omega, fun _ => rfl, fun h => absurd h (by simp), h1⟩
  have hV : ∀ i, i < l.n → 0 ≤ l.X i ∧ l.X i ≤ 1125899906842624 := fun i hi => (Ba.bet_iff _ _ _).1 (Ba.allB_at vb.2 hi)
  have hle := Ba.cvK_le hv hV
  have ckb : ∀ i, i < l.n → ∀ k, k ≤ u.n → ∀ j, 0 ≤ Ba.cvK l.X u i k j ∧ Ba.cvK l.X u i k j ≤ 2305843009213693952 := fun i hi k hk j => by
    have a := hle i (by omega) j
    have e : (1125899906842624 : Int) * (i : Int) ≤ 1125899906842624 * 1000 := Int.mul_le_mul_of_nonneg_left (by omega) (by omega)
    unfold Ba.cvK
    by_cases c : i ≤ j ∧ j < i + k
    · rw [if_pos c]
      have s := Ba.shr_le hv (hV i hi).1 (i := j - i) (by omega)
      have := hV i hi
      omega
    · rw [if_neg c]; omega
  refine (cnv_ok l.A u.A l.n l.c u.n u.c w m1 m2 HS HV t0 (by omega) hn ⟨u1, u2⟩ (Ba.cnvN l u) (by unfold Ba.cnvN; omega) (by omega) l.b l.o l.X (Lib.hid hl.hA) (Lib.hid fun i hi => ⟨(hl.hX i hi).1, hV i hi⟩)
    (fun i k => Ba.shrI u.X (l.X i) u.n k) (Lib.hid fun i hi k hk => by have := Ba.shr_le hv (hV i hi).1 hk; have := hV i hi; omega) (Lib.hid fun i hi _ W hW => share_anyb u (l.X i) W (hu.gr hW) hv (hV i hi))
    (Ba.cvI l.X u) (Ba.cvK l.X u) (Lib.hid fun _ => rfl) (Lib.hid fun i _ h => Ba.cvI_skip l.X u i h) (Lib.hid fun i _ => rfl) (Lib.hid fun i _ => ⟨funext fun j => Ba.cvK_zero l.X u i j, fun k _ => ⟨Ba.cvK_next l.X u i k, fun j hj => Ba.cvK_same l.X u i k j hj⟩⟩) (Lib.hid fun i hi k hk j _ => ckb i hi k hk j)
    (Ba.allB (fun j => Ba.bet (Ba.cvI l.X u l.n j) 0 1125899906842624) (Ba.cnvN l u)) (Lib.hid fun R W hW hr => ?_)).mono ?_
  · exact hwithin_any ⟨some ⟨R, 0, none⟩, Ba.cnvN l u, Ba.cnvN l u, R, 0, Ba.cvI l.X u l.n⟩ 1125899906842624 W ⟨fun _ => rfl, Nat.le_refl _, by simp only; omega, fun j hj => by
      simp only [Nat.zero_add]
      refine ⟨(hr j hj).1, ?_⟩
      have a := hle l.n (Nat.le_refl _) j
      have e : (1125899906842624 : Int) * (l.n : Int) ≤ 1125899906842624 * 1000 := Int.mul_le_mul_of_nonneg_left (by omega) (by omega)
      unfold Ba.i64; omega⟩
  rintro e' w' ⟨A, N', rfl, k1, k2, k3⟩
  cases hok : Ba.allB (fun j => Ba.bet (Ba.cvI l.X u l.n j) 0 1125899906842624) (Ba.cnvN l u)
  · have e : Ba.cnvE l u = 5 := by unfold Ba.cnvE; rw [if_pos hb, if_pos hv, if_neg h0, if_neg hx, hok]; rfl
    have z := k2 hok
    subst z
    exact ⟨⟨A, 0, 0, 0, 0, fun _ => 0⟩, by rw [e]; rfl, ⟨fun h => absurd h (by simp), Nat.le_refl _, by simp, fun i hi => absurd hi (by simp)⟩, fun h => by rw [e] at h; omega, fun _ => rfl, fun h => absurd h (by simp), k3⟩
  · have e : Ba.cnvE l u = 0 := by unfold Ba.cnvE; rw [if_pos hb, if_pos hv, if_neg h0, if_neg hx, hok]; rfl
    obtain ⟨R, rfl, rfl, hr, hR⟩ := k1 hok
    refine ⟨⟨some ⟨R, 0, none⟩, Ba.cnvN l u, Ba.cnvN l u, R, 0, Ba.cvI l.X u l.n⟩, by rw [e]; rfl, ⟨fun _ => rfl, Nat.le_refl _, by simp only; omega, fun j hj => ?_⟩, fun _ => ⟨by rw [if_neg h0], fun _ _ => rfl⟩, fun h => absurd e h, fun _ => hR, k3⟩
    simp only [Nat.zero_add]
    refine ⟨(hr j hj).1, ?_⟩
    have a := hle l.n (Nat.le_refl _) j
    have e : (1125899906842624 : Int) * (l.n : Int) ≤ 1125899906842624 * 1000 := Int.mul_le_mul_of_nonneg_left (by omega) (by omega)
    unfold Ba.i64; omega
end Go.Proofs.YtajhhplgcegodaaGreatDoor
