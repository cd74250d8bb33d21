/-
  Seat .ZD: the reference's Format without places; the Texts of an instant. (Printed by mkzxa.py.)
  Alarms: cmp.Compare at strings, cmp.Or, slices.Compare at ints. Typed.
-/
import Derived.Test.YtllkiadedaghoaaGreatDoorOr08
import Derived.Test.YtllkiadedaghoaaGreatDoorOr04
import Derived.Test.YtllkiadedaghoaaGreatDoorOr01
import Derived.Test.YtllkiadedaghoaaGreatDoorOr05
import Derived.Deep.DrawnRows
set_option linter.unusedVariables false
set_option linter.unusedSimpArgs false
namespace Go.Proofs.YtllkiadedaghoaaGreatDoor
open Go.RowKit
set_option maxRecDepth 100000 in
set_option maxHeartbeats 2000000 in
theorem rdig1_nat (n c : Nat) (w : World) (hn : n < 9223372036854775808) (hc : 1 ≤ c) (hc1 : c ≤ 20) :
    Calls Tryz.prog 88 #[.int .i64 n, .int .i64 c] w fun e w' => e = .returned (.string ⟨(Dg.dig n c).toArray⟩) ∧ Gr w w' := by
  have hm : max c (Lib.nDigits n) ≤ 20 := by have := Dg.nDigits_le (c := 19) (n := n) (by omega) (by omega); omega
  have HM := Lib.hid (fun k => Dg.more (n := n) (c := c) (k := k) hc)
  have HP := Lib.hid (Dg.dig_pd n c)
  have HL := Lib.hid (fun k => Dg.pd_len k n)
  generalize max c (Lib.nDigits n) = M at *
  go_enter Tryz.func88, Tryz.ntmps88
  go_wp2_with fail
  go_loopw [0, 5] (fun s0 s5 wr => ∃ k q : Nat, k ≤ M ∧ Hid (q = n / 10 ^ k) ∧ s0 = .int .i64 q ∧ s5 = .string ⟨(Dg.pd n k).toArray⟩ ∧ Gr w wr ∧ q < 9223372036854775808) (fun s0 s5 _ => M - (match s5 with | .string s => s.size | _ => 0))
  case atStart => exact ⟨0, n, by omega, Lib.hid (by simp), rfl, rfl, gr_auto, hn⟩
  case round =>
    obtain ⟨k, q, hk, hq, rfl, rfl, hg, hq1⟩ := hrel
    have hl := HL.out k
    have hmk := HM.out k
    rw [← hq.out] at hmk
    have HPD := Lib.hid (Dg.pd_cons k n)
    rw [← hq.out] at HPD
    have hl' : (Dg.pd n k).length ≤ 20 := by omega
    have HLk := Lib.hid hl
    have HLk1 := Lib.hid (HL.out (k + 1))
    clear hl
    by_cases hkM : k < M
    · have hor := hmk.1 hkM
      have HMK := Lib.hid hmk; clear hmk
      have hq10 : q / 10 < 9223372036854775808 := by omega
      have hqq : Hid (q / 10 = n / 10 ^ (k + 1)) := Lib.hid (by rw [hq.out, Nat.div_div_eq_div_mul, Nat.pow_succ])
      have hcv : ∀ W : World, (convert 100 9 (.slice (some ⟨W.heap.size, 0, none⟩) 1 1)).run Tryz.prog (W.alloc (.cells #[.int .u8 (48 + (q : Int) % 10)] 5)) = .ok (.string ⟨#[UInt8.ofNat (48 + q % 10)]⟩) (W.alloc (.cells #[.int .u8 (48 + (q : Int) % 10)] 5)) := fun W => by
        have := one_byte W (48 + q % 10) (by omega)
        rw [show ((48 + q % 10 : Nat) : Int) = 48 + (q : Int) % 10 by omega] at this
        exact this
      generalize UInt8.ofNat (48 + q % 10) = dc at *
      by_cases hq0 : 0 < q
      · have t1 : decide ((0 : Int) < (q : Int)) = true := decide_eq_true (by omega)
        clear hor
        go_wp2_with fail
        go_roundw
        case rel => exact ⟨k + 1, q / 10, by omega, hqq, by go_num, by rw [HPD.out]; exact congrArg Value.string (by apply ByteArray.ext; simp [ByteArray.data_append]), gr_auto, hq10⟩
        case measure => simp [ByteArray.size, Dg.pd_len]; omega
      · have t1 : decide ((0 : Int) < (q : Int)) = false := decide_eq_false (by omega)
        have hkc : k < c := by rcases hor with h | h; exact absurd h hq0; exact h
        have t2 : decide ((Dg.pd n k).length < c) = true := decide_eq_true (by rw [HLk.out]; exact hkc)
        clear hor
        go_wp2_with fail
        go_roundw
        case rel => exact ⟨k + 1, q / 10, by omega, hqq, by go_num, by rw [HPD.out]; exact congrArg Value.string (by apply ByteArray.ext; simp [ByteArray.data_append]), gr_auto, hq10⟩
        case measure => simp [ByteArray.size, Dg.pd_len]; omega
    · have hor : ¬ (0 < q ∨ k < c) := fun h => hkM (hmk.2 h)
      have t1 : decide ((0 : Int) < (q : Int)) = false := decide_eq_false (by omega)
      have t2 : decide ((Dg.pd n k).length < c) = false := decide_eq_false (by rw [HLk.out]; omega)
      obtain rfl : k = M := by omega
      clear hmk
      go_wp2_with fail
      go_ret
      exact ⟨str_eq (by rw [HP.out]), gr_auto⟩
set_option maxRecDepth 100000 in
set_option maxHeartbeats 2000000 in
theorem rfmt0_any (n : Nat) (w : World) (hn : n < 9223372036854775808) : Calls Tryz.prog 45 #[.int .i64 (n : Int), .int .i64 0] w fun e w' => e = .returned (.string ⟨(Lib.decDigits n).toArray⟩) ∧ Gr w w' := by
  have HI := Lib.hid (fun W => rdig1_nat n 1 W hn (by omega) (by omega))
  have HD := Lib.hid (show Dg.dig n 1 = Lib.decDigits n from by
    unfold Dg.dig
    have : 0 < (Lib.decDigits n).length := by rw [Lib.decDigits_length]; rw [Lib.nDigits]; split <;> omega
    rw [show 1 - (Lib.decDigits n).length = 0 by omega]; rfl)
  have t1 : decide ((n : Int) < 0) = false := decide_eq_false (by omega)
  have t2 : ¬ (n : Int) < 0 := by omega
  have hd : (Dg.dig n 1).length ≤ 20 := by rw [HD.out]; exact Nat.le_trans (Ck.dec_le hn) (by omega)
  have hd2 : ¬ (9223372036854775807 < (Dg.dig n 1).length) := by omega
  generalize Dg.dig n 1 = D1 at *
  go_enter Tryz.func45, Tryz.ntmps45
  go_wp2_with fail
  refine (HI.out _).mono ?_
  rintro e w1 ⟨rfl, hb1⟩
  have g : Gr w w1 := gr_auto
  clear HI hb1
  go_wp2_with fail
  go_ret
  exact ⟨str_eq (by rw [← HD.out]; simp [ByteArray.ext_iff]), g⟩
end Go.Proofs.YtllkiadedaghoaaGreatDoor
set_option linter.unusedVariables false
set_option linter.unusedSimpArgs false
namespace Go.Proofs.YtllkiadedaghoaaGreatDoor
open Go.RowKit
attribute [local go_sem ↓] Go.wp_at_zero Go.wp_at_succ
namespace Al
/-- Strings compared. -/
def cmpS (a b : ByteArray) : Int := if Op.bytesLess a.toList b.toList = true then -1 else if (a.toList == b.toList) = true then 0 else 1
/-- The first number that is not 0. -/
def fstE (f : Nat → Int) : Nat → Int
  | 0 => 0
  | k + 1 => if fstE f k = 0 then f k else fstE f k
theorem fstE_zero {f : Nat → Int} : ∀ {n : Nat}, (∀ i, i < n → f i = 0) → fstE f n = 0
  | 0, _ => rfl
  | n + 1, h => by rw [fstE, if_pos (fstE_zero fun i hi => h i (by omega))]; exact h n (by omega)
theorem fstE_hit {f : Nat → Int} {i : Nat} (h0 : ∀ j, j < i → f j = 0) (h1 : f i ≠ 0) : ∀ {n : Nat}, i < n → fstE f n = f i
  | 0, h => by omega
  | n + 1, h => by
    rw [fstE]
    by_cases e : i = n
    · subst e; rw [if_pos (fstE_zero h0)]
    · have z := fstE_hit h0 h1 (n := n) (by omega)
      rw [if_neg (by rw [z]; exact h1), z]
/-- Lists of integers compared, element by element. -/
def cmpL : List Int → List Int → Int
  | [], [] => 0
  | [], _ :: _ => -1
  | _ :: _, [] => 1
  | x :: a, y :: b => if Lib.compareInt x y = 0 then cmpL a b else Lib.compareInt x y
def lst (X : Nat → Int) (n : Nat) : List Int := (List.range n).map X
theorem lst_len (X : Nat → Int) (n : Nat) : (lst X n).length = n := by simp [lst]
theorem lst_drop {X : Nat → Int} {n i : Nat} (h : i < n) : (lst X n).drop i = X i :: (lst X n).drop (i + 1) := by
  rw [List.drop_eq_getElem_cons (by rw [lst_len]; exact h)]
  congr 1
  simp [lst]
theorem lst_end {X : Nat → Int} {n : Nat} : (lst X n).drop n = [] := List.drop_eq_nil_of_le (by rw [lst_len]; exact Nat.le_refl _)
end Al
theorem cmp_zero {x y : Int} : Lib.compareInt x y = 0 ↔ x = y := by
  unfold Lib.compareInt
  split
  · exact ⟨fun h => absurd h (by decide), fun h => by omega⟩
  · split
    · exact ⟨fun h => absurd h (by decide), fun h => by omega⟩
    · exact ⟨fun _ => by omega, fun _ => rfl⟩
theorem nanS_any (a : ByteArray) (w : World) : Calls Tryz.prog 112 #[.string a] w fun e w' => e = .returned (.bool false) ∧ w' = w := by
  go_enter Tryz.func112, Tryz.ntmps112
  go_wp2_with fail
  go_ret
  exact ⟨rfl, rfl⟩
theorem cmpS_any (a b : ByteArray) (w : World) : Calls Tryz.prog 75 #[.string a, .string b] w fun e w' => e = .returned (.int .i64 (Al.cmpS a b)) ∧ w' = w := by
  have HE := Lib.hid (show Al.cmpS a b = if Op.bytesLess a.toList b.toList = true then -1 else if (a.toList == b.toList) = true then 0 else 1 from rfl)
  generalize Al.cmpS a b = r at *
  cases h1 : Op.bytesLess a.toList b.toList
  · cases h2 : (a.toList == b.toList)
    · have he : r = 1 := by rw [HE.out, h1, h2]; rfl
      subst he
      clear HE
      go_enter Tryz.func75, Tryz.ntmps75
      go_wp2_with fail
      refine (nanS_any _ _).mono ?_
      rintro e w1 ⟨rfl, rfl⟩
      go_wp2_with fail
      refine (nanS_any _ _).mono ?_
      rintro e w1 ⟨rfl, rfl⟩
      go_wp2_with fail
      go_ret
      exact ⟨rfl, rfl⟩
    · have he : r = 0 := by rw [HE.out, h1, h2]; rfl
      subst he
      clear HE
      go_enter Tryz.func75, Tryz.ntmps75
      go_wp2_with fail
      refine (nanS_any _ _).mono ?_
      rintro e w1 ⟨rfl, rfl⟩
      go_wp2_with fail
      refine (nanS_any _ _).mono ?_
      rintro e w1 ⟨rfl, rfl⟩
      go_wp2_with fail
      go_ret
      exact ⟨rfl, rfl⟩
  · have he : r = -1 := by rw [HE.out, h1]; rfl
    subst he
    clear HE
    go_enter Tryz.func75, Tryz.ntmps75
    go_wp2_with fail
    refine (nanS_any _ _).mono ?_
    rintro e w1 ⟨rfl, rfl⟩
    go_wp2_with fail
    refine (nanS_any _ _).mono ?_
    rintro e w1 ⟨rfl, rfl⟩
    go_wp2_with fail
    go_ret
    exact ⟨rfl, rfl⟩
set_option maxRecDepth 100000 in
set_option maxHeartbeats 4000000 in
theorem or_any (b n c : Nat) (X : Nat → Int) (w : World) (hn : n ≤ 100) (hX : ∀ i, i < n → w.cell? ⟨b, i, none⟩ = some (.int .i64 (X i))) : Calls Tryz.prog 73 #[.slice (some ⟨b, 0, none⟩) n c] w fun e w' => e = .returned (.int .i64 (Al.fstE X n)) ∧ w' = w := by
  have HX := Lib.hid hX
  have H0 := Lib.hid (fun (h : ∀ i, i < n → X i = 0) => Al.fstE_zero h)
  have H1 := Lib.hid (fun i (h0 : ∀ j, j < i → X j = 0) (h1 : X i ≠ 0) (hi : i < n) => Al.fstE_hit h0 h1 hi)
  clear hX
  generalize Al.fstE X n = r at *
  go_enter Tryz.func73, Tryz.ntmps73
  go_wp2_with fail
  go_loopw [8] (fun x wr => ∃ i : Nat, i ≤ n ∧ x = .int .i64 (i : Int) ∧ Hid (∀ j, j < i → X j = 0) ∧ wr = w) (fun x _ => n - (intOf x).toNat)
  case atStart => exact ⟨0, Nat.zero_le _, rfl, Lib.hid (fun j hj => absurd hj (Nat.not_lt_zero j)), rfl⟩
  case round =>
    obtain ⟨i, hi, rfl, HQ, rfl⟩ := hrel
    by_cases hlt : i < n
    · have ib0 : (0 : Int) ≤ (i : Int) := by omega
      have ib1 : (i : Int) < (n : Int) := by omega
      have c0 := HX.out i hlt
      by_cases hz : X i = 0
      · have HQ2 := Lib.hid (fun j (hj : j < i + 1) => show X j = 0 from by
          by_cases e : j = i
          · rw [e]; exact hz
          · exact HQ.out j (by omega))
        rw [hz] at c0
        clear HX H0 H1 HQ hz
        go_wp2_with fail
        go_roundw
        case rel => exact ⟨i + 1, by omega, by go_num, HQ2, by first | rfl | trivial⟩
        case measure => simp [intOf]; omega
      · have hr := H1.out i HQ.out hz hlt
        have hb : (X i != 0) = true := bne_iff_ne.2 hz
        have HR := Lib.hid hr
        clear HX H0 H1 HQ hr
        generalize X i = x at *
        go_wp2_with fail
        go_ret
        exact ⟨by rw [HR.out]; rfl, rfl⟩
    · obtain rfl : n = i := by omega
      have HR := Lib.hid (H0.out HQ.out)
      clear HX H0 H1 HQ
      go_wp2_with fail
      go_ret
      exact ⟨by rw [HR.out]; rfl, rfl⟩
set_option maxRecDepth 100000 in
set_option maxHeartbeats 4000000 in
theorem cmpL_any (A A2 : Option Addr) (n c m c2 b b2 o o2 : Nat) (X Y : Nat → Int) (w : World) (hn : n ≤ 9223372036854775807) (hm : m ≤ 9223372036854775807) (hA : 0 < n → A = some ⟨b, o, none⟩) (hX : ∀ i, i < n → w.cell? ⟨b, o + i, none⟩ = some (.int .i64 (X i))) (hA2 : 0 < m → A2 = some ⟨b2, o2, none⟩) (hY : ∀ i, i < m → w.cell? ⟨b2, o2 + i, none⟩ = some (.int .i64 (Y i))) :
    Calls Tryz.prog 76 #[.slice A n c, .slice A2 m c2] w fun e w' => e = .returned (.int .i64 (Al.cmpL (Al.lst X n) (Al.lst Y m))) ∧ w' = w := by
  have HA := Lib.hid hA; have HA2 := Lib.hid hA2; have HX := Lib.hid hX; have HY := Lib.hid hY
  have HC := Lib.hid (fun x y W => Tryz.cmp_Compare_int x y W)
  have HR := Lib.hid (show Al.cmpL (Al.lst X n) (Al.lst Y m) = Al.cmpL ((Al.lst X n).drop 0) ((Al.lst Y m).drop 0) from rfl)
  clear hA hA2 hX hY
  generalize Al.cmpL (Al.lst X n) (Al.lst Y m) = r at *
  go_enter Tryz.func76, Tryz.ntmps76
  go_wp2_with fail
  go_loopw [11] (fun x wr => ∃ i : Nat, i ≤ n ∧ i ≤ m ∧ x = .int .i64 (i : Int) ∧ Hid (r = Al.cmpL ((Al.lst X n).drop i) ((Al.lst Y m).drop i)) ∧ wr = w) (fun x _ => n - (intOf x).toNat)
  case atStart => exact ⟨0, Nat.zero_le _, Nat.zero_le _, rfl, HR, rfl⟩
  case round =>
    clear HR
    obtain ⟨i, hi, hi2, rfl, HQ, rfl⟩ := hrel
    by_cases hlt : i < n
    · obtain rfl := HA.out (by omega)
      have ib0 : (0 : Int) ≤ (i : Int) := by omega
      have ib1 : (i : Int) < (n : Int) := by omega
      have c0 := HX.out i hlt
      by_cases hlm : i < m
      · obtain rfl := HA2.out (by omega)
        have ib2 : (i : Int) < (m : Int) := by omega
        have c1 := HY.out i hlm
        have hq := HQ.out
        rw [Al.lst_drop hlt, Al.lst_drop hlm, Al.cmpL] at hq
        have HCi := Lib.hid (fun W => HC.out (X i) (Y i) W)
        by_cases hz : Lib.compareInt (X i) (Y i) = 0
        · rw [if_pos hz] at hq
          have HQ2 := Lib.hid hq
          rw [hz] at HCi
          clear HX HY HQ HC hq hz HA HA2
          generalize X i = x at *; generalize Y i = y at *
          go_wp2_with fail
          refine (HCi.out _).mono ?_
          rintro e w1 ⟨rfl, rfl⟩
          go_wp2_with fail
          go_roundw
          case rel => exact ⟨i + 1, by omega, by omega, by go_num, HQ2, by first | rfl | trivial⟩
          case measure => simp [intOf]; omega
        · rw [if_neg hz] at hq
          have HQ2 := Lib.hid hq
          have hb : (Lib.compareInt (X i) (Y i) != 0) = true := bne_iff_ne.2 hz
          clear HX HY HQ HC hq hz HA HA2
          generalize Lib.compareInt (X i) (Y i) = cc at *
          generalize X i = x at *; generalize Y i = y at *
          go_wp2_with fail
          refine (HCi.out _).mono ?_
          rintro e w1 ⟨rfl, rfl⟩
          go_wp2_with fail
          go_ret
          exact ⟨by rw [HQ2.out]; rfl, rfl⟩
      · obtain rfl : m = i := by omega
        have hq := HQ.out
        rw [Al.lst_drop hlt, Al.lst_end, Al.cmpL] at hq
        have HQ2 := Lib.hid hq
        clear HX HY HQ HC hq HA HA2
        generalize X m = x at *
        go_wp2_with fail
        go_ret
        exact ⟨by rw [HQ2.out]; rfl, rfl⟩
    · obtain rfl : n = i := by omega
      by_cases hlm : n < m
      · have hq := HQ.out
        rw [Al.lst_end, Al.lst_drop hlm, Al.cmpL] at hq
        have HQ2 := Lib.hid hq
        have ib2 : (n : Int) < (m : Int) := by omega
        clear HX HY HQ HC hq HA HA2
        go_wp2_with fail
        go_ret
        exact ⟨by rw [HQ2.out]; rfl, rfl⟩
      · obtain rfl : n = m := by omega
        have hq := HQ.out
        rw [Al.lst_end, Al.lst_end, Al.cmpL] at hq
        have HQ2 := Lib.hid hq
        clear HX HY HQ HC hq HA HA2
        go_wp2_with fail
        go_ret
        exact ⟨by rw [HQ2.out]; rfl, rfl⟩
end Go.Proofs.YtllkiadedaghoaaGreatDoor
