/-
  Seat .ZD: the reference's Format without places; the Texts of an instant. (Printed by mkzxa.py.)
  Alarms: cmp.Compare at strings, cmp.Or, slices.Compare at ints. Typed.
  A region that draws its order, of reads before one last operation that writes: the reads in the order of the text.
  And worlds in which two blocks alone have turned.
  A region that draws its order, of loads and of calls that make memory: one walk in the order of the text serves every order, if each call answers alike in every world that has grown.
  Alarms: telemetry.compare and alarms.compare. Typed.
  slices.IndexFunc and slices.ContainsFunc, whatever the closure: the first element that has a property.
-/
import Derived.Test.YtllkiadedaghoaaGreatDoorEx06
import Derived.Test.YtllkiadedaghoaaGreatDoorEx03
import Derived.Test.YtllkiadedaghoaaGreatDoorEx01
import Derived.Test.YtllkiadedaghoaaGreatDoorEx04
import Derived.Deep.DrawnRows
import Derived.Deep.Quiet
import Derived.BigQuiet
import Derived.StillTail
import Derived.Sort.Grow
set_option linter.unusedVariables false
set_option linter.unusedSimpArgs false
namespace Go.Proofs.YtllkiadedaghoaaGreatDoor
open Go.RowKit
set_option maxRecDepth 100000 in
set_option maxHeartbeats 2000000 in
theorem rdig1_nat (n c : Nat) (w : World) (hn : n < 9223372036854775808) (hc : 1 ≤ c) (hc1 : c ≤ 20) :
    Calls Tryz.prog 88 #[.int .i64 n, .int .i64 c] w fun e w' => e = .returned (.string ⟨(Dg.dig n c).toArray⟩) ∧ Gr w w' := by
  have hm : max c (Lib.nDigits n) ≤ 20 := by have := Dg.nDigits_le (c := 19) (n := n) (by omega) (by omega); omega
  have HM := Lib.hid (fun k => Dg.more (n := n) (c := c) (k := k) hc)
  have HP := Lib.hid (Dg.dig_pd n c)
  have HL := Lib.hid (fun k => Dg.pd_len k n)
  generalize max c (Lib.nDigits n) = M at *
  go_enter Tryz.func88, Tryz.ntmps88
  go_wp2_with fail
  go_loopw [0, 5] (fun s0 s5 wr => ∃ k q : Nat, k ≤ M ∧ Hid (q = n / 10 ^ k) ∧ s0 = .int .i64 q ∧ s5 = .string ⟨(Dg.pd n k).toArray⟩ ∧ Gr w wr ∧ q < 9223372036854775808) (fun s0 s5 _ => M - (match s5 with | .string s => s.size | _ => 0))
  case atStart => exact ⟨0, n, by omega, Lib.hid (by simp), rfl, rfl, gr_auto, hn⟩
  case round =>
    obtain ⟨k, q, hk, hq, rfl, rfl, hg, hq1⟩ := hrel
    have hl := HL.out k
    have hmk := HM.out k
    rw [← hq.out] at hmk
    have HPD := Lib.hid (Dg.pd_cons k n)
    rw [← hq.out] at HPD
    have hl' : (Dg.pd n k).length ≤ 20 := by omega
    have HLk := Lib.hid hl
    have HLk1 := Lib.hid (HL.out (k + 1))
    clear hl
    by_cases hkM : k < M
    · have hor := hmk.1 hkM
      have HMK := Lib.hid hmk; clear hmk
      have hq10 : q / 10 < 9223372036854775808 := by omega
      have hqq : Hid (q / 10 = n / 10 ^ (k + 1)) := Lib.hid (by rw [hq.out, Nat.div_div_eq_div_mul, Nat.pow_succ])
      have hcv : ∀ W : World, (convert 100 9 (.slice (some ⟨W.heap.size, 0, none⟩) 1 1)).run Tryz.prog (W.alloc (.cells #[.int .u8 (48 + (q : Int) % 10)] 5)) = .ok (.string ⟨#[UInt8.ofNat (48 + q % 10)]⟩) (W.alloc (.cells #[.int .u8 (48 + (q : Int) % 10)] 5)) := fun W => by
        have := one_byte W (48 + q % 10) (by omega)
        rw [show ((48 + q % 10 : Nat) : Int) = 48 + (q : Int) % 10 by omega] at this
        exact this
      generalize UInt8.ofNat (48 + q % 10) = dc at *
      by_cases hq0 : 0 < q
      · have t1 : decide ((0 : Int) < (q : Int)) = true := decide_eq_true (by omega)
        clear hor
        go_wp2_with fail
        go_roundw
        case rel => exact ⟨k + 1, q / 10, by omega, hqq, by go_num, by rw [HPD.out]; exact congrArg Value.string (by apply ByteArray.ext; simp [ByteArray.data_append]), gr_auto, hq10⟩
        case measure => simp [ByteArray.size, Dg.pd_len]; omega
      · have t1 : decide ((0 : Int) < (q : Int)) = false := decide_eq_false (by omega)
        have hkc : k < c := by rcases hor with h | h; exact absurd h hq0; exact h
        have t2 : decide ((Dg.pd n k).length < c) = true := decide_eq_true (by rw [HLk.out]; exact hkc)
        clear hor
        go_wp2_with fail
        go_roundw
        case rel => exact ⟨k + 1, q / 10, by omega, hqq, by go_num, by rw [HPD.out]; exact congrArg Value.string (by apply ByteArray.ext; simp [ByteArray.data_append]), gr_auto, hq10⟩
        case measure => simp [ByteArray.size, Dg.pd_len]; omega
    · have hor : ¬ (0 < q ∨ k < c) := fun h => hkM (hmk.2 h)
      have t1 : decide ((0 : Int) < (q : Int)) = false := decide_eq_false (by omega)
      have t2 : decide ((Dg.pd n k).length < c) = false := decide_eq_false (by rw [HLk.out]; omega)
      obtain rfl : k = M := by omega
      clear hmk
      go_wp2_with fail
      go_ret
      exact ⟨str_eq (by rw [HP.out]), gr_auto⟩
set_option maxRecDepth 100000 in
set_option maxHeartbeats 2000000 in
theorem rfmt0_any (n : Nat) (w : World) (hn : n < 9223372036854775808) : Calls Tryz.prog 45 #[.int .i64 (n : Int), .int .i64 0] w fun e w' => e = .returned (.string ⟨(Lib.decDigits n).toArray⟩) ∧ Gr w w' := by
  have HI := Lib.hid (fun W => rdig1_nat n 1 W hn (by omega) (by omega))
  have HD := Lib.hid (show Dg.dig n 1 = Lib.decDigits n from by
    unfold Dg.dig
    have : 0 < (Lib.decDigits n).length := by rw [Lib.decDigits_length]; rw [Lib.nDigits]; split <;> omega
    rw [show 1 - (Lib.decDigits n).length = 0 by omega]; rfl)
  have t1 : decide ((n : Int) < 0) = false := decide_eq_false (by omega)
  have t2 : ¬ (n : Int) < 0 := by omega
  have hd : (Dg.dig n 1).length ≤ 20 := by rw [HD.out]; exact Nat.le_trans (Ck.dec_le hn) (by omega)
  have hd2 : ¬ (9223372036854775807 < (Dg.dig n 1).length) := by omega
  generalize Dg.dig n 1 = D1 at *
  go_enter Tryz.func45, Tryz.ntmps45
  go_wp2_with fail
  refine (HI.out _).mono ?_
  rintro e w1 ⟨rfl, hb1⟩
  have g : Gr w w1 := gr_auto
  clear HI hb1
  go_wp2_with fail
  go_ret
  exact ⟨str_eq (by rw [← HD.out]; simp [ByteArray.ext_iff]), g⟩
end Go.Proofs.YtllkiadedaghoaaGreatDoor
set_option linter.unusedVariables false
set_option linter.unusedSimpArgs false
namespace Go.Proofs.YtllkiadedaghoaaGreatDoor
open Go.RowKit
attribute [local go_sem ↓] Go.wp_at_zero Go.wp_at_succ
namespace Al
/-- Strings compared. -/
def cmpS (a b : ByteArray) : Int := if Op.bytesLess a.toList b.toList = true then -1 else if (a.toList == b.toList) = true then 0 else 1
/-- The first number that is not 0. -/
def fstE (f : Nat → Int) : Nat → Int
  | 0 => 0
  | k + 1 => if fstE f k = 0 then f k else fstE f k
theorem fstE_zero {f : Nat → Int} : ∀ {n : Nat}, (∀ i, i < n → f i = 0) → fstE f n = 0
  | 0, _ => rfl
  | n + 1, h => by rw [fstE, if_pos (fstE_zero fun i hi => h i (by omega))]; exact h n (by omega)
theorem fstE_hit {f : Nat → Int} {i : Nat} (h0 : ∀ j, j < i → f j = 0) (h1 : f i ≠ 0) : ∀ {n : Nat}, i < n → fstE f n = f i
  | 0, h => by omega
  | n + 1, h => by
    rw [fstE]
    by_cases e : i = n
    · subst e; rw [if_pos (fstE_zero h0)]
    · have z := fstE_hit h0 h1 (n := n) (by omega)
      rw [if_neg (by rw [z]; exact h1), z]
/-- Lists of integers compared, element by element. -/
def cmpL : List Int → List Int → Int
  | [], [] => 0
  | [], _ :: _ => -1
  | _ :: _, [] => 1
  | x :: a, y :: b => if Lib.compareInt x y = 0 then cmpL a b else Lib.compareInt x y
def lst (X : Nat → Int) (n : Nat) : List Int := (List.range n).map X
theorem lst_len (X : Nat → Int) (n : Nat) : (lst X n).length = n := by simp [lst]
theorem lst_drop {X : Nat → Int} {n i : Nat} (h : i < n) : (lst X n).drop i = X i :: (lst X n).drop (i + 1) := by
  rw [List.drop_eq_getElem_cons (by rw [lst_len]; exact h)]
  congr 1
  simp [lst]
theorem lst_end {X : Nat → Int} {n : Nat} : (lst X n).drop n = [] := List.drop_eq_nil_of_le (by rw [lst_len]; exact Nat.le_refl _)
end Al
theorem cmp_zero {x y : Int} : Lib.compareInt x y = 0 ↔ x = y := by
  unfold Lib.compareInt
  split
  · exact ⟨fun h => absurd h (by decide), fun h => by omega⟩
  · split
    · exact ⟨fun h => absurd h (by decide), fun h => by omega⟩
    · exact ⟨fun _ => by omega, fun _ => rfl⟩
theorem nanS_any (a : ByteArray) (w : World) : Calls Tryz.prog 112 #[.string a] w fun e w' => e = .returned (.bool false) ∧ w' = w := by
  go_enter Tryz.func112, Tryz.ntmps112
  go_wp2_with fail
  go_ret
  exact ⟨rfl, rfl⟩
theorem cmpS_any (a b : ByteArray) (w : World) : Calls Tryz.prog 75 #[.string a, .string b] w fun e w' => e = .returned (.int .i64 (Al.cmpS a b)) ∧ w' = w := by
  have HE := Lib.hid (show Al.cmpS a b = if Op.bytesLess a.toList b.toList = true then -1 else if (a.toList == b.toList) = true then 0 else 1 from rfl)
  generalize Al.cmpS a b = r at *
  cases h1 : Op.bytesLess a.toList b.toList
  · cases h2 : (a.toList == b.toList)
    · have he : r = 1 := by rw [HE.out, h1, h2]; rfl
      subst he
      clear HE
      go_enter Tryz.func75, Tryz.ntmps75
      go_wp2_with fail
      refine (nanS_any _ _).mono ?_
      rintro e w1 ⟨rfl, rfl⟩
      go_wp2_with fail
      refine (nanS_any _ _).mono ?_
      rintro e w1 ⟨rfl, rfl⟩
      go_wp2_with fail
      go_ret
      exact ⟨rfl, rfl⟩
    · have he : r = 0 := by rw [HE.out, h1, h2]; rfl
      subst he
      clear HE
      go_enter Tryz.func75, Tryz.ntmps75
      go_wp2_with fail
      refine (nanS_any _ _).mono ?_
      rintro e w1 ⟨rfl, rfl⟩
      go_wp2_with fail
      refine (nanS_any _ _).mono ?_
      rintro e w1 ⟨rfl, rfl⟩
      go_wp2_with fail
      go_ret
      exact ⟨rfl, rfl⟩
  · have he : r = -1 := by rw [HE.out, h1]; rfl
    subst he
    clear HE
    go_enter Tryz.func75, Tryz.ntmps75
    go_wp2_with fail
    refine (nanS_any _ _).mono ?_
    rintro e w1 ⟨rfl, rfl⟩
    go_wp2_with fail
    refine (nanS_any _ _).mono ?_
    rintro e w1 ⟨rfl, rfl⟩
    go_wp2_with fail
    go_ret
    exact ⟨rfl, rfl⟩
set_option maxRecDepth 100000 in
set_option maxHeartbeats 4000000 in
theorem or_any (b n c : Nat) (X : Nat → Int) (w : World) (hn : n ≤ 100) (hX : ∀ i, i < n → w.cell? ⟨b, i, none⟩ = some (.int .i64 (X i))) : Calls Tryz.prog 73 #[.slice (some ⟨b, 0, none⟩) n c] w fun e w' => e = .returned (.int .i64 (Al.fstE X n)) ∧ w' = w := by
  have HX := Lib.hid hX
  have H0 := Lib.hid (fun (h : ∀ i, i < n → X i = 0) => Al.fstE_zero h)
  have H1 := Lib.hid (fun i (h0 : ∀ j, j < i → X j = 0) (h1 : X i ≠ 0) (hi : i < n) => Al.fstE_hit h0 h1 hi)
  clear hX
  generalize Al.fstE X n = r at *
  go_enter Tryz.func73, Tryz.ntmps73
  go_wp2_with fail
  go_loopw [8] (fun x wr => ∃ i : Nat, i ≤ n ∧ x = .int .i64 (i : Int) ∧ Hid (∀ j, j < i → X j = 0) ∧ wr = w) (fun x _ => n - (intOf x).toNat)
  case atStart => exact ⟨0, Nat.zero_le _, rfl, Lib.hid (fun j hj => absurd hj (Nat.not_lt_zero j)), rfl⟩
  case round =>
    obtain ⟨i, hi, rfl, HQ, rfl⟩ := hrel
    by_cases hlt : i < n
    · have ib0 : (0 : Int) ≤ (i : Int) := by omega
      have ib1 : (i : Int) < (n : Int) := by omega
      have c0 := HX.out i hlt
      by_cases hz : X i = 0
      · have HQ2 := Lib.hid (fun j (hj : j < i + 1) => show X j = 0 from by
          by_cases e : j = i
          · rw [e]; exact hz
          · exact HQ.out j (by omega))
        rw [hz] at c0
        clear HX H0 H1 HQ hz
        go_wp2_with fail
        go_roundw
        case rel => exact ⟨i + 1, by omega, by go_num, HQ2, by first | rfl | trivial⟩
        case measure => simp [intOf]; omega
      · have hr := H1.out i HQ.out hz hlt
        have hb : (X i != 0) = true := bne_iff_ne.2 hz
        have HR := Lib.hid hr
        clear HX H0 H1 HQ hr
        generalize X i = x at *
        go_wp2_with fail
        go_ret
        exact ⟨by rw [HR.out]; rfl, rfl⟩
    · obtain rfl : n = i := by omega
      have HR := Lib.hid (H0.out HQ.out)
      clear HX H0 H1 HQ
      go_wp2_with fail
      go_ret
      exact ⟨by rw [HR.out]; rfl, rfl⟩
set_option maxRecDepth 100000 in
set_option maxHeartbeats 4000000 in
theorem cmpL_any (A A2 : Option Addr) (n c m c2 b b2 o o2 : Nat) (X Y : Nat → Int) (w : World) (hn : n ≤ 9223372036854775807) (hm : m ≤ 9223372036854775807) (hA : 0 < n → A = some ⟨b, o, none⟩) (hX : ∀ i, i < n → w.cell? ⟨b, o + i, none⟩ = some (.int .i64 (X i))) (hA2 : 0 < m → A2 = some ⟨b2, o2, none⟩) (hY : ∀ i, i < m → w.cell? ⟨b2, o2 + i, none⟩ = some (.int .i64 (Y i))) :
    Calls Tryz.prog 76 #[.slice A n c, .slice A2 m c2] w fun e w' => e = .returned (.int .i64 (Al.cmpL (Al.lst X n) (Al.lst Y m))) ∧ w' = w := by
  have HA := Lib.hid hA; have HA2 := Lib.hid hA2; have HX := Lib.hid hX; have HY := Lib.hid hY
  have HC := Lib.hid (fun x y W => Tryz.cmp_Compare_int x y W)
  have HR := Lib.hid (show Al.cmpL (Al.lst X n) (Al.lst Y m) = Al.cmpL ((Al.lst X n).drop 0) ((Al.lst Y m).drop 0) from rfl)
  clear hA hA2 hX hY
  generalize Al.cmpL (Al.lst X n) (Al.lst Y m) = r at *
  go_enter Tryz.func76, Tryz.ntmps76
  go_wp2_with fail
  go_loopw [11] (fun x wr => ∃ i : Nat, i ≤ n ∧ i ≤ m ∧ x = .int .i64 (i : Int) ∧ Hid (r = Al.cmpL ((Al.lst X n).drop i) ((Al.lst Y m).drop i)) ∧ wr = w) (fun x _ => n - (intOf x).toNat)
  case atStart => exact ⟨0, Nat.zero_le _, Nat.zero_le _, rfl, HR, rfl⟩
  case round =>
    clear HR
    obtain ⟨i, hi, hi2, rfl, HQ, rfl⟩ := hrel
    by_cases hlt : i < n
    · obtain rfl := HA.out (by omega)
      have ib0 : (0 : Int) ≤ (i : Int) := by omega
      have ib1 : (i : Int) < (n : Int) := by omega
      have c0 := HX.out i hlt
      by_cases hlm : i < m
      · obtain rfl := HA2.out (by omega)
        have ib2 : (i : Int) < (m : Int) := by omega
        have c1 := HY.out i hlm
        have hq := HQ.out
        rw [Al.lst_drop hlt, Al.lst_drop hlm, Al.cmpL] at hq
        have HCi := Lib.hid (fun W => HC.out (X i) (Y i) W)
        by_cases hz : Lib.compareInt (X i) (Y i) = 0
        · rw [if_pos hz] at hq
          have HQ2 := Lib.hid hq
          rw [hz] at HCi
          clear HX HY HQ HC hq hz HA HA2
          generalize X i = x at *; generalize Y i = y at *
          go_wp2_with fail
          refine (HCi.out _).mono ?_
          rintro e w1 ⟨rfl, rfl⟩
          go_wp2_with fail
          go_roundw
          case rel => exact ⟨i + 1, by omega, by omega, by go_num, HQ2, by first | rfl | trivial⟩
          case measure => simp [intOf]; omega
        · rw [if_neg hz] at hq
          have HQ2 := Lib.hid hq
          have hb : (Lib.compareInt (X i) (Y i) != 0) = true := bne_iff_ne.2 hz
          clear HX HY HQ HC hq hz HA HA2
          generalize Lib.compareInt (X i) (Y i) = cc at *
          generalize X i = x at *; generalize Y i = y at *
          go_wp2_with fail
          refine (HCi.out _).mono ?_
          rintro e w1 ⟨rfl, rfl⟩
          go_wp2_with fail
          go_ret
          exact ⟨by rw [HQ2.out]; rfl, rfl⟩
      · obtain rfl : m = i := by omega
        have hq := HQ.out
        rw [Al.lst_drop hlt, Al.lst_end, Al.cmpL] at hq
        have HQ2 := Lib.hid hq
        clear HX HY HQ HC hq HA HA2
        generalize X m = x at *
        go_wp2_with fail
        go_ret
        exact ⟨by rw [HQ2.out]; rfl, rfl⟩
    · obtain rfl : n = i := by omega
      by_cases hlm : n < m
      · have hq := HQ.out
        rw [Al.lst_end, Al.lst_drop hlm, Al.cmpL] at hq
        have HQ2 := Lib.hid hq
        have ib2 : (n : Int) < (m : Int) := by omega
        clear HX HY HQ HC hq HA HA2
        go_wp2_with fail
        go_ret
        exact ⟨by rw [HQ2.out]; rfl, rfl⟩
      · obtain rfl : n = m := by omega
        have hq := HQ.out
        rw [Al.lst_end, Al.lst_end, Al.cmpL] at hq
        have HQ2 := Lib.hid hq
        clear HX HY HQ HC hq HA HA2
        go_wp2_with fail
        go_ret
        exact ⟨by rw [HQ2.out]; rfl, rfl⟩
end Go.Proofs.YtllkiadedaghoaaGreatDoor
set_option linter.unusedVariables false
set_option linter.unusedSimpArgs false
namespace Go.Proofs.YtllkiadedaghoaaGreatDoor
open Go.RowKit
theorem still_of_quiet {P : Program} {o : Oper} {a : Act} {W : World} {K K' : Act → Prop} (hn : ∀ a, K a → K' a) (h : o.quiet P a (fun w' => w' = W) K) : o.still P a W K' := by
  obtain ⟨v, h1, h2⟩ := h
  have h3 := h1 W rfl
  unfold Oper.quietAt at h3
  unfold Oper.still
  generalize (execOp a.eval o).run P W = r at *
  cases r with
  | halt x w' => simp only [Oper.quietUpon] at h3
  | ok n w' =>
    cases n with
    | value u =>
      simp only [Oper.quietUpon] at h3
      simp only [Oper.stillUpon]
      exact ⟨h3.1, by rw [h3.2]; exact hn _ h2⟩
    | skip =>
      simp only [Oper.quietUpon] at h3
      simp only [Oper.stillUpon]
      exact ⟨h3.1, by rw [← h3.2]; exact hn _ h2⟩
    | enter f args =>
      simp only [Oper.quietUpon] at h3
      simp only [Oper.stillUpon]
      exact ⟨h3.1, v, h3.2, hn _ h2⟩
    | _ => simp only [Oper.quietUpon] at h3
theorem wpStill_of_quiet {P : Program} {ops : Array Oper} {W : World} {Q : Act → Prop} : ∀ (l : List Oper) (a : Act), wpQuiet P ops (fun w' => w' = W) Q l a → wpStill P ops W Q l a
  | [], _, h => h
  | o :: l, a, h => by
    unfold wpQuiet at h
    unfold wpStill
    split
    · rename_i hw; rw [if_pos hw] at h; exact still_of_quiet (fun a' => wpStill_of_quiet l a') h
    · rename_i hw; rw [if_neg hw] at h; exact wpStill_of_quiet l _ h
theorem wp_region_tail {P : Program} {id : Nat} {Q : Exit → Act → World → Prop} {a : Act} {w : World} {l : List Oper} (n : Nat) (hm : P.follows .mixedOrders = true) (hB : Region.lexTailB .any l.toArray n = true)
    (h : wpQuiet P l.toArray (fun w' => w' = w.drew) (fun a' => wpList P l.toArray Q (l.drop n) a' w.drew) (l.take n) a) : (Code.region id l.toArray true).wp P Q a w :=
  wp_region_still_tail n hm hB (wpStill_of_quiet _ _ h)
/-- The world has grown; of what was there, the blocks R and M alone have turned. -/
structure GrY (R M : Nat) (w w' : World) : Prop where
  os : w'.os = w.os
  tape : w'.tape = w.tape
  output : w'.output = w.output
  size : w.heap.size ≤ w'.heap.size
  block : ∀ k, k < w.heap.size → k ≠ R → k ≠ M → w'.heap[k]? = w.heap[k]?
theorem GrY.refl (R M : Nat) (w : World) : GrY R M w w := ⟨rfl, rfl, rfl, Nat.le_refl _, fun _ _ _ _ => rfl⟩
theorem GrY.gr {R M : Nat} {a b c : World} (h : GrY R M a b) (k : Gr b c) : GrY R M a c :=
  ⟨k.os.trans h.os, k.tape.trans h.tape, k.output.trans h.output, Nat.le_trans h.size (Gr.size k), fun i hi hR hM => (Below.block k i (Nat.lt_of_lt_of_le hi h.size)).trans (h.block i hi hR hM)⟩
theorem GrY.drew {R M : Nat} {a b : World} (h : GrY R M a b) : GrY R M a b.drew := h.gr (Gr.drew (Gr.refl _))
theorem GrY.drewN {R M : Nat} {a b : World} (h : GrY R M a b) (n : Nat) : GrY R M a (b.drewN n) := h.gr (Gr.drewN (Gr.refl _) n)
theorem GrY.alloc {R M : Nat} {a b : World} (h : GrY R M a b) (o : Obj) : GrY R M a (b.alloc o) := h.gr (Gr.alloc (Gr.refl _) o)
theorem GrY.setCell {R M : Nat} {a b : World} (h : GrY R M a b) {p : Addr} (hp : p.block = R) (u : Value) : GrY R M a (b.setCell p u) := by
  subst hp
  exact ⟨h.os, h.tape, h.output, by simpa [World.setCell] using h.size, fun i hi hR hM => (Below.heap_setCell _ _ _ _ hR).trans (h.block i hi hR hM)⟩
theorem GrY.at {R M : Nat} {w w' : World} (h : GrY R M w w') {b o : Nat} {v : Value} (hR : b ≠ R) (hM : b ≠ M) (hc : w.cell? ⟨b, o, none⟩ = some v) : w'.cell? ⟨b, o, none⟩ = some v := by
  have hlt := World.block_lt_of_cell? w ⟨b, o, none⟩ hc
  rw [← hc]; exact World.cell?_of_block (w := w) (h.block b hlt hR hM)
theorem GrY.below {R M : Nat} {w W0 w' : World} (g : Gr w W0) (hR : w.heap.size ≤ R) (hM : w.heap.size ≤ M) (h : GrY R M W0 w') : Gr w w' :=
  ⟨h.os.trans g.os, h.tape.trans g.tape, h.output.trans g.output, Nat.le_trans (Gr.size g) h.size, fun k hk => (h.block k (Nat.lt_of_lt_of_le hk (Gr.size g)) (by omega) (by omega)).trans (Below.block g k hk)⟩
/-- A cell holds a value, and may be written. -/
def Own (w : World) (b o : Nat) (v : Value) : Prop := w.cell? ⟨b, o, none⟩ = some v ∧ w.frozen? ⟨b, o, none⟩ = false
theorem Own.gr {w w' : World} {b o : Nat} {v : Value} (h : Own w b o v) (g : Gr w w') : Own w' b o v := ⟨Gr.at g h.1, Gr.free g h.1 h.2⟩
theorem Own.set {w : World} {b o : Nat} {v u : Value} (h : Own w b o v) : Own (w.setCell ⟨b, o, none⟩ u) b o u :=
  ⟨World.cell?_setCell_same' _ _ _ (by rw [h.1]; rfl), by have := h.2; simpa [go_sem] using this⟩
theorem Own.other {w : World} {b o b' o' : Nat} {v u : Value} (h : Own w b o v) (hne : b ≠ b' ∨ o ≠ o') : Own (w.setCell ⟨b', o', none⟩ u) b o v :=
  ⟨by rw [World.cell?_setCell_other _ _ _ _ (fun e => by simp only [Addr.mk.injEq] at e; omega)]; exact h.1, by have := h.2; simpa [go_sem] using this⟩
end Go.Proofs.YtllkiadedaghoaaGreatDoor
set_option linter.unusedVariables false
set_option linter.unusedSimpArgs false
namespace Go.Proofs.YtllkiadedaghoaaGreatDoor
open Go.RowKit
/-- The worlds that have grown from W. -/
structure GW (W : World) where
  val : World
  property : Gr W val
instance (W : World) : Nonempty (GW W) := ⟨⟨W, Gr.refl W⟩⟩
theorem wp_region_gr {P : Program} {id : Nat} {Q : Exit → Act → World → Prop} {a : Act} {w : World} {l : List Oper} (hm : P.follows .mixedOrders = true) (hB : Region.lexB .any l.toArray = true)
    (h : wpQuiet P l.toArray (fun w' => ∃ x : GW w, w' = x.1) (fun a' => ∀ w', Gr w w' → Q .normal a' w') l a) : (Code.region id l.toArray true).wp P Q a w := by
  have e : (fun a' => ∀ w', Gr w w' → Q .normal a' w') = (fun a' => ∀ w', (∃ x : GW w, w' = x.1) → Q .normal a' w') := by
    funext a'
    apply propext
    constructor
    · rintro h w' ⟨x, rfl⟩; exact h _ x.2
    · intro h w' hg; exact h w' ⟨⟨w', hg⟩, rfl⟩
  rw [e] at h
  exact wp_region_quiet (C := fun w' => ∃ x : GW w, w' = x.1) hm hB ⟨⟨w.drew, Gr.drew (Gr.refl w)⟩, rfl⟩ h
theorem gw_call {P : Program} {f : FuncId} {args : Array Value} {W : World} {x : GW W} {v : Value} (h : Calls P f args x.1 fun e w' => e = .returned v ∧ Gr x.1 w') : Calls P f args x.1 fun e w'' => e = .returned v ∧ ∃ y : GW W, w'' = y.1 :=
  h.mono fun _ w' ⟨he, hg⟩ => ⟨he, ⟨w', x.2.trans hg⟩, rfl⟩
theorem gw_same {P : Program} {f : FuncId} {args : Array Value} {W : World} {x : GW W} {v : Value} (h : Calls P f args x.1 fun e w' => e = .returned v ∧ x.1 = w') : Calls P f args x.1 fun e w'' => e = .returned v ∧ ∃ y : GW W, w'' = y.1 :=
  h.mono fun _ _ ⟨he, hw⟩ => ⟨he, x, hw.symm⟩
end Go.Proofs.YtllkiadedaghoaaGreatDoor
set_option linter.unusedVariables false
set_option linter.unusedSimpArgs false
namespace Go.Proofs.YtllkiadedaghoaaGreatDoor
open Go.RowKit Go.Sort
attribute [local go_sem ↓] Go.wp_at_zero Go.wp_at_succ
namespace Al
/-- A message; the order of messages. -/
structure M where
  nd : ByteArray
  nu : Int
  tm : Int
  ar : Int
  lv : Int
instance M.inh : Inhabited M := ⟨⟨⟨#[]⟩, 0, 0, 0, 0⟩⟩
def M.enc (m : M) : List Value := [.string m.nd, .int .i64 m.nu, .int .i64 m.tm, .int .i64 m.ar, .int .i64 m.lv]
def mX (a b : M) : Nat → Int
  | 0 => Lib.compareInt a.tm b.tm
  | 1 => cmpS a.nd b.nd
  | _ => Lib.compareInt a.nu b.nu
def mcmp (a b : M) : Int := fstE (mX a b) 3
/-- An alarm with its numbers; the order of alarms. -/
structure A where
  kd : Int
  nd : ByteArray
  tm : Int
  p : Option Addr
  b : Nat
  o : Nat
  n : Nat
  c : Nat
  X : Nat → Int
instance A.inh : Inhabited A := ⟨⟨0, ⟨#[]⟩, 0, none, 0, 0, 0, 0, fun _ => 0⟩⟩
def A.enc (a : A) : List Value := [.int .i64 a.kd, .string a.nd, .int .i64 a.tm, .slice a.p a.n a.c]
structure A.At (a : A) (w : World) : Prop where
  hn : a.n ≤ 9223372036854775807
  hp : 0 < a.n → a.p = some ⟨a.b, a.o, none⟩
  hX : ∀ i, i < a.n → w.cell? ⟨a.b, a.o + i, none⟩ = some (.int .i64 (a.X i))
theorem A.At.gr {a : A} {w w' : World} (h : a.At w) (g : Gr w w') : a.At w' := ⟨h.hn, h.hp, fun i hi => Gr.at g (h.hX i hi)⟩
def aX (a b : A) : Nat → Int
  | 0 => Lib.compareInt a.tm b.tm
  | 1 => cmpS a.nd b.nd
  | 2 => Lib.compareInt a.kd b.kd
  | _ => cmpL (lst a.X a.n) (lst b.X b.n)
def acmp (a b : A) : Int := fstE (aX a b) 4
end Al
set_option maxRecDepth 100000 in
set_option maxHeartbeats 4000000 in
theorem mcmp_any (a b : Al.M) (w : World) : Calls Tryz.prog 190 #[.agg a.enc.toArray, .agg b.enc.toArray] w fun e w' => e = .returned (.int .i64 (Al.mcmp a b)) ∧ ∃ q os, w' = grow (w.drewN q) os := by
  have HC := Lib.hid (fun x y W => Tryz.cmp_Compare_int x y W)
  have HS := Lib.hid (fun x y W => cmpS_any x y W)
  have HO := Lib.hid (fun (B c : Nat) (W : World) (h0 : W.cell? ⟨B, 0, none⟩ = some (.int .i64 (Al.mX a b 0))) (h1 : W.cell? ⟨B, 1, none⟩ = some (.int .i64 (Al.mX a b 1))) (h2 : W.cell? ⟨B, 2, none⟩ = some (.int .i64 (Al.mX a b 2))) => or_any B 3 c (Al.mX a b) W (by omega) (fun i hi => by
    match i, hi with
    | 0, _ => exact h0
    | 1, _ => exact h1
    | 2, _ => exact h2))
  change Calls _ _ _ _ (fun e w' => e = .returned (.int .i64 (Al.fstE (Al.mX a b) 3)) ∧ _)
  generalize Al.fstE (Al.mX a b) 3 = r at *
  rw [show Al.mX a b 0 = Lib.compareInt a.tm b.tm from rfl, show Al.mX a b 1 = Al.cmpS a.nd b.nd from rfl, show Al.mX a b 2 = Lib.compareInt a.nu b.nu from rfl] at HO
  cases a with | mk an au at_ aa al => cases b with | mk bn bu bt ba bl =>
  unfold Al.M.enc
  go_enter Tryz.func190, Tryz.ntmps190
  go_wp2_with fail
  refine wp_region_tail 15 (by kernel_rfl) (by kernel_rfl) ?_
  simp only [List.take_succ_cons, List.take_zero, List.drop_succ_cons, List.drop_zero]
  repeat (first | go_big_quiet_skip | (go_big_quiet_want; go_big_quiet_op; first | go_big_quiet_on | (apply Exists.intro; refine ⟨?_, ?_⟩; (first | (go_at_call 74; exact HC.out _ _ _) | (go_at_call 75; exact HS.out _ _ _)); go_big_quiet_on)))
  refine wpQuiet_nil ?_
  go_wp2_with fail
  refine (HO.out _ _ _ (by simp [go_sem, *]) (by simp [go_sem, *]) (by simp [go_sem, *])).mono ?_
  rintro e w1 ⟨rfl, rfl⟩
  go_wp2_with fail
  go_ret
  exact ⟨rfl, 1, _, by rw [alloc_eq_grow, alloc_eq_grow, alloc_eq_grow, grow_grow, grow_grow]; rfl⟩
set_option maxRecDepth 100000 in
set_option maxHeartbeats 4000000 in
theorem acmp_any (a b : Al.A) (w : World) (ha : a.At w) (hb : b.At w) : Calls Tryz.prog 35 #[.agg a.enc.toArray, .agg b.enc.toArray] w fun e w' => e = .returned (.int .i64 (Al.acmp a b)) ∧ ∃ q os, w' = grow (w.drewN q) os := by
  have HC := Lib.hid (fun x y W => Tryz.cmp_Compare_int x y W)
  have HS := Lib.hid (fun x y W => cmpS_any x y W)
  have HL := Lib.hid (fun W (hW : Gr w W) => cmpL_any a.p b.p a.n a.c b.n b.c a.b b.b a.o b.o a.X b.X W ha.hn hb.hn ha.hp (ha.gr hW).hX hb.hp (hb.gr hW).hX)
  have HO := Lib.hid (fun (B c : Nat) (W : World) (h0 : W.cell? ⟨B, 0, none⟩ = some (.int .i64 (Al.aX a b 0))) (h1 : W.cell? ⟨B, 1, none⟩ = some (.int .i64 (Al.aX a b 1))) (h2 : W.cell? ⟨B, 2, none⟩ = some (.int .i64 (Al.aX a b 2))) (h3 : W.cell? ⟨B, 3, none⟩ = some (.int .i64 (Al.aX a b 3))) => or_any B 4 c (Al.aX a b) W (by omega) (fun i hi => by
    match i, hi with
    | 0, _ => exact h0
    | 1, _ => exact h1
    | 2, _ => exact h2
    | 3, _ => exact h3))
  change Calls _ _ _ _ (fun e w' => e = .returned (.int .i64 (Al.fstE (Al.aX a b) 4)) ∧ _)
  generalize Al.fstE (Al.aX a b) 4 = r at *
  rw [show Al.aX a b 0 = Lib.compareInt a.tm b.tm from rfl, show Al.aX a b 1 = Al.cmpS a.nd b.nd from rfl, show Al.aX a b 2 = Lib.compareInt a.kd b.kd from rfl, show Al.aX a b 3 = Al.cmpL (Al.lst a.X a.n) (Al.lst b.X b.n) from rfl] at HO
  clear ha hb
  generalize Al.cmpL (Al.lst a.X a.n) (Al.lst b.X b.n) = c3 at *
  unfold Al.A.enc
  cases a with | mk ak an at_ ap ab ao az ac aX => cases b with | mk bk bn bt bp bb bo bz bc bX =>
  simp only [] at *
  go_enter Tryz.func35, Tryz.ntmps35
  go_wp2_with fail
  refine wp_region_tail 20 (by kernel_rfl) (by kernel_rfl) ?_
  simp only [List.take_succ_cons, List.take_zero, List.drop_succ_cons, List.drop_zero]
  repeat (first | go_big_quiet_skip | (go_big_quiet_want; go_big_quiet_op; first | go_big_quiet_on | (apply Exists.intro; refine ⟨?_, ?_⟩; (first | (go_at_call 74; exact HC.out _ _ _) | (go_at_call 75; exact HS.out _ _ _) | (go_at_call 76; exact HL.out _ gr_auto)); go_big_quiet_on)))
  refine wpQuiet_nil ?_
  clear HL HC HS
  go_wp2_with fail
  refine (HO.out _ _ _ (by simp [go_sem, *]) (by simp [go_sem, *]) (by simp [go_sem, *]) (by simp [go_sem, *])).mono ?_
  rintro e w1 ⟨rfl, rfl⟩
  go_wp2_with fail
  go_ret
  exact ⟨rfl, 1, _, by rw [alloc_eq_grow, alloc_eq_grow, alloc_eq_grow, grow_grow, grow_grow]; rfl⟩
end Go.Proofs.YtllkiadedaghoaaGreatDoor
set_option linter.unusedVariables false
set_option linter.unusedSimpArgs false
namespace Go.Proofs.YtllkiadedaghoaaGreatDoor
open Go.RowKit
theorem ret_bool {a b : Bool} (h : a = b) : Ending.returned (.bool a) = .returned (.bool b) := by rw [h]
namespace Ba
/-- The first index below n that has a property. -/
def fst (p : Nat → Bool) : Nat → Option Nat
  | 0 => none
  | k + 1 => match fst p k with
    | some i => some i
    | none => if p k then some k else none
def fstI (p : Nat → Bool) (n : Nat) : Int := match fst p n with
  | some i => (i : Int)
  | none => -1
theorem fst_hit {p : Nat → Bool} {i : Nat} (h : fst p i = none) (hp : p i = true) : ∀ k, fst p (i + 1 + k) = some i
  | 0 => by rw [Nat.add_zero, fst, h]; simp [hp]
  | k + 1 => by rw [show i + 1 + (k + 1) = i + 1 + k + 1 by omega, fst, fst_hit h hp k]
theorem fst_miss {p : Nat → Bool} {i : Nat} (h : fst p i = none) (hp : p i = false) : fst p (i + 1) = none := by rw [fst, h]; simp [hp]
theorem fstI_hit {p : Nat → Bool} {i n : Nat} (h : fst p i = none) (hp : p i = true) (hi : i < n) : fstI p n = (i : Int) := by
  unfold fstI
  rw [show n = i + 1 + (n - (i + 1)) by omega, fst_hit h hp]
theorem fstI_none {p : Nat → Bool} {n : Nat} (h : fst p n = none) : fstI p n = -1 := by unfold fstI; rw [h]
theorem fst_some {p : Nat → Bool} : ∀ {n i : Nat}, fst p n = some i → i < n ∧ p i = true ∧ ∀ j, j < i → p j = false
  | 0, i, h => by cases h
  | n + 1, i, h => by
    rw [fst] at h
    cases e : fst p n with
    | some k =>
      rw [e] at h; simp only [Option.some.injEq] at h; subst h
      obtain ⟨a, b, c⟩ := fst_some e
      exact ⟨by omega, b, c⟩
    | none =>
      rw [e] at h
      simp only at h
      split at h
      · rename_i hp
        simp only [Option.some.injEq] at h; subst h
        refine ⟨by omega, hp, fun j hj => ?_⟩
        exact fst_no e j hj
      · cases h
where
  fst_no {p : Nat → Bool} : ∀ {n : Nat}, fst p n = none → ∀ j, j < n → p j = false
  | 0, _, j, hj => by omega
  | n + 1, h, j, hj => by
    rw [fst] at h
    cases e : fst p n with
    | some k => rw [e] at h; cases h
    | none =>
      rw [e] at h
      simp only at h
      split at h
      · cases h
      · rename_i hp
        by_cases e2 : j = n
        · subst e2; simpa using hp
        · exact fst_no e j (by omega)
/-- Has one of them the property? -/
def any (p : Nat → Bool) (n : Nat) : Bool := (fst p n).isSome
theorem fstI_ge (p : Nat → Bool) (n : Nat) : decide (0 ≤ fstI p n) = any p n := by
  unfold fstI any
  cases e : fst p n with
  | none => simp
  | some i => simp
end Ba
set_option maxRecDepth 100000 in
set_option maxHeartbeats 1000000 in
theorem idx_ints (f : FuncId) (cap : Array Value) (A : Option Addr) (n c b o : Nat) (X : Nat → Int) (p : Nat → Bool) (w : World) (hn : n ≤ 9223372036854775807) (hen : ∀ args w, (callFunc f args).run Tryz.prog w = .ok (.enter f args) w)
    (hA : 0 < n → A = some ⟨b, o, none⟩) (hX : ∀ i, i < n → w.cell? ⟨b, o + i, none⟩ = some (.int .i64 (X i)))
    (hp : ∀ i, i < n → ∀ W, Gr w W → Calls Tryz.prog f (#[.int .i64 (X i)] ++ cap) W fun e w' => e = .returned (.bool (p i)) ∧ Gr W w') :
    Calls Tryz.prog 194 #[.slice A n c, .func (.func f) #[] cap] w fun e w' => e = .returned (.int .i64 (Ba.fstI p n)) ∧ Gr w w' := by
  have HA := Lib.hid hA; have HX := Lib.hid hX; have HP := Lib.hid hp
  clear hA hX hp
  go_enter Tryz.func194, Tryz.ntmps194
  go_wp2_with fail
  go_loopw [8] (fun s8 wr => ∃ i : Nat, i ≤ n ∧ s8 = .int .i64 (i : Int) ∧ Gr w wr ∧ Hid (Ba.fst p i = none)) (fun s8 _ => n - (intOf s8).toNat)
  case atStart => exact ⟨0, Nat.zero_le _, rfl, Gr.refl _, rfl⟩
  case round =>
    obtain ⟨i, hi, rfl, hg, hf⟩ := hrel
    by_cases hlt : i < n
    · obtain rfl := HA.out (by omega)
      have a0 := Gr.at hg (HX.out i hlt)
      have HC := Lib.hid (HP.out i hlt)
      cases hpi : p i
      · rw [hpi] at HC
        have HF := Lib.hid (Ba.fst_miss hf.out hpi)
        clear hpi hi
        go_wp2_with fail
        refine (HC.out _ gr_auto).mono ?_
        rintro e w1 ⟨rfl, hb1⟩
        go_wp2_with fail
        go_roundw
        case rel => exact ⟨i + 1, by omega, by go_num, gr_auto, HF⟩
        case measure => simp [intOf]; omega
      · rw [hpi] at HC
        have HF := Lib.hid (Ba.fstI_hit hf.out hpi hlt)
        clear hpi hi
        go_wp2_with fail
        refine (HC.out _ gr_auto).mono ?_
        rintro e w1 ⟨rfl, hb1⟩
        go_wp2_with fail
        go_ret
        exact ⟨ret_int HF.out.symm, gr_auto⟩
    · obtain rfl : i = n := by omega
      have HF := Lib.hid (Ba.fstI_none hf.out)
      go_wp2_with fail
      go_ret
      exact ⟨ret_int HF.out.symm, hg⟩
end Go.Proofs.YtllkiadedaghoaaGreatDoor
