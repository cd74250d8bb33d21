/-
  Names: decimal.IsName and the reference's. (Printed by mknames.py.)
-/
import Derived.Test.YtllkiadedaghoaaGreatDoorOr11
import Derived.Lib.Strings
set_option linter.unusedVariables false
set_option linter.unusedSimpArgs false
namespace Go.Proofs.YtllkiadedaghoaaGreatDoor
namespace Dc
/-- A number of the layer. -/
def num (n : Int) : Bool := decide (-1152921504606846976 ≤ n) && decide (n ≤ 1152921504606846976)
def isL (c : UInt8) : Bool := decide (97 ≤ c.toNat) && decide (c.toNat ≤ 122) || decide (65 ≤ c.toNat) && decide (c.toNat ≤ 90)
def isD (c : UInt8) : Bool := decide (48 ≤ c.toNat) && decide (c.toNat ≤ 57)
def isW (c : UInt8) : Bool := isL c || isD c || decide (c.toNat = 95)
/-- How many bytes at the head have a property. -/
def spn (p : UInt8 → Bool) : List UInt8 → Nat
  | [] => 0
  | c :: l => if p c then spn p l + 1 else 0
theorem spn_stop {p : UInt8 → Bool} : ∀ {l : List UInt8} {k : Nat}, (∀ j, j < k → p (l.getD j 0) = true) → k ≤ l.length → (k = l.length ∨ p (l.getD k 0) = false) → spn p l = k
  | [], k, _, h, _ => by simp at h; subst h; rfl
  | c :: l, 0, _, _, h => by
    rcases h with h | h
    · simp at h
    · simp at h; unfold spn; rw [if_neg (by rw [h]; decide)]
  | c :: l, k + 1, hj, h, hs => by
    have h0 := hj 0 (by omega)
    simp at h0
    unfold spn; rw [if_pos h0]
    congr 1
    refine spn_stop (fun j hjk => by have := hj (j + 1) (by omega); simpa using this) (by simpa using h) ?_
    rcases hs with hs | hs
    · left; simpa using hs
    · right; simpa using hs
def word (l : List UInt8) : Nat := spn isW l
/-- Up to the end of the line. -/
def rest (l : List UInt8) : Nat := spn (fun c => decide (c.toNat ≠ 10)) l
end Dc
open Go.RowKit
theorem getD_byte (s : ByteArray) (k : Nat) (h : k < s.size) : s.data.toList.getD k 0 = s[k] := by
  have h' : k < s.data.toList.length := by simpa using h
  rw [List.getD, List.getElem?_eq_getElem h']; rfl
theorem quiet_eq {P : Program} {f : FuncId} {args : Array Value} {w : World} {n : Nat} {v : Value}
    (h : Calls P f args (w.drewN n) fun e w' => e = .returned v ∧ w.drewN n = w') : Calls P f args (w.drewN n) fun e w'' => e = .returned v ∧ ∃ m, w'' = w.drewN m :=
  h.mono fun _ _ ⟨he, hm⟩ => ⟨he, n, hm.symm⟩
theorem Dc.isL_iff (c : UInt8) : Dc.isL c = true ↔ (97 ≤ c.toNat ∧ c.toNat ≤ 122) ∨ (65 ≤ c.toNat ∧ c.toNat ≤ 90) := by unfold Dc.isL; simp only [Bool.or_eq_true, Bool.and_eq_true, decide_eq_true_eq]
theorem Dc.isD_iff (c : UInt8) : Dc.isD c = true ↔ 48 ≤ c.toNat ∧ c.toNat ≤ 57 := by unfold Dc.isD; simp only [Bool.and_eq_true, decide_eq_true_eq]
theorem Dc.isW_iff (c : UInt8) : Dc.isW c = true ↔ (Dc.isL c = true ∨ Dc.isD c = true) ∨ c.toNat = 95 := by unfold Dc.isW; simp only [Bool.or_eq_true, decide_eq_true_eq]
set_option maxRecDepth 100000 in
theorem digit_any (c : UInt8) (w : World) : Calls Tryz.prog 193 #[.int .u8 (c.toNat : Int)] w fun e w' => e = .returned (.bool (Dc.isD c)) ∧ w = w' := by
  have hc : (c.toNat : Int) < 256 := by have := c.toNat_lt; omega
  have hI := Dc.isD_iff c
  cases hd : Dc.isD c
  · rw [hd] at hI
    have hJ := fun h => Bool.false_ne_true (hI.2 h)
    by_cases h0 : 48 ≤ c.toNat
    · have t0 : decide ((48 : Int) ≤ (c.toNat : Int)) = true := decide_eq_true (by omega)
      have t1 : decide ((c.toNat : Int) ≤ (57 : Int)) = false := decide_eq_false (by intro h; exact hJ ⟨h0, by omega⟩)
      clear hI hJ hd h0
      go_enter Tryz.func193, Tryz.ntmps193
      go_wp2
      go_ret
      exact ⟨rfl, rfl⟩
    · have t0 : decide ((48 : Int) ≤ (c.toNat : Int)) = false := decide_eq_false (by omega)
      clear hI hJ hd h0
      go_enter Tryz.func193, Tryz.ntmps193
      go_wp2
      go_ret
      exact ⟨rfl, rfl⟩
  · obtain ⟨h0, h1⟩ := hI.1 hd
    have t0 : decide ((48 : Int) ≤ (c.toNat : Int)) = true := decide_eq_true (by omega)
    have t1 : decide ((c.toNat : Int) ≤ (57 : Int)) = true := decide_eq_true (by omega)
    clear hI hd h0 h1
    go_enter Tryz.func193, Tryz.ntmps193
    go_wp2
    go_ret
    exact ⟨rfl, rfl⟩
set_option maxRecDepth 100000 in
theorem letter_any (c : UInt8) (w : World) : Calls Tryz.prog 164 #[.int .u8 (c.toNat : Int)] w fun e w' => e = .returned (.bool (Dc.isL c)) ∧ w = w' := by
  have hc : (c.toNat : Int) < 256 := by have := c.toNat_lt; omega
  have HI : ∀ b, (b = true ↔ (97 ≤ c.toNat ∧ c.toNat ≤ 122) ∨ (65 ≤ c.toNat ∧ c.toNat ≤ 90)) → Dc.isL c = b := fun b h => by
    rw [Bool.eq_iff_iff, h]; exact Dc.isL_iff c
  by_cases h0 : 97 ≤ c.toNat
  · have t0 : decide ((97 : Int) ≤ (c.toNat : Int)) = true := decide_eq_true (by omega)
    by_cases h1 : c.toNat ≤ 122
    · have t1 : decide ((c.toNat : Int) ≤ (122 : Int)) = true := decide_eq_true (by omega)
      have H := HI true ⟨fun _ => Or.inl ⟨h0, h1⟩, fun _ => rfl⟩
      rw [H]
      clear HI H h0 h1
      go_enter Tryz.func164, Tryz.ntmps164
      go_wp2
      go_ret
      exact ⟨rfl, rfl⟩
    · have t1 : decide ((c.toNat : Int) ≤ (122 : Int)) = false := decide_eq_false (by omega)
      have t2 : decide ((65 : Int) ≤ (c.toNat : Int)) = true := decide_eq_true (by omega)
      have t3 : decide ((c.toNat : Int) ≤ (90 : Int)) = false := decide_eq_false (by omega)
      have H := HI false (Iff.intro (fun h => by cases h) (fun h => by omega))
      rw [H]
      clear HI H h0 h1
      go_enter Tryz.func164, Tryz.ntmps164
      go_wp2
      go_ret
      exact ⟨rfl, rfl⟩
  · have t0 : decide ((97 : Int) ≤ (c.toNat : Int)) = false := decide_eq_false (by omega)
    by_cases h1 : 65 ≤ c.toNat
    · have t2 : decide ((65 : Int) ≤ (c.toNat : Int)) = true := decide_eq_true (by omega)
      by_cases h2 : c.toNat ≤ 90
      · have t3 : decide ((c.toNat : Int) ≤ (90 : Int)) = true := decide_eq_true (by omega)
        have H := HI true ⟨fun _ => Or.inr ⟨h1, h2⟩, fun _ => rfl⟩
        rw [H]
        clear HI H h0 h1 h2
        go_enter Tryz.func164, Tryz.ntmps164
        go_wp2
        go_ret
        exact ⟨rfl, rfl⟩
      · have t3 : decide ((c.toNat : Int) ≤ (90 : Int)) = false := decide_eq_false (by omega)
        have H := HI false (Iff.intro (fun h => by cases h) (fun h => by omega))
        rw [H]
        clear HI H h0 h1 h2
        go_enter Tryz.func164, Tryz.ntmps164
        go_wp2
        go_ret
        exact ⟨rfl, rfl⟩
    · have t2 : decide ((65 : Int) ≤ (c.toNat : Int)) = false := decide_eq_false (by omega)
      have H := HI false (Iff.intro (fun h => by cases h) (fun h => by omega))
      rw [H]
      clear HI H h0 h1
      go_enter Tryz.func164, Tryz.ntmps164
      go_wp2
      go_ret
      exact ⟨rfl, rfl⟩
theorem Dc.spn_next {p : UInt8 → Bool} {s : ByteArray} {k : Nat} (h : ∀ j, j < k → p (s.data.toList.getD j 0) = true) (hk : k < s.size) (hp : p s[k] = true) : ∀ j, j < k + 1 → p (s.data.toList.getD j 0) = true := by
  intro j hj
  by_cases e : j < k
  · exact h j e
  · obtain rfl : j = k := by omega
    rw [getD_byte s j hk]; exact hp
set_option maxRecDepth 100000 in
set_option maxHeartbeats 1000000 in
theorem word_any (s : ByteArray) (w : World) (hm : s.size ≤ 9223372036854775807) : Calls Tryz.prog 165 #[.string s] w fun e w' => e = .returned (.int .i64 (Dc.word s.data.toList : Int)) ∧ w = w' := by
  have HL := Lib.hid (show s.data.toList.length = s.size by simp)
  go_enter Tryz.func165, Tryz.ntmps165
  go_wp2_with fail
  go_loop [3] (fun q => ∃ (k : Nat), k ≤ s.size ∧ q = .int .i64 k ∧ Hid (∀ j, j < k → Dc.isW (s.data.toList.getD j 0) = true)) (fun q => s.size - (intOf q).toNat)
  case atStart => exact ⟨0, by omega, rfl, Lib.hid (fun j h => by omega)⟩
  case round =>
    obtain ⟨k, hk, rfl, hr⟩ := hrel
    by_cases hlt : k < s.size
    · have gs := Lib.hid (getD_byte s k hlt)
      have b0 : (s[k].toNat : Int) < 256 := by have := s[k].toNat_lt; omega
      have HA := Lib.hid (letter_any s[k]); have HB := Lib.hid (digit_any s[k])
      have HW := Lib.hid (Dc.isW_iff s[k])
      cases hL : Dc.isL s[k]
      · rw [hL] at HA HW
        cases hD : Dc.isD s[k]
        · rw [hD] at HB HW
          by_cases hu : s[k].toNat = 95
          · have t2 : ((s[k].toNat : Int) == 95) = true := by rw [beq_iff_eq]; omega
            have HN := Lib.hid (Dc.spn_next hr.out hlt (HW.out.2 (Or.inr hu)))
            clear hu hL hD HW
            go_wp2_with (first | (go_at_call 164; with_reducible refine (HA.out _).mono ?_; rintro e w' ⟨rfl, rfl⟩) | (go_at_call 193; with_reducible refine (HB.out _).mono ?_; rintro e w' ⟨rfl, rfl⟩))
            go_round
            case rel => exact ⟨k + 1, by omega, by go_num, HN⟩
            case measure => simp [intOf]; omega
          · have t2 : ((s[k].toNat : Int) == 95) = false := by rw [beq_eq_false_iff_ne]; omega
            have hz : Dc.isW s[k] = false := by
              cases hz : Dc.isW s[k]
              · rfl
              · rcases HW.out.1 hz with (h | h) | h
                · cases h
                · cases h
                · exact absurd h hu
            have HZ := Lib.hid (show Dc.word s.data.toList = k from Dc.spn_stop hr.out (by rw [HL.out]; omega) (Or.inr (by rw [gs.out]; exact hz)))
            clear hu hL hD HW hz
            go_wp2_with (first | (go_at_call 164; with_reducible refine (HA.out _).mono ?_; rintro e w' ⟨rfl, rfl⟩) | (go_at_call 193; with_reducible refine (HB.out _).mono ?_; rintro e w' ⟨rfl, rfl⟩))
            go_ret
            exact ⟨ret_int (by rw [HZ.out]), rfl⟩
        · rw [hD] at HB HW
          have HN := Lib.hid (Dc.spn_next hr.out hlt (HW.out.2 (Or.inl (Or.inr rfl))))
          clear hL hD HW
          go_wp2_with (first | (go_at_call 164; with_reducible refine (HA.out _).mono ?_; rintro e w' ⟨rfl, rfl⟩) | (go_at_call 193; with_reducible refine (HB.out _).mono ?_; rintro e w' ⟨rfl, rfl⟩))
          go_round
          case rel => exact ⟨k + 1, by omega, by go_num, HN⟩
          case measure => simp [intOf]; omega
      · rw [hL] at HA HW
        have HN := Lib.hid (Dc.spn_next hr.out hlt (HW.out.2 (Or.inl (Or.inl rfl))))
        clear hL HW
        go_wp2_with (first | (go_at_call 164; with_reducible refine (HA.out _).mono ?_; rintro e w' ⟨rfl, rfl⟩) | (go_at_call 193; with_reducible refine (HB.out _).mono ?_; rintro e w' ⟨rfl, rfl⟩))
        go_round
        case rel => exact ⟨k + 1, by omega, by go_num, HN⟩
        case measure => simp [intOf]; omega
    · obtain rfl : k = s.size := by omega
      have HZ := Lib.hid (show Dc.word s.data.toList = s.size from Dc.spn_stop hr.out (by rw [HL.out]; omega) (Or.inl HL.out.symm))
      go_wp2
      go_ret
      exact ⟨ret_int (by rw [HZ.out]), rfl⟩
theorem empty_no (x : ByteArray) (h : 0 < x.size) : x.toList.isEmpty = false := by
  rw [Lib.toList_data]
  have : x.data.toList.length = x.size := by simp
  cases e : x.data.toList with
  | nil => rw [e] at this; simp at this; omega
  | cons a l => rfl
theorem empty_yes (x : ByteArray) (h : x.size = 0) : x.toList.isEmpty = true := by
  rw [Lib.toList_data]
  have : x.data.toList.length = x.size := by simp
  cases e : x.data.toList with
  | nil => rfl
  | cons a l => rw [e] at this; simp at this; omega
open Go.RowKit
open Go.RowKit
/-- Is a text a name? -/
def Dc.isName (l : List UInt8) : Bool := decide (0 < l.length) && decide (l.length ≤ 20) && Dc.isL (l.getD 0 0) && decide (Dc.word l = l.length)
set_option maxRecDepth 100000 in
theorem isname_any (s : ByteArray) (w : World) (hm : s.size ≤ 1000) : Calls Tryz.prog 126 #[.string s] w fun e w' => e = .returned (.bool (Dc.isName s.data.toList)) ∧ w = w' := by
  have hL : s.data.toList.length = s.size := by simp
  have HD : Hid (Dc.isName s.data.toList = (decide (0 < s.size) && decide (s.size ≤ 20) && Dc.isL (s.data.toList.getD 0 0) && decide (Dc.word s.data.toList = s.size))) := Lib.hid (by unfold Dc.isName; rw [hL])
  have HC := Lib.hid (fun W => word_any s W (by omega))
  clear hL
  by_cases h0 : 0 < s.size
  · have hE := empty_no s h0
    have gx := getD_byte s 0 h0
    have b0 : (s[0].toNat : Int) < 256 := by have := s[0].toNat_lt; omega
    have HA := Lib.hid (letter_any s[0])
    rw [gx, decide_eq_true h0] at HD
    by_cases h1 : s.size ≤ 20
    · have t1 : decide ((s.size : Int) ≤ 20) = true := decide_eq_true (by omega)
      rw [decide_eq_true h1] at HD
      cases hl : Dc.isL s[0]
      · rw [hl] at HA HD
        clear gx hl h1
        go_enter Tryz.func126, Tryz.ntmps126
        go_wp2_with (first | (go_at_call 164; with_reducible refine (HA.out _).mono ?_; rintro e w' ⟨rfl, rfl⟩) | (go_at_call 165; with_reducible refine (HC.out _).mono ?_; rintro e w' ⟨rfl, rfl⟩))
        go_ret
        exact ⟨ret_bool (by rw [HD.out]; rfl), rfl⟩
      · rw [hl] at HA HD
        generalize Dc.word s.data.toList = m at *
        by_cases h2 : m = s.size
        · have t2 : ((m : Int) == (s.size : Int)) = true := by rw [beq_iff_eq]; omega
          rw [decide_eq_true h2] at HD
          clear gx hl h1 h2
          go_enter Tryz.func126, Tryz.ntmps126
          go_wp2_with (first | (go_at_call 164; with_reducible refine (HA.out _).mono ?_; rintro e w' ⟨rfl, rfl⟩) | (go_at_call 165; with_reducible refine (HC.out _).mono ?_; rintro e w' ⟨rfl, rfl⟩))
          go_ret
          exact ⟨ret_bool (by rw [HD.out]; rfl), rfl⟩
        · have t2 : ((m : Int) == (s.size : Int)) = false := by rw [beq_eq_false_iff_ne]; omega
          rw [decide_eq_false h2] at HD
          clear gx hl h1 h2
          go_enter Tryz.func126, Tryz.ntmps126
          go_wp2_with (first | (go_at_call 164; with_reducible refine (HA.out _).mono ?_; rintro e w' ⟨rfl, rfl⟩) | (go_at_call 165; with_reducible refine (HC.out _).mono ?_; rintro e w' ⟨rfl, rfl⟩))
          go_ret
          exact ⟨ret_bool (by rw [HD.out]; rfl), rfl⟩
    · have t1 : decide ((s.size : Int) ≤ 20) = false := decide_eq_false (by omega)
      rw [decide_eq_false h1] at HD
      clear gx h1
      go_enter Tryz.func126, Tryz.ntmps126
      go_wp2_with fail
      go_ret
      exact ⟨ret_bool (by rw [HD.out]; rfl), rfl⟩
  · have hE := empty_yes s (by omega)
    rw [decide_eq_false h0] at HD
    clear h0
    go_enter Tryz.func126, Tryz.ntmps126
    go_wp2_with fail
    go_ret
    exact ⟨ret_bool (by rw [HD.out]; rfl), rfl⟩
open Go.RowKit
end Go.Proofs.YtllkiadedaghoaaGreatDoor
