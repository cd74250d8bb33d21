import Derived.Test.YtagfgnpjljaefaaDoorDcWalkJ
set_option linter.unusedVariables false
set_option linter.unusedSimpArgs false
namespace Go.Proofs.YtagfgnpjljaefaaDoor
open Go.RowKit
set_option maxRecDepth 100000 in
theorem rdigit_any (c : UInt8) (w : World) : Calls Tryd.prog 57 #[.int .u8 (c.toNat : Int)] w fun e w' => e = .returned (.bool (Dc.isD c)) ∧ w = w' := by
  have hc : (c.toNat : Int) < 256 := by have := c.toNat_lt; omega
  have hI := Dc.isD_iff c
  cases hd : Dc.isD c
  · rw [hd] at hI
    have hJ := fun h => Bool.false_ne_true (hI.2 h)
    by_cases h0 : 48 ≤ c.toNat
    · have t0 : decide ((48 : Int) ≤ (c.toNat : Int)) = true := decide_eq_true (by omega)
      have t1 : decide ((c.toNat : Int) ≤ (57 : Int)) = false := decide_eq_false (by intro h; exact hJ ⟨h0, by omega⟩)
      clear hI hJ hd h0
      go_enter Tryd.func57, Tryd.ntmps57
      go_wp2
      go_ret
      exact ⟨rfl, rfl⟩
    · have t0 : decide ((48 : Int) ≤ (c.toNat : Int)) = false := decide_eq_false (by omega)
      clear hI hJ hd h0
      go_enter Tryd.func57, Tryd.ntmps57
      go_wp2
      go_ret
      exact ⟨rfl, rfl⟩
  · obtain ⟨h0, h1⟩ := hI.1 hd
    have t0 : decide ((48 : Int) ≤ (c.toNat : Int)) = true := decide_eq_true (by omega)
    have t1 : decide ((c.toNat : Int) ≤ (57 : Int)) = true := decide_eq_true (by omega)
    clear hI hd h0 h1
    go_enter Tryd.func57, Tryd.ntmps57
    go_wp2
    go_ret
    exact ⟨rfl, rfl⟩
set_option maxRecDepth 100000 in
theorem rletter_any (c : UInt8) (w : World) : Calls Tryd.prog 44 #[.int .u8 (c.toNat : Int)] w fun e w' => e = .returned (.bool (Dc.isL c)) ∧ w = w' := by
  have hc : (c.toNat : Int) < 256 := by have := c.toNat_lt; omega
  have HI : ∀ b, (b = true ↔ (97 ≤ c.toNat ∧ c.toNat ≤ 122) ∨ (65 ≤ c.toNat ∧ c.toNat ≤ 90)) → Dc.isL c = b := fun b h => by
    rw [Bool.eq_iff_iff, h]; exact Dc.isL_iff c
  by_cases h0 : 97 ≤ c.toNat
  · have t0 : decide ((97 : Int) ≤ (c.toNat : Int)) = true := decide_eq_true (by omega)
    by_cases h1 : c.toNat ≤ 122
    · have t1 : decide ((c.toNat : Int) ≤ (122 : Int)) = true := decide_eq_true (by omega)
      have H := HI true ⟨fun _ => Or.inl ⟨h0, h1⟩, fun _ => rfl⟩
      rw [H]
      clear HI H h0 h1
      go_enter Tryd.func44, Tryd.ntmps44
      go_wp2
      go_ret
      exact ⟨rfl, rfl⟩
    · have t1 : decide ((c.toNat : Int) ≤ (122 : Int)) = false := decide_eq_false (by omega)
      have t2 : decide ((65 : Int) ≤ (c.toNat : Int)) = true := decide_eq_true (by omega)
      have t3 : decide ((c.toNat : Int) ≤ (90 : Int)) = false := decide_eq_false (by omega)
      have H := HI false (Iff.intro (fun h => by cases h) (fun h => by omega))
      rw [H]
      clear HI H h0 h1
      go_enter Tryd.func44, Tryd.ntmps44
      go_wp2
      go_ret
      exact ⟨rfl, rfl⟩
  · have t0 : decide ((97 : Int) ≤ (c.toNat : Int)) = false := decide_eq_false (by omega)
    by_cases h1 : 65 ≤ c.toNat
    · have t2 : decide ((65 : Int) ≤ (c.toNat : Int)) = true := decide_eq_true (by omega)
      by_cases h2 : c.toNat ≤ 90
      · have t3 : decide ((c.toNat : Int) ≤ (90 : Int)) = true := decide_eq_true (by omega)
        have H := HI true ⟨fun _ => Or.inr ⟨h1, h2⟩, fun _ => rfl⟩
        rw [H]
        clear HI H h0 h1 h2
        go_enter Tryd.func44, Tryd.ntmps44
        go_wp2
        go_ret
        exact ⟨rfl, rfl⟩
      · have t3 : decide ((c.toNat : Int) ≤ (90 : Int)) = false := decide_eq_false (by omega)
        have H := HI false (Iff.intro (fun h => by cases h) (fun h => by omega))
        rw [H]
        clear HI H h0 h1 h2
        go_enter Tryd.func44, Tryd.ntmps44
        go_wp2
        go_ret
        exact ⟨rfl, rfl⟩
    · have t2 : decide ((65 : Int) ≤ (c.toNat : Int)) = false := decide_eq_false (by omega)
      have H := HI false (Iff.intro (fun h => by cases h) (fun h => by omega))
      rw [H]
      clear HI H h0 h1
      go_enter Tryd.func44, Tryd.ntmps44
      go_wp2
      go_ret
      exact ⟨rfl, rfl⟩
set_option maxRecDepth 100000 in
set_option maxHeartbeats 1000000 in
theorem rword_any (s : ByteArray) (i : Nat) (w : World) (hi : i ≤ s.size) (hm : s.size ≤ 9223372036854775806) : Calls Tryd.prog 45 #[.string s, .int .i64 (i : Int)] w fun e w' => e = .returned (.int .i64 ((i + Dc.word (s.data.toList.drop i) : Nat) : Int)) ∧ w = w' := by
  have HL := Lib.hid (show s.data.toList.length = s.size by simp)
  go_enter Tryd.func45, Tryd.ntmps45
  go_wp2_with fail
  go_loop [1] (fun q => ∃ (k : Nat), i ≤ k ∧ k ≤ s.size ∧ q = .int .i64 k ∧ Hid (∀ j, i ≤ j → j < k → Dc.isW (s.data.toList.getD j 0) = true)) (fun q => s.size - (intOf q).toNat)
  case atStart => exact ⟨i, by omega, hi, rfl, Lib.hid (fun j h h' => by omega)⟩
  case round =>
    obtain ⟨k, hik, hk, rfl, hr⟩ := hrel
    by_cases hlt : k < s.size
    · have gs := Lib.hid (getD_byte s k hlt)
      have b0 : (s[k].toNat : Int) < 256 := by have := s[k].toNat_lt; omega
      have HA := Lib.hid (rletter_any s[k]); have HB := Lib.hid (rdigit_any s[k])
      have HW := Lib.hid (Dc.isW_iff s[k])
      cases hL : Dc.isL s[k]
      · rw [hL] at HA HW
        cases hD : Dc.isD s[k]
        · rw [hD] at HB HW
          by_cases hu : s[k].toNat = 95
          · have t2 : ((s[k].toNat : Int) == 95) = true := by rw [beq_iff_eq]; omega
            have HN := Lib.hid (Dc.spn_more hr.out hlt (HW.out.2 (Or.inr hu)))
            clear hu hL hD HW hr
            go_wp2_with (first | (go_at_call 44; with_reducible refine (HA.out _).mono ?_; rintro e w' ⟨rfl, rfl⟩) | (go_at_call 57; with_reducible refine (HB.out _).mono ?_; rintro e w' ⟨rfl, rfl⟩))
            go_round
            case rel => exact ⟨k + 1, by omega, by omega, by go_num, HN⟩
            case measure => simp [intOf]; omega
          · have t2 : ((s[k].toNat : Int) == 95) = false := by rw [beq_eq_false_iff_ne]; omega
            have hz : Dc.isW s[k] = false := by
              cases hz : Dc.isW s[k]
              · rfl
              · rcases HW.out.1 hz with (h | h) | h
                · cases h
                · cases h
                · exact absurd h hu
            have HZ := Lib.hid (show i + Dc.word (s.data.toList.drop i) = k from Dc.spn_from hik (by rw [HL.out]; omega) hr.out (Or.inr (by rw [gs.out]; exact hz)))
            clear hu hL hD HW hz hr
            go_wp2_with (first | (go_at_call 44; with_reducible refine (HA.out _).mono ?_; rintro e w' ⟨rfl, rfl⟩) | (go_at_call 57; with_reducible refine (HB.out _).mono ?_; rintro e w' ⟨rfl, rfl⟩))
            go_ret
            exact ⟨ret_int (by have := HZ.out; omega), rfl⟩
        · rw [hD] at HB HW
          have HN := Lib.hid (Dc.spn_more hr.out hlt (HW.out.2 (Or.inl (Or.inr rfl))))
          clear hL hD HW hr
          go_wp2_with (first | (go_at_call 44; with_reducible refine (HA.out _).mono ?_; rintro e w' ⟨rfl, rfl⟩) | (go_at_call 57; with_reducible refine (HB.out _).mono ?_; rintro e w' ⟨rfl, rfl⟩))
          go_round
          case rel => exact ⟨k + 1, by omega, by omega, by go_num, HN⟩
          case measure => simp [intOf]; omega
      · rw [hL] at HA HW
        have HN := Lib.hid (Dc.spn_more hr.out hlt (HW.out.2 (Or.inl (Or.inl rfl))))
        clear hL HW hr
        go_wp2_with (first | (go_at_call 44; with_reducible refine (HA.out _).mono ?_; rintro e w' ⟨rfl, rfl⟩) | (go_at_call 57; with_reducible refine (HB.out _).mono ?_; rintro e w' ⟨rfl, rfl⟩))
        go_round
        case rel => exact ⟨k + 1, by omega, by omega, by go_num, HN⟩
        case measure => simp [intOf]; omega
    · obtain rfl : k = s.size := by omega
      have HZ := Lib.hid (show i + Dc.word (s.data.toList.drop i) = s.size from Dc.spn_from hik (by rw [HL.out]; omega) hr.out (Or.inl HL.out.symm))
      clear hr
      go_wp2
      go_ret
      exact ⟨ret_int (by have := HZ.out; omega), rfl⟩
set_option maxRecDepth 100000 in
set_option maxHeartbeats 1000000 in
theorem rfigs_any (s : ByteArray) (i : Nat) (w : World) (hi : i ≤ s.size) (hm : s.size ≤ 9223372036854775806) : Calls Tryd.prog 58 #[.string s, .int .i64 (i : Int)] w fun e w' => e = .returned (.int .i64 ((i + Dc.figs (s.data.toList.drop i) : Nat) : Int)) ∧ w = w' := by
  have HL := Lib.hid (show s.data.toList.length = s.size by simp)
  go_enter Tryd.func58, Tryd.ntmps58
  go_wp2_with fail
  go_loop [1] (fun q => ∃ (k : Nat), i ≤ k ∧ k ≤ s.size ∧ q = .int .i64 k ∧ Hid (∀ j, i ≤ j → j < k → Dc.isD (s.data.toList.getD j 0) = true)) (fun q => s.size - (intOf q).toNat)
  case atStart => exact ⟨i, by omega, hi, rfl, Lib.hid (fun j h h' => by omega)⟩
  case round =>
    obtain ⟨k, hik, hk, rfl, hr⟩ := hrel
    by_cases hlt : k < s.size
    · have gs := Lib.hid (getD_byte s k hlt)
      have b0 : (s[k].toNat : Int) < 256 := by have := s[k].toNat_lt; omega
      have HB := Lib.hid (rdigit_any s[k])
      cases hD : Dc.isD s[k]
      · rw [hD] at HB
        have HZ := Lib.hid (show i + Dc.figs (s.data.toList.drop i) = k from Dc.spn_from hik (by rw [HL.out]; omega) hr.out (Or.inr (by rw [gs.out]; exact hD)))
        clear hD hr
        go_wp2_with (first | (go_at_call 57; with_reducible refine (HB.out _).mono ?_; rintro e w' ⟨rfl, rfl⟩))
        go_ret
        exact ⟨ret_int (by have := HZ.out; omega), rfl⟩
      · have HN := Lib.hid (Dc.spn_more hr.out hlt hD)
        rw [hD] at HB
        clear hD hr
        go_wp2_with (first | (go_at_call 57; with_reducible refine (HB.out _).mono ?_; rintro e w' ⟨rfl, rfl⟩))
        go_round
        case rel => exact ⟨k + 1, by omega, by omega, by go_num, HN⟩
        case measure => simp [intOf]; omega
    · obtain rfl : k = s.size := by omega
      have HZ := Lib.hid (show i + Dc.figs (s.data.toList.drop i) = s.size from Dc.spn_from hik (by rw [HL.out]; omega) hr.out (Or.inl HL.out.symm))
      clear hr
      go_wp2
      go_ret
      exact ⟨ret_int (by have := HZ.out; omega), rfl⟩
end Go.Proofs.YtagfgnpjljaefaaDoor
