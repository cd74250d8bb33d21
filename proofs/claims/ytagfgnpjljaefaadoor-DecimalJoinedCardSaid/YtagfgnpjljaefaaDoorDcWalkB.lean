import Derived.Test.YtagfgnpjljaefaaDoorDcWalkA
import Derived.Test.YtagfgnpjljaefaaDoorDcPlainB
set_option linter.unusedVariables false
set_option linter.unusedSimpArgs false
namespace Go.Proofs.YtagfgnpjljaefaaDoor
open Go.RowKit
theorem Dc.spn_more {p : UInt8 → Bool} {s : ByteArray} {a k : Nat} (h : ∀ j, a ≤ j → j < k → p (s.data.toList.getD j 0) = true) (hk : k < s.size) (hp : p s[k] = true) : ∀ j, a ≤ j → j < k + 1 → p (s.data.toList.getD j 0) = true := by
  intro j ha hj
  by_cases e : j < k
  · exact h j ha e
  · obtain rfl : j = k := by omega
    rw [getD_byte s j hk]; exact hp
theorem Dc.numeral_no {l : List UInt8} {k : Nat} (hf : Dc.figs l = k) (h : ¬ (k + 1 < l.length ∧ (l.getD k 0).toNat = 46 ∧ Dc.isD (l.getD (k + 1) 0) = true)) : Dc.numeral l = k := by
  unfold Dc.numeral; rw [hf, if_neg h]
theorem Dc.numeral_yes {l : List UInt8} {k : Nat} (hf : Dc.figs l = k) (h : k + 1 < l.length ∧ (l.getD k 0).toNat = 46 ∧ Dc.isD (l.getD (k + 1) 0) = true) : Dc.numeral l = k + 1 + Dc.figs (l.drop (k + 1)) := by
  unfold Dc.numeral; rw [hf, if_pos h]
set_option maxRecDepth 100000 in
set_option maxHeartbeats 2000000 in
theorem numeral_any (s : ByteArray) (w : World) (hm : s.size ≤ 9223372036854775806) : Calls Tryd.prog 36 #[.string s] w fun e w' => e = .returned (.int .i64 (Dc.numeral s.data.toList : Int)) ∧ w = w' := by
  have HL := Lib.hid (show s.data.toList.length = s.size by simp)
  go_enter Tryd.func36, Tryd.ntmps36
  go_wp2_with fail
  go_loop [3] (fun q => ∃ (k : Nat), k ≤ s.size ∧ q = .int .i64 k ∧ Hid (∀ j, j < k → Dc.isD (s.data.toList.getD j 0) = true)) (fun q => s.size - (intOf q).toNat)
  case atStart => exact ⟨0, by omega, rfl, Lib.hid (fun j h => by omega)⟩
  case round =>
    obtain ⟨k, hk, rfl, hr⟩ := hrel
    by_cases hlt : k < s.size
    · have gs := Lib.hid (getD_byte s k hlt)
      have b0 : (s[k].toNat : Int) < 256 := by have := s[k].toNat_lt; omega
      have HB := Lib.hid (digit_any s[k])
      cases hD : Dc.isD s[k]
      · rw [hD] at HB
        have HF := Lib.hid (show Dc.figs s.data.toList = k from Dc.spn_stop hr.out (by rw [HL.out]; omega) (Or.inr (by rw [gs.out]; exact hD)))
        clear hD hr
        by_cases hc : k + 1 < s.size ∧ s[k].toNat = 46
        · obtain ⟨h1, h2⟩ := hc
          have gt := Lib.hid (getD_byte s (k + 1) h1)
          have b1 : (s[k + 1].toNat : Int) < 256 := by have := s[k + 1].toNat_lt; omega
          have HC := Lib.hid (digit_any s[k + 1])
          have t0 : decide (((k : Int) + 1) < (s.size : Int)) = true := decide_eq_true (by omega)
          have t1 : ((s[k].toNat : Int) == 46) = true := by rw [beq_iff_eq]; omega
          cases hE : Dc.isD s[k + 1]
          · rw [hE] at HC
            have HZ := Lib.hid (Dc.numeral_no HF.out (by rintro ⟨_, _, h⟩; rw [gt.out, hE] at h; cases h))
            clear hE h2
            go_wp2_with (first | (go_at_call 35; with_reducible refine (HB.out _).mono ?_; rintro e w' ⟨rfl, rfl⟩) | (go_at_call 35; with_reducible refine (HC.out _).mono ?_; rintro e w' ⟨rfl, rfl⟩))
            go_ret
            exact ⟨ret_int (by rw [HZ.out]), rfl⟩
          · have HX := Lib.hid (Dc.numeral_yes HF.out ⟨by rw [HL.out]; exact h1, by rw [gs.out]; exact h2, by rw [gt.out]; exact hE⟩)
            rw [hE] at HC
            clear hE h2
            go_wp2_with (first | (go_at_call 35; with_reducible refine (HB.out _).mono ?_; rintro e w' ⟨rfl, rfl⟩) | (go_at_call 35; with_reducible refine (HC.out _).mono ?_; rintro e w' ⟨rfl, rfl⟩))
            clear HB HC t0 t1 b0 b1 gt gs
            go_loop [3] (fun q => ∃ (i : Nat), k + 1 ≤ i ∧ i ≤ s.size ∧ q = .int .i64 i ∧ Hid (∀ j, k + 1 ≤ j → j < i → Dc.isD (s.data.toList.getD j 0) = true)) (fun q => s.size - (intOf q).toNat)
            case atStart => exact ⟨k + 1, by omega, by omega, by go_num, Lib.hid (fun j h h' => by omega)⟩
            case round =>
              obtain ⟨i, hki, hi, rfl, hr⟩ := hrel
              by_cases hlt : i < s.size
              · have gs := Lib.hid (getD_byte s i hlt)
                have b0 : (s[i].toNat : Int) < 256 := by have := s[i].toNat_lt; omega
                have HB := Lib.hid (digit_any s[i])
                cases hD : Dc.isD s[i]
                · rw [hD] at HB
                  have HY := Lib.hid (show k + 1 + Dc.figs (s.data.toList.drop (k + 1)) = i from Dc.spn_from hki (by rw [HL.out]; omega) hr.out (Or.inr (by rw [gs.out]; exact hD)))
                  clear hD hr
                  go_wp2_with (first | (go_at_call 35; with_reducible refine (HB.out _).mono ?_; rintro e w' ⟨rfl, rfl⟩))
                  go_ret
                  exact ⟨ret_int (by rw [HX.out, HY.out]), rfl⟩
                · have HN := Lib.hid (Dc.spn_more hr.out hlt hD)
                  rw [hD] at HB
                  clear hD hr
                  go_wp2_with (first | (go_at_call 35; with_reducible refine (HB.out _).mono ?_; rintro e w' ⟨rfl, rfl⟩))
                  go_round
                  case rel => exact ⟨i + 1, by omega, by omega, by go_num, HN⟩
                  case measure => simp [intOf]; omega
              · obtain rfl : i = s.size := by omega
                have HY := Lib.hid (show k + 1 + Dc.figs (s.data.toList.drop (k + 1)) = s.size from Dc.spn_from hki (by rw [HL.out]; omega) hr.out (Or.inl HL.out.symm))
                clear hr
                go_wp2
                go_ret
                exact ⟨ret_int (by rw [HX.out, HY.out]), rfl⟩
        · have HZ := Lib.hid (Dc.numeral_no HF.out (by rintro ⟨h1, h2, _⟩; rw [gs.out] at h2; rw [HL.out] at h1; exact hc ⟨h1, h2⟩))
          by_cases h1 : k + 1 < s.size
          · have t0 : decide (((k : Int) + 1) < (s.size : Int)) = true := decide_eq_true (by omega)
            have t1 : ((s[k].toNat : Int) == 46) = false := by rw [beq_eq_false_iff_ne]; intro h; exact hc ⟨h1, by omega⟩
            clear hc
            go_wp2_with (first | (go_at_call 35; with_reducible refine (HB.out _).mono ?_; rintro e w' ⟨rfl, rfl⟩))
            go_ret
            exact ⟨ret_int (by rw [HZ.out]), rfl⟩
          · have t0 : decide (((k : Int) + 1) < (s.size : Int)) = false := decide_eq_false (by omega)
            clear hc
            go_wp2_with (first | (go_at_call 35; with_reducible refine (HB.out _).mono ?_; rintro e w' ⟨rfl, rfl⟩))
            go_ret
            exact ⟨ret_int (by rw [HZ.out]), rfl⟩
      · have HN := Lib.hid (Dc.spn_next hr.out hlt hD)
        rw [hD] at HB
        clear hD hr
        go_wp2_with (first | (go_at_call 35; with_reducible refine (HB.out _).mono ?_; rintro e w' ⟨rfl, rfl⟩))
        go_round
        case rel => exact ⟨k + 1, by omega, by go_num, HN⟩
        case measure => simp [intOf]; omega
    · obtain rfl : k = s.size := by omega
      have HF := show Dc.figs s.data.toList = s.size from Dc.spn_stop hr.out (by rw [HL.out]; omega) (Or.inl HL.out.symm)
      have HZ := Lib.hid (Dc.numeral_no HF (by rw [HL.out]; omega))
      have t0 : decide (((s.size : Int) + 1) < (s.size : Int)) = false := decide_eq_false (by omega)
      clear hr HF
      go_wp2
      go_ret
      exact ⟨ret_int (by rw [HZ.out]), rfl⟩
/-- The prefixes that were tried. -/
def SymSt (l : List UInt8) (k : Nat) : Prop := (0 < k → Lib.hasPrefix l [62, 61] = false) ∧ (1 < k → Lib.hasPrefix l [60, 61] = false) ∧ (2 < k → Lib.hasPrefix l [58, 61] = false)
set_option maxRecDepth 100000 in
set_option maxHeartbeats 2000000 in
theorem symbol_any (s : ByteArray) (w : World) (h0 : 0 < s.size) : Calls Tryd.prog 37 #[.string s] w fun e w' => e = .returned (.int .i64 (Dc.symbol s.data.toList : Int)) ∧ Gr w w' := by
  have HA := Lib.hid (fun W => Tryd.strings_HasPrefix s ⟨#[62, 61]⟩ W)
  have HB := Lib.hid (fun W => Tryd.strings_HasPrefix s ⟨#[60, 61]⟩ W)
  have HC := Lib.hid (fun W => Tryd.strings_HasPrefix s ⟨#[58, 61]⟩ W)
  have HI := Lib.hid (fun W => Tryd.strings_IndexByte ⟨#[45, 43, 58, 44, 59, 47, 61, 40, 41, 60, 62, 42]⟩ (s[0].toNat : Int) W)
  have HE := Lib.hid (Dc.symbol_eq s.data.toList)
  rw [getD_byte s 0 h0] at HE
  have HS := Lib.hid (Dc.isS_index s[0])
  rw [show ((s[0].toNat : Int).toNat.toUInt8) = s[0] by simp] at HI
  have b0 : (s[0].toNat : Int) < 256 := by have := s[0].toNat_lt; omega
  go_enter Tryd.func37, Tryd.ntmps37
  go_wp2_with fail
  go_loop [7] (fun q => ∃ (k : Nat), k ≤ 3 ∧ q = .int .i64 k ∧ SymSt s.data.toList k) (fun q => 3 - (intOf q).toNat)
  case atStart => exact ⟨0, by omega, rfl, ⟨fun h => absurd h (by decide), fun h => absurd h (by decide), fun h => absurd h (by decide)⟩⟩
  case round =>
    obtain ⟨k, hk, rfl, hr⟩ := hrel
    rcases (show k = 0 ∨ k = 1 ∨ k = 2 ∨ k = 3 by omega) with rfl | rfl | rfl | rfl
    · cases hp : Lib.hasPrefix s.data.toList [62, 61]
      · rw [hp] at HA
        have HN := (show SymSt s.data.toList 1 from ⟨fun _ => hp, fun h => absurd h (by decide), fun h => absurd h (by decide)⟩)
        clear hp hr
        go_wp2_with (first | (go_at_call 23; with_reducible refine (HA.out _).mono ?_; rintro e w' ⟨rfl, rfl⟩))
        go_round
        case rel => exact ⟨1, by omega, rfl, HN⟩
        case measure => decide
      · rw [hp] at HA HE
        have HZ := Lib.hid (show Dc.symbol s.data.toList = 2 by rw [HE.out]; rfl)
        clear hp hr
        go_wp2_with (first | (go_at_call 23; with_reducible refine (HA.out _).mono ?_; rintro e w' ⟨rfl, rfl⟩))
        go_ret
        exact ⟨ret_int (by rw [HZ.out]; rfl), (by repeat' (first | (with_reducible exact Gr.refl _) | (with_reducible assumption) | (with_reducible refine Gr.alloc ?_ _) | (with_reducible refine Gr.drew ?_) | (with_reducible refine Gr.drewN ?_ _) | (with_reducible refine Gr.setCell ?_ ?_ _) | (with_reducible refine Gr.trans ?_ (by with_reducible assumption)) | go_size))⟩
    · have h1 := hr.1 (by decide)
      cases hp : Lib.hasPrefix s.data.toList [60, 61]
      · rw [hp] at HB
        have HN := (show SymSt s.data.toList 2 from ⟨fun _ => h1, fun _ => hp, fun h => absurd h (by decide)⟩)
        clear hp hr h1
        go_wp2_with (first | (go_at_call 23; with_reducible refine (HB.out _).mono ?_; rintro e w' ⟨rfl, rfl⟩))
        go_round
        case rel => exact ⟨2, by omega, rfl, HN⟩
        case measure => decide
      · rw [hp, h1] at HE
        rw [hp] at HB
        have HZ := Lib.hid (show Dc.symbol s.data.toList = 2 by rw [HE.out]; rfl)
        clear hp hr h1
        go_wp2_with (first | (go_at_call 23; with_reducible refine (HB.out _).mono ?_; rintro e w' ⟨rfl, rfl⟩))
        go_ret
        exact ⟨ret_int (by rw [HZ.out]; rfl), (by repeat' (first | (with_reducible exact Gr.refl _) | (with_reducible assumption) | (with_reducible refine Gr.alloc ?_ _) | (with_reducible refine Gr.drew ?_) | (with_reducible refine Gr.drewN ?_ _) | (with_reducible refine Gr.setCell ?_ ?_ _) | (with_reducible refine Gr.trans ?_ (by with_reducible assumption)) | go_size))⟩
    · have h1 := hr.1 (by decide)
      have h2 := hr.2.1 (by decide)
      cases hp : Lib.hasPrefix s.data.toList [58, 61]
      · rw [hp] at HC
        have HN := (show SymSt s.data.toList 3 from ⟨fun _ => h1, fun _ => h2, fun _ => hp⟩)
        clear hp hr h1 h2
        go_wp2_with (first | (go_at_call 23; with_reducible refine (HC.out _).mono ?_; rintro e w' ⟨rfl, rfl⟩))
        go_round
        case rel => exact ⟨3, by omega, rfl, HN⟩
        case measure => decide
      · rw [hp, h1, h2] at HE
        rw [hp] at HC
        have HZ := Lib.hid (show Dc.symbol s.data.toList = 2 by rw [HE.out]; rfl)
        clear hp hr h1 h2
        go_wp2_with (first | (go_at_call 23; with_reducible refine (HC.out _).mono ?_; rintro e w' ⟨rfl, rfl⟩))
        go_ret
        exact ⟨ret_int (by rw [HZ.out]; rfl), (by repeat' (first | (with_reducible exact Gr.refl _) | (with_reducible assumption) | (with_reducible refine Gr.alloc ?_ _) | (with_reducible refine Gr.drew ?_) | (with_reducible refine Gr.drewN ?_ _) | (with_reducible refine Gr.setCell ?_ ?_ _) | (with_reducible refine Gr.trans ?_ (by with_reducible assumption)) | go_size))⟩
    · have h1 := hr.1 (by decide)
      have h2 := hr.2.1 (by decide)
      have h3 := hr.2.2 (by decide)
      rw [h1, h2, h3] at HE
      clear hr h1 h2 h3
      generalize Lib.indexByte [45, 43, 58, 44, 59, 47, 61, 40, 41, 60, 62, 42] s[0] = I at *
      cases hq : Dc.isS s[0]
      · rw [hq] at HS HE
        have t0 : decide (0 ≤ I) = false := decide_eq_false fun h => Bool.false_ne_true (HS.out.1 h)
        have HZ := Lib.hid (show Dc.symbol s.data.toList = 0 by rw [HE.out]; rfl)
        clear hq HS
        go_wp2_with (first | (go_at_call 32; with_reducible refine (HI.out _).mono ?_; rintro e w' ⟨rfl, rfl⟩))
        go_ret
        exact ⟨ret_int (by rw [HZ.out]; rfl), (by repeat' (first | (with_reducible exact Gr.refl _) | (with_reducible assumption) | (with_reducible refine Gr.alloc ?_ _) | (with_reducible refine Gr.drew ?_) | (with_reducible refine Gr.drewN ?_ _) | (with_reducible refine Gr.setCell ?_ ?_ _) | (with_reducible refine Gr.trans ?_ (by with_reducible assumption)) | go_size))⟩
      · rw [hq] at HS HE
        have t0 : decide (0 ≤ I) = true := decide_eq_true (HS.out.2 rfl)
        have HZ := Lib.hid (show Dc.symbol s.data.toList = 1 by rw [HE.out]; rfl)
        clear hq HS
        go_wp2_with (first | (go_at_call 32; with_reducible refine (HI.out _).mono ?_; rintro e w' ⟨rfl, rfl⟩))
        go_ret
        exact ⟨ret_int (by rw [HZ.out]; rfl), (by repeat' (first | (with_reducible exact Gr.refl _) | (with_reducible assumption) | (with_reducible refine Gr.alloc ?_ _) | (with_reducible refine Gr.drew ?_) | (with_reducible refine Gr.drewN ?_ _) | (with_reducible refine Gr.setCell ?_ ?_ _) | (with_reducible refine Gr.trans ?_ (by with_reducible assumption)) | go_size))⟩
end Go.Proofs.YtagfgnpjljaefaaDoor
