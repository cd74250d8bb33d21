import Derived.Test.YtagfgnpjljaefaaDoorDcRefC
set_option linter.unusedVariables false
set_option linter.unusedSimpArgs false
namespace Go.Proofs.YtagfgnpjljaefaaDoor
open Go.RowKit
theorem Dc.numeral_drop_no {l : List UInt8} {i f : Nat} (hf : i + Dc.figs (l.drop i) = f) (h : ¬ (f + 1 < l.length ∧ (l.getD f 0).toNat = 46 ∧ Dc.isD (l.getD (f + 1) 0) = true)) (hi : i ≤ l.length) : i + Dc.numeral (l.drop i) = f := by
  rw [Dc.numeral_no (k := f - i) (by omega)]
  · omega
  · rw [Dc.getD_drop, Dc.getD_drop, List.length_drop, show i + (f - i) = f by omega, show i + (f - i + 1) = f + 1 by omega]
    rintro ⟨a, b, c⟩; exact h ⟨by omega, b, c⟩
theorem Dc.numeral_drop_yes {l : List UInt8} {i f : Nat} (hf : i + Dc.figs (l.drop i) = f) (h : f + 1 < l.length ∧ (l.getD f 0).toNat = 46 ∧ Dc.isD (l.getD (f + 1) 0) = true) (hi : i ≤ l.length) : i + Dc.numeral (l.drop i) = f + 1 + Dc.figs (l.drop (f + 1)) := by
  rw [Dc.numeral_yes (k := f - i) (by omega)]
  · rw [List.drop_drop, show i + (f - i + 1) = f + 1 by omega]; omega
  · rw [Dc.getD_drop, Dc.getD_drop, List.length_drop, show i + (f - i) = f by omega, show i + (f - i + 1) = f + 1 by omega]
    exact ⟨by omega, h.2.1, h.2.2⟩
set_option maxRecDepth 100000 in
set_option maxHeartbeats 4000000 in
theorem rnext_any (s : ByteArray) (i : Nat) (w : World) (hi : i < s.size) (hm : s.size ≤ 262144) : Calls Tryd.prog 43 #[.string s, .int .i64 (i : Int)] w fun e w' => e = .returned (.tuple #[.int .i64 (Dc.nx (s.data.toList.drop i)).1, .int .i64 ((i + (Dc.nx (s.data.toList.drop i)).2 : Nat) : Int)]) ∧ Gr w w' := by
  have HL := Lib.hid (show s.data.toList.length = s.size by simp)
  have g0 : (s.data.toList.drop i).getD 0 0 = s[i] := by rw [Dc.getD_drop]; exact getD_byte s i hi
  have b0 : (s[i].toNat : Int) < 256 := by have := s[i].toNat_lt; omega
  have HA := Lib.hid (rletter_any s[i]); have HB := Lib.hid (rdigit_any s[i])
  by_cases q1 : s[i].toNat = 32
  · rw [Dc.nx_blank (by rw [g0]; exact Or.inl q1)]
    have t1 : ((s[i].toNat : Int) == 32) = true := by rw [beq_iff_eq]; omega
    clear q1 g0
    go_enter Tryd.func43, Tryd.ntmps43
    go_wp2
    go_ret2
    exact ⟨ret_ii rfl (by omega), (by repeat' (first | (with_reducible exact Gr.refl _) | (with_reducible assumption) | (with_reducible refine Gr.alloc ?_ _) | (with_reducible refine Gr.drew ?_) | (with_reducible refine Gr.drewN ?_ _) | (with_reducible refine Gr.setCell ?_ ?_ _) | (with_reducible refine Gr.trans ?_ (by with_reducible assumption)) | go_size))⟩
  have t1 : ((s[i].toNat : Int) == 32) = false := by rw [beq_eq_false_iff_ne]; omega
  by_cases q2 : s[i].toNat = 9
  · rw [Dc.nx_blank (by rw [g0]; exact Or.inr q2)]
    have t2 : ((s[i].toNat : Int) == 9) = true := by rw [beq_iff_eq]; omega
    clear q1 q2 g0
    go_enter Tryd.func43, Tryd.ntmps43
    go_wp2
    go_ret2
    exact ⟨ret_ii rfl (by omega), (by repeat' (first | (with_reducible exact Gr.refl _) | (with_reducible assumption) | (with_reducible refine Gr.alloc ?_ _) | (with_reducible refine Gr.drew ?_) | (with_reducible refine Gr.drewN ?_ _) | (with_reducible refine Gr.setCell ?_ ?_ _) | (with_reducible refine Gr.trans ?_ (by with_reducible assumption)) | go_size))⟩
  have t2 : ((s[i].toNat : Int) == 9) = false := by rw [beq_eq_false_iff_ne]; omega
  by_cases q3 : s[i].toNat = 10
  · rw [Dc.nx_line (by rw [g0]; exact q3)]
    have t3 : ((s[i].toNat : Int) == 10) = true := by rw [beq_iff_eq]; omega
    clear q1 q2 q3 g0
    go_enter Tryd.func43, Tryd.ntmps43
    go_wp2
    go_ret2
    exact ⟨ret_ii rfl (by omega), (by repeat' (first | (with_reducible exact Gr.refl _) | (with_reducible assumption) | (with_reducible refine Gr.alloc ?_ _) | (with_reducible refine Gr.drew ?_) | (with_reducible refine Gr.drewN ?_ _) | (with_reducible refine Gr.setCell ?_ ?_ _) | (with_reducible refine Gr.trans ?_ (by with_reducible assumption)) | go_size))⟩
  have t3 : ((s[i].toNat : Int) == 10) = false := by rw [beq_eq_false_iff_ne]; omega
  by_cases q4 : s[i].toNat = 35
  · rw [Dc.nx_hash (by rw [g0]; exact q4)]
    have t4 : ((s[i].toNat : Int) == 35) = true := by rw [beq_iff_eq]; omega
    clear q1 q2 q3 q4 g0
    go_enter Tryd.func43, Tryd.ntmps43
    go_wp2_with fail
    go_loop [1] (fun q => ∃ (k : Nat), i ≤ k ∧ k ≤ s.size ∧ q = .int .i64 k ∧ Hid (∀ j, i ≤ j → j < k → decide ((s.data.toList.getD j 0).toNat ≠ 10) = true)) (fun q => s.size - (intOf q).toNat)
    case atStart => exact ⟨i, by omega, by omega, rfl, Lib.hid (fun j h h' => by omega)⟩
    case round =>
      obtain ⟨k, hik, hk, rfl, hr⟩ := hrel
      by_cases hlt : k < s.size
      · have gs := Lib.hid (getD_byte s k hlt)
        have b1 : (s[k].toNat : Int) < 256 := by have := s[k].toNat_lt; omega
        by_cases hd : s[k].toNat = 10
        · have t5 : ((s[k].toNat : Int) != 10) = false := by simp [hd]
          have HZ := Lib.hid (show i + Dc.rest (s.data.toList.drop i) = k from Dc.spn_from (p := fun c => decide (c.toNat ≠ 10)) hik (by rw [HL.out]; omega) hr.out (Or.inr (by rw [gs.out]; exact decide_eq_false (by omega))))
          clear hd hr
          go_wp2
          go_ret2
          exact ⟨ret_ii rfl (by have := HZ.out; omega), (by repeat' (first | (with_reducible exact Gr.refl _) | (with_reducible assumption) | (with_reducible refine Gr.alloc ?_ _) | (with_reducible refine Gr.drew ?_) | (with_reducible refine Gr.drewN ?_ _) | (with_reducible refine Gr.setCell ?_ ?_ _) | (with_reducible refine Gr.trans ?_ (by with_reducible assumption)) | go_size))⟩
        · have t5 : ((s[k].toNat : Int) != 10) = true := by rw [bne_iff_ne]; omega
          have HN := Lib.hid (Dc.spn_more (p := fun c => decide (c.toNat ≠ 10)) hr.out hlt (decide_eq_true hd))
          clear hd hr
          go_wp2_with fail
          go_round
          case rel => exact ⟨k + 1, by omega, by omega, by go_num, HN⟩
          case measure => simp [intOf]; omega
      · obtain rfl : k = s.size := by omega
        have HZ := Lib.hid (show i + Dc.rest (s.data.toList.drop i) = s.size from Dc.spn_from (p := fun c => decide (c.toNat ≠ 10)) hik (by rw [HL.out]; omega) hr.out (Or.inl HL.out.symm))
        clear hr
        go_wp2
        go_ret2
        exact ⟨ret_ii rfl (by have := HZ.out; omega), (by repeat' (first | (with_reducible exact Gr.refl _) | (with_reducible assumption) | (with_reducible refine Gr.alloc ?_ _) | (with_reducible refine Gr.drew ?_) | (with_reducible refine Gr.drewN ?_ _) | (with_reducible refine Gr.setCell ?_ ?_ _) | (with_reducible refine Gr.trans ?_ (by with_reducible assumption)) | go_size))⟩
  have t4 : ((s[i].toNat : Int) == 35) = false := by rw [beq_eq_false_iff_ne]; omega
  cases hLt : Dc.isL s[i]
  · rw [hLt] at HA
    cases hDg : Dc.isD s[i]
    · rw [hDg] at HB
      rw [Dc.nx_sym (by rw [g0]; omega) (by rw [g0]; exact q3) (by rw [g0]; exact q4) (by rw [g0]; exact hLt) (by rw [g0]; exact hDg)]
      have HC := Lib.hid (fun W => rsymbol_any s i W hi (by omega))
      have hs2 := Dc.symbol_le (s.data.toList.drop i)
      clear q1 q2 q3 q4 g0 hLt hDg
      generalize Dc.symbol (s.data.toList.drop i) = m at *
      by_cases hm0 : m = 0
      · rw [if_pos hm0]
        have t6 : decide ((0 : Int) < (m : Int)) = false := decide_eq_false (by omega)
        go_enter Tryd.func43, Tryd.ntmps43
        go_wp2_with (first | (go_at_call 44; with_reducible refine (HA.out _).mono ?_; rintro e w' ⟨rfl, rfl⟩) | (go_at_call 57; with_reducible refine (HB.out _).mono ?_; rintro e w' ⟨rfl, rfl⟩) | (go_at_call 59; with_reducible refine (HC.out _).mono ?_; rintro e w2 ⟨rfl, hb2⟩))
        all_goals first | (exfalso; omega) | skip
        go_ret2
        exact ⟨ret_ii rfl (by omega), (by repeat' (first | (with_reducible exact Gr.refl _) | (with_reducible assumption) | (with_reducible refine Gr.alloc ?_ _) | (with_reducible refine Gr.drew ?_) | (with_reducible refine Gr.drewN ?_ _) | (with_reducible refine Gr.setCell ?_ ?_ _) | (with_reducible refine Gr.trans ?_ (by with_reducible assumption)) | go_size))⟩
      · rw [if_neg hm0]
        have t6 : decide ((0 : Int) < (m : Int)) = true := decide_eq_true (by omega)
        go_enter Tryd.func43, Tryd.ntmps43
        go_wp2_with (first | (go_at_call 44; with_reducible refine (HA.out _).mono ?_; rintro e w' ⟨rfl, rfl⟩) | (go_at_call 57; with_reducible refine (HB.out _).mono ?_; rintro e w' ⟨rfl, rfl⟩) | (go_at_call 59; with_reducible refine (HC.out _).mono ?_; rintro e w2 ⟨rfl, hb2⟩))
        all_goals first | (exfalso; omega) | skip
        go_ret2
        exact ⟨ret_ii rfl (by omega), (by repeat' (first | (with_reducible exact Gr.refl _) | (with_reducible assumption) | (with_reducible refine Gr.alloc ?_ _) | (with_reducible refine Gr.drew ?_) | (with_reducible refine Gr.drewN ?_ _) | (with_reducible refine Gr.setCell ?_ ?_ _) | (with_reducible refine Gr.trans ?_ (by with_reducible assumption)) | go_size))⟩
    · rw [hDg] at HB
      rw [Dc.nx_num (by rw [g0]; exact hDg)]
      have HC := Lib.hid (fun W => rfigs_any s i W (by omega) (by omega))
      have hf := Dc.spn_le Dc.isD (s.data.toList.drop i)
      rw [List.length_drop, HL.out] at hf
      obtain ⟨f, hfe⟩ : ∃ f, i + Dc.figs (s.data.toList.drop i) = f := ⟨_, rfl⟩
      have hfs : f ≤ s.size := by have : Dc.figs (s.data.toList.drop i) ≤ s.size - i := hf; omega
      rw [hfe] at HC
      have NO := Lib.hid (fun h => Dc.numeral_drop_no (l := s.data.toList) hfe h (by rw [HL.out]; omega))
      have YES := Lib.hid (fun h => Dc.numeral_drop_yes (l := s.data.toList) hfe h (by rw [HL.out]; omega))
      clear q1 q2 q3 q4 g0 hLt hDg hf hfe
      generalize Dc.numeral (s.data.toList.drop i) = m at *
      by_cases h1 : f + 1 < s.size
      · have u0 : decide (((f : Int) + 1) < (s.size : Int)) = true := decide_eq_true (by omega)
        have hfl : f < s.size := by omega
        have gf := getD_byte s f hfl
        have gt := getD_byte s (f + 1) h1
        have b1 : (s[f].toNat : Int) < 256 := by have := s[f].toNat_lt; omega
        have b2 : (s[f + 1].toNat : Int) < 256 := by have := s[f + 1].toNat_lt; omega
        by_cases h2 : s[f].toNat = 46
        · have u1 : ((s[f].toNat : Int) == 46) = true := by rw [beq_iff_eq]; omega
          have HD := Lib.hid (rdigit_any s[f + 1])
          cases h3 : Dc.isD s[f + 1]
          · rw [h3] at HD
            have HZ := Lib.hid (NO.out (by rintro ⟨_, _, c⟩; rw [gt, h3] at c; cases c))
            clear NO YES h2 h3 gf gt
            go_enter Tryd.func43, Tryd.ntmps43
            go_wp2_with (first | (go_at_call 44; with_reducible refine (HA.out _).mono ?_; rintro e w' ⟨rfl, rfl⟩) | (go_at_call 57; with_reducible refine (HB.out _).mono ?_; rintro e w' ⟨rfl, rfl⟩) | (go_at_call 57; with_reducible refine (HD.out _).mono ?_; rintro e w' ⟨rfl, rfl⟩) | (go_at_call 58; with_reducible refine (HC.out _).mono ?_; rintro e w' ⟨rfl, rfl⟩))
            go_ret2
            exact ⟨ret_ii rfl (by have := HZ.out; omega), (by repeat' (first | (with_reducible exact Gr.refl _) | (with_reducible assumption) | (with_reducible refine Gr.alloc ?_ _) | (with_reducible refine Gr.drew ?_) | (with_reducible refine Gr.drewN ?_ _) | (with_reducible refine Gr.setCell ?_ ?_ _) | (with_reducible refine Gr.trans ?_ (by with_reducible assumption)) | go_size))⟩
          · rw [h3] at HD
            have HZ := Lib.hid (YES.out ⟨by rw [HL.out]; exact h1, by rw [gf]; exact h2, by rw [gt]; exact h3⟩)
            have hE := fun W => rfigs_any s (f + 1) W (by omega) (by omega)
            rw [show (((f + 1 : Nat)) : Int) = (f : Int) + 1 by omega] at hE
            have HE := Lib.hid hE
            have hfb := Dc.spn_le Dc.isD (s.data.toList.drop (f + 1))
            clear NO YES h2 h3 gf gt hE hfb
            go_enter Tryd.func43, Tryd.ntmps43
            go_wp2_with (first | (go_at_call 44; with_reducible refine (HA.out _).mono ?_; rintro e w' ⟨rfl, rfl⟩) | (go_at_call 57; with_reducible refine (HB.out _).mono ?_; rintro e w' ⟨rfl, rfl⟩) | (go_at_call 57; with_reducible refine (HD.out _).mono ?_; rintro e w' ⟨rfl, rfl⟩) | (go_at_call 58; with_reducible refine (HC.out _).mono ?_; rintro e w' ⟨rfl, rfl⟩) | (go_at_call 58; with_reducible refine (HE.out _).mono ?_; rintro e w' ⟨rfl, rfl⟩))
            go_ret2
            exact ⟨ret_ii rfl (by have := HZ.out; omega), (by repeat' (first | (with_reducible exact Gr.refl _) | (with_reducible assumption) | (with_reducible refine Gr.alloc ?_ _) | (with_reducible refine Gr.drew ?_) | (with_reducible refine Gr.drewN ?_ _) | (with_reducible refine Gr.setCell ?_ ?_ _) | (with_reducible refine Gr.trans ?_ (by with_reducible assumption)) | go_size))⟩
        · have u1 : ((s[f].toNat : Int) == 46) = false := by rw [beq_eq_false_iff_ne]; omega
          have HZ := Lib.hid (NO.out (by rintro ⟨_, c, _⟩; rw [gf] at c; exact h2 c))
          clear NO YES h2 gf gt
          go_enter Tryd.func43, Tryd.ntmps43
          go_wp2_with (first | (go_at_call 44; with_reducible refine (HA.out _).mono ?_; rintro e w' ⟨rfl, rfl⟩) | (go_at_call 57; with_reducible refine (HB.out _).mono ?_; rintro e w' ⟨rfl, rfl⟩) | (go_at_call 58; with_reducible refine (HC.out _).mono ?_; rintro e w' ⟨rfl, rfl⟩))
          go_ret2
          exact ⟨ret_ii rfl (by have := HZ.out; omega), (by repeat' (first | (with_reducible exact Gr.refl _) | (with_reducible assumption) | (with_reducible refine Gr.alloc ?_ _) | (with_reducible refine Gr.drew ?_) | (with_reducible refine Gr.drewN ?_ _) | (with_reducible refine Gr.setCell ?_ ?_ _) | (with_reducible refine Gr.trans ?_ (by with_reducible assumption)) | go_size))⟩
      · have u0 : decide (((f : Int) + 1) < (s.size : Int)) = false := decide_eq_false (by omega)
        have HZ := Lib.hid (NO.out (by rintro ⟨c, _, _⟩; rw [HL.out] at c; exact h1 c))
        clear NO YES
        go_enter Tryd.func43, Tryd.ntmps43
        go_wp2_with (first | (go_at_call 44; with_reducible refine (HA.out _).mono ?_; rintro e w' ⟨rfl, rfl⟩) | (go_at_call 57; with_reducible refine (HB.out _).mono ?_; rintro e w' ⟨rfl, rfl⟩) | (go_at_call 58; with_reducible refine (HC.out _).mono ?_; rintro e w' ⟨rfl, rfl⟩))
        go_ret2
        exact ⟨ret_ii rfl (by have := HZ.out; omega), (by repeat' (first | (with_reducible exact Gr.refl _) | (with_reducible assumption) | (with_reducible refine Gr.alloc ?_ _) | (with_reducible refine Gr.drew ?_) | (with_reducible refine Gr.drewN ?_ _) | (with_reducible refine Gr.setCell ?_ ?_ _) | (with_reducible refine Gr.trans ?_ (by with_reducible assumption)) | go_size))⟩
  · rw [hLt] at HA
    rw [Dc.nx_name (by rw [g0]; exact hLt)]
    have HC := Lib.hid (fun W => rword_any s i W (by omega) (by omega))
    have hwl := Dc.spn_le Dc.isW (s.data.toList.drop i)
    rw [List.length_drop, HL.out] at hwl
    have hwl2 : Dc.word (s.data.toList.drop i) ≤ s.size - i := hwl
    clear q1 q2 q3 q4 g0 hLt hwl HB
    generalize Dc.word (s.data.toList.drop i) = m at *
    have ec : ((i + m : Nat) : Int) = (i : Int) + (m : Int) := by omega
    rw [ec] at HC
    have ed : (i : Int) + (m : Int) - (i : Int) = (m : Int) := by omega
    by_cases hm0 : 20 < m
    · rw [if_pos hm0]
      have t6 : decide ((20 : Int) < (m : Int)) = true := decide_eq_true (by omega)
      go_enter Tryd.func43, Tryd.ntmps43
      go_wp2_with (first | (go_at_call 44; with_reducible refine (HA.out _).mono ?_; rintro e w' ⟨rfl, rfl⟩) | (go_at_call 45; with_reducible refine (HC.out _).mono ?_; rintro e w' ⟨rfl, rfl⟩))
      all_goals first | (exfalso; omega) | skip
      go_ret2
      exact ⟨ret_ii rfl (by omega), (by repeat' (first | (with_reducible exact Gr.refl _) | (with_reducible assumption) | (with_reducible refine Gr.alloc ?_ _) | (with_reducible refine Gr.drew ?_) | (with_reducible refine Gr.drewN ?_ _) | (with_reducible refine Gr.setCell ?_ ?_ _) | (with_reducible refine Gr.trans ?_ (by with_reducible assumption)) | go_size))⟩
    · rw [if_neg hm0]
      have t6 : decide ((20 : Int) < (m : Int)) = false := decide_eq_false (by omega)
      go_enter Tryd.func43, Tryd.ntmps43
      go_wp2_with (first | (go_at_call 44; with_reducible refine (HA.out _).mono ?_; rintro e w' ⟨rfl, rfl⟩) | (go_at_call 45; with_reducible refine (HC.out _).mono ?_; rintro e w' ⟨rfl, rfl⟩))
      all_goals first | (exfalso; omega) | skip
      go_ret2
      exact ⟨ret_ii rfl (by omega), (by repeat' (first | (with_reducible exact Gr.refl _) | (with_reducible assumption) | (with_reducible refine Gr.alloc ?_ _) | (with_reducible refine Gr.drew ?_) | (with_reducible refine Gr.drewN ?_ _) | (with_reducible refine Gr.setCell ?_ ?_ _) | (with_reducible refine Gr.trans ?_ (by with_reducible assumption)) | go_size))⟩
end Go.Proofs.YtagfgnpjljaefaaDoor
