import Derived.Test.YtagfgnpjljaefaaDoorDcRefB
set_option linter.unusedVariables false
set_option linter.unusedSimpArgs false
namespace Go.Proofs.YtagfgnpjljaefaaDoor
open Go.RowKit
/-- Does a symbol of two bytes begin at i? -/
def TwoAt (s : ByteArray) (i : Nat) : Prop := 1 < (s.data.toList.drop i).length ∧ ((s.data.toList.drop i).getD 1 0).toNat = 61 ∧ (((s.data.toList.drop i).getD 0 0).toNat = 62 ∨ ((s.data.toList.drop i).getD 0 0).toNat = 60 ∨ ((s.data.toList.drop i).getD 0 0).toNat = 58)
set_option maxRecDepth 100000 in
set_option maxHeartbeats 2000000 in
theorem rsymbol_any (s : ByteArray) (i : Nat) (w : World) (hi : i < s.size) (hm : s.size ≤ 9223372036854775806) : Calls Tryd.prog 59 #[.string s, .int .i64 (i : Int)] w fun e w' => e = .returned (.int .i64 (Dc.symbol (s.data.toList.drop i) : Int)) ∧ Gr w w' := by
  have hL : (s.data.toList.drop i).length = s.size - i := by rw [List.length_drop]; simp
  have g0 : (s.data.toList.drop i).getD 0 0 = s[i] := by rw [Dc.getD_drop]; exact getD_byte s i hi
  have b0 : (s[i].toNat : Int) < 256 := by have := s[i].toNat_lt; omega
  obtain ⟨b, hb⟩ : ∃ b : Bool, (b = true ↔ TwoAt s i) := by
    by_cases h : TwoAt s i
    · exact ⟨true, by simp [h]⟩
    · exact ⟨false, by simp [h]⟩
  have HB := Lib.hid hb
  have HT := Lib.hid (show TwoAt s i ↔ (1 < s.size - i ∧ ((s.data.toList.drop i).getD 1 0).toNat = 61 ∧ (s[i].toNat = 62 ∨ s[i].toNat = 60 ∨ s[i].toNat = 58)) from by unfold TwoAt; rw [hL, g0])
  have H2 := Lib.hid (show TwoAt s i → Dc.symbol (s.data.toList.drop i) = 2 from fun h => Dc.symbol_two h)
  have H1 := Lib.hid (show ¬ TwoAt s i → Dc.symbol (s.data.toList.drop i) = if Dc.isS s[i] then 1 else 0 from fun h => by rw [Dc.symbol_one h, g0])
  have G1 := Lib.hid (show ∀ h : i + 1 < s.size, (s.data.toList.drop i).getD 1 0 = s[i + 1] from fun h => by rw [Dc.getD_drop]; exact getD_byte s (i + 1) h)
  clear hb hL g0
  generalize Dc.symbol (s.data.toList.drop i) = R at *
  go_enter Tryd.func59, Tryd.ntmps59
  go_upto_region 1 with fail
  go_cut [36] (fun c wx => c = .bool b ∧ w = wx)
  case first =>
    by_cases hA : i + 1 < s.size
    · have t0 : decide (((i : Int) + 1) < (s.size : Int)) = true := decide_eq_true (by omega)
      have g1 := G1.out hA
      have hTT := HT.out
      rw [g1] at hTT
      have HTT := Lib.hid hTT
      have b1 : (s[i + 1].toNat : Int) < 256 := by have := s[i + 1].toNat_lt; omega
      clear g1 hTT
      by_cases hB : s[i + 1].toNat = 61
      · have t1 : ((s[i + 1].toNat : Int) == 61) = true := by rw [beq_iff_eq]; omega
        by_cases hC : s[i].toNat = 62
        · have t2 : ((s[i].toNat : Int) == 62) = true := by rw [beq_iff_eq]; omega
          have hbt : b = true := HB.out.2 (HTT.out.2 ⟨by omega, hB, Or.inl hC⟩)
          clear hB hC
          go_wp2_with fail
          go_meet
          exact ⟨by rw [hbt], rfl⟩
        · have t2 : ((s[i].toNat : Int) == 62) = false := by rw [beq_eq_false_iff_ne]; omega
          by_cases hD : s[i].toNat = 60
          · have t3 : ((s[i].toNat : Int) == 60) = true := by rw [beq_iff_eq]; omega
            have hbt : b = true := HB.out.2 (HTT.out.2 ⟨by omega, hB, Or.inr (Or.inl hD)⟩)
            clear hB hC hD
            go_wp2_with fail
            go_meet
            exact ⟨by rw [hbt], rfl⟩
          · have t3 : ((s[i].toNat : Int) == 60) = false := by rw [beq_eq_false_iff_ne]; omega
            by_cases hE : s[i].toNat = 58
            · have t4 : ((s[i].toNat : Int) == 58) = true := by rw [beq_iff_eq]; omega
              have hbt : b = true := HB.out.2 (HTT.out.2 ⟨by omega, hB, Or.inr (Or.inr hE)⟩)
              clear hB hC hD hE
              go_wp2_with fail
              go_meet
              exact ⟨by rw [hbt], rfl⟩
            · have t4 : ((s[i].toNat : Int) == 58) = false := by rw [beq_eq_false_iff_ne]; omega
              have hbt : b = false := by
                cases hb : b
                · rfl
                · have := (HTT.out.1 (HB.out.1 hb)).2.2; omega
              clear hB hC hD hE
              go_wp2_with fail
              go_meet
              exact ⟨by rw [hbt], rfl⟩
      · have t1 : ((s[i + 1].toNat : Int) == 61) = false := by rw [beq_eq_false_iff_ne]; omega
        have hbt : b = false := by
          cases hb : b
          · rfl
          · have := (HTT.out.1 (HB.out.1 hb)).2.1; omega
        clear hB
        go_wp2_with fail
        go_meet
        exact ⟨by rw [hbt], rfl⟩
    · have t0 : decide (((i : Int) + 1) < (s.size : Int)) = false := decide_eq_false (by omega)
      have hbt : b = false := by
        cases hb : b
        · rfl
        · have := (HT.out.1 (HB.out.1 hb)).1; omega
      clear hA
      go_wp2_with fail
      go_meet
      exact ⟨by rw [hbt], rfl⟩
  case rest =>
    obtain ⟨rfl, rfl⟩ := hcut
    clear HT G1
    cases b
    · have hz := H1.out (fun h => Bool.false_ne_true (HB.out.2 h))
      have HZ := Lib.hid hz
      clear H1 H2 HB hz
      go_wp2_with fail
      go_loopw [6] (fun q wr => ∃ (k : Nat), k ≤ 12 ∧ q = .int .i64 k ∧ Hid (∀ j (hj : j < alone.size), j < k → s[i].toNat ≠ alone[j].toNat) ∧ Gr w wr) (fun q _ => 12 - (intOf q).toNat)
      case atStart => exact ⟨0, by omega, rfl, Lib.hid (fun j hj h => by omega), (by repeat' (first | (with_reducible exact Gr.refl _) | (with_reducible assumption) | (with_reducible refine Gr.alloc ?_ _) | (with_reducible refine Gr.drew ?_) | (with_reducible refine Gr.drewN ?_ _) | (with_reducible refine Gr.setCell ?_ ?_ _) | (with_reducible refine Gr.trans ?_ (by with_reducible assumption)) | go_size))⟩
      case round =>
        obtain ⟨k, hk, rfl, hr, hg⟩ := hrel
        by_cases hlt : k < 12
        · have hka : k < alone.size := hlt
          have hka' : k < (⟨#[45, 43, 58, 44, 59, 47, 61, 40, 41, 60, 62, 42]⟩ : ByteArray).size := hlt
          have ba : ((⟨#[45, 43, 58, 44, 59, 47, 61, 40, 41, 60, 62, 42]⟩ : ByteArray)[k].toNat : Int) < 256 := by have := (⟨#[45, 43, 58, 44, 59, 47, 61, 40, 41, 60, 62, 42]⟩ : ByteArray)[k].toNat_lt; omega
          by_cases he : s[i].toNat = (⟨#[45, 43, 58, 44, 59, 47, 61, 40, 41, 60, 62, 42]⟩ : ByteArray)[k].toNat
          · have t1 : ((s[i].toNat : Int) == ((⟨#[45, 43, 58, 44, 59, 47, 61, 40, 41, 60, 62, 42]⟩ : ByteArray)[k].toNat : Int)) = true := by rw [beq_iff_eq]; omega
            have HQ := Lib.hid (show R = 1 by rw [HZ.out, isS_yes hka he]; rfl)
            clear he hr
            go_wp2_with fail
            go_quiet (fail)
            go_wp2
            go_ret
            exact ⟨ret_int (by rw [HQ.out]; rfl), (by repeat' (first | (with_reducible exact Gr.refl _) | (with_reducible assumption) | (with_reducible refine Gr.alloc ?_ _) | (with_reducible refine Gr.drew ?_) | (with_reducible refine Gr.drewN ?_ _) | (with_reducible refine Gr.setCell ?_ ?_ _) | (with_reducible refine Gr.trans ?_ (by with_reducible assumption)) | go_size))⟩
          · have t1 : ((s[i].toNat : Int) == ((⟨#[45, 43, 58, 44, 59, 47, 61, 40, 41, 60, 62, 42]⟩ : ByteArray)[k].toNat : Int)) = false := by rw [beq_eq_false_iff_ne]; omega
            have HN := Lib.hid (show ∀ j (hj : j < alone.size), j < k + 1 → s[i].toNat ≠ alone[j].toNat from fun j hj h => by
              by_cases e : j < k
              · exact hr.out j hj e
              · obtain rfl : j = k := by omega
                exact he)
            clear he hr
            go_wp2_with fail
            go_quiet (fail)
            go_wp2_with fail
            go_roundw
            case rel => exact ⟨k + 1, by omega, by go_num, HN, (by repeat' (first | (with_reducible exact Gr.refl _) | (with_reducible assumption) | (with_reducible refine Gr.alloc ?_ _) | (with_reducible refine Gr.drew ?_) | (with_reducible refine Gr.drewN ?_ _) | (with_reducible refine Gr.setCell ?_ ?_ _) | (with_reducible refine Gr.trans ?_ (by with_reducible assumption)) | go_size))⟩
            case measure => simp [intOf]; omega
        · obtain rfl : k = 12 := by omega
          have HQ := Lib.hid (show R = 0 by rw [HZ.out, isS_no (fun j hj => hr.out j hj (by exact hj))]; rfl)
          clear hr
          go_wp2
          go_ret
          exact ⟨ret_int (by rw [HQ.out]; rfl), (by repeat' (first | (with_reducible exact Gr.refl _) | (with_reducible assumption) | (with_reducible refine Gr.alloc ?_ _) | (with_reducible refine Gr.drew ?_) | (with_reducible refine Gr.drewN ?_ _) | (with_reducible refine Gr.setCell ?_ ?_ _) | (with_reducible refine Gr.trans ?_ (by with_reducible assumption)) | go_size))⟩
    · have HQ := Lib.hid (H2.out (HB.out.1 rfl))
      clear H1 H2 HB
      go_wp2
      go_ret
      exact ⟨ret_int (by rw [HQ.out]; rfl), (by repeat' (first | (with_reducible exact Gr.refl _) | (with_reducible assumption) | (with_reducible refine Gr.alloc ?_ _) | (with_reducible refine Gr.drew ?_) | (with_reducible refine Gr.drewN ?_ _) | (with_reducible refine Gr.setCell ?_ ?_ _) | (with_reducible refine Gr.trans ?_ (by with_reducible assumption)) | go_size))⟩
end Go.Proofs.YtagfgnpjljaefaaDoor
