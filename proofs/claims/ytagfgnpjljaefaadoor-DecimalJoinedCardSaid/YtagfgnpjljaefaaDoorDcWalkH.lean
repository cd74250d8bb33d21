import Derived.Test.YtagfgnpjljaefaaDoorDcWalkG
set_option linter.unusedVariables false
set_option linter.unusedSimpArgs false
namespace Go.Proofs.YtagfgnpjljaefaaDoor
open Go.RowKit
set_option maxRecDepth 100000 in
set_option maxHeartbeats 2000000 in
theorem rformat_any (n k : Int) (w : World) (hk : Dc.plc k = true) (hn : Dc.num n = true) : Calls Tryd.prog 12 #[.int .i64 n, .int .i64 k] w fun e w' => e = .returned (.string ⟨(Dc.fmt n k.toNat).toArray⟩) ∧ Gr w w' := by
  obtain ⟨k0, k9⟩ := (Dc.plc_iff k).1 hk
  obtain ⟨n0, n1⟩ := (Dc.num_iff n).1 hn
  clear hk hn
  obtain ⟨k, rfl⟩ := Int.eq_ofNat_of_zero_le k0
  simp only [Int.toNat_natCast]
  have HF : Hid (Dc.fmt n k = Dc.sgn n ++ (if k = 0 then Dg.dig n.natAbs 1 else (Dg.dig n.natAbs (k + 1)).take ((Dg.dig n.natAbs (k + 1)).length - k) ++ [46] ++ (Dg.dig n.natAbs (k + 1)).drop ((Dg.dig n.natAbs (k + 1)).length - k))) := Lib.hid rfl
  obtain ⟨bL, bD, bD2⟩ := Dc.dig_bd (a := n.natAbs) (k := k) (by omega) (by omega)
  have hsl := Dc.sgn_len n
  have HSN := Lib.hid (fun h => Dc.sgn_neg (n := n) h); have HSP := Lib.hid (fun h => Dc.sgn_pos (n := n) h)
  have hI := fun W => rdigits_nat n.natAbs (k + 1) W (by omega) (by omega) (by omega)
  rw [show (((k + 1 : Nat)) : Int) = (k : Int) + 1 by omega] at hI
  have HI := Lib.hid hI
  have H1 := Lib.hid (show k = 0 → Dg.dig n.natAbs (k + 1) = Dg.dig n.natAbs 1 from fun h => by rw [h])
  clear hI bL
  generalize hfm : Dc.fmt n k = F at *
  generalize hsg : Dc.sgn n = sg at *
  generalize Dg.dig n.natAbs 1 = D1 at *
  generalize Dg.dig n.natAbs (k + 1) = D at *
  have HB := Lib.hid (Dc.fmt_bytes sg D (D.length - k))
  go_enter Tryd.func12, Tryd.ntmps12
  go_upto_if 8 with fail
  go_cut [0, 5] (fun c0 c6 wx => c0 = .int .i64 (n.natAbs : Int) ∧ c6 = .string ⟨sg.toArray⟩ ∧ w = wx)
  case first =>
    by_cases h : n < 0
    · have t1 : decide (n < 0) = true := decide_eq_true h
      have ha : (n.natAbs : Int) = -n := by omega
      obtain rfl := (HSN.out h)
      clear HI
      go_wp2_with fail
      all_goals first | (exfalso; omega) | skip
      go_meet
      exact ⟨by rw [ha], rfl, rfl⟩
    · have t1 : decide (n < 0) = false := decide_eq_false h
      have ha : (n.natAbs : Int) = n := by omega
      obtain rfl := (HSP.out (by omega))
      clear HI
      go_wp2_with fail
      all_goals first | (exfalso; omega) | skip
      go_meet
      exact ⟨by rw [ha], rfl, rfl⟩
  case rest =>
    obtain ⟨rfl, rfl, rfl⟩ := hcut
    clear HSN HSP hfm hsg
    generalize n.natAbs = a at *
    by_cases hk0 : k = 0
    · obtain rfl := H1.out hk0
      rw [if_pos hk0] at HF
      have t2 : ((k : Int) == 0) = true := by rw [beq_iff_eq]; omega
      clear HB H1 hk0
      go_wp2_with (first | (go_at_call 31; with_reducible refine (HI.out _).mono ?_; rintro e w1 ⟨rfl, hb1⟩))
      go_ret
      exact ⟨ret_s (by rw [HF.out, bytes_app]), (by repeat' (first | (with_reducible exact Gr.refl _) | (with_reducible assumption) | (with_reducible refine Gr.alloc ?_ _) | (with_reducible refine Gr.drew ?_) | (with_reducible refine Gr.drewN ?_ _) | (with_reducible refine Gr.setCell ?_ ?_ _) | (with_reducible refine Gr.trans ?_ (by with_reducible assumption)) | go_size))⟩
    · have t2 : ((k : Int) == 0) = false := by rw [beq_eq_false_iff_ne]; omega
      rw [if_neg hk0] at HF
      clear hk0 H1
      have ep : ((D.length : Int) - (k : Int)) = ((D.length - k : Nat) : Int) := by omega
      have lp : D.length - k ≤ D.length := by omega
      generalize D.length - k = p at *
      have x0 : ∀ W : World, (Op.stringOp .add (⟨sg.toArray⟩ : ByteArray) ((⟨D.toArray⟩ : ByteArray).extract 0 p)).run Tryd.prog W = .ok (.string ((⟨sg.toArray⟩ : ByteArray) ++ (⟨D.toArray⟩ : ByteArray).extract 0 p)) W := fun W => run_string_add_sum W _ _ (by simp only [ByteArray.size_append', ByteArray.size_mk', List.size_toArray]; simp; omega)
      have x1 : ∀ W : World, (Op.stringOp .add ((⟨sg.toArray⟩ : ByteArray) ++ (⟨D.toArray⟩ : ByteArray).extract 0 p) ⟨#[46]⟩).run Tryd.prog W = .ok (.string (((⟨sg.toArray⟩ : ByteArray) ++ (⟨D.toArray⟩ : ByteArray).extract 0 p) ++ ⟨#[46]⟩)) W := fun W => run_string_add_sum W _ _ (by simp only [ByteArray.size_append', ByteArray.size_mk', List.size_toArray]; simp; omega)
      have x2 : ∀ W : World, (Op.stringOp .add (((⟨sg.toArray⟩ : ByteArray) ++ (⟨D.toArray⟩ : ByteArray).extract 0 p) ++ ⟨#[46]⟩) ((⟨D.toArray⟩ : ByteArray).extract p D.length)).run Tryd.prog W = .ok (.string ((((⟨sg.toArray⟩ : ByteArray) ++ (⟨D.toArray⟩ : ByteArray).extract 0 p) ++ ⟨#[46]⟩) ++ (⟨D.toArray⟩ : ByteArray).extract p D.length)) W := fun W => run_string_add_sum W _ _ (by simp only [ByteArray.size_append', ByteArray.size_mk', List.size_toArray]; simp; omega)
      go_wp2_with (first | (go_at_call 31; with_reducible refine (HI.out _).mono ?_; rintro e w1 ⟨rfl, hb1⟩))
      go_quiet (fail)
      go_wp2
      go_ret
      exact ⟨ret_s (by rw [HF.out]; exact HB.out), (by repeat' (first | (with_reducible exact Gr.refl _) | (with_reducible assumption) | (with_reducible refine Gr.alloc ?_ _) | (with_reducible refine Gr.drew ?_) | (with_reducible refine Gr.drewN ?_ _) | (with_reducible refine Gr.setCell ?_ ?_ _) | (with_reducible refine Gr.trans ?_ (by with_reducible assumption)) | go_size))⟩
/-- Are all bytes digits, and is there one? -/
def Dc.allD (l : List UInt8) : Bool := l.all Dc.isD && !l.isEmpty
theorem Dc.allD_no {l : List UInt8} {k : Nat} (hk : k < l.length) (h : Dc.isD (l.getD k 0) = false) : Dc.allD l = false := by
  unfold Dc.allD
  have : l.all Dc.isD = false := by
    rw [List.all_eq_false]
    refine ⟨l.getD k 0, ?_, by rw [h]; decide⟩
    rw [List.getD_eq_getElem?_getD, List.getElem?_eq_getElem hk]; simp
  rw [this]; rfl
theorem Dc.allD_yes {l : List UInt8} (h : ∀ j, j < l.length → Dc.isD (l.getD j 0) = true) : Dc.allD l = !l.isEmpty := by
  unfold Dc.allD
  have : l.all Dc.isD = true := by
    rw [List.all_eq_true]
    intro c hc
    obtain ⟨j, hj, rfl⟩ := List.getElem_of_mem hc
    have := h j hj
    rw [List.getD_eq_getElem?_getD, List.getElem?_eq_getElem hj] at this
    simpa using this
  rw [this]; simp
set_option maxRecDepth 100000 in
set_option maxHeartbeats 1000000 in
theorem all_any (s : ByteArray) (w : World) (hm : s.size ≤ 9223372036854775806) : Calls Tryd.prog 50 #[.string s] w fun e w' => e = .returned (.bool (Dc.allD s.data.toList)) ∧ w = w' := by
  have HL := Lib.hid (show s.data.toList.length = s.size by simp)
  have HT := Lib.hid (Lib.toList_data s)
  go_enter Tryd.func50, Tryd.ntmps50
  go_wp2_with fail
  go_loop [6] (fun q => ∃ (k : Nat), k ≤ s.size ∧ q = .int .i64 k ∧ Hid (∀ j, j < k → Dc.isD (s.data.toList.getD j 0) = true)) (fun q => s.size - (intOf q).toNat)
  case atStart => exact ⟨0, by omega, rfl, Lib.hid (fun j h => by omega)⟩
  case round =>
    obtain ⟨k, hk, rfl, hr⟩ := hrel
    by_cases hlt : k < s.size
    · have gs := Lib.hid (getD_byte s k hlt)
      have b0 : (s[k].toNat : Int) < 256 := by have := s[k].toNat_lt; omega
      have HB := Lib.hid (digit_any s[k])
      cases hD : Dc.isD s[k]
      · rw [hD] at HB
        have HZ := Lib.hid (show Dc.allD s.data.toList = false from Dc.allD_no (k := k) (by rw [HL.out]; exact hlt) (by rw [gs.out]; exact hD))
        clear hD hr
        go_wp2_with (first | (go_at_call 35; with_reducible refine (HB.out _).mono ?_; rintro e w' ⟨rfl, rfl⟩))
        go_ret
        exact ⟨ret_bool (by rw [HZ.out]), rfl⟩
      · have HN := Lib.hid (Dc.spn_next hr.out hlt hD)
        rw [hD] at HB
        clear hD hr
        go_wp2_with (first | (go_at_call 35; with_reducible refine (HB.out _).mono ?_; rintro e w' ⟨rfl, rfl⟩))
        go_round
        case rel => exact ⟨k + 1, by omega, by go_num, HN⟩
        case measure => simp [intOf]; omega
    · obtain rfl : k = s.size := by omega
      have HZ := Lib.hid (show Dc.allD s.data.toList = !s.data.toList.isEmpty from Dc.allD_yes (by rw [HL.out]; exact hr.out))
      clear hr
      go_wp2
      go_ret
      exact ⟨ret_bool (by rw [HZ.out, ← HT.out]), rfl⟩
end Go.Proofs.YtagfgnpjljaefaaDoor
