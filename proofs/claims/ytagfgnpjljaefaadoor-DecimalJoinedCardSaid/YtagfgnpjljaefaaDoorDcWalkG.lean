import Derived.Test.YtagfgnpjljaefaaDoorDcWalkF
set_option linter.unusedVariables false
set_option linter.unusedSimpArgs false
namespace Go.Proofs.YtagfgnpjljaefaaDoor
open Go.RowKit
namespace Dc
def sgn (n : Int) : List UInt8 := if n < 0 then [45] else []
/-- The decimal text of a number. -/
def fmt (n : Int) (k : Nat) : List UInt8 :=
  sgn n ++ (if k = 0 then Dg.dig n.natAbs 1 else (Dg.dig n.natAbs (k + 1)).take ((Dg.dig n.natAbs (k + 1)).length - k) ++ [46] ++ (Dg.dig n.natAbs (k + 1)).drop ((Dg.dig n.natAbs (k + 1)).length - k))
theorem sgn_neg {n : Int} (h : n < 0) : sgn n = [45] := if_pos h
theorem sgn_pos {n : Int} (h : ¬ n < 0) : sgn n = [] := if_neg h
theorem sgn_len (n : Int) : (sgn n).length ≤ 1 := by unfold sgn; split <;> simp
theorem dec_dig (a : Nat) : Dg.dig a 1 = Lib.decDigits a := by
  unfold Dg.dig
  have : 1 ≤ (Lib.decDigits a).length := by rw [Lib.decDigits_length]; exact Dg.nDigits_pos a
  rw [show 1 - (Lib.decDigits a).length = 0 by omega]; rfl
theorem dig_bd {a : Nat} {k : Nat} (ha : a ≤ 1152921504606846976) (hk : k ≤ 9) : (Lib.decDigits a).length ≤ 19 ∧ (Dg.dig a (k + 1)).length ≤ 20 ∧ k + 1 ≤ (Dg.dig a (k + 1)).length := by
  have h := Dg.nDigits_le (c := 19) (n := a) (by omega) (by omega)
  refine ⟨by rw [Lib.decDigits_length]; exact h, ?_, ?_⟩
  · rw [Dg.dig_len]; omega
  · rw [Dg.dig_len]; omega
theorem fmt_bytes (sg D : List UInt8) (p : Nat) : (((⟨sg.toArray⟩ : ByteArray) ++ (⟨D.toArray⟩ : ByteArray).extract 0 p) ++ ⟨#[46]⟩) ++ (⟨D.toArray⟩ : ByteArray).extract p D.length = ⟨(sg ++ (D.take p ++ [46] ++ D.drop p)).toArray⟩ := by
  have e1 : (⟨D.toArray⟩ : ByteArray).extract 0 p = ⟨(D.take p).toArray⟩ := extract_head _ _
  have e2 : (⟨D.toArray⟩ : ByteArray).extract p D.length = ⟨(D.drop p).toArray⟩ := Go.WideShapes.bytes_inj (by
    rw [Lib.extract_data]; exact List.take_of_length_le (by simp))
  have e3 : (⟨#[46]⟩ : ByteArray) = ⟨([46] : List UInt8).toArray⟩ := rfl
  rw [e1, e2, e3, bytes_app, bytes_app, bytes_app]
  congr 1; simp
end Dc
theorem ret_si {a b : ByteArray} {x y : Int} (h : a = b) (h' : x = y) : Ending.returned (.tuple #[.string a, .int .i64 x]) = .returned (.tuple #[.string b, .int .i64 y]) := by rw [h, h']
theorem ret_s {a b : ByteArray} (h : a = b) : Ending.returned (.string a) = .returned (.string b) := by rw [h]
theorem format_digits (n k : Int) (w : World) (hk : Dc.plc k = false) : Calls Tryd.prog 10 #[.int .i64 n, .int .i64 k] w fun e w' => e = .returned (.tuple #[.string ⟨#[]⟩, .int .i64 2]) ∧ w = w' := by
  have HK := Lib.hid (places_any k)
  rw [hk] at HK
  clear hk
  go_enter Tryd.func10, Tryd.ntmps10
  go_wp2_with (first | (go_at_call 28; with_reducible refine (HK.out _).mono ?_; rintro e w' ⟨rfl, rfl⟩))
  go_ret2
  exact ⟨rfl, rfl⟩
theorem format_big (n k : Int) (w : World) (hk : Dc.plc k = true) (hn : Dc.num n = false) : Calls Tryd.prog 10 #[.int .i64 n, .int .i64 k] w fun e w' => e = .returned (.tuple #[.string ⟨#[]⟩, .int .i64 5]) ∧ w = w' := by
  have HK := Lib.hid (places_any k)
  rw [hk] at HK
  have HN := Lib.hid (number_any n)
  rw [hn] at HN
  clear hk hn
  go_enter Tryd.func10, Tryd.ntmps10
  go_wp2_with (first | (go_at_call 28; with_reducible refine (HK.out _).mono ?_; rintro e w' ⟨rfl, rfl⟩) | (go_at_call 29; with_reducible refine (HN.out _).mono ?_; rintro e w' ⟨rfl, rfl⟩))
  go_ret2
  exact ⟨rfl, rfl⟩
set_option maxRecDepth 100000 in
set_option maxHeartbeats 2000000 in
theorem format_any (n k : Int) (w : World) (hk : Dc.plc k = true) (hn : Dc.num n = true) (ht : Tab w) : Calls Tryd.prog 10 #[.int .i64 n, .int .i64 k] w fun e w' => e = .returned (.tuple #[.string ⟨(Dc.fmt n k.toNat).toArray⟩, .int .i64 0]) ∧ Gr w w' := by
  have HK := Lib.hid (places_any k)
  rw [hk] at HK
  have HN := Lib.hid (number_any n)
  rw [hn] at HN
  obtain ⟨k0, k9⟩ := (Dc.plc_iff k).1 hk
  obtain ⟨n0, n1⟩ := (Dc.num_iff n).1 hn
  clear hk hn
  obtain ⟨k, rfl⟩ := Int.eq_ofNat_of_zero_le k0
  simp only [Int.toNat_natCast]
  have HF : Hid (Dc.fmt n k = Dc.sgn n ++ (if k = 0 then Dg.dig n.natAbs 1 else (Dg.dig n.natAbs (k + 1)).take ((Dg.dig n.natAbs (k + 1)).length - k) ++ [46] ++ (Dg.dig n.natAbs (k + 1)).drop ((Dg.dig n.natAbs (k + 1)).length - k))) := Lib.hid rfl
  obtain ⟨bL, bD, bD2⟩ := Dc.dig_bd (a := n.natAbs) (k := k) (by omega) (by omega)
  have hsl := Dc.sgn_len n
  have HSN := Lib.hid (fun h => Dc.sgn_neg (n := n) h); have HSP := Lib.hid (fun h => Dc.sgn_pos (n := n) h)
  have HI := Lib.hid (fun W (hg : Gr w W) => itoa_any (n.natAbs : Int) W (by omega) (by omega) (Or.inr (ht.gr hg)))
  simp only [Int.toNat_natCast] at HI
  have HZ := Lib.hid (Dc.dec_dig n.natAbs)
  have HD := Lib.hid (show Dg.dig n.natAbs (k + 1) = List.replicate (k + 1 - (Lib.decDigits n.natAbs).length) 48 ++ Lib.decDigits n.natAbs from rfl)
  rw [HZ.out] at HF
  clear ht HZ
  generalize hfm : Dc.fmt n k = F at *
  generalize hsg : Dc.sgn n = sg at *
  generalize Lib.decDigits n.natAbs = L at *
  generalize Dg.dig n.natAbs (k + 1) = D at *
  have HB := Lib.hid (Dc.fmt_bytes sg D (D.length - k))
  go_enter Tryd.func10, Tryd.ntmps10
  go_upto_if 18 with (first | (go_at_call 28; with_reducible refine (HK.out _).mono ?_; rintro e w' ⟨rfl, rfl⟩) | (go_at_call 29; with_reducible refine (HN.out _).mono ?_; rintro e w' ⟨rfl, rfl⟩))
  go_cut [0, 6] (fun c0 c6 wx => c0 = .int .i64 (n.natAbs : Int) ∧ c6 = .string ⟨sg.toArray⟩ ∧ w = wx)
  case first =>
    by_cases h : n < 0
    · have t1 : decide (n < 0) = true := decide_eq_true h
      have ha : (n.natAbs : Int) = -n := by omega
      obtain rfl := (HSN.out h)
      clear HI
      go_wp2_with fail
      all_goals first | (exfalso; omega) | skip
      go_meet
      exact ⟨by rw [ha], rfl, rfl⟩
    · have t1 : decide (n < 0) = false := decide_eq_false h
      have ha : (n.natAbs : Int) = n := by omega
      obtain rfl := (HSP.out (by omega))
      clear HI
      go_wp2_with fail
      all_goals first | (exfalso; omega) | skip
      go_meet
      exact ⟨by rw [ha], rfl, rfl⟩
  case rest =>
    obtain ⟨rfl, rfl, rfl⟩ := hcut
    clear HSN HSP HK HN hfm hsg
    generalize n.natAbs = a at *
    by_cases hk0 : k = 0
    · subst hk0
      simp only [if_true] at HF
      go_wp2_with (first | (go_at_call 30; with_reducible refine (HI.out _ (by repeat' (first | (with_reducible exact Gr.refl _) | (with_reducible assumption) | (with_reducible refine Gr.alloc ?_ _) | (with_reducible refine Gr.drew ?_) | (with_reducible refine Gr.drewN ?_ _) | (with_reducible refine Gr.setCell ?_ ?_ _) | (with_reducible refine Gr.trans ?_ (by with_reducible assumption)) | go_size))).mono ?_; rintro e w1 ⟨rfl, hb1⟩))
      go_ret2
      exact ⟨ret_si (by rw [HF.out, bytes_app]) rfl, (by repeat' (first | (with_reducible exact Gr.refl _) | (with_reducible assumption) | (with_reducible refine Gr.alloc ?_ _) | (with_reducible refine Gr.drew ?_) | (with_reducible refine Gr.drewN ?_ _) | (with_reducible refine Gr.setCell ?_ ?_ _) | (with_reducible refine Gr.trans ?_ (by with_reducible assumption)) | go_size))⟩
    · have t2 : ((k : Int) == 0) = false := by rw [beq_eq_false_iff_ne]; omega
      rw [if_neg hk0] at HF
      clear hk0
      go_upto_if 31 with (first | (go_at_call 30; with_reducible refine (HI.out _ (by repeat' (first | (with_reducible exact Gr.refl _) | (with_reducible assumption) | (with_reducible refine Gr.alloc ?_ _) | (with_reducible refine Gr.drew ?_) | (with_reducible refine Gr.drewN ?_ _) | (with_reducible refine Gr.setCell ?_ ?_ _) | (with_reducible refine Gr.trans ?_ (by with_reducible assumption)) | go_size))).mono ?_; rintro e w1 ⟨rfl, hb1⟩))
      go_cut [7] (fun c7 wx => c7 = .string ⟨D.toArray⟩ ∧ Gr w wx)
      case first =>
        by_cases hlk : L.length ≤ k
        · have t3 : decide ((L.length : Int) ≤ (k : Int)) = true := decide_eq_true (by omega)
          have HRP := Lib.hid (fun W => repeat0_any ((k : Int) + 1 - (L.length : Int)) W (by omega) (by omega))
          have er : ((k : Int) + 1 - (L.length : Int)).toNat = k + 1 - L.length := by omega
          rw [er] at HRP
          have hrl : (List.replicate (k + 1 - L.length) (48 : UInt8)).length ≤ 20 := by simp; omega
          generalize List.replicate (k + 1 - L.length) (48 : UInt8) = r at *
          clear er
          go_wp2_with (first | (go_at_call 16; with_reducible refine (HRP.out _).mono ?_; rintro e w2 ⟨rfl, hb2⟩))
          all_goals first | (exfalso; omega) | skip
          go_meet
          exact ⟨by rw [HD.out, ← bytes_app], (by repeat' (first | (with_reducible exact Gr.refl _) | (with_reducible assumption) | (with_reducible refine Gr.alloc ?_ _) | (with_reducible refine Gr.drew ?_) | (with_reducible refine Gr.drewN ?_ _) | (with_reducible refine Gr.setCell ?_ ?_ _) | (with_reducible refine Gr.trans ?_ (by with_reducible assumption)) | go_size))⟩
        · have t3 : decide ((L.length : Int) ≤ (k : Int)) = false := decide_eq_false (by omega)
          have hrl : k + 1 - L.length = 0 := by omega
          rw [hrl] at HD
          obtain rfl := HD.out
          go_wp2_with fail
          all_goals first | (exfalso; omega) | skip
          go_meet
          exact ⟨rfl, (by repeat' (first | (with_reducible exact Gr.refl _) | (with_reducible assumption) | (with_reducible refine Gr.alloc ?_ _) | (with_reducible refine Gr.drew ?_) | (with_reducible refine Gr.drewN ?_ _) | (with_reducible refine Gr.setCell ?_ ?_ _) | (with_reducible refine Gr.trans ?_ (by with_reducible assumption)) | go_size))⟩
      case rest =>
        obtain ⟨rfl, hg⟩ := hcut
        clear HI HD
        have ep : ((D.length : Int) - (k : Int)) = ((D.length - k : Nat) : Int) := by omega
        have lp : D.length - k ≤ D.length := by omega
        generalize D.length - k = p at *
        have es : ∀ b c : Nat, c ≤ 20 → ((⟨D.toArray⟩ : ByteArray).extract b c).size ≤ 20 := fun b c hc => by simp; omega
        have x0 : ∀ W : World, (Op.stringOp .add (⟨sg.toArray⟩ : ByteArray) ((⟨D.toArray⟩ : ByteArray).extract 0 p)).run Tryd.prog W = .ok (.string ((⟨sg.toArray⟩ : ByteArray) ++ (⟨D.toArray⟩ : ByteArray).extract 0 p)) W := fun W => run_string_add_sum W _ _ (by simp only [ByteArray.size_append', ByteArray.size_mk', List.size_toArray]; simp; omega)
        have x1 : ∀ W : World, (Op.stringOp .add ((⟨sg.toArray⟩ : ByteArray) ++ (⟨D.toArray⟩ : ByteArray).extract 0 p) ⟨#[46]⟩).run Tryd.prog W = .ok (.string (((⟨sg.toArray⟩ : ByteArray) ++ (⟨D.toArray⟩ : ByteArray).extract 0 p) ++ ⟨#[46]⟩)) W := fun W => run_string_add_sum W _ _ (by simp only [ByteArray.size_append', ByteArray.size_mk', List.size_toArray]; simp; omega)
        have x2 : ∀ W : World, (Op.stringOp .add (((⟨sg.toArray⟩ : ByteArray) ++ (⟨D.toArray⟩ : ByteArray).extract 0 p) ++ ⟨#[46]⟩) ((⟨D.toArray⟩ : ByteArray).extract p D.length)).run Tryd.prog W = .ok (.string ((((⟨sg.toArray⟩ : ByteArray) ++ (⟨D.toArray⟩ : ByteArray).extract 0 p) ++ ⟨#[46]⟩) ++ (⟨D.toArray⟩ : ByteArray).extract p D.length)) W := fun W => run_string_add_sum W _ _ (by simp only [ByteArray.size_append', ByteArray.size_mk', List.size_toArray]; simp; omega)
        go_wp2_with fail
        go_quiet (fail)
        go_wp2
        go_ret2
        exact ⟨ret_si (by rw [HF.out]; exact HB.out) rfl, (by repeat' (first | (with_reducible exact Gr.refl _) | (with_reducible assumption) | (with_reducible refine Gr.alloc ?_ _) | (with_reducible refine Gr.drew ?_) | (with_reducible refine Gr.drewN ?_ _) | (with_reducible refine Gr.setCell ?_ ?_ _) | (with_reducible refine Gr.trans ?_ (by with_reducible assumption)) | go_size))⟩
end Go.Proofs.YtagfgnpjljaefaaDoor
