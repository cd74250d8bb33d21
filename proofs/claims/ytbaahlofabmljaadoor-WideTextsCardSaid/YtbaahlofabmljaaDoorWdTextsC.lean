import Derived.Test.YtbaahlofabmljaaDoorWdTextsB
set_option linter.unusedVariables false
set_option linter.unusedSimpArgs false
namespace Go.Proofs.YtbaahlofabmljaaDoor
open Go.RowKit
theorem list_of (l : List UInt8) : (⟨l.toArray⟩ : ByteArray).toList = l := by rw [Lib.toList_data]
theorem texts_any (h l h' l' : Int) (w : World) (ht : Tab w) :
    Calls Tryd.prog 4 #[.agg #[.int .i64 h, .int .i64 l], .agg #[.int .i64 h', .int .i64 l']] w fun e w' => e = .returned (.bool true) ∧ Gr w w' := by
  cases hv : Wd.vld h l
  · exact texts_no h l h' l' w ht (Or.inl hv)
  cases hv' : Wd.vld h' l'
  · exact texts_no h l h' l' w ht (Or.inr hv')
  have hD : Lib.decDigits (Wd.mag (Wd.val h l)).toNat ≠ [] := Wd.dec_ne _
  have hlen : 0 < (Lib.decDigits (Wd.mag (Wd.val h l)).toNat).length := by
    cases e : Lib.decDigits (Wd.mag (Wd.val h l)).toNat with
    | nil => exact absurd e hD
    | cons => simp
  have hle : (Lib.decDigits (Wd.mag (Wd.val h l)).toNat).length ≤ 1000 := by
    obtain ⟨x0, x1⟩ := Wd.val_bounds hv
    rw [Lib.decDigits_length]
    have hm : Wd.mag (Wd.val h l) ≤ 1329227995784915872903807060280344576 := by unfold Wd.mag; split <;> omega
    have := Dg.nDigits_le (c := 37) (n := (Wd.mag (Wd.val h l)).toNat) (by omega) (by
      have : (10 : Nat) ^ 37 = 10000000000000000000000000000000000000 := by decide
      omega)
    omega
  have hsz : (⟨(Lib.decDigits (Wd.mag (Wd.val h l)).toNat).toArray⟩ : ByteArray).size = (Lib.decDigits (Wd.mag (Wd.val h l)).toNat).length := by show (Lib.decDigits (Wd.mag (Wd.val h l)).toNat).toArray.size = _; simp
  have hb0 : ∀ hh : 0 < (⟨(Lib.decDigits (Wd.mag (Wd.val h l)).toNat).toArray⟩ : ByteArray).size, (⟨(Lib.decDigits (Wd.mag (Wd.val h l)).toNat).toArray⟩ : ByteArray)[0] = (Lib.decDigits (Wd.mag (Wd.val h l)).toNat).getD 0 0 := fun hh => by
    rw [List.getD_eq_getElem?_getD, List.getElem?_eq_getElem hlen]; rfl
  refine texts_walk h l h' l' (Wd.ord (Wd.val h l) 0) ⟨(Wd.txt (Wd.val h l)).toArray⟩ ⟨(Wd.txt (Wd.val h' l')).toArray⟩ ⟨(Lib.decDigits (Wd.mag (Wd.val h l)).toNat).toArray⟩ w
    (fun W hg => text_any h l W hv (ht.gr hg)) (fun W hg => text_any h' l' W hv' (ht.gr hg)) (fun W => ?_) (fun W => ?_) (fun W => trim_any _ W _ (by rfl) (by rw [hsz]; exact hle)) ?_ (by rw [hsz]; exact hlen) ?_ ?_ ?_
  · have := cmp_any h l 0 0 W hv (by decide)
    rw [show Wd.val 0 0 = 0 by decide] at this
    exact this
  · refine (Tryd.strings_TrimPrefix _ _ W).mono fun e w' ⟨he, hw⟩ => ⟨?_, hw⟩
    rw [he]
    show Ending.returned (.string ⟨(Lib.trimPrefix (Wd.txt (Wd.val h l)) [45]).toArray⟩) = _
    by_cases hn : Wd.val h l < 0
    · rw [Wd.txt_neg hn, Wd.pre_neg]
    · rw [Wd.txt_pos hn, Wd.pre_dec]
  · by_cases e : Wd.val h l = Wd.val h' l'
    · left
      obtain ⟨a, b⟩ := Wd.val_div hv
      obtain ⟨c, d⟩ := Wd.val_div hv'
      rw [← e] at c d
      exact ⟨a.symm.trans c, b.symm.trans d, by rw [e]⟩
    · right
      refine ⟨?_, ?_⟩
      · rw [list_of, list_of, beq_eq_false_iff_ne]
        exact fun h => e (Wd.txt_inj h)
      · by_cases e1 : h = h'
        · right
          refine ⟨beq_iff_eq.2 e1, ?_⟩
          rw [beq_eq_false_iff_ne]
          intro e2; subst e1 e2; exact e rfl
        · left; rw [beq_eq_false_iff_ne]; exact e1
  · rw [list_of]
    cases e : Lib.decDigits (Wd.mag (Wd.val h l)).toNat with
    | nil => exact absurd e hD
    | cons => rfl
  · rw [list_of, beq_eq_false_iff_ne]; exact hD
  · rcases Int.lt_trichotomy (Wd.val h l) 0 with hn | hn | hn
    · left
      refine ⟨Wd.ord_lt hn, ?_, ?_⟩
      · rw [list_of, list_of, Wd.txt_neg hn, beq_eq_false_iff_ne]
        intro e; have := congrArg List.length e; simp at this
      · rw [hb0, bne_iff_ne]
        have := Wd.dec_head (n := (Wd.mag (Wd.val h l)).toNat) (by rw [Wd.mag_of_neg hn]; omega)
        omega
    · right; right
      have ho : Wd.ord (Wd.val h l) 0 = 0 := by rw [hn]; rfl
      have hd : Lib.decDigits (Wd.mag (Wd.val h l)).toNat = [48] := by rw [hn]; show Lib.decDigits 0 = _; rw [Lib.decDigits]; rfl
      refine ⟨ho, by rw [Wd.txt_pos (by omega)], ?_, ?_, ?_⟩
      · rw [hb0, hd]; rfl
      · rw [list_of, hd]; rfl
      · rw [list_of, hd]; show _ = true; rw [Lib.toList_data]; rfl
    · right; left
      refine ⟨by unfold Wd.ord; rw [if_neg (by omega), if_pos hn], by rw [Wd.txt_pos (by omega)], ?_⟩
      rw [hb0, bne_iff_ne]
      have := Wd.dec_head (n := (Wd.mag (Wd.val h l)).toNat) (by rw [Wd.mag_of_nonneg (by omega)]; omega)
      omega
end Go.Proofs.YtbaahlofabmljaaDoor
