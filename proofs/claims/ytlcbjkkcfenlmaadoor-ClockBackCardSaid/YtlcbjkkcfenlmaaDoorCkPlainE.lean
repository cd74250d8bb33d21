/-
  The text of an instant and what is read from it are each other's inverse. No program here.
-/
import Derived.Test.YtlcbjkkcfenlmaaDoorCkPlainD
import Derived.Test.YtlcbjkkcfenlmaaDoorCkApart
set_option linter.unusedVariables false
set_option linter.unusedSimpArgs false
namespace Go.Proofs.YtlcbjkkcfenlmaaDoor
namespace Ck
theorem seg_drop {sl : List UInt8} {a : Nat} : ∀ (j : Nat) (n : Int), seg sl a j = some n → a + j ≤ sl.length → sl.drop a = Dg.pd n.toNat j ++ sl.drop (a + j)
  | 0, n, _, _ => by simp [Dg.pd]
  | j + 1, n, h, hl => by
    rw [seg_succ] at h
    cases hs : seg sl a j with
    | none => rw [hs] at h; cases h
    | some k =>
      rw [hs] at h
      simp only [Option.bind_some] at h
      split at h
      case isFalse => cases h
      rename_i hc
      simp only [Option.some.injEq] at h
      have k0 := (seg_bd j k hs).1
      have e : n.toNat / 10 = k.toNat := by omega
      have f : n.toNat % 10 + 48 = (sl.getD (a + j) 0).toNat := by omega
      have g : UInt8.ofNat (48 + n.toNat % 10) = sl.getD (a + j) 0 := by
        apply UInt8.toNat_inj.1
        rw [Dg.dig_byte]; omega
      rw [seg_drop j k hs (by omega), Dg.pd, e, g, List.append_assoc, ← Nat.add_assoc]
      congr 1
      rw [List.drop_eq_getElem_cons (by omega : a + j < sl.length)]
      have : sl.getD (a + j) 0 = sl[a + j] := by rw [List.getD_eq_getElem?_getD, List.getElem?_eq_getElem (by omega)]; rfl
      rw [this]; rfl
theorem sep_drop {sl : List UInt8} {k : Nat} {c : UInt8} (h : (sl.getD k 0).toNat = c.toNat) (hl : k < sl.length) : sl.drop k = [c] ++ sl.drop (k + 1) := by
  rw [List.drop_eq_getElem_cons hl]
  have e : sl.getD k 0 = sl[k] := by rw [List.getD_eq_getElem?_getD, List.getElem?_eq_getElem hl]; rfl
  rw [← e, UInt8.toNat_inj.1 h]; rfl
theorem drop_next {sl A B : List UInt8} {a j : Nat} (h : sl.drop a = A ++ B) (hj : A.length = j) : sl.drop (a + j) = B := by
  rw [← List.drop_drop, h, List.drop_left' hj]
theorem drop_head {sl B : List UInt8} {k : Nat} {c : UInt8} (h : sl.drop k = [c] ++ B) : sl.getD k 0 = c := by
  have : (sl.drop k)[0]? = some c := by rw [h]; rfl
  rw [List.getElem?_drop, Nat.add_zero] at this
  rw [List.getD_eq_getElem?_getD, this]; rfl
theorem seg_of {sl : List UInt8} {a : Nat} : ∀ (j N : Nat) (B : List UInt8), sl.drop a = Dg.pd N j ++ B → seg sl a j = some ((N % 10 ^ j : Nat) : Int)
  | 0, N, B, _ => by simp [seg, Nat.mod_one]
  | j + 1, N, B, h => by
    rw [Dg.pd, List.append_assoc] at h
    have ih := seg_of j (N / 10) _ h
    have hd := drop_head (drop_next h (Dg.pd_len _ _))
    rw [seg_yes ih (by rw [hd, Dg.dig_byte]; omega) (by rw [hd, Dg.dig_byte]; omega), hd, Dg.dig_byte]
    have e : N % 10 ^ (j + 1) = N % 10 + 10 * (N / 10 % 10 ^ j) := by rw [Nat.pow_succ, Nat.mul_comm (10 ^ j) 10, Nat.mod_mul]
    rw [e]
    congr 1
    omega
theorem dig_four {n : Nat} (h : n < 10000) : dig n 4 = Dg.pd n 4 := Dg.dig_pad (by omega) (by omega)
theorem txt_pd {y m d u : Int} (hv : vld y m d = true) (u0 : 0 ≤ u) (u1 : u < 86400) : txt y m d u = Dg.pd y.toNat 4 ++ ([45] ++ (Dg.pd m.toNat 2 ++ ([45] ++ (Dg.pd d.toNat 2 ++ ([32] ++ (Dg.pd (u / 3600).toNat 2 ++ ([58] ++ (Dg.pd (u / 60 % 60).toNat 2 ++ ([58] ++ (Dg.pd (u % 60).toNat 2 ++ [])))))))))) := by
  obtain ⟨v1, v2, v3, v4, v5, v6⟩ := (vld_iff y m d).1 hv
  have := mlen_bd y m
  unfold txt
  rw [dig_four (by omega), dig_two (by omega), dig_two (by omega), hrs_pd u0 u1]
  simp only [List.append_assoc, List.append_nil]
theorem txt_of_parts {sl : List UInt8} {y m d h i c : Int} (hl : sl.length = 19) (hs : seps sl) (g1 : seg sl 0 4 = some y) (g2 : seg sl 5 2 = some m) (g3 : seg sl 8 2 = some d) (g4 : seg sl 11 2 = some h) (g5 : seg sl 14 2 = some i) (g6 : seg sl 17 2 = some c)
    (hv : vld y m d = true) (h23 : h ≤ 23) (h59 : i ≤ 59) (h60 : c ≤ 59) : sl = txt y m d (h * 3600 + i * 60 + c) := by
  have h0 := (seg_bd _ _ g4).1; have i0 := (seg_bd _ _ g5).1; have c0 := (seg_bd _ _ g6).1
  obtain ⟨s1, s2, s3, s4, s5⟩ := hs
  rw [txt_pd hv (by omega) (by omega)]
  have e1 : (h * 3600 + i * 60 + c) / 3600 = h := by omega
  have e2 : (h * 3600 + i * 60 + c) / 60 % 60 = i := by omega
  have e3 : (h * 3600 + i * 60 + c) % 60 = c := by omega
  rw [e1, e2, e3]
  have d0 : sl = sl.drop 0 := rfl
  rw [d0, seg_drop _ _ g1 (by omega), sep_drop (c := 45) s1 (by omega), seg_drop _ _ g2 (by omega), sep_drop (c := 45) s2 (by omega), seg_drop _ _ g3 (by omega), sep_drop (c := 32) s3 (by omega), seg_drop _ _ g4 (by omega), sep_drop (c := 58) s4 (by omega), seg_drop _ _ g5 (by omega), sep_drop (c := 58) s5 (by omega), seg_drop _ _ g6 (by omega), List.drop_of_length_le (by omega : sl.length ≤ 17 + 2)]
theorem parts_of_txt {sl : List UInt8} {y m d u : Int} (hv : vld y m d = true) (u0 : 0 ≤ u) (u1 : u < 86400) (h : sl = txt y m d u) :
    seps sl ∧ seg sl 0 4 = some y ∧ seg sl 5 2 = some m ∧ seg sl 8 2 = some d ∧ seg sl 11 2 = some (u / 3600) ∧ seg sl 14 2 = some (u / 60 % 60) ∧ seg sl 17 2 = some (u % 60) := by
  obtain ⟨v1, v2, v3, v4, v5, v6⟩ := (vld_iff y m d).1 hv
  have ml := mlen_bd y m
  rw [txt_pd hv u0 u1] at h
  have t0 : sl.drop 0 = _ := h
  have t1 := drop_next t0 (Dg.pd_len _ _)
  have t2 := drop_next t1 rfl
  have t3 := drop_next t2 (Dg.pd_len _ _)
  have t4 := drop_next t3 rfl
  have t5 := drop_next t4 (Dg.pd_len _ _)
  have t6 := drop_next t5 rfl
  have t7 := drop_next t6 (Dg.pd_len _ _)
  have t8 := drop_next t7 rfl
  have t9 := drop_next t8 (Dg.pd_len _ _)
  have t10 := drop_next t9 rfl
  simp only [List.length_cons, List.length_nil, Nat.zero_add, Nat.reduceAdd] at t1 t2 t3 t4 t5 t6 t7 t8 t9 t10
  refine ⟨⟨by rw [drop_head t1]; rfl, by rw [drop_head t3]; rfl, by rw [drop_head t5]; rfl, by rw [drop_head t7]; rfl, by rw [drop_head t9]; rfl⟩, ?_, ?_, ?_, ?_, ?_, ?_⟩
  · rw [seg_of _ _ _ t0]; congr 1; omega
  · rw [seg_of _ _ _ t2]; congr 1; omega
  · rw [seg_of _ _ _ t4]; congr 1; omega
  · rw [seg_of _ _ _ t6]; congr 1; omega
  · rw [seg_of _ _ _ t8]; congr 1; omega
  · rw [seg_of _ _ _ t10]; congr 1; omega
end Ck
end Go.Proofs.YtlcbjkkcfenlmaaDoor
