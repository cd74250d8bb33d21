import Derived.Test.YtagfgnpjljaefaaDoorDcWalkE
import Derived.Test.YtagfgnpjljaefaaDoorDig
import Derived.Lib.AppendIntMem
set_option linter.unusedVariables false
set_option linter.unusedSimpArgs false
namespace Go.Proofs.YtagfgnpjljaefaaDoor
open Go.RowKit
theorem repeat_one (c : UInt8) : ∀ n, Lib.repeatL [c] n = List.replicate n c
  | 0 => rfl
  | n + 1 => by rw [Lib.repeatL, repeat_one c n]; rfl
theorem repeat0_any (x : Int) (w : World) (h0 : 0 ≤ x) (h1 : x ≤ 1000) :
    Calls Tryd.prog 16 #[.string ⟨#[48]⟩, .int .i64 x] w fun e w' => e = .returned (.string ⟨(List.replicate x.toNat 48).toArray⟩) ∧ Gr w w' := by
  obtain ⟨c, rfl⟩ := Int.eq_ofNat_of_zero_le h0
  have := Tryd.strings_Repeat ⟨#[48]⟩ c w (by omega) (by show 1 * c ≤ _; omega)
  have e : Lib.repeatL (⟨#[48]⟩ : ByteArray).data.toList c = List.replicate c 48 := repeat_one 48 c
  rw [e] at this
  exact this
theorem str_eq {a b : List UInt8} (h : a = b) : Ending.returned (.string ⟨a.toArray⟩) = .returned (.string ⟨b.toArray⟩) := by rw [h]
theorem bytes_app (a b : List UInt8) : (⟨a.toArray⟩ : ByteArray) ++ ⟨b.toArray⟩ = ⟨(a ++ b).toArray⟩ := by
  apply ByteArray.ext; simp [ByteArray.data_append]
/-- The table of powers of ten, as the program's text lays it. -/
def Tab (w : World) : Prop := Lib.TabIs Tryd.prog w "internal/strconv.uint64pow10" .u64 Lib.pow10Tab
theorem Tab.gr {w w' : World} (h : Tab w) (hg : Gr w w') : Tab w' := Lib.tabBelow_of_tabIs h w' hg
theorem itoa_any (x : Int) (w : World) (h0 : 0 ≤ x) (h1 : x ≤ 9223372036854775807) (ht : x < 100 ∨ Tab w) :
    Calls Tryd.prog 30 #[.int .i64 x] w fun e w' => e = .returned (.string ⟨(Lib.decDigits x.toNat).toArray⟩) ∧ Gr w w' := by
  obtain ⟨n, rfl⟩ := Int.eq_ofNat_of_zero_le h0
  by_cases hs : n < 100
  · exact (Tryd.strconv_Itoa_small n hs w).mono fun e w' ⟨he, hw⟩ => ⟨he, by rw [hw]; exact Gr.refl _⟩
  · have ht' : Tab w := by rcases ht with h | h; omega; exact h
    refine (Tryd.strconv_Itoa n (by omega) h1 w ht').mono fun e w' ⟨he, k, os, hw⟩ => ⟨?_, ?_⟩
    · rw [he, Lib.itoa_nonneg]; rfl
    · rw [hw]; exact Lib.below_grow _ w (Nat.le_refl _) k os
namespace Dg
theorem nDigits_ge : ∀ n : Nat, 1 ≤ n → 10 ^ (Lib.nDigits n - 1) ≤ n := by
  intro n
  induction n using Nat.strongRecOn with
  | ind n ih =>
    intro h1
    rw [Lib.nDigits]
    split
    · simpa using h1
    · have := ih (n / 10) (by omega) (by omega)
      have p := nDigits_pos (n / 10)
      obtain ⟨j, hj⟩ : ∃ j, Lib.nDigits (n / 10) = j + 1 := ⟨Lib.nDigits (n / 10) - 1, by omega⟩
      rw [hj] at this ⊢
      simp only [Nat.add_sub_cancel] at this ⊢
      rw [Nat.pow_succ]; omega
theorem more {n c k : Nat} (hc : 1 ≤ c) : k < max c (Lib.nDigits n) ↔ (0 < n / 10 ^ k ∨ k < c) := by
  have hp : 0 < 10 ^ k := Nat.pow_pos (by omega)
  have e : 0 < n / 10 ^ k ↔ 10 ^ k ≤ n := by rw [Nat.div_pos_iff]; omega
  rw [e]
  constructor
  · intro h
    by_cases hk : k < c
    · exact Or.inr hk
    · left
      have hd : k < Lib.nDigits n := by omega
      by_cases h1 : 1 ≤ n
      · exact Nat.le_trans (Nat.pow_le_pow_right (by omega) (by omega)) (nDigits_ge n h1)
      · have : n = 0 := by omega
        subst this
        rw [Lib.nDigits] at hd; simp at hd; omega
  · intro h
    rcases h with h | h
    · have := nDigits_lt n
      have : k < Lib.nDigits n := by
        rcases Nat.lt_or_ge k (Lib.nDigits n) with a | a
        · exact a
        · have := Nat.pow_le_pow_right (show 0 < 10 by omega) a; omega
      omega
    · omega
end Dg
theorem one_byte (W : World) (x : Nat) (hx : x < 256) : (convert 38 9 (.slice (some ⟨W.heap.size, 0, none⟩) 1 1)).run Tryd.prog (W.alloc (.cells #[.int .u8 (x : Int)] 5)) = .ok (.string ⟨#[UInt8.ofNat x]⟩) (W.alloc (.cells #[.int .u8 (x : Int)] 5)) := by
  refine run_convert_bytes_back _ _ _ 5 _ _ [UInt8.ofNat x] Tryd.underlying38 Tryd.underlying5 Tryd.underlying9 fun j hj => ?_
  have : j = 0 := by simpa using hj
  subst this
  have hb : ((UInt8.ofNat x).toNat : Int) = x := by rw [UInt8.toNat_ofNat']; omega
  simp only [List.getElem_cons_zero, hb]
  show World.cell? _ ⟨W.heap.size, 0, none⟩ = _
  rw [World.cell?_alloc_at _ _ _ _ rfl]; rfl
theorem bytes_app1 (c : UInt8) (b : List UInt8) : (⟨#[c]⟩ : ByteArray) ++ ⟨b.toArray⟩ = ⟨(c :: b).toArray⟩ := bytes_app [c] b
set_option maxRecDepth 100000 in
set_option maxHeartbeats 1000000 in
theorem rdigits_nat (n c : Nat) (w : World) (hn : n < 9223372036854775808) (hc : 1 ≤ c) (hc1 : c ≤ 20) :
    Calls Tryd.prog 31 #[.int .i64 n, .int .i64 c] w fun e w' => e = .returned (.string ⟨(Dg.dig n c).toArray⟩) ∧ Gr w w' := by
  have hm : max c (Lib.nDigits n) ≤ 20 := by have := Dg.nDigits_le (c := 19) (n := n) (by omega) (by omega); omega
  have HM := Lib.hid (fun k => Dg.more (n := n) (c := c) (k := k) hc)
  have HP := Lib.hid (Dg.dig_pd n c)
  have HL := Lib.hid (fun k => Dg.pd_len k n)
  generalize max c (Lib.nDigits n) = M at *
  go_enter Tryd.func31, Tryd.ntmps31
  go_wp2_with fail
  go_loopw [0, 5] (fun s0 s5 wr => ∃ k q : Nat, k ≤ M ∧ Hid (q = n / 10 ^ k) ∧ s0 = .int .i64 q ∧ s5 = .string ⟨(Dg.pd n k).toArray⟩ ∧ Gr w wr ∧ q < 9223372036854775808) (fun s0 s5 _ => M - (match s5 with | .string s => s.size | _ => 0))
  case atStart => exact ⟨0, n, by omega, Lib.hid (by simp), rfl, rfl, (by repeat' (first | (with_reducible exact Gr.refl _) | (with_reducible assumption) | (with_reducible refine Gr.alloc ?_ _) | (with_reducible refine Gr.drew ?_) | (with_reducible refine Gr.drewN ?_ _) | (with_reducible refine Gr.setCell ?_ ?_ _) | (with_reducible refine Gr.trans ?_ (by with_reducible assumption)) | go_size)), hn⟩
  case round =>
    obtain ⟨k, q, hk, hq, rfl, rfl, hg, hq1⟩ := hrel
    have hl := HL.out k
    have hmk := HM.out k
    rw [← hq.out] at hmk
    have HPD := Lib.hid (Dg.pd_cons k n)
    rw [← hq.out] at HPD
    have hl' : (Dg.pd n k).length ≤ 20 := by omega
    have HLk := Lib.hid hl
    have HLk1 := Lib.hid (HL.out (k + 1))
    clear hl
    by_cases hkM : k < M
    · have hor := hmk.1 hkM
      have HMK := Lib.hid hmk; clear hmk
      have hq10 : q / 10 < 9223372036854775808 := by omega
      have hqq : Hid (q / 10 = n / 10 ^ (k + 1)) := Lib.hid (by rw [hq.out, Nat.div_div_eq_div_mul, Nat.pow_succ])
      have hcv : ∀ W : World, (convert 38 9 (.slice (some ⟨W.heap.size, 0, none⟩) 1 1)).run Tryd.prog (W.alloc (.cells #[.int .u8 (48 + (q : Int) % 10)] 5)) = .ok (.string ⟨#[UInt8.ofNat (48 + q % 10)]⟩) (W.alloc (.cells #[.int .u8 (48 + (q : Int) % 10)] 5)) := fun W => by
        have := one_byte W (48 + q % 10) (by omega)
        rw [show ((48 + q % 10 : Nat) : Int) = 48 + (q : Int) % 10 by omega] at this
        exact this
      generalize UInt8.ofNat (48 + q % 10) = dc at *
      by_cases hq0 : 0 < q
      · have t1 : decide ((0 : Int) < (q : Int)) = true := decide_eq_true (by omega)
        clear hor
        go_wp2_with fail
        go_roundw
        case rel => exact ⟨k + 1, q / 10, by omega, hqq, by go_num, by rw [HPD.out]; exact congrArg Value.string (by apply ByteArray.ext; simp [ByteArray.data_append]), (by repeat' (first | (with_reducible exact Gr.refl _) | (with_reducible assumption) | (with_reducible refine Gr.alloc ?_ _) | (with_reducible refine Gr.drew ?_) | (with_reducible refine Gr.drewN ?_ _) | (with_reducible refine Gr.setCell ?_ ?_ _) | (with_reducible refine Gr.trans ?_ (by with_reducible assumption)) | go_size)), hq10⟩
        case measure => simp [ByteArray.size, Dg.pd_len]; omega
      · have t1 : decide ((0 : Int) < (q : Int)) = false := decide_eq_false (by omega)
        have hkc : k < c := by rcases hor with h | h; exact absurd h hq0; exact h
        have t2 : decide ((Dg.pd n k).length < c) = true := decide_eq_true (by rw [HLk.out]; exact hkc)
        clear hor
        go_wp2_with fail
        go_roundw
        case rel => exact ⟨k + 1, q / 10, by omega, hqq, by go_num, by rw [HPD.out]; exact congrArg Value.string (by apply ByteArray.ext; simp [ByteArray.data_append]), (by repeat' (first | (with_reducible exact Gr.refl _) | (with_reducible assumption) | (with_reducible refine Gr.alloc ?_ _) | (with_reducible refine Gr.drew ?_) | (with_reducible refine Gr.drewN ?_ _) | (with_reducible refine Gr.setCell ?_ ?_ _) | (with_reducible refine Gr.trans ?_ (by with_reducible assumption)) | go_size)), hq10⟩
        case measure => simp [ByteArray.size, Dg.pd_len]; omega
    · have hor : ¬ (0 < q ∨ k < c) := fun h => hkM (hmk.2 h)
      have t1 : decide ((0 : Int) < (q : Int)) = false := decide_eq_false (by omega)
      have t2 : decide ((Dg.pd n k).length < c) = false := decide_eq_false (by rw [HLk.out]; omega)
      obtain rfl : k = M := by omega
      clear hmk
      go_wp2_with fail
      go_ret
      exact ⟨str_eq (by rw [HP.out]), (by repeat' (first | (with_reducible exact Gr.refl _) | (with_reducible assumption) | (with_reducible refine Gr.alloc ?_ _) | (with_reducible refine Gr.drew ?_) | (with_reducible refine Gr.drewN ?_ _) | (with_reducible refine Gr.setCell ?_ ?_ _) | (with_reducible refine Gr.trans ?_ (by with_reducible assumption)) | go_size))⟩
end Go.Proofs.YtagfgnpjljaefaaDoor
