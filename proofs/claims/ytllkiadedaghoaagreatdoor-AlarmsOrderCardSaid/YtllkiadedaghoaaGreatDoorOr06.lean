/-
  
-/
import Derived.Test.YtllkiadedaghoaaGreatDoorOr04
import Derived.Test.YtllkiadedaghoaaGreatDoorOr05
import Derived.Lib.AppendIntMem
set_option linter.unusedVariables false
set_option linter.unusedSimpArgs false
namespace Go.Proofs.YtllkiadedaghoaaGreatDoor
open Go.RowKit
namespace Ck
theorem repeat_one (c : UInt8) : ∀ n, Lib.repeatL [c] n = List.replicate n c
  | 0 => rfl
  | n + 1 => by rw [Lib.repeatL, repeat_one c n]; rfl
/-- The digits of a number, zeros ahead, at least c of them. -/
def dig (n c : Nat) : List UInt8 := List.replicate (c - (Lib.decDigits n).length) 48 ++ Lib.decDigits n
theorem dec_len {n : Nat} (h : n < 100) : 1 ≤ (Lib.decDigits n).length ∧ (Lib.decDigits n).length ≤ 2 := by
  by_cases h1 : n < 10
  · rw [Lib.decDigits_one h1]; simp
  · rw [Lib.decDigits_two h1 h]; simp
end Ck
theorem repeat0_any (x : Int) (w : World) (h0 : 0 ≤ x) (h1 : x ≤ 1000) :
    Calls Tryz.prog 104 #[.string ⟨#[48]⟩, .int .i64 x] w fun e w' => e = .returned (.string ⟨(List.replicate x.toNat 48).toArray⟩) ∧ Gr w w' := by
  obtain ⟨c, rfl⟩ := Int.eq_ofNat_of_zero_le h0
  have := Tryz.strings_Repeat ⟨#[48]⟩ c w (by omega) (by show 1 * c ≤ _; omega)
  have e : Lib.repeatL (⟨#[48]⟩ : ByteArray).data.toList c = List.replicate c 48 := Ck.repeat_one 48 c
  rw [e] at this
  exact this
theorem str_eq {a b : List UInt8} (h : a = b) : Ending.returned (.string ⟨a.toArray⟩) = .returned (.string ⟨b.toArray⟩) := by rw [h]
theorem bytes_app (a b : List UInt8) : (⟨a.toArray⟩ : ByteArray) ++ ⟨b.toArray⟩ = ⟨(a ++ b).toArray⟩ := by
  apply ByteArray.ext; simp [ByteArray.data_append]
set_option maxHeartbeats 400000 in
theorem digits_of (n c : Nat) (w : World) (hl : (Lib.decDigits n).length ≤ 20) (hc : c ≤ 20)
    (hi : ∀ W : World, Gr w W → Calls Tryz.prog 28 #[.int .i64 n] W fun e w' => e = .returned (.string ⟨(Lib.decDigits n).toArray⟩) ∧ Gr W w') :
    Calls Tryz.prog 60 #[.int .i64 n, .int .i64 c] w fun e w' => e = .returned (.string ⟨(Ck.dig n c).toArray⟩) ∧ Gr w w' := by
  have HI := Lib.hid hi; clear hi
  have hd : Ck.dig n c = List.replicate (c - (Lib.decDigits n).length) 48 ++ Lib.decDigits n := rfl
  have HD := Lib.hid hd; clear hd
  generalize Lib.decDigits n = l at *
  go_enter Tryz.func60, Tryz.ntmps60
  go_wp2_with fail; refine (HI.out _ gr_auto).mono ?_; rintro e w1 ⟨rfl, hb1⟩; obtain ⟨hc1, hf1⟩ := Gr.cells hb1; have hz1 := Gr.size hb1; (try simp at hz1); (try have hy1_0 : w.heap.size < w1.heap.size := by omega); (try have hy1_1 : w.heap.size + 1 < w1.heap.size := by omega); (try have hy1_2 : w.heap.size + 1 + 1 < w1.heap.size := by omega); (try have hy1_3 : w.heap.size + 1 + 1 + 1 < w1.heap.size := by omega); (try have hy1_4 : w.heap.size + 1 + 1 + 1 + 1 < w1.heap.size := by omega); (try have hy1_5 : w.heap.size + 1 + 1 + 1 + 1 + 1 < w1.heap.size := by omega)
  go_wp2_with fail; refine (repeat0_any _ _ (by omega) (by omega)).mono ?_; rintro e w2 ⟨rfl, hb2⟩; obtain ⟨hc2, hf2⟩ := Gr.cells hb2; have hz2 := Gr.size hb2; (try simp at hz2); (try have hy2_0 : w.heap.size < w2.heap.size := by omega); (try have hy2_1 : w.heap.size + 1 < w2.heap.size := by omega); (try have hy2_2 : w.heap.size + 1 + 1 < w2.heap.size := by omega); (try have hy2_3 : w.heap.size + 1 + 1 + 1 < w2.heap.size := by omega); (try have hy2_4 : w.heap.size + 1 + 1 + 1 + 1 < w2.heap.size := by omega); (try have hy2_5 : w.heap.size + 1 + 1 + 1 + 1 + 1 < w2.heap.size := by omega); (try have hy2_1_0 : w1.heap.size < w2.heap.size := by omega); (try have hy2_1_1 : w1.heap.size + 1 < w2.heap.size := by omega)
  have he : (max 0 ((c : Int) - (l.length : Int))).toNat = c - l.length := by omega
  rw [he]
  have hk : c - l.length ≤ 20 := by omega
  generalize c - l.length = k at *
  have hrl : (List.replicate k (48 : UInt8)).length ≤ 20 := by simpa using hk
  generalize hr : List.replicate k (48 : UInt8) = r at *
  clear hr
  go_wp2
  go_ret
  refine ⟨?_, gr_auto⟩
  rw [HD.out, ← bytes_app]
  rfl
/-- The table of powers of ten, as the program's text lays it. -/
def Tab (w : World) : Prop := Lib.TabIs Tryz.prog w "internal/strconv.uint64pow10" .u64 Lib.pow10Tab
theorem Tab.gr {w w' : World} (h : Tab w) (hg : Gr w w') : Tab w' := Lib.tabBelow_of_tabIs h w' hg
namespace Ck
theorem nDigits_le : ∀ (k n : Nat), n < 10 ^ (k + 1) → Lib.nDigits n ≤ k + 1
  | 0, n, h => by rw [Lib.nDigits]; simp at h; rw [dif_pos h]; omega
  | k + 1, n, h => by
    rw [Lib.nDigits]
    split
    · omega
    · have := nDigits_le k (n / 10) (by rw [Nat.div_lt_iff_lt_mul (by omega)]; rw [Nat.pow_succ] at h; omega); omega
theorem dec_le {n : Nat} (h : n < 9223372036854775808) : (Lib.decDigits n).length ≤ 19 := by
  rw [Lib.decDigits_length]
  exact nDigits_le 18 n (by omega)
end Ck
theorem itoa_any (x : Int) (w : World) (h0 : 0 ≤ x) (h1 : x ≤ 9223372036854775807) (ht : x < 100 ∨ Tab w) :
    Calls Tryz.prog 28 #[.int .i64 x] w fun e w' => e = .returned (.string ⟨(Lib.decDigits x.toNat).toArray⟩) ∧ Gr w w' := by
  obtain ⟨n, rfl⟩ := Int.eq_ofNat_of_zero_le h0
  by_cases hs : n < 100
  · exact (Tryz.strconv_Itoa_small n hs w).mono fun e w' ⟨he, hw⟩ => ⟨he, by rw [hw]; exact Gr.refl _⟩
  · have ht' : Tab w := by rcases ht with h | h; omega; exact h
    refine (Tryz.strconv_Itoa n (by omega) h1 w ht').mono fun e w' ⟨he, k, os, hw⟩ => ⟨?_, ?_⟩
    · rw [he, Lib.itoa_nonneg]; rfl
    · rw [hw]; exact Lib.below_grow _ w (Nat.le_refl _) k os
theorem digits_any (x c : Int) (w : World) (h0 : 0 ≤ x) (h1 : x ≤ 9223372036854775807) (c0 : 0 ≤ c) (c1 : c ≤ 20) (ht : x < 100 ∨ Tab w) :
    Calls Tryz.prog 60 #[.int .i64 x, .int .i64 c] w fun e w' => e = .returned (.string ⟨(Ck.dig x.toNat c.toNat).toArray⟩) ∧ Gr w w' := by
  obtain ⟨n, rfl⟩ := Int.eq_ofNat_of_zero_le h0
  obtain ⟨c, rfl⟩ := Int.eq_ofNat_of_zero_le c0
  have hl := Ck.dec_le (n := n) (by omega)
  refine digits_of n c w (by omega) (by omega) fun W hg => ?_
  exact itoa_any n W h0 h1 (ht.imp id fun h => h.gr hg)
namespace Ck
theorem dig_len {n : Nat} (h : n < 100) : (dig n 2).length = 2 := by
  have := dec_len h; unfold dig; simp; omega
/-- The text of a time of day. -/
def hrs (s : Int) : List UInt8 := dig (s / 3600).toNat 2 ++ [58] ++ dig (s / 60 % 60).toNat 2 ++ [58] ++ dig (s % 60).toNat 2
theorem hrs_len {s : Int} (h0 : 0 ≤ s) (h1 : s < 86400) : (hrs s).length = 8 := by
  unfold hrs; simp only [List.length_append, List.length_cons, List.length_nil]
  rw [dig_len (by omega), dig_len (by omega), dig_len (by omega)]
end Ck
set_option maxHeartbeats 400000 in
theorem hours_any (s : Int) (w : World) (h0 : 0 ≤ s) (h1 : s < 86400) :
    Calls Tryz.prog 61 #[.int .i64 s] w fun e w' => e = .returned (.string ⟨(Ck.hrs s).toArray⟩) ∧ Gr w w' := by
  have l1 : (Ck.dig (s / 3600).toNat 2).length ≤ 2 := by rw [Ck.dig_len (by omega)]; omega
  have l2 : (Ck.dig (s / 60 % 60).toNat 2).length ≤ 2 := by rw [Ck.dig_len (by omega)]; omega
  have l3 : (Ck.dig (s % 60).toNat 2).length ≤ 2 := by rw [Ck.dig_len (by omega)]; omega
  have HH := Lib.hid (show Ck.hrs s = Ck.dig (s / 3600).toNat 2 ++ [58] ++ Ck.dig (s / 60 % 60).toNat 2 ++ [58] ++ Ck.dig (s % 60).toNat 2 from rfl)
  have H1 := Lib.hid (fun W => digits_any (s / 3600) 2 W (by omega) (by omega) (by omega) (by omega) (Or.inl (by omega)))
  have H2 := Lib.hid (fun W => digits_any (s / 60 % 60) 2 W (by omega) (by omega) (by omega) (by omega) (Or.inl (by omega)))
  have H3 := Lib.hid (fun W => digits_any (s % 60) 2 W (by omega) (by omega) (by omega) (by omega) (Or.inl (by omega)))
  have e2 : (2 : Int).toNat = 2 := rfl
  rw [e2] at H1 H2 H3
  clear e2
  generalize Ck.dig (s / 3600).toNat 2 = a at *
  generalize Ck.dig (s / 60 % 60).toNat 2 = b at *
  generalize Ck.dig (s % 60).toNat 2 = c at *
  go_enter Tryz.func61, Tryz.ntmps61
  go_wp2_with fail; refine (H1.out _).mono ?_; rintro e w1 ⟨rfl, hb1⟩; obtain ⟨hc1, hf1⟩ := Gr.cells hb1; have hz1 := Gr.size hb1; (try simp at hz1); (try have hy1_0 : w.heap.size < w1.heap.size := by omega); (try have hy1_1 : w.heap.size + 1 < w1.heap.size := by omega); (try have hy1_2 : w.heap.size + 1 + 1 < w1.heap.size := by omega); (try have hy1_3 : w.heap.size + 1 + 1 + 1 < w1.heap.size := by omega); (try have hy1_4 : w.heap.size + 1 + 1 + 1 + 1 < w1.heap.size := by omega); (try have hy1_5 : w.heap.size + 1 + 1 + 1 + 1 + 1 < w1.heap.size := by omega)
  go_wp2_with fail; refine (H2.out _).mono ?_; rintro e w2 ⟨rfl, hb2⟩; obtain ⟨hc2, hf2⟩ := Gr.cells hb2; have hz2 := Gr.size hb2; (try simp at hz2); (try have hy2_0 : w.heap.size < w2.heap.size := by omega); (try have hy2_1 : w.heap.size + 1 < w2.heap.size := by omega); (try have hy2_2 : w.heap.size + 1 + 1 < w2.heap.size := by omega); (try have hy2_3 : w.heap.size + 1 + 1 + 1 < w2.heap.size := by omega); (try have hy2_4 : w.heap.size + 1 + 1 + 1 + 1 < w2.heap.size := by omega); (try have hy2_5 : w.heap.size + 1 + 1 + 1 + 1 + 1 < w2.heap.size := by omega); (try have hy2_1_0 : w1.heap.size < w2.heap.size := by omega); (try have hy2_1_1 : w1.heap.size + 1 < w2.heap.size := by omega)
  go_wp2_with fail; refine (H3.out _).mono ?_; rintro e w3 ⟨rfl, hb3⟩; obtain ⟨hc3, hf3⟩ := Gr.cells hb3; have hz3 := Gr.size hb3; (try simp at hz3); (try have hy3_0 : w.heap.size < w3.heap.size := by omega); (try have hy3_1 : w.heap.size + 1 < w3.heap.size := by omega); (try have hy3_2 : w.heap.size + 1 + 1 < w3.heap.size := by omega); (try have hy3_3 : w.heap.size + 1 + 1 + 1 < w3.heap.size := by omega); (try have hy3_4 : w.heap.size + 1 + 1 + 1 + 1 < w3.heap.size := by omega); (try have hy3_5 : w.heap.size + 1 + 1 + 1 + 1 + 1 < w3.heap.size := by omega); (try have hy3_1_0 : w1.heap.size < w3.heap.size := by omega); (try have hy3_1_1 : w1.heap.size + 1 < w3.heap.size := by omega); (try have hy3_2_0 : w2.heap.size < w3.heap.size := by omega); (try have hy3_2_1 : w2.heap.size + 1 < w3.heap.size := by omega)
  go_wp2
  go_ret
  refine ⟨?_, gr_auto⟩
  rw [HH.out, ← bytes_app, ← bytes_app, ← bytes_app, ← bytes_app]
  rfl
theorem ret_si {a b : ByteArray} {x y : Int} (h : a = b) (h' : x = y) : Ending.returned (.tuple #[.string a, .int .i64 x]) = .returned (.tuple #[.string b, .int .i64 y]) := by rw [h, h']
end Go.Proofs.YtllkiadedaghoaaGreatDoor
