/-
  Decimal digits, plainly: the last k digits of a number; the text of a number with zeros ahead. No program here.
-/
import Derived.Test.YtllkiadedaghoaaGreatDoorOr06
import Derived.WalkKit
import Derived.Lib.ItoaNum
import Derived.LaidMore
import Derived.LaidSub
import Derived.MakeChecks
import Derived.Lib.LaidTab
set_option linter.unusedVariables false
set_option linter.unusedSimpArgs false
namespace Go.Proofs.YtllkiadedaghoaaGreatDoor
namespace Dg
/-- The last k digits. -/
def pd (n : Nat) : Nat → List UInt8
  | 0 => []
  | k + 1 => pd (n / 10) k ++ [UInt8.ofNat (48 + n % 10)]
theorem pd_len : ∀ (k n : Nat), (pd n k).length = k
  | 0, _ => rfl
  | k + 1, n => by rw [pd, List.length_append, pd_len k]; rfl
theorem pd_cons : ∀ (k n : Nat), pd n (k + 1) = UInt8.ofNat (48 + n / 10 ^ k % 10) :: pd n k
  | 0, n => by simp [pd]
  | k + 1, n => by
    rw [pd, pd_cons k (n / 10), pd, List.cons_append, Nat.div_div_eq_div_mul, Nat.pow_succ, Nat.mul_comm]
theorem nDigits_lt : ∀ n : Nat, n < 10 ^ Lib.nDigits n := by
  intro n
  induction n using Nat.strongRecOn with
  | ind n ih =>
    rw [Lib.nDigits]
    split
    · omega
    · have := ih (n / 10) (by omega)
      rw [Nat.pow_succ]
      have := (Nat.div_lt_iff_lt_mul (by omega : 0 < 10)).1 this
      omega
theorem nDigits_pos (n : Nat) : 1 ≤ Lib.nDigits n := by rw [Lib.nDigits]; split <;> omega
theorem dec_pd : ∀ n : Nat, Lib.decDigits n = pd n (Lib.nDigits n) := by
  intro n
  induction n using Nat.strongRecOn with
  | ind n ih =>
    rw [Lib.decDigits, Lib.nDigits]
    split
    · rename_i h; rw [pd, pd, List.nil_append, Nat.mod_eq_of_lt h]
    · rw [ih (n / 10) (by omega), pd]
theorem pd_zeros : ∀ (j k n : Nat), n < 10 ^ k → pd n (k + j) = List.replicate j 48 ++ pd n k
  | 0, k, n, _ => by simp
  | j + 1, k, n, h => by
    rw [← Nat.add_assoc, pd_cons, pd_zeros j k n h, List.replicate_succ, List.cons_append]
    have : n / 10 ^ (k + j) = 0 := Nat.div_eq_of_lt (Nat.lt_of_lt_of_le h (Nat.pow_le_pow_right (by omega) (by omega)))
    rw [this]; rfl
/-- The digits of a number, zeros ahead, at least c of them. -/
def dig (n c : Nat) : List UInt8 := List.replicate (c - (Lib.decDigits n).length) 48 ++ Lib.decDigits n
theorem dig_pd (n c : Nat) : dig n c = pd n (max c (Lib.nDigits n)) := by
  unfold dig
  rw [Lib.decDigits_length, dec_pd, ← pd_zeros _ _ _ (nDigits_lt n)]
  congr 1; omega
theorem dig_len (n c : Nat) : (dig n c).length = max c (Lib.nDigits n) := by rw [dig_pd, pd_len]
theorem nDigits_le : ∀ {c n : Nat}, 1 ≤ c → n < 10 ^ c → Lib.nDigits n ≤ c
  | 0, _, h, _ => by omega
  | 1, n, _, h => by rw [Lib.nDigits, dif_pos (by simpa using h)]; omega
  | c + 2, n, _, h => by
    rw [Lib.nDigits]
    split
    · omega
    · have := nDigits_le (c := c + 1) (n := n / 10) (by omega) (by rw [Nat.div_lt_iff_lt_mul (by omega)]; rw [Nat.pow_succ] at h; omega); omega
theorem dig_pad {n c : Nat} (h : n < 10 ^ c) (hc : 1 ≤ c) : dig n c = pd n c := by
  rw [dig_pd]
  have : Lib.nDigits n ≤ c := nDigits_le hc h
  rw [Nat.max_eq_left this]
/-- The number that digits stand for. -/
def val (l : List UInt8) : Nat := l.foldl (fun a c => 10 * a + (c.toNat - 48)) 0
theorem dig_byte (n : Nat) : (UInt8.ofNat (48 + n % 10)).toNat = 48 + n % 10 := by
  rw [UInt8.toNat_ofNat']; omega
end Dg
end Go.Proofs.YtllkiadedaghoaaGreatDoor
set_option linter.unusedVariables false
set_option linter.unusedSimpArgs false
namespace Go.Proofs.YtllkiadedaghoaaGreatDoor
open Go.RowKit
namespace Dg
theorem nDigits_ge : ∀ n : Nat, 1 ≤ n → 10 ^ (Lib.nDigits n - 1) ≤ n := by
  intro n
  induction n using Nat.strongRecOn with
  | ind n ih =>
    intro h1
    rw [Lib.nDigits]
    split
    · simpa using h1
    · have := ih (n / 10) (by omega) (by omega)
      have p := nDigits_pos (n / 10)
      obtain ⟨j, hj⟩ : ∃ j, Lib.nDigits (n / 10) = j + 1 := ⟨Lib.nDigits (n / 10) - 1, by omega⟩
      rw [hj] at this ⊢
      simp only [Nat.add_sub_cancel] at this ⊢
      rw [Nat.pow_succ]; omega
theorem more {n c k : Nat} (hc : 1 ≤ c) : k < max c (Lib.nDigits n) ↔ (0 < n / 10 ^ k ∨ k < c) := by
  have hp : 0 < 10 ^ k := Nat.pow_pos (by omega)
  have e : 0 < n / 10 ^ k ↔ 10 ^ k ≤ n := by rw [Nat.div_pos_iff]; omega
  rw [e]
  constructor
  · intro h
    by_cases hk : k < c
    · exact Or.inr hk
    · left
      have hd : k < Lib.nDigits n := by omega
      by_cases h1 : 1 ≤ n
      · exact Nat.le_trans (Nat.pow_le_pow_right (by omega) (by omega)) (nDigits_ge n h1)
      · have : n = 0 := by omega
        subst this
        rw [Lib.nDigits] at hd; simp at hd; omega
  · intro h
    rcases h with h | h
    · have := nDigits_lt n
      have : k < Lib.nDigits n := by
        rcases Nat.lt_or_ge k (Lib.nDigits n) with a | a
        · exact a
        · have := Nat.pow_le_pow_right (show 0 < 10 by omega) a; omega
      omega
    · omega
end Dg
theorem one_byte (W : World) (x : Nat) (hx : x < 256) : (convert 100 9 (.slice (some ⟨W.heap.size, 0, none⟩) 1 1)).run Tryz.prog (W.alloc (.cells #[.int .u8 (x : Int)] 5)) = .ok (.string ⟨#[UInt8.ofNat x]⟩) (W.alloc (.cells #[.int .u8 (x : Int)] 5)) := by
  refine run_convert_bytes_back _ _ _ 5 _ _ [UInt8.ofNat x] Tryz.underlying100 Tryz.underlying5 Tryz.underlying9 fun j hj => ?_
  have : j = 0 := by simpa using hj
  subst this
  have hb : ((UInt8.ofNat x).toNat : Int) = x := by rw [UInt8.toNat_ofNat']; omega
  simp only [List.getElem_cons_zero, hb]
  show World.cell? _ ⟨W.heap.size, 0, none⟩ = _
  rw [World.cell?_alloc_at _ _ _ _ rfl]; rfl
set_option maxRecDepth 100000 in
set_option maxHeartbeats 1000000 in
theorem rdigits_nat (n c : Nat) (w : World) (hn : n < 9223372036854775808) (hc : 1 ≤ c) (hc1 : c ≤ 20) :
    Calls Tryz.prog 86 #[.int .i64 n, .int .i64 c] w fun e w' => e = .returned (.string ⟨(Dg.dig n c).toArray⟩) ∧ Gr w w' := by
  have hm : max c (Lib.nDigits n) ≤ 20 := by have := Dg.nDigits_le (c := 19) (n := n) (by omega) (by omega); omega
  have HM := Lib.hid (fun k => Dg.more (n := n) (c := c) (k := k) hc)
  have HP := Lib.hid (Dg.dig_pd n c)
  have HL := Lib.hid (fun k => Dg.pd_len k n)
  generalize max c (Lib.nDigits n) = M at *
  go_enter Tryz.func86, Tryz.ntmps86
  go_wp2_with fail
  go_loopw [0, 5] (fun s0 s5 wr => ∃ k q : Nat, k ≤ M ∧ Hid (q = n / 10 ^ k) ∧ s0 = .int .i64 q ∧ s5 = .string ⟨(Dg.pd n k).toArray⟩ ∧ Gr w wr ∧ q < 9223372036854775808) (fun s0 s5 _ => M - (match s5 with | .string s => s.size | _ => 0))
  case atStart => exact ⟨0, n, by omega, Lib.hid (by simp), rfl, rfl, gr_auto, hn⟩
  case round =>
    obtain ⟨k, q, hk, hq, rfl, rfl, hg, hq1⟩ := hrel
    have hl := HL.out k
    have hmk := HM.out k
    rw [← hq.out] at hmk
    have HPD := Lib.hid (Dg.pd_cons k n)
    rw [← hq.out] at HPD
    have hl' : (Dg.pd n k).length ≤ 20 := by omega
    have HLk := Lib.hid hl
    have HLk1 := Lib.hid (HL.out (k + 1))
    clear hl
    by_cases hkM : k < M
    · have hor := hmk.1 hkM
      have HMK := Lib.hid hmk; clear hmk
      have hq10 : q / 10 < 9223372036854775808 := by omega
      have hqq : Hid (q / 10 = n / 10 ^ (k + 1)) := Lib.hid (by rw [hq.out, Nat.div_div_eq_div_mul, Nat.pow_succ])
      have hcv : ∀ W : World, (convert 100 9 (.slice (some ⟨W.heap.size, 0, none⟩) 1 1)).run Tryz.prog (W.alloc (.cells #[.int .u8 (48 + (q : Int) % 10)] 5)) = .ok (.string ⟨#[UInt8.ofNat (48 + q % 10)]⟩) (W.alloc (.cells #[.int .u8 (48 + (q : Int) % 10)] 5)) := fun W => by
        have := one_byte W (48 + q % 10) (by omega)
        rw [show ((48 + q % 10 : Nat) : Int) = 48 + (q : Int) % 10 by omega] at this
        exact this
      generalize UInt8.ofNat (48 + q % 10) = dc at *
      by_cases hq0 : 0 < q
      · have t1 : decide ((0 : Int) < (q : Int)) = true := decide_eq_true (by omega)
        clear hor
        go_wp2_with fail
        go_roundw
        case rel => exact ⟨k + 1, q / 10, by omega, hqq, by go_num, by rw [HPD.out]; exact congrArg Value.string (by apply ByteArray.ext; simp [ByteArray.data_append]), gr_auto, hq10⟩
        case measure => simp [ByteArray.size, Dg.pd_len]; omega
      · have t1 : decide ((0 : Int) < (q : Int)) = false := decide_eq_false (by omega)
        have hkc : k < c := by rcases hor with h | h; exact absurd h hq0; exact h
        have t2 : decide ((Dg.pd n k).length < c) = true := decide_eq_true (by rw [HLk.out]; exact hkc)
        clear hor
        go_wp2_with fail
        go_roundw
        case rel => exact ⟨k + 1, q / 10, by omega, hqq, by go_num, by rw [HPD.out]; exact congrArg Value.string (by apply ByteArray.ext; simp [ByteArray.data_append]), gr_auto, hq10⟩
        case measure => simp [ByteArray.size, Dg.pd_len]; omega
    · have hor : ¬ (0 < q ∨ k < c) := fun h => hkM (hmk.2 h)
      have t1 : decide ((0 : Int) < (q : Int)) = false := decide_eq_false (by omega)
      have t2 : decide ((Dg.pd n k).length < c) = false := decide_eq_false (by rw [HLk.out]; omega)
      obtain rfl : k = M := by omega
      clear hmk
      go_wp2_with fail
      go_ret
      exact ⟨str_eq (by rw [HP.out]), gr_auto⟩
end Go.Proofs.YtllkiadedaghoaaGreatDoor
set_option linter.unusedVariables false
set_option linter.unusedSimpArgs false
namespace Go.Proofs.YtllkiadedaghoaaGreatDoor
open Go.RowKit
theorem rdigits_any (x c : Int) (w : World) (h0 : 0 ≤ x) (h1 : x ≤ 9223372036854775807) (c0 : 1 ≤ c) (c1 : c ≤ 20) :
    Calls Tryz.prog 86 #[.int .i64 x, .int .i64 c] w fun e w' => e = .returned (.string ⟨(Ck.dig x.toNat c.toNat).toArray⟩) ∧ Gr w w' := by
  obtain ⟨n, rfl⟩ := Int.eq_ofNat_of_zero_le h0
  obtain ⟨c, rfl⟩ := Int.eq_ofNat_of_zero_le (show 0 ≤ c by omega)
  exact rdigits_nat n c w (by omega) (by omega) (by omega)
set_option maxHeartbeats 400000 in
theorem rhours_any (s : Int) (w : World) (h0 : 0 ≤ s) (h1 : s < 86400) :
    Calls Tryz.prog 87 #[.int .i64 s] w fun e w' => e = .returned (.string ⟨(Ck.hrs s).toArray⟩) ∧ Gr w w' := by
  have l1 : (Ck.dig (s / 3600).toNat 2).length ≤ 2 := by rw [Ck.dig_len (by omega)]; omega
  have l2 : (Ck.dig (s / 60 % 60).toNat 2).length ≤ 2 := by rw [Ck.dig_len (by omega)]; omega
  have l3 : (Ck.dig (s % 60).toNat 2).length ≤ 2 := by rw [Ck.dig_len (by omega)]; omega
  have HH := Lib.hid (show Ck.hrs s = Ck.dig (s / 3600).toNat 2 ++ [58] ++ Ck.dig (s / 60 % 60).toNat 2 ++ [58] ++ Ck.dig (s % 60).toNat 2 from rfl)
  have H1 := Lib.hid (fun W => rdigits_any (s / 3600) 2 W (by omega) (by omega) (by omega) (by omega))
  have H2 := Lib.hid (fun W => rdigits_any (s / 60 % 60) 2 W (by omega) (by omega) (by omega) (by omega))
  have H3 := Lib.hid (fun W => rdigits_any (s % 60) 2 W (by omega) (by omega) (by omega) (by omega))
  have e2 : (2 : Int).toNat = 2 := rfl
  rw [e2] at H1 H2 H3
  clear e2
  generalize Ck.dig (s / 3600).toNat 2 = a at *
  generalize Ck.dig (s / 60 % 60).toNat 2 = b at *
  generalize Ck.dig (s % 60).toNat 2 = c at *
  go_enter Tryz.func87, Tryz.ntmps87
  go_wp2_with fail; refine (H1.out _).mono ?_; rintro e w1 ⟨rfl, hb1⟩; obtain ⟨hc1, hf1⟩ := Gr.cells hb1; have hz1 := Gr.size hb1; (try simp at hz1); (try have hy1_0 : w.heap.size < w1.heap.size := by omega); (try have hy1_1 : w.heap.size + 1 < w1.heap.size := by omega); (try have hy1_2 : w.heap.size + 1 + 1 < w1.heap.size := by omega); (try have hy1_3 : w.heap.size + 1 + 1 + 1 < w1.heap.size := by omega); (try have hy1_4 : w.heap.size + 1 + 1 + 1 + 1 < w1.heap.size := by omega); (try have hy1_5 : w.heap.size + 1 + 1 + 1 + 1 + 1 < w1.heap.size := by omega)
  go_wp2_with fail; refine (H2.out _).mono ?_; rintro e w2 ⟨rfl, hb2⟩; obtain ⟨hc2, hf2⟩ := Gr.cells hb2; have hz2 := Gr.size hb2; (try simp at hz2); (try have hy2_0 : w.heap.size < w2.heap.size := by omega); (try have hy2_1 : w.heap.size + 1 < w2.heap.size := by omega); (try have hy2_2 : w.heap.size + 1 + 1 < w2.heap.size := by omega); (try have hy2_3 : w.heap.size + 1 + 1 + 1 < w2.heap.size := by omega); (try have hy2_4 : w.heap.size + 1 + 1 + 1 + 1 < w2.heap.size := by omega); (try have hy2_5 : w.heap.size + 1 + 1 + 1 + 1 + 1 < w2.heap.size := by omega); (try have hy2_1_0 : w1.heap.size < w2.heap.size := by omega); (try have hy2_1_1 : w1.heap.size + 1 < w2.heap.size := by omega)
  go_wp2_with fail; refine (H3.out _).mono ?_; rintro e w3 ⟨rfl, hb3⟩; obtain ⟨hc3, hf3⟩ := Gr.cells hb3; have hz3 := Gr.size hb3; (try simp at hz3); (try have hy3_0 : w.heap.size < w3.heap.size := by omega); (try have hy3_1 : w.heap.size + 1 < w3.heap.size := by omega); (try have hy3_2 : w.heap.size + 1 + 1 < w3.heap.size := by omega); (try have hy3_3 : w.heap.size + 1 + 1 + 1 < w3.heap.size := by omega); (try have hy3_4 : w.heap.size + 1 + 1 + 1 + 1 < w3.heap.size := by omega); (try have hy3_5 : w.heap.size + 1 + 1 + 1 + 1 + 1 < w3.heap.size := by omega); (try have hy3_1_0 : w1.heap.size < w3.heap.size := by omega); (try have hy3_1_1 : w1.heap.size + 1 < w3.heap.size := by omega); (try have hy3_2_0 : w2.heap.size < w3.heap.size := by omega); (try have hy3_2_1 : w2.heap.size + 1 < w3.heap.size := by omega)
  go_wp2
  go_ret
  refine ⟨?_, gr_auto⟩
  rw [HH.out, ← bytes_app, ← bytes_app, ← bytes_app, ← bytes_app]
  rfl
end Go.Proofs.YtllkiadedaghoaaGreatDoor
