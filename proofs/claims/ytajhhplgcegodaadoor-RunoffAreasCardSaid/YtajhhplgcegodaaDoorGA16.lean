/-
  RunoffAreas: the reference of series of volumes; sums of the law. (Picked out of RoRa.)
  Decimal digits, plainly: the last k digits of a number; the text of a number with zeros ahead. No program here.
  Surfaces: the reference's Decimal. (Printed by mkn.py.)
-/
import Derived.Test.YtajhhplgcegodaaDoorRoV
import Derived.WalkKit
import Derived.Lib.ItoaNum
import Derived.Test.YtajhhplgcegodaaDoorGr
set_option linter.unusedVariables false
set_option linter.unusedSimpArgs false
namespace Go.Proofs.YtajhhplgcegodaaDoor
open Go.RowKit
attribute [local go_sem ↓] Go.wp_at_zero Go.wp_at_succ
set_option maxRecDepth 100000 in
set_option maxHeartbeats 4000000 in
theorem rseries_any (s : Ba.SlI) (w : World) (h : s.At w) : Calls Tryd.prog 48 #[.slice s.A s.n s.c] w fun e w' => e = .returned (.bool (Ba.volB s)) ∧ Gr w w' := by
  have hm := Nat.le_trans h.hc h.hb
  have HA := Lib.hid h.hA; have HX := Lib.hid h.hX
  clear h
  unfold Ba.volB Ba.wiB
  obtain ⟨A, n, c, b, o, X⟩ := s
  simp only at *
  by_cases hn : 10000 < n
  · rw [decide_eq_false (by omega), Bool.false_and]
    have t0 : (10000 : Int) < (n : Int) := by omega
    clear HX HA hn
    go_enter Tryd.func48, Tryd.ntmps48
    go_wp2_with fail
    go_ret
    exact ⟨rfl, gr_auto⟩
  rw [decide_eq_true (by omega), Bool.true_and]
  have t0 : (n : Int) ≤ 10000 := by omega
  clear hn
  go_enter Tryd.func48, Tryd.ntmps48
  go_wp2_with fail
  go_loopw [3] (fun x wr => ∃ i : Nat, i ≤ n ∧ x = .int .i64 (i : Int) ∧ Hid (Ba.allB (fun i => Ba.bet (X i) (0) 1125899906842624) i = true) ∧ Gr w wr) (fun x _ => n - (intOf x).toNat)
  case atStart => exact ⟨0, Nat.zero_le _, rfl, Lib.hid rfl, Gr.refl _⟩
  case round =>
    obtain ⟨i, hi, rfl, HQ, hg⟩ := hrel
    by_cases hlt : i < n
    · obtain rfl := HA.out (by omega)
      have a0 := Gr.at hg ((HX.out i hlt).1)
      have a1 := (HX.out i hlt).2
      unfold Ba.i64 at a1
      have ib0 : (0 : Int) ≤ (i : Int) := by omega
      have ib1 : (i : Int) < (n : Int) := by omega
      by_cases hp : Ba.bet (X i) (0) 1125899906842624 = true
      · have HQ2 := Lib.hid (Ba.allB_go HQ.out hp)
        have p := (Ba.bet_iff _ _ _).1 hp
        clear HX HA HQ hp
        generalize X i = x at *
        go_wp2_with fail
        go_roundw
        case rel => exact ⟨i + 1, by omega, by go_num, HQ2, hg⟩
        case measure => simp [intOf]; omega
      · have HN := Lib.hid (Ba.allB_stop (p := (fun i => Ba.bet (X i) (0) 1125899906842624)) hlt (by simpa using hp))
        have p : X i < 0 ∨ 1125899906842624 < X i := by
          rw [Ba.bet_iff] at hp; omega
        clear HX HA HQ hp
        generalize X i = x at *
        rcases p with p | p
        all_goals
          go_wp2_with fail
          go_ret
          exact ⟨ret_bool HN.out.symm, hg⟩
    · obtain rfl : n = i := by omega
      clear HX HA
      go_wp2_with fail
      go_ret
      exact ⟨ret_bool HQ.out.symm, hg⟩
end Go.Proofs.YtajhhplgcegodaaDoor
namespace Go.Proofs.YtajhhplgcegodaaDoor
namespace Dg
/-- The last k digits. -/
def pd (n : Nat) : Nat → List UInt8
  | 0 => []
  | k + 1 => pd (n / 10) k ++ [UInt8.ofNat (48 + n % 10)]
theorem pd_len : ∀ (k n : Nat), (pd n k).length = k
  | 0, _ => rfl
  | k + 1, n => by rw [pd, List.length_append, pd_len k]; rfl
theorem pd_cons : ∀ (k n : Nat), pd n (k + 1) = UInt8.ofNat (48 + n / 10 ^ k % 10) :: pd n k
  | 0, n => by simp [pd]
  | k + 1, n => by
    rw [pd, pd_cons k (n / 10), pd, List.cons_append, Nat.div_div_eq_div_mul, Nat.pow_succ, Nat.mul_comm]
theorem nDigits_lt : ∀ n : Nat, n < 10 ^ Lib.nDigits n := by
  intro n
  induction n using Nat.strongRecOn with
  | ind n ih =>
    rw [Lib.nDigits]
    split
    · omega
    · have := ih (n / 10) (by omega)
      rw [Nat.pow_succ]
      have := (Nat.div_lt_iff_lt_mul (by omega : 0 < 10)).1 this
      omega
theorem nDigits_pos (n : Nat) : 1 ≤ Lib.nDigits n := by rw [Lib.nDigits]; split <;> omega
theorem dec_pd : ∀ n : Nat, Lib.decDigits n = pd n (Lib.nDigits n) := by
  intro n
  induction n using Nat.strongRecOn with
  | ind n ih =>
    rw [Lib.decDigits, Lib.nDigits]
    split
    · rename_i h; rw [pd, pd, List.nil_append, Nat.mod_eq_of_lt h]
    · rw [ih (n / 10) (by omega), pd]
theorem pd_zeros : ∀ (j k n : Nat), n < 10 ^ k → pd n (k + j) = List.replicate j 48 ++ pd n k
  | 0, k, n, _ => by simp
  | j + 1, k, n, h => by
    rw [← Nat.add_assoc, pd_cons, pd_zeros j k n h, List.replicate_succ, List.cons_append]
    have : n / 10 ^ (k + j) = 0 := Nat.div_eq_of_lt (Nat.lt_of_lt_of_le h (Nat.pow_le_pow_right (by omega) (by omega)))
    rw [this]; rfl
/-- The digits of a number, zeros ahead, at least c of them. -/
def dig (n c : Nat) : List UInt8 := List.replicate (c - (Lib.decDigits n).length) 48 ++ Lib.decDigits n
theorem dig_pd (n c : Nat) : dig n c = pd n (max c (Lib.nDigits n)) := by
  unfold dig
  rw [Lib.decDigits_length, dec_pd, ← pd_zeros _ _ _ (nDigits_lt n)]
  congr 1; omega
theorem dig_len (n c : Nat) : (dig n c).length = max c (Lib.nDigits n) := by rw [dig_pd, pd_len]
theorem nDigits_le : ∀ {c n : Nat}, 1 ≤ c → n < 10 ^ c → Lib.nDigits n ≤ c
  | 0, _, h, _ => by omega
  | 1, n, _, h => by rw [Lib.nDigits, dif_pos (by simpa using h)]; omega
  | c + 2, n, _, h => by
    rw [Lib.nDigits]
    split
    · omega
    · have := nDigits_le (c := c + 1) (n := n / 10) (by omega) (by rw [Nat.div_lt_iff_lt_mul (by omega)]; rw [Nat.pow_succ] at h; omega); omega
theorem dig_pad {n c : Nat} (h : n < 10 ^ c) (hc : 1 ≤ c) : dig n c = pd n c := by
  rw [dig_pd]
  have : Lib.nDigits n ≤ c := nDigits_le hc h
  rw [Nat.max_eq_left this]
/-- The number that digits stand for. -/
def val (l : List UInt8) : Nat := l.foldl (fun a c => 10 * a + (c.toNat - 48)) 0
theorem val_snoc (l : List UInt8) (c : UInt8) : val (l ++ [c]) = 10 * val l + (c.toNat - 48) := by unfold val; rw [List.foldl_append]; rfl
theorem dig_byte (n : Nat) : (UInt8.ofNat (48 + n % 10)).toNat = 48 + n % 10 := by
  rw [UInt8.toNat_ofNat']; omega
theorem val_pd : ∀ (k n : Nat), val (pd n k) = n % 10 ^ k
  | 0, n => by simp [pd, val, Nat.mod_one]
  | k + 1, n => by
    rw [pd, val_snoc, val_pd k, dig_byte]
    rw [Nat.pow_succ, Nat.mul_comm (10 ^ k) 10, Nat.mod_mul]
    omega
theorem val_dec (n : Nat) : val (Lib.decDigits n) = n := by rw [dec_pd, val_pd]; exact Nat.mod_eq_of_lt (nDigits_lt n)
theorem dec_inj {a b : Nat} (h : Lib.decDigits a = Lib.decDigits b) : a = b := by rw [← val_dec a, h, val_dec]
theorem pd_inj {k a b : Nat} (ha : a < 10 ^ k) (hb : b < 10 ^ k) (h : pd a k = pd b k) : a = b := by
  have := congrArg val h; rw [val_pd, val_pd, Nat.mod_eq_of_lt ha, Nat.mod_eq_of_lt hb] at this; exact this
/-- All digits are digits. -/
theorem pd_digit : ∀ (k n : Nat), ∀ c ∈ pd n k, 48 ≤ c.toNat ∧ c.toNat ≤ 57
  | 0, _, c, h => by cases h
  | k + 1, n, c, h => by
    rw [pd, List.mem_append] at h
    rcases h with h | h
    · exact pd_digit k _ c h
    · rw [List.mem_singleton] at h; subst h; rw [dig_byte]; omega
end Dg
end Go.Proofs.YtajhhplgcegodaaDoor
namespace Go.Proofs.YtajhhplgcegodaaDoor
open Go.RowKit
theorem bytes_app (a b : List UInt8) : (⟨a.toArray⟩ : ByteArray) ++ ⟨b.toArray⟩ = ⟨(a ++ b).toArray⟩ := by
  apply ByteArray.ext; simp [ByteArray.data_append]
namespace Dg
theorem nDigits_ge : ∀ n : Nat, 1 ≤ n → 10 ^ (Lib.nDigits n - 1) ≤ n := by
  intro n
  induction n using Nat.strongRecOn with
  | ind n ih =>
    intro h1
    rw [Lib.nDigits]
    split
    · simpa using h1
    · have := ih (n / 10) (by omega) (by omega)
      have p := nDigits_pos (n / 10)
      obtain ⟨j, hj⟩ : ∃ j, Lib.nDigits (n / 10) = j + 1 := ⟨Lib.nDigits (n / 10) - 1, by omega⟩
      rw [hj] at this ⊢
      simp only [Nat.add_sub_cancel] at this ⊢
      rw [Nat.pow_succ]; omega
theorem more {n c k : Nat} (hc : 1 ≤ c) : k < max c (Lib.nDigits n) ↔ (0 < n / 10 ^ k ∨ k < c) := by
  have hp : 0 < 10 ^ k := Nat.pow_pos (by omega)
  have e : 0 < n / 10 ^ k ↔ 10 ^ k ≤ n := by rw [Nat.div_pos_iff]; omega
  rw [e]
  constructor
  · intro h
    by_cases hk : k < c
    · exact Or.inr hk
    · left
      have hd : k < Lib.nDigits n := by omega
      by_cases h1 : 1 ≤ n
      · exact Nat.le_trans (Nat.pow_le_pow_right (by omega) (by omega)) (nDigits_ge n h1)
      · have : n = 0 := by omega
        subst this
        rw [Lib.nDigits] at hd; simp at hd; omega
  · intro h
    rcases h with h | h
    · have := nDigits_lt n
      have : k < Lib.nDigits n := by
        rcases Nat.lt_or_ge k (Lib.nDigits n) with a | a
        · exact a
        · have := Nat.pow_le_pow_right (show 0 < 10 by omega) a; omega
      omega
    · omega
end Dg
theorem one_byte (W : World) (x : Nat) (hx : x < 256) : (convert 84 9 (.slice (some ⟨W.heap.size, 0, none⟩) 1 1)).run Tryd.prog (W.alloc (.cells #[.int .u8 (x : Int)] 5)) = .ok (.string ⟨#[UInt8.ofNat x]⟩) (W.alloc (.cells #[.int .u8 (x : Int)] 5)) := by
  refine run_convert_bytes_back _ _ _ 5 _ _ [UInt8.ofNat x] Tryd.underlying84 Tryd.underlying5 Tryd.underlying9 fun j hj => ?_
  have : j = 0 := by simpa using hj
  subst this
  have hb : ((UInt8.ofNat x).toNat : Int) = x := by rw [UInt8.toNat_ofNat']; omega
  simp only [List.getElem_cons_zero, hb]
  show World.cell? _ ⟨W.heap.size, 0, none⟩ = _
  rw [World.cell?_alloc_at _ _ _ _ rfl]; rfl
theorem bytes_app1 (c : UInt8) (b : List UInt8) : (⟨#[c]⟩ : ByteArray) ++ ⟨b.toArray⟩ = ⟨(c :: b).toArray⟩ := bytes_app [c] b
set_option maxRecDepth 100000 in
set_option maxHeartbeats 1000000 in
theorem rs_decimal (n : Nat) (w : World) (hn : n < 9223372036854775808) : Calls Tryd.prog 64 #[.int .i64 (n : Int)] w fun e w' => e = .returned (.string ⟨(Lib.decDigits n).toArray⟩) ∧ Gr w w' := by
  have hm : max 1 (Lib.nDigits n) ≤ 20 := by have := Dg.nDigits_le (c := 19) (n := n) (by omega) (by omega); omega
  have HM := Lib.hid (fun k => Dg.more (n := n) (c := 1) (k := k) (Nat.le_refl _))
  have HP := Lib.hid (show Dg.pd n (max 1 (Lib.nDigits n)) = Lib.decDigits n from by rw [Dg.dec_pd, Nat.max_eq_right (Dg.nDigits_pos n)])
  have HL := Lib.hid (fun k => Dg.pd_len k n)
  generalize max 1 (Lib.nDigits n) = M at *
  go_enter Tryd.func64, Tryd.ntmps64
  go_wp2_with fail
  go_loopw [0, 3] (fun s0 s5 wr => ∃ k q : Nat, k ≤ M ∧ Hid (q = n / 10 ^ k) ∧ s0 = .int .i64 q ∧ s5 = .string ⟨(Dg.pd n k).toArray⟩ ∧ Gr w wr ∧ q < 9223372036854775808) (fun s0 s5 _ => M - (match s5 with | .string s => s.size | _ => 0))
  case atStart => exact ⟨0, n, by omega, Lib.hid (by simp), rfl, rfl, gr_auto, hn⟩
  case round =>
    obtain ⟨k, q, hk, hq, rfl, rfl, hg, hq1⟩ := hrel
    have hl := HL.out k
    have hmk := HM.out k
    rw [← hq.out] at hmk
    have HPD := Lib.hid (Dg.pd_cons k n)
    rw [← hq.out] at HPD
    have hl' : (Dg.pd n k).length ≤ 20 := by omega
    have HLk := Lib.hid hl
    clear hl
    by_cases hkM : k < M
    · have hor := hmk.1 hkM
      have HMK := Lib.hid hmk; clear hmk
      have hq10 : q / 10 < 9223372036854775808 := by omega
      have hqq : Hid (q / 10 = n / 10 ^ (k + 1)) := Lib.hid (by rw [hq.out, Nat.div_div_eq_div_mul, Nat.pow_succ])
      have hcv : ∀ W : World, (convert 84 9 (.slice (some ⟨W.heap.size, 0, none⟩) 1 1)).run Tryd.prog (W.alloc (.cells #[.int .u8 (48 + (q : Int) % 10)] 5)) = .ok (.string ⟨#[UInt8.ofNat (48 + q % 10)]⟩) (W.alloc (.cells #[.int .u8 (48 + (q : Int) % 10)] 5)) := fun W => by
        have := one_byte W (48 + q % 10) (by omega)
        rw [show ((48 + q % 10 : Nat) : Int) = 48 + (q : Int) % 10 by omega] at this
        exact this
      generalize UInt8.ofNat (48 + q % 10) = dc at *
      by_cases hq0 : 0 < q
      · have t1 : decide ((0 : Int) < (q : Int)) = true := decide_eq_true (by omega)
        clear hor
        -- @a
        go_wp2_with fail
        -- @b
        go_roundw
        case rel => exact ⟨k + 1, q / 10, by omega, hqq, by go_num, by rw [HPD.out]; exact congrArg Value.string (by apply ByteArray.ext; simp [ByteArray.data_append]), gr_auto, hq10⟩
        case measure => simp [ByteArray.size, Dg.pd_len]; omega
      · have t1 : decide ((0 : Int) < (q : Int)) = false := decide_eq_false (by omega)
        have hkc : k < 1 := by rcases hor with h | h; exact absurd h hq0; exact h
        obtain rfl : k = 0 := by omega
        have hp0 : Dg.pd n 0 = [] := rfl
        rw [hp0] at HPD ⊢
        obtain rfl : q = 0 := by omega
        have hcv0 : ∀ W : World, (convert 84 9 (.slice (some ⟨W.heap.size, 0, none⟩) 1 1)).run Tryd.prog (W.alloc (.cells #[.int .u8 48] 5)) = .ok (.string ⟨#[dc]⟩) (W.alloc (.cells #[.int .u8 48] 5)) := hcv
        clear hor hp0 hcv
        -- @c
        go_wp2_with fail
        -- @d
        go_roundw
        case rel => exact ⟨1, 0, by omega, hqq, by go_num, by rw [HPD.out]; rfl, gr_auto, by omega⟩
        case measure => simp [ByteArray.size]; omega
    · have hor : ¬ (0 < q ∨ k < 1) := fun h => hkM (hmk.2 h)
      have t1 : decide ((0 : Int) < (q : Int)) = false := decide_eq_false (by omega)
      obtain rfl : k = M := by omega
      obtain ⟨c0, cl, hcl⟩ : ∃ c0 cl, Dg.pd n k = c0 :: cl := by
        cases hpd : Dg.pd n k with
        | nil => have := HLk.out; rw [hpd] at this; simp at this; omega
        | cons a b => exact ⟨a, b, rfl⟩
      rw [hcl] at HP ⊢
      clear hmk hcl
      -- @e
      go_wp2_with fail
      -- @f
      go_ret
      exact ⟨by rw [← HP.out]; rfl, gr_auto⟩
end Go.Proofs.YtajhhplgcegodaaDoor
