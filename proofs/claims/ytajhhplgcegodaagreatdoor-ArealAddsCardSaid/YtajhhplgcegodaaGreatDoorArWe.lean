/-
  
  
  
-/
import Derived.Test.YtajhhplgcegodaaGreatDoorArWd
set_option linter.unusedVariables false
set_option linter.unusedSimpArgs false
namespace Go.Proofs.YtajhhplgcegodaaGreatDoor
open Go.RowKit
theorem ret_three {k l m : IntKind} {a b c d e f : Int} (h : a = b) (h' : c = d) (h'' : e = f) : Ending.returned (.tuple #[.int k a, .int l c, .int m e]) = .returned (.tuple #[.int k b, .int l d, .int m f]) := by rw [h, h', h'']

set_option maxHeartbeats 400000 in
theorem divided_bad (h l b : Int) (up : Bool) (w : World) (hv : Wd.vld h l = false) :
    Calls Tryz.prog 168 #[.agg #[.int .i64 h, .int .i64 l], .int .i64 b, .bool up] w fun e w' => e = .returned (.tuple #[.int .i64 0, .int .i64 1]) ∧ Gr w w' := by
  have HV := Lib.hid hv; clear hv
  go_enter Tryz.func168, Tryz.ntmps168
  go_wp2_with (first | (go_at_call 165; refine (valid_false h l _ HV.out).mono ?_; rintro e w1 ⟨rfl, hb1⟩; obtain ⟨hc1, hf1⟩ := Gr.cells hb1; have hz1 := Gr.size hb1; (try simp at hz1); (try have hy1_0 : w.heap.size < w1.heap.size := by omega); (try have hy1_1 : w.heap.size + 1 < w1.heap.size := by omega); (try have hy1_2 : w.heap.size + 1 + 1 < w1.heap.size := by omega); (try have hy1_3 : w.heap.size + 1 + 1 + 1 < w1.heap.size := by omega); (try have hy1_4 : w.heap.size + 1 + 1 + 1 + 1 < w1.heap.size := by omega); (try have hy1_5 : w.heap.size + 1 + 1 + 1 + 1 + 1 < w1.heap.size := by omega)))
  go_ret2
  exact ⟨rfl, gr_auto⟩
set_option maxHeartbeats 400000 in
theorem divided_zero (h l : Int) (up : Bool) (w : World) (hv : Wd.vld h l = true) :
    Calls Tryz.prog 168 #[.agg #[.int .i64 h, .int .i64 l], .int .i64 0, .bool up] w fun e w' => e = .returned (.tuple #[.int .i64 0, .int .i64 16]) ∧ Gr w w' := by
  have HV := Lib.hid hv; clear hv
  go_enter Tryz.func168, Tryz.ntmps168
  go_wp2_with (first | (go_at_call 165; refine (valid_true h l _ HV.out).mono ?_; rintro e w1 ⟨rfl, hb1⟩; obtain ⟨hc1, hf1⟩ := Gr.cells hb1; have hz1 := Gr.size hb1; (try simp at hz1); (try have hy1_0 : w.heap.size < w1.heap.size := by omega); (try have hy1_1 : w.heap.size + 1 < w1.heap.size := by omega); (try have hy1_2 : w.heap.size + 1 + 1 < w1.heap.size := by omega); (try have hy1_3 : w.heap.size + 1 + 1 + 1 < w1.heap.size := by omega); (try have hy1_4 : w.heap.size + 1 + 1 + 1 + 1 < w1.heap.size := by omega); (try have hy1_5 : w.heap.size + 1 + 1 + 1 + 1 + 1 < w1.heap.size := by omega)))
  go_ret2
  exact ⟨rfl, gr_auto⟩
set_option maxHeartbeats 400000 in
theorem divided_any (h l b : Int) (up : Bool) (w : World) (hv : Wd.vld h l = true) (b0 : -9223372036854775808 ≤ b) (b1 : b ≤ 9223372036854775807) (hb : b ≠ 0) :
    Calls Tryz.prog 168 #[.agg #[.int .i64 h, .int .i64 l], .int .i64 b, .bool up] w fun e w' => e = .returned (.tuple #[.int .i64 (Wd.intQ (Wd.rnd (Wd.val h l) b up)), .int .i64 (Wd.intE (Wd.rnd (Wd.val h l) b up))]) ∧ Gr w w' := by
  have HV := Lib.hid hv; clear hv
  have hz : (b == 0) = false := beq_eq_false_iff_ne.2 hb
  go_enter Tryz.func168, Tryz.ntmps168
  go_wp2_with (first | (go_at_call 165; refine (valid_true h l _ HV.out).mono ?_; rintro e w1 ⟨rfl, hb1⟩; obtain ⟨hc1, hf1⟩ := Gr.cells hb1; have hz1 := Gr.size hb1; (try simp at hz1); (try have hy1_0 : w.heap.size < w1.heap.size := by omega); (try have hy1_1 : w.heap.size + 1 < w1.heap.size := by omega); (try have hy1_2 : w.heap.size + 1 + 1 < w1.heap.size := by omega); (try have hy1_3 : w.heap.size + 1 + 1 + 1 < w1.heap.size := by omega); (try have hy1_4 : w.heap.size + 1 + 1 + 1 + 1 < w1.heap.size := by omega); (try have hy1_5 : w.heap.size + 1 + 1 + 1 + 1 + 1 < w1.heap.size := by omega)) | (go_at_call 167; refine (value_v _ _ _ HV.out).mono ?_; rintro e w2 ⟨rfl, hb2⟩; obtain ⟨hc2, hf2⟩ := Gr.cells hb2; have hz2 := Gr.size hb2; (try simp at hz2); (try have hy2_0 : w.heap.size < w2.heap.size := by omega); (try have hy2_1 : w.heap.size + 1 < w2.heap.size := by omega); (try have hy2_2 : w.heap.size + 1 + 1 < w2.heap.size := by omega); (try have hy2_3 : w.heap.size + 1 + 1 + 1 < w2.heap.size := by omega); (try have hy2_4 : w.heap.size + 1 + 1 + 1 + 1 < w2.heap.size := by omega); (try have hy2_5 : w.heap.size + 1 + 1 + 1 + 1 + 1 < w2.heap.size := by omega)) | (go_at_call 117; refine (quo_any _ _ _ _ b0 b1 hb).mono ?_; rintro e w3 ⟨rfl, hb3⟩; obtain ⟨hc3, hf3⟩ := Gr.cells hb3; have hz3 := Gr.size hb3; (try simp at hz3); (try have hy3_0 : w.heap.size < w3.heap.size := by omega); (try have hy3_1 : w.heap.size + 1 < w3.heap.size := by omega); (try have hy3_2 : w.heap.size + 1 + 1 < w3.heap.size := by omega); (try have hy3_3 : w.heap.size + 1 + 1 + 1 < w3.heap.size := by omega); (try have hy3_4 : w.heap.size + 1 + 1 + 1 + 1 < w3.heap.size := by omega); (try have hy3_5 : w.heap.size + 1 + 1 + 1 + 1 + 1 < w3.heap.size := by omega)))
  go_ret2
  exact ⟨rfl, gr_auto⟩
namespace Wd
/-- What a division returns: the quotient, and the error number. -/
def dvQ (h l b : Int) (up : Bool) : Int := if vld h l then (if b = 0 then 0 else intQ (rnd (val h l) b up)) else 0
def dvE (h l b : Int) (up : Bool) : Int := if vld h l then (if b = 0 then 16 else intE (rnd (val h l) b up)) else 1
end Wd
theorem divided_all (h l b : Int) (up : Bool) (w : World) (b0 : -9223372036854775808 ≤ b) (b1 : b ≤ 9223372036854775807) :
    Calls Tryz.prog 168 #[.agg #[.int .i64 h, .int .i64 l], .int .i64 b, .bool up] w fun e w' => e = .returned (.tuple #[.int .i64 (Wd.dvQ h l b up), .int .i64 (Wd.dvE h l b up)]) ∧ Gr w w' := by
  unfold Wd.dvQ Wd.dvE
  cases hv : Wd.vld h l
  · exact divided_bad h l b up w hv
  · by_cases hb : b = 0
    · subst hb; exact divided_zero h l up w hv
    · simp only [hb, if_true, if_false]; exact divided_any h l b up w hv b0 b1 hb
set_option maxHeartbeats 400000 in
theorem floor_any (h l b : Int) (w : World) (b0 : -9223372036854775808 ≤ b) (b1 : b ≤ 9223372036854775807) :
    Calls Tryz.prog 123 #[.agg #[.int .i64 h, .int .i64 l], .int .i64 b] w fun e w' => e = .returned (.tuple #[.int .i64 (Wd.dvQ h l b false), .int .i64 (Wd.dvE h l b false)]) ∧ Gr w w' := by
  go_enter Tryz.func123, Tryz.ntmps123
  go_wp2_with (first | (go_at_call 168; refine (divided_all _ _ _ _ _ b0 b1).mono ?_; rintro e w1 ⟨rfl, hb1⟩; obtain ⟨hc1, hf1⟩ := Gr.cells hb1; have hz1 := Gr.size hb1; (try simp at hz1); (try have hy1_0 : w.heap.size < w1.heap.size := by omega); (try have hy1_1 : w.heap.size + 1 < w1.heap.size := by omega); (try have hy1_2 : w.heap.size + 1 + 1 < w1.heap.size := by omega); (try have hy1_3 : w.heap.size + 1 + 1 + 1 < w1.heap.size := by omega); (try have hy1_4 : w.heap.size + 1 + 1 + 1 + 1 < w1.heap.size := by omega); (try have hy1_5 : w.heap.size + 1 + 1 + 1 + 1 + 1 < w1.heap.size := by omega)))
  go_ret2
  exact ⟨rfl, gr_auto⟩
namespace Wd
/-- What Scale returns. -/
def scOK (p d : Int) : Bool := fits (flr p d) && fits (cel p d)
def scLo (p d : Int) : Int := if d = 0 then 0 else if scOK p d then flr p d else 0
def scHi (p d : Int) : Int := if d = 0 then 0 else if scOK p d then cel p d else 0
def scE (p d : Int) : Int := if d = 0 then 16 else if scOK p d then 0 else 5
end Wd
set_option maxHeartbeats 400000 in
theorem scale_any (n m d : Int) (w : World) (n0 : -9223372036854775808 ≤ n) (n1 : n ≤ 9223372036854775807) (m0 : -9223372036854775808 ≤ m) (m1 : m ≤ 9223372036854775807) (d0 : -9223372036854775808 ≤ d) (d1 : d ≤ 9223372036854775807) :
    Calls Tryz.prog 67 #[.int .i64 n, .int .i64 m, .int .i64 d] w fun e w' => e = .returned (.tuple #[.int .i64 (Wd.scLo (n * m) d), .int .i64 (Wd.scHi (n * m) d), .int .i64 (Wd.scE (n * m) d)]) ∧ Gr w w' := by
  unfold Wd.scLo Wd.scHi Wd.scE Wd.scOK
  by_cases hd : d = 0
  · subst hd
    simp only [if_true]
    go_enter Tryz.func67, Tryz.ntmps67
    go_wp2
    go_ret3
    exact ⟨rfl, gr_auto⟩
  simp only [hd, if_false]
  have hz : (d == 0) = false := beq_eq_false_iff_ne.2 hd
  have hf : ∀ W : World, Calls Tryz.prog 117 #[.agg #[.int .u64 (Wd.hi (n * m)), .int .u64 (Wd.lo (n * m)), .bool (Wd.neg (n * m))], .int .i64 d, .bool false] W fun e w' => e = .returned (.tuple #[.int .i64 (Wd.intQ (Wd.flr (n * m) d)), .int .i64 (Wd.intE (Wd.flr (n * m) d))]) ∧ Gr W w' := fun W => quo_any _ _ false W d0 d1 hd
  have hc : ∀ W : World, Calls Tryz.prog 117 #[.agg #[.int .u64 (Wd.hi (n * m)), .int .u64 (Wd.lo (n * m)), .bool (Wd.neg (n * m))], .int .i64 d, .bool true] W fun e w' => e = .returned (.tuple #[.int .i64 (Wd.intQ (Wd.cel (n * m) d)), .int .i64 (Wd.intE (Wd.cel (n * m) d))]) ∧ Gr W w' := fun W => quo_any _ _ true W d0 d1 hd
  have ht : ∀ W : World, Calls Tryz.prog 116 #[.int .i64 n, .int .i64 m] W fun e w' => e = .returned (.agg #[.int .u64 (Wd.hi (n * m)), .int .u64 (Wd.lo (n * m)), .bool (Wd.neg (n * m))]) ∧ Gr W w' := fun W => times_any n m W n0 n1 m0 m1
  generalize n * m = p at *
  unfold Wd.intQ Wd.intE at hf hc
  cases h1 : Wd.fits (Wd.flr p d)
  · simp only [h1, Bool.false_and, Bool.false_eq_true, if_false] at hf ⊢
    have HF := Lib.hid hf; have HC := Lib.hid hc; have HT := Lib.hid ht
    clear hf hc ht h1 hd
    go_enter Tryz.func67, Tryz.ntmps67
    go_wp2_with (first | (go_at_call 116; refine (HT.out _).mono ?_; rintro e w1 ⟨rfl, hb1⟩; obtain ⟨hc1, hf1⟩ := Gr.cells hb1; have hz1 := Gr.size hb1; (try simp at hz1); (try have hy1_0 : w.heap.size < w1.heap.size := by omega); (try have hy1_1 : w.heap.size + 1 < w1.heap.size := by omega); (try have hy1_2 : w.heap.size + 1 + 1 < w1.heap.size := by omega); (try have hy1_3 : w.heap.size + 1 + 1 + 1 < w1.heap.size := by omega); (try have hy1_4 : w.heap.size + 1 + 1 + 1 + 1 < w1.heap.size := by omega); (try have hy1_5 : w.heap.size + 1 + 1 + 1 + 1 + 1 < w1.heap.size := by omega)) | (go_at_call 117; refine (HF.out _).mono ?_; rintro e w2 ⟨rfl, hb2⟩; obtain ⟨hc2, hf2⟩ := Gr.cells hb2; have hz2 := Gr.size hb2; (try simp at hz2); (try have hy2_0 : w.heap.size < w2.heap.size := by omega); (try have hy2_1 : w.heap.size + 1 < w2.heap.size := by omega); (try have hy2_2 : w.heap.size + 1 + 1 < w2.heap.size := by omega); (try have hy2_3 : w.heap.size + 1 + 1 + 1 < w2.heap.size := by omega); (try have hy2_4 : w.heap.size + 1 + 1 + 1 + 1 < w2.heap.size := by omega); (try have hy2_5 : w.heap.size + 1 + 1 + 1 + 1 + 1 < w2.heap.size := by omega)))
    go_ret3
    exact ⟨rfl, gr_auto⟩
  · simp only [h1, Bool.true_and, if_true] at hf ⊢
    cases h2 : Wd.fits (Wd.cel p d)
    · simp only [h2, Bool.false_eq_true, if_false] at hc ⊢
      have HF := Lib.hid hf; have HC := Lib.hid hc; have HT := Lib.hid ht
      clear hf hc ht h1 h2 hd
      go_enter Tryz.func67, Tryz.ntmps67
      go_wp2_with fail
      refine (HT.out _).mono ?_; rintro e w1 ⟨rfl, hb1⟩; obtain ⟨hc1, hf1⟩ := Gr.cells hb1; have hz1 := Gr.size hb1; (try simp at hz1); (try have hy1_0 : w.heap.size < w1.heap.size := by omega); (try have hy1_1 : w.heap.size + 1 < w1.heap.size := by omega); (try have hy1_2 : w.heap.size + 1 + 1 < w1.heap.size := by omega); (try have hy1_3 : w.heap.size + 1 + 1 + 1 < w1.heap.size := by omega); (try have hy1_4 : w.heap.size + 1 + 1 + 1 + 1 < w1.heap.size := by omega); (try have hy1_5 : w.heap.size + 1 + 1 + 1 + 1 + 1 < w1.heap.size := by omega)
      go_wp2_with fail
      refine (HF.out _).mono ?_; rintro e w2 ⟨rfl, hb2⟩; obtain ⟨hc2, hf2⟩ := Gr.cells hb2; have hz2 := Gr.size hb2; (try simp at hz2); (try have hy2_0 : w.heap.size < w2.heap.size := by omega); (try have hy2_1 : w.heap.size + 1 < w2.heap.size := by omega); (try have hy2_2 : w.heap.size + 1 + 1 < w2.heap.size := by omega); (try have hy2_3 : w.heap.size + 1 + 1 + 1 < w2.heap.size := by omega); (try have hy2_4 : w.heap.size + 1 + 1 + 1 + 1 < w2.heap.size := by omega); (try have hy2_5 : w.heap.size + 1 + 1 + 1 + 1 + 1 < w2.heap.size := by omega)
      go_wp2_with fail
      refine (HC.out _).mono ?_; rintro e w3 ⟨rfl, hb3⟩; obtain ⟨hc3, hf3⟩ := Gr.cells hb3; have hz3 := Gr.size hb3; (try simp at hz3); (try have hy3_0 : w.heap.size < w3.heap.size := by omega); (try have hy3_1 : w.heap.size + 1 < w3.heap.size := by omega); (try have hy3_2 : w.heap.size + 1 + 1 < w3.heap.size := by omega); (try have hy3_3 : w.heap.size + 1 + 1 + 1 < w3.heap.size := by omega); (try have hy3_4 : w.heap.size + 1 + 1 + 1 + 1 < w3.heap.size := by omega); (try have hy3_5 : w.heap.size + 1 + 1 + 1 + 1 + 1 < w3.heap.size := by omega)
      go_wp2
      go_ret3
      exact ⟨rfl, gr_auto⟩
    · simp only [h2, if_true] at hc ⊢
      have HF := Lib.hid hf; have HC := Lib.hid hc; have HT := Lib.hid ht
      clear hf hc ht h1 h2 hd
      go_enter Tryz.func67, Tryz.ntmps67
      go_wp2_with fail
      refine (HT.out _).mono ?_; rintro e w1 ⟨rfl, hb1⟩; obtain ⟨hc1, hf1⟩ := Gr.cells hb1; have hz1 := Gr.size hb1; (try simp at hz1); (try have hy1_0 : w.heap.size < w1.heap.size := by omega); (try have hy1_1 : w.heap.size + 1 < w1.heap.size := by omega); (try have hy1_2 : w.heap.size + 1 + 1 < w1.heap.size := by omega); (try have hy1_3 : w.heap.size + 1 + 1 + 1 < w1.heap.size := by omega); (try have hy1_4 : w.heap.size + 1 + 1 + 1 + 1 < w1.heap.size := by omega); (try have hy1_5 : w.heap.size + 1 + 1 + 1 + 1 + 1 < w1.heap.size := by omega)
      go_wp2_with fail
      refine (HF.out _).mono ?_; rintro e w2 ⟨rfl, hb2⟩; obtain ⟨hc2, hf2⟩ := Gr.cells hb2; have hz2 := Gr.size hb2; (try simp at hz2); (try have hy2_0 : w.heap.size < w2.heap.size := by omega); (try have hy2_1 : w.heap.size + 1 < w2.heap.size := by omega); (try have hy2_2 : w.heap.size + 1 + 1 < w2.heap.size := by omega); (try have hy2_3 : w.heap.size + 1 + 1 + 1 < w2.heap.size := by omega); (try have hy2_4 : w.heap.size + 1 + 1 + 1 + 1 < w2.heap.size := by omega); (try have hy2_5 : w.heap.size + 1 + 1 + 1 + 1 + 1 < w2.heap.size := by omega)
      go_wp2_with fail
      refine (HC.out _).mono ?_; rintro e w3 ⟨rfl, hb3⟩; obtain ⟨hc3, hf3⟩ := Gr.cells hb3; have hz3 := Gr.size hb3; (try simp at hz3); (try have hy3_0 : w.heap.size < w3.heap.size := by omega); (try have hy3_1 : w.heap.size + 1 < w3.heap.size := by omega); (try have hy3_2 : w.heap.size + 1 + 1 < w3.heap.size := by omega); (try have hy3_3 : w.heap.size + 1 + 1 + 1 < w3.heap.size := by omega); (try have hy3_4 : w.heap.size + 1 + 1 + 1 + 1 < w3.heap.size := by omega); (try have hy3_5 : w.heap.size + 1 + 1 + 1 + 1 + 1 < w3.heap.size := by omega)
      go_wp2
      go_ret3
      exact ⟨rfl, gr_auto⟩
end Go.Proofs.YtajhhplgcegodaaGreatDoor
namespace Go.Proofs.YtajhhplgcegodaaGreatDoor
open Go.RowKit
namespace Wd
/-- The root, bit by bit: from r on, k bits are still to come. -/
def rootGo : Nat → Int → Int → Int
  | 0, _, r => r
  | k + 1, v, r => if (r + 2 ^ k) * (r + 2 ^ k) ≤ v then rootGo k v (r + 2 ^ k) else rootGo k v r
def root (v : Int) : Int := rootGo 60 v 0
/-- The bit that comes next. -/
def bitAt : Nat → Int
  | 0 => 0
  | k + 1 => 2 ^ k
def RInv (k : Nat) (v r : Int) : Prop := 0 ≤ r ∧ r % 2 ^ k = 0 ∧ r + 2 ^ k ≤ 1152921504606846976 ∧ r * r ≤ v ∧ v < (r + 2 ^ k) * (r + 2 ^ k)
theorem two_pos (k : Nat) : (0 : Int) < 2 ^ k := by exact_mod_cast Nat.two_pow_pos k
theorem bit_half (k : Nat) : bitAt (k + 1) / 2 = bitAt k := by
  cases k with
  | zero => rfl
  | succ k => show (2 : Int) ^ (k + 1) / 2 = 2 ^ k; rw [Int.pow_succ]; omega
theorem rinv_step {k : Nat} {v r : Int} (h : RInv (k + 1) v r) : (if (r + 2 ^ k) * (r + 2 ^ k) ≤ v then RInv k v (r + 2 ^ k) else RInv k v r) := by
  obtain ⟨a, b, c, d, e⟩ := h
  have p := two_pos k
  rw [Int.pow_succ] at b c e
  have b' : r % 2 ^ k = 0 := by
    have : r = 2 ^ k * 2 * (r / (2 ^ k * 2)) := by have := Int.mul_ediv_add_emod r (2 ^ k * 2); omega
    rw [this, Int.mul_assoc]; exact Int.mul_emod_right _ _
  split
  · rename_i g
    refine ⟨by omega, ?_, by omega, g, ?_⟩
    · rw [Int.add_emod, b', Int.emod_self]; rfl
    · have : r + 2 ^ k + 2 ^ k = r + 2 ^ k * 2 := by omega
      rw [this]; exact e
  · rename_i g
    exact ⟨a, b', by omega, d, by omega⟩
theorem rinv_start {v : Int} (h0 : 0 ≤ v) (h1 : v ≤ 1329227995784915872903807060280344575) : RInv 60 v 0 := by
  refine ⟨by omega, rfl, by decide, by omega, ?_⟩
  have : (0 + 2 ^ 60 : Int) * (0 + 2 ^ 60) = 1329227995784915872903807060280344576 := by decide
  rw [this]; omega
theorem root_spec_go : ∀ (k : Nat) (v r : Int), RInv k v r → RInv 0 v (rootGo k v r)
  | 0, _, _, h => h
  | k + 1, v, r, h => by
    have s := rinv_step h
    unfold rootGo
    split
    · rename_i g; rw [if_pos g] at s; exact root_spec_go k v _ s
    · rename_i g; rw [if_neg g] at s; exact root_spec_go k v _ s
theorem root_spec {v : Int} (h0 : 0 ≤ v) (h1 : v ≤ 1329227995784915872903807060280344575) : 0 ≤ root v ∧ root v ≤ 1152921504606846975 ∧ root v * root v ≤ v ∧ v < (root v + 1) * (root v + 1) := by
  obtain ⟨a, b, c, d, e⟩ := root_spec_go 60 v 0 (rinv_start h0 h1)
  have p1 : (2 : Int) ^ 0 = 1 := rfl
  rw [p1] at c e
  exact ⟨a, by unfold root; omega, d, e⟩
theorem or_bit {k : Nat} {v r : Int} (h : RInv (k + 1) v r) : bits .or .u64 r (2 ^ k) = r + 2 ^ k := by
  obtain ⟨a, b, c, d, e⟩ := h
  have p := two_pos k
  rw [Int.pow_succ] at b c e
  rw [u64_or _ _ a (by omega) (by omega) (by omega)]
  have e1 : ((2 : Int) ^ k).toNat = 2 ^ k := by
    have : (2 : Int) ^ k = ((2 ^ k : Nat) : Int) := by push_cast; rfl
    rw [this]; rfl
  have e2 : r.toNat % 2 ^ (k + 1) = 0 := by
    obtain ⟨n, rfl⟩ := Int.eq_ofNat_of_zero_le a
    have : ((2 : Int) ^ k * 2) = ((2 ^ (k + 1) : Nat) : Int) := by rw [Nat.pow_succ]; push_cast; rfl
    rw [this] at b
    rw [Int.toNat_natCast]
    omega
  rw [e1, nat_join (k + 1) _ _ e2 (by rw [Nat.pow_succ]; have := Nat.two_pow_pos k; omega)]
  have : ((2 ^ k : Nat) : Int) = (2 : Int) ^ k := by push_cast; rfl
  omega
end Wd
end Go.Proofs.YtajhhplgcegodaaGreatDoor
namespace Go.Proofs.YtajhhplgcegodaaGreatDoor
open Go.RowKit
namespace Wd
theorem has_bounds {v : Int} (hv : has v = true) : -1329227995784915872903807060280344576 ≤ v ∧ v ≤ 1329227995784915872903807060280344575 := by
  unfold has at hv; simp only [Bool.and_eq_true, decide_eq_true_eq] at hv; exact hv
theorem has_of {v : Int} (h0 : -1329227995784915872903807060280344576 ≤ v) (h1 : v ≤ 1329227995784915872903807060280344575) : has v = true := by
  unfold has; rw [decide_eq_true h0, decide_eq_true h1]; rfl
theorem val_w {v : Int} (hv : has v = true) : vld (wH v) (wL v) = true ∧ val (wH v) (wL v) = v := by
  obtain ⟨a, b⟩ := has_bounds hv
  obtain ⟨e1, e2, e3⟩ := has_true a b
  rw [e1, e2]
  refine ⟨vld_mk (by omega) (by omega) (by omega) (by omega), by unfold val; omega⟩
theorem w_val {h l : Int} (hv : vld h l = true) : ∃ v, has v = true ∧ h = wH v ∧ l = wL v := by
  obtain ⟨a, b⟩ := val_bounds hv
  obtain ⟨c, d⟩ := val_div hv
  obtain ⟨e1, e2, e3⟩ := has_true a b
  exact ⟨val h l, has_of a b, by rw [e1, c], by rw [e2, d]⟩
theorem wE_has {v : Int} (hv : has v = true) : wE v = 0 := by unfold wE; rw [hv]; rfl
theorem wE_not {v : Int} (hv : has v = false) : wE v = 5 ∧ wH v = 0 ∧ wL v = 0 := by unfold wE wH wL; rw [hv]; exact ⟨rfl, rfl, rfl⟩
theorem root_uniq {v r : Int} (h0 : 0 ≤ r) (h1 : r * r ≤ v) (h2 : v < (r + 1) * (r + 1)) (hv : v ≤ 1329227995784915872903807060280344575) : root v = r := by
  have v0 : 0 ≤ v := by have := Int.mul_nonneg h0 h0; omega
  obtain ⟨a, b, c, d⟩ := root_spec v0 hv
  generalize root v = s at *
  by_cases hlt : s < r
  · have := Int.mul_le_mul (show s + 1 ≤ r by omega) (show s + 1 ≤ r by omega) (by omega) h0; omega
  · by_cases hgt : r < s
    · have := Int.mul_le_mul (show r + 1 ≤ s by omega) (show r + 1 ≤ s by omega) (by omega) a; omega
    · omega
theorem root_sq {r : Int} (h0 : 0 ≤ r) (hv : r * r ≤ 1329227995784915872903807060280344575) : root (r * r) = r :=
  root_uniq h0 (Int.le_refl _) (by have := Int.mul_add (r + 1) r 1; have := Int.add_mul r 1 r; omega) hv
theorem root_ex : root 1267650600228229401496703205376 = 1125899906842624 := root_uniq (by decide) (by decide) (by decide) (by decide)
theorem has_ex : has (1099511627776 * -1073741824) = true ∧ wH (1099511627776 * -1073741824) = -1024 ∧ wL (1099511627776 * -1073741824) = 0 := by decide
theorem sc_ex : scLo (7 * -3) 2 = -11 ∧ scHi (7 * -3) 2 = -10 ∧ scE (7 * -3) 2 = 0 := by decide
end Wd
theorem add_w (x y : Int) (w : World) (hx : Wd.has x = true) (hy : Wd.has y = true) :
    Calls Tryz.prog 122 #[.agg #[.int .i64 (Wd.wH x), .int .i64 (Wd.wL x)], .agg #[.int .i64 (Wd.wH y), .int .i64 (Wd.wL y)]] w fun e w' => e = .returned (.tuple #[.agg #[.int .i64 (Wd.wH (x + y)), .int .i64 (Wd.wL (x + y))], .int .i64 (Wd.wE (x + y))]) ∧ Gr w w' := by
  obtain ⟨a, b⟩ := Wd.val_w hx; obtain ⟨c, d⟩ := Wd.val_w hy
  have := add_any _ _ _ _ w a c; rw [b, d] at this; exact this
theorem valid_w (x : Int) (w : World) (hx : Wd.has x = true) :
    Calls Tryz.prog 165 #[.agg #[.int .i64 (Wd.wH x), .int .i64 (Wd.wL x)]] w fun e w' => e = .returned (.bool true) ∧ Gr w w' := valid_true _ _ w (Wd.val_w hx).1
theorem floor_w (x b : Int) (w : World) (hx : Wd.has x = true) (b0 : -9223372036854775808 ≤ b) (b1 : b ≤ 9223372036854775807) (hb : b ≠ 0) :
    Calls Tryz.prog 123 #[.agg #[.int .i64 (Wd.wH x), .int .i64 (Wd.wL x)], .int .i64 b] w fun e w' => e = .returned (.tuple #[.int .i64 (Wd.intQ (Wd.flr x b)), .int .i64 (Wd.intE (Wd.flr x b))]) ∧ Gr w w' := by
  obtain ⟨a, c⟩ := Wd.val_w hx
  have := floor_any (Wd.wH x) (Wd.wL x) b w b0 b1
  unfold Wd.dvQ Wd.dvE at this
  rw [a, c] at this
  simp only [if_true, hb, if_false] at this
  exact this
end Go.Proofs.YtajhhplgcegodaaGreatDoor
