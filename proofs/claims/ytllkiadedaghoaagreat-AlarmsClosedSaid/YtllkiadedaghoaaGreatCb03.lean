/-
  
-/
import Derived.Test.YtllkiadedaghoaaGreatCb02
import Derived.RegionTactic
import Derived.BigRegion
import Derived.StillTailTactics
set_option linter.unusedVariables false
set_option linter.unusedSimpArgs false
namespace Go.Proofs.YtllkiadedaghoaaGreat
open Go.RowKit
theorem ret_three {k l m : IntKind} {a b c d e f : Int} (h : a = b) (h' : c = d) (h'' : e = f) : Ending.returned (.tuple #[.int k a, .int l c, .int m e]) = .returned (.tuple #[.int k b, .int l d, .int m f]) := by rw [h, h', h'']
namespace Wd
/-- What a division returns: the quotient, and the error number. -/
def dvQ (h l b : Int) (up : Bool) : Int := if vld h l then (if b = 0 then 0 else intQ (rnd (val h l) b up)) else 0
def dvE (h l b : Int) (up : Bool) : Int := if vld h l then (if b = 0 then 16 else intE (rnd (val h l) b up)) else 1
end Wd
namespace Wd
/-- What Scale returns. -/
def scOK (p d : Int) : Bool := fits (flr p d) && fits (cel p d)
def scLo (p d : Int) : Int := if d = 0 then 0 else if scOK p d then flr p d else 0
def scHi (p d : Int) : Int := if d = 0 then 0 else if scOK p d then cel p d else 0
def scE (p d : Int) : Int := if d = 0 then 16 else if scOK p d then 0 else 5
end Wd
set_option maxHeartbeats 400000 in
theorem scale_any (n m d : Int) (w : World) (n0 : -9223372036854775808 ≤ n) (n1 : n ≤ 9223372036854775807) (m0 : -9223372036854775808 ≤ m) (m1 : m ≤ 9223372036854775807) (d0 : -9223372036854775808 ≤ d) (d1 : d ≤ 9223372036854775807) :
    Calls Tryz.prog 178 #[.int .i64 n, .int .i64 m, .int .i64 d] w fun e w' => e = .returned (.tuple #[.int .i64 (Wd.scLo (n * m) d), .int .i64 (Wd.scHi (n * m) d), .int .i64 (Wd.scE (n * m) d)]) ∧ Gr w w' := by
  unfold Wd.scLo Wd.scHi Wd.scE Wd.scOK
  by_cases hd : d = 0
  · subst hd
    simp only [if_true]
    go_enter Tryz.func178, Tryz.ntmps178
    go_wp2
    go_ret3
    exact ⟨rfl, gr_auto⟩
  simp only [hd, if_false]
  have hz : (d == 0) = false := beq_eq_false_iff_ne.2 hd
  have hf : ∀ W : World, Calls Tryz.prog 196 #[.agg #[.int .u64 (Wd.hi (n * m)), .int .u64 (Wd.lo (n * m)), .bool (Wd.neg (n * m))], .int .i64 d, .bool false] W fun e w' => e = .returned (.tuple #[.int .i64 (Wd.intQ (Wd.flr (n * m) d)), .int .i64 (Wd.intE (Wd.flr (n * m) d))]) ∧ Gr W w' := fun W => quo_any _ _ false W d0 d1 hd
  have hc : ∀ W : World, Calls Tryz.prog 196 #[.agg #[.int .u64 (Wd.hi (n * m)), .int .u64 (Wd.lo (n * m)), .bool (Wd.neg (n * m))], .int .i64 d, .bool true] W fun e w' => e = .returned (.tuple #[.int .i64 (Wd.intQ (Wd.cel (n * m) d)), .int .i64 (Wd.intE (Wd.cel (n * m) d))]) ∧ Gr W w' := fun W => quo_any _ _ true W d0 d1 hd
  have ht : ∀ W : World, Calls Tryz.prog 195 #[.int .i64 n, .int .i64 m] W fun e w' => e = .returned (.agg #[.int .u64 (Wd.hi (n * m)), .int .u64 (Wd.lo (n * m)), .bool (Wd.neg (n * m))]) ∧ Gr W w' := fun W => times_any n m W n0 n1 m0 m1
  generalize n * m = p at *
  unfold Wd.intQ Wd.intE at hf hc
  cases h1 : Wd.fits (Wd.flr p d)
  · simp only [h1, Bool.false_and, Bool.false_eq_true, if_false] at hf ⊢
    have HF := Lib.hid hf; have HC := Lib.hid hc; have HT := Lib.hid ht
    clear hf hc ht h1 hd
    go_enter Tryz.func178, Tryz.ntmps178
    go_wp2_with (first | (go_at_call 195; refine (HT.out _).mono ?_; rintro e w1 ⟨rfl, hb1⟩; obtain ⟨hc1, hf1⟩ := Gr.cells hb1; have hz1 := Gr.size hb1; (try simp at hz1); (try have hy1_0 : w.heap.size < w1.heap.size := by omega); (try have hy1_1 : w.heap.size + 1 < w1.heap.size := by omega); (try have hy1_2 : w.heap.size + 1 + 1 < w1.heap.size := by omega); (try have hy1_3 : w.heap.size + 1 + 1 + 1 < w1.heap.size := by omega); (try have hy1_4 : w.heap.size + 1 + 1 + 1 + 1 < w1.heap.size := by omega); (try have hy1_5 : w.heap.size + 1 + 1 + 1 + 1 + 1 < w1.heap.size := by omega)) | (go_at_call 196; refine (HF.out _).mono ?_; rintro e w2 ⟨rfl, hb2⟩; obtain ⟨hc2, hf2⟩ := Gr.cells hb2; have hz2 := Gr.size hb2; (try simp at hz2); (try have hy2_0 : w.heap.size < w2.heap.size := by omega); (try have hy2_1 : w.heap.size + 1 < w2.heap.size := by omega); (try have hy2_2 : w.heap.size + 1 + 1 < w2.heap.size := by omega); (try have hy2_3 : w.heap.size + 1 + 1 + 1 < w2.heap.size := by omega); (try have hy2_4 : w.heap.size + 1 + 1 + 1 + 1 < w2.heap.size := by omega); (try have hy2_5 : w.heap.size + 1 + 1 + 1 + 1 + 1 < w2.heap.size := by omega)))
    go_ret3
    exact ⟨rfl, gr_auto⟩
  · simp only [h1, Bool.true_and, if_true] at hf ⊢
    cases h2 : Wd.fits (Wd.cel p d)
    · simp only [h2, Bool.false_eq_true, if_false] at hc ⊢
      have HF := Lib.hid hf; have HC := Lib.hid hc; have HT := Lib.hid ht
      clear hf hc ht h1 h2 hd
      go_enter Tryz.func178, Tryz.ntmps178
      go_wp2_with fail
      refine (HT.out _).mono ?_; rintro e w1 ⟨rfl, hb1⟩; obtain ⟨hc1, hf1⟩ := Gr.cells hb1; have hz1 := Gr.size hb1; (try simp at hz1); (try have hy1_0 : w.heap.size < w1.heap.size := by omega); (try have hy1_1 : w.heap.size + 1 < w1.heap.size := by omega); (try have hy1_2 : w.heap.size + 1 + 1 < w1.heap.size := by omega); (try have hy1_3 : w.heap.size + 1 + 1 + 1 < w1.heap.size := by omega); (try have hy1_4 : w.heap.size + 1 + 1 + 1 + 1 < w1.heap.size := by omega); (try have hy1_5 : w.heap.size + 1 + 1 + 1 + 1 + 1 < w1.heap.size := by omega)
      go_wp2_with fail
      refine (HF.out _).mono ?_; rintro e w2 ⟨rfl, hb2⟩; obtain ⟨hc2, hf2⟩ := Gr.cells hb2; have hz2 := Gr.size hb2; (try simp at hz2); (try have hy2_0 : w.heap.size < w2.heap.size := by omega); (try have hy2_1 : w.heap.size + 1 < w2.heap.size := by omega); (try have hy2_2 : w.heap.size + 1 + 1 < w2.heap.size := by omega); (try have hy2_3 : w.heap.size + 1 + 1 + 1 < w2.heap.size := by omega); (try have hy2_4 : w.heap.size + 1 + 1 + 1 + 1 < w2.heap.size := by omega); (try have hy2_5 : w.heap.size + 1 + 1 + 1 + 1 + 1 < w2.heap.size := by omega)
      go_wp2_with fail
      refine (HC.out _).mono ?_; rintro e w3 ⟨rfl, hb3⟩; obtain ⟨hc3, hf3⟩ := Gr.cells hb3; have hz3 := Gr.size hb3; (try simp at hz3); (try have hy3_0 : w.heap.size < w3.heap.size := by omega); (try have hy3_1 : w.heap.size + 1 < w3.heap.size := by omega); (try have hy3_2 : w.heap.size + 1 + 1 < w3.heap.size := by omega); (try have hy3_3 : w.heap.size + 1 + 1 + 1 < w3.heap.size := by omega); (try have hy3_4 : w.heap.size + 1 + 1 + 1 + 1 < w3.heap.size := by omega); (try have hy3_5 : w.heap.size + 1 + 1 + 1 + 1 + 1 < w3.heap.size := by omega)
      go_wp2
      go_ret3
      exact ⟨rfl, gr_auto⟩
    · simp only [h2, if_true] at hc ⊢
      have HF := Lib.hid hf; have HC := Lib.hid hc; have HT := Lib.hid ht
      clear hf hc ht h1 h2 hd
      go_enter Tryz.func178, Tryz.ntmps178
      go_wp2_with fail
      refine (HT.out _).mono ?_; rintro e w1 ⟨rfl, hb1⟩; obtain ⟨hc1, hf1⟩ := Gr.cells hb1; have hz1 := Gr.size hb1; (try simp at hz1); (try have hy1_0 : w.heap.size < w1.heap.size := by omega); (try have hy1_1 : w.heap.size + 1 < w1.heap.size := by omega); (try have hy1_2 : w.heap.size + 1 + 1 < w1.heap.size := by omega); (try have hy1_3 : w.heap.size + 1 + 1 + 1 < w1.heap.size := by omega); (try have hy1_4 : w.heap.size + 1 + 1 + 1 + 1 < w1.heap.size := by omega); (try have hy1_5 : w.heap.size + 1 + 1 + 1 + 1 + 1 < w1.heap.size := by omega)
      go_wp2_with fail
      refine (HF.out _).mono ?_; rintro e w2 ⟨rfl, hb2⟩; obtain ⟨hc2, hf2⟩ := Gr.cells hb2; have hz2 := Gr.size hb2; (try simp at hz2); (try have hy2_0 : w.heap.size < w2.heap.size := by omega); (try have hy2_1 : w.heap.size + 1 < w2.heap.size := by omega); (try have hy2_2 : w.heap.size + 1 + 1 < w2.heap.size := by omega); (try have hy2_3 : w.heap.size + 1 + 1 + 1 < w2.heap.size := by omega); (try have hy2_4 : w.heap.size + 1 + 1 + 1 + 1 < w2.heap.size := by omega); (try have hy2_5 : w.heap.size + 1 + 1 + 1 + 1 + 1 < w2.heap.size := by omega)
      go_wp2_with fail
      refine (HC.out _).mono ?_; rintro e w3 ⟨rfl, hb3⟩; obtain ⟨hc3, hf3⟩ := Gr.cells hb3; have hz3 := Gr.size hb3; (try simp at hz3); (try have hy3_0 : w.heap.size < w3.heap.size := by omega); (try have hy3_1 : w.heap.size + 1 < w3.heap.size := by omega); (try have hy3_2 : w.heap.size + 1 + 1 < w3.heap.size := by omega); (try have hy3_3 : w.heap.size + 1 + 1 + 1 < w3.heap.size := by omega); (try have hy3_4 : w.heap.size + 1 + 1 + 1 + 1 < w3.heap.size := by omega); (try have hy3_5 : w.heap.size + 1 + 1 + 1 + 1 + 1 < w3.heap.size := by omega)
      go_wp2
      go_ret3
      exact ⟨rfl, gr_auto⟩
end Go.Proofs.YtllkiadedaghoaaGreat
namespace Go.Proofs.YtllkiadedaghoaaGreat
open Go.RowKit
namespace Wd
/-- The root, bit by bit: from r on, k bits are still to come. -/
def rootGo : Nat → Int → Int → Int
  | 0, _, r => r
  | k + 1, v, r => if (r + 2 ^ k) * (r + 2 ^ k) ≤ v then rootGo k v (r + 2 ^ k) else rootGo k v r
def root (v : Int) : Int := rootGo 60 v 0
/-- The bit that comes next. -/
def bitAt : Nat → Int
  | 0 => 0
  | k + 1 => 2 ^ k
def RInv (k : Nat) (v r : Int) : Prop := 0 ≤ r ∧ r % 2 ^ k = 0 ∧ r + 2 ^ k ≤ 1152921504606846976 ∧ r * r ≤ v ∧ v < (r + 2 ^ k) * (r + 2 ^ k)
theorem two_pos (k : Nat) : (0 : Int) < 2 ^ k := by exact_mod_cast Nat.two_pow_pos k
theorem bit_half (k : Nat) : bitAt (k + 1) / 2 = bitAt k := by
  cases k with
  | zero => rfl
  | succ k => show (2 : Int) ^ (k + 1) / 2 = 2 ^ k; rw [Int.pow_succ]; omega
theorem rinv_step {k : Nat} {v r : Int} (h : RInv (k + 1) v r) : (if (r + 2 ^ k) * (r + 2 ^ k) ≤ v then RInv k v (r + 2 ^ k) else RInv k v r) := by
  obtain ⟨a, b, c, d, e⟩ := h
  have p := two_pos k
  rw [Int.pow_succ] at b c e
  have b' : r % 2 ^ k = 0 := by
    have : r = 2 ^ k * 2 * (r / (2 ^ k * 2)) := by have := Int.mul_ediv_add_emod r (2 ^ k * 2); omega
    rw [this, Int.mul_assoc]; exact Int.mul_emod_right _ _
  split
  · rename_i g
    refine ⟨by omega, ?_, by omega, g, ?_⟩
    · rw [Int.add_emod, b', Int.emod_self]; rfl
    · have : r + 2 ^ k + 2 ^ k = r + 2 ^ k * 2 := by omega
      rw [this]; exact e
  · rename_i g
    exact ⟨a, b', by omega, d, by omega⟩
theorem rinv_start {v : Int} (h0 : 0 ≤ v) (h1 : v ≤ 1329227995784915872903807060280344575) : RInv 60 v 0 := by
  refine ⟨by omega, rfl, by decide, by omega, ?_⟩
  have : (0 + 2 ^ 60 : Int) * (0 + 2 ^ 60) = 1329227995784915872903807060280344576 := by decide
  rw [this]; omega
theorem root_spec_go : ∀ (k : Nat) (v r : Int), RInv k v r → RInv 0 v (rootGo k v r)
  | 0, _, _, h => h
  | k + 1, v, r, h => by
    have s := rinv_step h
    unfold rootGo
    split
    · rename_i g; rw [if_pos g] at s; exact root_spec_go k v _ s
    · rename_i g; rw [if_neg g] at s; exact root_spec_go k v _ s
theorem root_spec {v : Int} (h0 : 0 ≤ v) (h1 : v ≤ 1329227995784915872903807060280344575) : 0 ≤ root v ∧ root v ≤ 1152921504606846975 ∧ root v * root v ≤ v ∧ v < (root v + 1) * (root v + 1) := by
  obtain ⟨a, b, c, d, e⟩ := root_spec_go 60 v 0 (rinv_start h0 h1)
  have p1 : (2 : Int) ^ 0 = 1 := rfl
  rw [p1] at c e
  exact ⟨a, by unfold root; omega, d, e⟩
theorem or_bit {k : Nat} {v r : Int} (h : RInv (k + 1) v r) : bits .or .u64 r (2 ^ k) = r + 2 ^ k := by
  obtain ⟨a, b, c, d, e⟩ := h
  have p := two_pos k
  rw [Int.pow_succ] at b c e
  rw [u64_or _ _ a (by omega) (by omega) (by omega)]
  have e1 : ((2 : Int) ^ k).toNat = 2 ^ k := by
    have : (2 : Int) ^ k = ((2 ^ k : Nat) : Int) := by push_cast; rfl
    rw [this]; rfl
  have e2 : r.toNat % 2 ^ (k + 1) = 0 := by
    obtain ⟨n, rfl⟩ := Int.eq_ofNat_of_zero_le a
    have : ((2 : Int) ^ k * 2) = ((2 ^ (k + 1) : Nat) : Int) := by rw [Nat.pow_succ]; push_cast; rfl
    rw [this] at b
    rw [Int.toNat_natCast]
    omega
  rw [e1, nat_join (k + 1) _ _ e2 (by rw [Nat.pow_succ]; have := Nat.two_pow_pos k; omega)]
  have : ((2 ^ k : Nat) : Int) = (2 : Int) ^ k := by push_cast; rfl
  omega
end Wd
end Go.Proofs.YtllkiadedaghoaaGreat
namespace Go.Proofs.YtllkiadedaghoaaGreat
open Go.RowKit
namespace Wd
theorem has_bounds {v : Int} (hv : has v = true) : -1329227995784915872903807060280344576 ≤ v ∧ v ≤ 1329227995784915872903807060280344575 := by
  unfold has at hv; simp only [Bool.and_eq_true, decide_eq_true_eq] at hv; exact hv
theorem has_of {v : Int} (h0 : -1329227995784915872903807060280344576 ≤ v) (h1 : v ≤ 1329227995784915872903807060280344575) : has v = true := by
  unfold has; rw [decide_eq_true h0, decide_eq_true h1]; rfl
theorem val_w {v : Int} (hv : has v = true) : vld (wH v) (wL v) = true ∧ val (wH v) (wL v) = v := by
  obtain ⟨a, b⟩ := has_bounds hv
  obtain ⟨e1, e2, e3⟩ := has_true a b
  rw [e1, e2]
  refine ⟨vld_mk (by omega) (by omega) (by omega) (by omega), by unfold val; omega⟩
theorem w_val {h l : Int} (hv : vld h l = true) : ∃ v, has v = true ∧ h = wH v ∧ l = wL v := by
  obtain ⟨a, b⟩ := val_bounds hv
  obtain ⟨c, d⟩ := val_div hv
  obtain ⟨e1, e2, e3⟩ := has_true a b
  exact ⟨val h l, has_of a b, by rw [e1, c], by rw [e2, d]⟩
theorem wE_has {v : Int} (hv : has v = true) : wE v = 0 := by unfold wE; rw [hv]; rfl
theorem wE_not {v : Int} (hv : has v = false) : wE v = 5 ∧ wH v = 0 ∧ wL v = 0 := by unfold wE wH wL; rw [hv]; exact ⟨rfl, rfl, rfl⟩
theorem root_uniq {v r : Int} (h0 : 0 ≤ r) (h1 : r * r ≤ v) (h2 : v < (r + 1) * (r + 1)) (hv : v ≤ 1329227995784915872903807060280344575) : root v = r := by
  have v0 : 0 ≤ v := by have := Int.mul_nonneg h0 h0; omega
  obtain ⟨a, b, c, d⟩ := root_spec v0 hv
  generalize root v = s at *
  by_cases hlt : s < r
  · have := Int.mul_le_mul (show s + 1 ≤ r by omega) (show s + 1 ≤ r by omega) (by omega) h0; omega
  · by_cases hgt : r < s
    · have := Int.mul_le_mul (show r + 1 ≤ s by omega) (show r + 1 ≤ s by omega) (by omega) a; omega
    · omega
theorem root_sq {r : Int} (h0 : 0 ≤ r) (hv : r * r ≤ 1329227995784915872903807060280344575) : root (r * r) = r :=
  root_uniq h0 (Int.le_refl _) (by have := Int.mul_add (r + 1) r 1; have := Int.add_mul r 1 r; omega) hv
theorem root_ex : root 1267650600228229401496703205376 = 1125899906842624 := root_uniq (by decide) (by decide) (by decide) (by decide)
theorem has_ex : has (1099511627776 * -1073741824) = true ∧ wH (1099511627776 * -1073741824) = -1024 ∧ wL (1099511627776 * -1073741824) = 0 := by decide
theorem sc_ex : scLo (7 * -3) 2 = -11 ∧ scHi (7 * -3) 2 = -10 ∧ scE (7 * -3) 2 = 0 := by decide
end Wd
theorem sub_w (x y : Int) (w : World) (hx : Wd.has x = true) (hy : Wd.has y = true) :
    Calls Tryz.prog 180 #[.agg #[.int .i64 (Wd.wH x), .int .i64 (Wd.wL x)], .agg #[.int .i64 (Wd.wH y), .int .i64 (Wd.wL y)]] w fun e w' => e = .returned (.tuple #[.agg #[.int .i64 (Wd.wH (x - y)), .int .i64 (Wd.wL (x - y))], .int .i64 (Wd.wE (x - y))]) ∧ Gr w w' := by
  obtain ⟨a, b⟩ := Wd.val_w hx; obtain ⟨c, d⟩ := Wd.val_w hy
  have := sub_any _ _ _ _ w a c; rw [b, d] at this; exact this
theorem valid_w (x : Int) (w : World) (hx : Wd.has x = true) :
    Calls Tryz.prog 198 #[.agg #[.int .i64 (Wd.wH x), .int .i64 (Wd.wL x)]] w fun e w' => e = .returned (.bool true) ∧ Gr w w' := valid_true _ _ w (Wd.val_w hx).1
theorem int_w (x : Int) (w : World) (hx : Wd.has x = true) :
    Calls Tryz.prog 181 #[.agg #[.int .i64 (Wd.wH x), .int .i64 (Wd.wL x)]] w fun e w' => e = .returned (.tuple #[.int .i64 (Wd.intQ x), .int .i64 (Wd.intE x)]) ∧ Gr w w' := by
  obtain ⟨a, b⟩ := Wd.val_w hx
  have := int_any _ _ w a; rw [b] at this; exact this
end Go.Proofs.YtllkiadedaghoaaGreat
namespace Go.Proofs.YtllkiadedaghoaaGreat
open Go.RowKit
namespace Wd
theorem mag_mag (v : Int) : mag (mag v) = mag v := mag_of_nonneg (mag_nonneg v)
theorem hi_mag (v : Int) : hi (mag v) = hi v := by unfold hi; rw [mag_mag]
theorem lo_mag (v : Int) : lo (mag v) = lo v := by unfold lo; rw [mag_mag]
/-- A number with a sign. -/
def sg (b : Bool) (m : Int) : Int := if b then -m else m
theorem hi_sg (b : Bool) (m : Int) : hi (sg b m) = hi m := by unfold sg; cases b; rfl; exact hi_neg m
theorem lo_sg (b : Bool) (m : Int) : lo (sg b m) = lo m := by unfold sg; cases b; rfl; exact lo_neg m
theorem mk_sg (b : Bool) {m : Int} (h : 0 ≤ m) : mk (hi m) (lo m) b = sg b m := by
  have a := hilo m; rw [mag_of_nonneg h] at a; unfold mk sg; cases b <;> simp <;> omega
theorem lt_words (x y : Int) : mag x < mag y ↔ hi x < hi y ∨ hi x = hi y ∧ lo x < lo y := by
  have a := hilo x; have b := hilo y
  have a0 := lo_nonneg x; have a1 := lo_lt x; have b0 := lo_nonneg y; have b1 := lo_lt y
  omega
end Wd
set_option maxHeartbeats 400000 in
theorem rsize_any (n : Int) (w : World) (h0 : -9223372036854775808 ≤ n) (h1 : n ≤ 9223372036854775807) :
    Calls Tryz.prog 207 #[.int .i64 n] w fun e w' => e = .returned (.int .u64 (Wd.mag n)) ∧ w = w' := by
  by_cases hn : n < 0
  · go_enter Tryz.func207, Tryz.ntmps207
    go_wp2
    go_ret
    exact ⟨ret_int (by rw [Wd.mag_of_neg hn, IntKind.wrap_u64, IntKind.wrap_u64]; omega), rfl⟩
  · have hn' : 0 ≤ n := by omega
    go_enter Tryz.func207, Tryz.ntmps207
    go_wp2
    go_ret
    exact ⟨ret_int (by rw [Wd.mag_of_nonneg hn']), rfl⟩
set_option maxHeartbeats 400000 in
theorem wrless_any (x y : Int) (w : World) :
    Calls Tryz.prog 218 #[.agg #[.int .u64 (Wd.hi x), .int .u64 (Wd.lo x)], .agg #[.int .u64 (Wd.hi y), .int .u64 (Wd.lo y)]] w fun e w' => e = .returned (.bool (decide (Wd.mag x < Wd.mag y))) ∧ Gr w w' := by
  have hl := Wd.lt_words x y
  have e : decide (Wd.mag x < Wd.mag y) = (decide (Wd.hi x < Wd.hi y) || (Wd.hi x == Wd.hi y && decide (Wd.lo x < Wd.lo y))) := by
    rw [Bool.eq_iff_iff]; simp [hl]
  rw [e]
  clear hl e
  generalize Wd.hi x = a; generalize Wd.lo x = b; generalize Wd.hi y = c; generalize Wd.lo y = d
  by_cases h1 : a < c
  · have h1' : decide (a < c) = true := decide_eq_true h1
    go_enter Tryz.func218, Tryz.ntmps218
    go_wp2
    go_ret
    exact ⟨by simp [h1], gr_auto⟩
  · have h1' : decide (a < c) = false := decide_eq_false h1
    by_cases h2 : a = c
    · subst h2
      have h2' : (a == a) = true := by simp
      clear h1
      go_enter Tryz.func218, Tryz.ntmps218
      go_wp2
      all_goals
        go_ret
        exact ⟨by simp [*], gr_auto⟩
    · have h2' : (a == c) = false := by simpa using h2
      go_enter Tryz.func218, Tryz.ntmps218
      go_wp2
      go_ret
      exact ⟨by simp [*], gr_auto⟩
set_option maxHeartbeats 400000 in
theorem rplus_any (x y : Int) (w : World) (hxy : Wd.mag x + Wd.mag y ≤ 340282366920938463463374607431768211455) :
    Calls Tryz.prog 204 #[.agg #[.int .u64 (Wd.hi x), .int .u64 (Wd.lo x)], .agg #[.int .u64 (Wd.hi y), .int .u64 (Wd.lo y)]] w fun e w' => e = .returned (.agg #[.int .u64 (Wd.hi (Wd.mag x + Wd.mag y)), .int .u64 (Wd.lo (Wd.mag x + Wd.mag y))]) ∧ Gr w w' := by
  have a0 := Wd.lo_nonneg x; have a1 := Wd.lo_lt x; have b0 := Wd.lo_nonneg y; have b1 := Wd.lo_lt y
  have c0 := Wd.hi_nonneg x; have d0 := Wd.hi_nonneg y
  have e1 := Wd.hilo x; have e2 := Wd.hilo y
  have m1 := Wd.mag_nonneg x; have m2 := Wd.mag_nonneg y
  have h1 : Wd.hi (Wd.mag x + Wd.mag y) = (Wd.mag x + Wd.mag y) / 18446744073709551616 := by unfold Wd.hi; rw [Wd.mag_of_nonneg (by omega)]
  have h2 : Wd.lo (Wd.mag x + Wd.mag y) = (Wd.mag x + Wd.mag y) % 18446744073709551616 := by unfold Wd.lo; rw [Wd.mag_of_nonneg (by omega)]
  rw [h1, h2]
  rw [← e1, ← e2] at hxy ⊢
  clear h1 h2 e1 e2 m1 m2
  generalize Wd.hi x = a at *; generalize Wd.lo x = b at *; generalize Wd.hi y = c at *; generalize Wd.lo y = d at *
  by_cases hc : b + d ≤ 18446744073709551615
  · have r1 : (a * 18446744073709551616 + b + (c * 18446744073709551616 + d)) / 18446744073709551616 = a + c := by omega
    have r2 : (a * 18446744073709551616 + b + (c * 18446744073709551616 + d)) % 18446744073709551616 = b + d := by omega
    rw [r1, r2]
    have hac : a + c ≤ 18446744073709551615 := by omega
    have ht : decide (b + d < b) = false := decide_eq_false (by omega)
    clear r1 r2 hxy
    go_enter Tryz.func204, Tryz.ntmps204
    go_wp2
    go_returns
    exact ⟨by first | rfl | (simp; done), gr_auto⟩
  · have r1 : (a * 18446744073709551616 + b + (c * 18446744073709551616 + d)) / 18446744073709551616 = a + c + 1 := by omega
    have r2 : (a * 18446744073709551616 + b + (c * 18446744073709551616 + d)) % 18446744073709551616 = b + d - 18446744073709551616 := by omega
    rw [r1, r2]
    have hw : IntKind.u64.wrap (b + d) = b + d - 18446744073709551616 := by rw [IntKind.wrap_u64]; omega
    have hac : a + c + 1 ≤ 18446744073709551615 := by omega
    have ht : decide (b + d - 18446744073709551616 < b) = true := decide_eq_true (by omega)
    clear r1 r2 hxy
    go_enter Tryz.func204, Tryz.ntmps204
    go_wp2
    go_returns
    exact ⟨by first | rfl | (simp; done), gr_auto⟩
set_option maxHeartbeats 400000 in
theorem rminus_any (x y : Int) (w : World) (hxy : Wd.mag y ≤ Wd.mag x) (hx : Wd.hi x ≤ 18446744073709551615) :
    Calls Tryz.prog 219 #[.agg #[.int .u64 (Wd.hi x), .int .u64 (Wd.lo x)], .agg #[.int .u64 (Wd.hi y), .int .u64 (Wd.lo y)]] w fun e w' => e = .returned (.agg #[.int .u64 (Wd.hi (Wd.mag x - Wd.mag y)), .int .u64 (Wd.lo (Wd.mag x - Wd.mag y))]) ∧ Gr w w' := by
  have a0 := Wd.lo_nonneg x; have a1 := Wd.lo_lt x; have b0 := Wd.lo_nonneg y; have b1 := Wd.lo_lt y
  have c0 := Wd.hi_nonneg x; have d0 := Wd.hi_nonneg y
  have e1 := Wd.hilo x; have e2 := Wd.hilo y
  have h1 : Wd.hi (Wd.mag x - Wd.mag y) = (Wd.mag x - Wd.mag y) / 18446744073709551616 := by unfold Wd.hi; rw [Wd.mag_of_nonneg (by omega)]
  have h2 : Wd.lo (Wd.mag x - Wd.mag y) = (Wd.mag x - Wd.mag y) % 18446744073709551616 := by unfold Wd.lo; rw [Wd.mag_of_nonneg (by omega)]
  rw [h1, h2]
  rw [← e1, ← e2] at hxy ⊢
  clear h1 h2 e1 e2
  generalize Wd.hi x = a at *; generalize Wd.lo x = b at *; generalize Wd.hi y = c at *; generalize Wd.lo y = d at *
  by_cases hc : b < d
  · have r1 : (a * 18446744073709551616 + b - (c * 18446744073709551616 + d)) / 18446744073709551616 = a - c - 1 := by omega
    have r2 : (a * 18446744073709551616 + b - (c * 18446744073709551616 + d)) % 18446744073709551616 = b - d + 18446744073709551616 := by omega
    rw [r1, r2]
    have hw : IntKind.u64.wrap (b - d) = b - d + 18446744073709551616 := by rw [IntKind.wrap_u64]; omega
    have hac : 0 ≤ a - c - 1 := by omega
    have ht : decide (b < d) = true := decide_eq_true hc
    clear r1 r2 hxy
    go_enter Tryz.func219, Tryz.ntmps219
    go_wp2
    go_returns
    exact ⟨by first | rfl | (simp; done), gr_auto⟩
  · have r1 : (a * 18446744073709551616 + b - (c * 18446744073709551616 + d)) / 18446744073709551616 = a - c := by omega
    have r2 : (a * 18446744073709551616 + b - (c * 18446744073709551616 + d)) % 18446744073709551616 = b - d := by omega
    rw [r1, r2]
    have hac : 0 ≤ a - c := by omega
    have ht : decide (b < d) = false := decide_eq_false hc
    clear r1 r2 hxy
    go_enter Tryz.func219, Tryz.ntmps219
    go_wp2
    go_returns
    exact ⟨by first | rfl | (simp; done), gr_auto⟩
set_option maxHeartbeats 400000 in
theorem rmul_any (x y : Int) (w : World) (hx0 : 0 ≤ x) (hx : x ≤ 18446744073709551615) (hy0 : 0 ≤ y) (hy : y ≤ 18446744073709551615) :
    Calls Tryz.prog 206 #[.int .u64 x, .int .u64 y] w fun e w' => e = .returned (.agg #[.int .u64 (Wd.hi (x * y)), .int .u64 (Wd.lo (x * y))]) ∧ Gr w w' := by
  have ax := and_low32 x hx0 (by omega)
  have ay := and_low32 y hy0 (by omega)
  have ex : x = x / 4294967296 * 4294967296 + x % 4294967296 := by omega
  have ey : y = y / 4294967296 * 4294967296 + y % 4294967296 := by omega
  have hxy : x * y = x / 4294967296 * (y / 4294967296) * 18446744073709551616 + (x / 4294967296 * (y % 4294967296) + x % 4294967296 * (y / 4294967296)) * 4294967296 + x % 4294967296 * (y % 4294967296) := by
    conv => lhs; rw [ex, ey]
    exact split_mul _ _ _ _
  have pA := prod_bound (x / 4294967296) (y / 4294967296) (by omega) (by omega) (by omega) (by omega)
  have pB := prod_bound (x / 4294967296) (y % 4294967296) (by omega) (by omega) (by omega) (by omega)
  have pC := prod_bound (x % 4294967296) (y % 4294967296) (by omega) (by omega) (by omega) (by omega)
  have pD := prod_bound (x % 4294967296) (y / 4294967296) (by omega) (by omega) (by omega) (by omega)
  have h1 : Wd.hi (x * y) = x * y / 18446744073709551616 := by unfold Wd.hi; rw [Wd.mag_of_nonneg (Int.mul_nonneg hx0 hy0)]
  have h2 : Wd.lo (x * y) = x * y % 18446744073709551616 := by unfold Wd.lo; rw [Wd.mag_of_nonneg (Int.mul_nonneg hx0 hy0)]
  rw [h1, h2, hxy]
  clear h1 h2 hxy ex ey
  obtain ⟨A, hA⟩ : ∃ A, x / 4294967296 * (y / 4294967296) = A := ⟨_, rfl⟩
  obtain ⟨B, hB⟩ : ∃ A, x / 4294967296 * (y % 4294967296) = A := ⟨_, rfl⟩
  obtain ⟨C, hC⟩ : ∃ A, x % 4294967296 * (y % 4294967296) = A := ⟨_, rfl⟩
  obtain ⟨D, hD⟩ : ∃ A, x % 4294967296 * (y / 4294967296) = A := ⟨_, rfl⟩
  rw [hA] at pA ⊢
  rw [hB] at pB ⊢
  rw [hC] at pC ⊢
  rw [hD] at pD ⊢
  obtain ⟨A0, A1⟩ := pA; obtain ⟨B0, B1⟩ := pB; obtain ⟨C0, C1⟩ := pC; obtain ⟨D0, D1⟩ := pD
  obtain ⟨M, hM⟩ : ∃ M, B + C / 4294967296 = M := ⟨_, rfl⟩
  have M0 : 0 ≤ M ∧ M ≤ 18446744069414584320 := by omega
  obtain ⟨M0, M1⟩ := M0
  have aM := and_low32 M M0 (by omega)
  have aC := and_low32 C C0 (by omega)
  obtain ⟨N, hN⟩ : ∃ N, M % 4294967296 = N := ⟨_, rfl⟩
  obtain ⟨O, hO⟩ : ∃ O, D + N = O := ⟨_, rfl⟩
  have N0 : 0 ≤ N ∧ N ≤ 4294967295 := by omega
  obtain ⟨N0, N1⟩ := N0
  have O0 : 0 ≤ O ∧ O ≤ 18446744069414584320 := by omega
  obtain ⟨O0, O1⟩ := O0
  obtain ⟨Z, hZ⟩ : ∃ Z, IntKind.u64.wrap (O * 4294967296) = Z := ⟨_, rfl⟩
  have hZ' := hZ
  rw [IntKind.wrap_u64] at hZ'
  have Z0 : 0 ≤ Z ∧ Z ≤ 18446744069414584320 := by omega
  obtain ⟨Z0, Z1⟩ := Z0
  have r1 : (A * 18446744073709551616 + (B + D) * 4294967296 + C) / 18446744073709551616 = A + M / 4294967296 + O / 4294967296 := by omega
  have r2 : (A * 18446744073709551616 + (B + D) * 4294967296 + C) % 18446744073709551616 = Z + C % 4294967296 := by omega
  rw [r1, r2]
  clear r1 r2 hZ'
  go_enter Tryz.func206, Tryz.ntmps206
  go_wp2
  go_returns
  exact ⟨by first | rfl | (simp; done), gr_auto⟩
set_option maxHeartbeats 400000 in
theorem rmade_raw (h l : Int) (b : Bool) (w : World) (h0 : 0 ≤ h) (l0 : 0 ≤ l) :
    Calls Tryz.prog 205 #[.agg #[.int .u64 h, .int .u64 l], .bool b] w fun e w' => e = .returned (.agg #[.int .u64 h, .int .u64 l, .bool (Wd.neg (Wd.mk h l b))]) ∧ Gr w w' := by
  cases b
  · rw [Wd.neg_mk_false h l h0 l0]
    go_enter Tryz.func205, Tryz.ntmps205
    go_wp2
    go_region
    all_goals
      go_wp2
      go_returns
      exact ⟨by first | rfl | (simp; done), gr_auto⟩
  · by_cases hz : h ≠ 0 ∨ l ≠ 0
    · rw [Wd.neg_mk_true h l h0 l0 hz]
      by_cases hh : h = 0
      · subst hh
        have hl : (l == 0) = false := by simp at hz; simpa using hz
        go_enter Tryz.func205, Tryz.ntmps205
        go_wp2
        go_region
        all_goals
          go_wp2
          go_returns
          exact ⟨by first | rfl | (simp; done), gr_auto⟩
      · have hh' : (h == 0) = false := by simpa using hh
        clear hz
        go_enter Tryz.func205, Tryz.ntmps205
        go_wp2
        go_region
        all_goals
          go_wp2
          go_returns
          exact ⟨by first | rfl | (simp; done), gr_auto⟩
    · have hh : h = 0 := by omega
      have hl : l = 0 := by omega
      subst hh; subst hl
      rw [Wd.neg_mk_zero]
      go_enter Tryz.func205, Tryz.ntmps205
      go_wp2
      go_region
      all_goals
        go_wp2
        go_returns
        exact ⟨by first | rfl | (simp; done), gr_auto⟩
theorem rmade_any (m : Int) (b : Bool) (w : World) (hm : 0 ≤ m) :
    Calls Tryz.prog 205 #[.agg #[.int .u64 (Wd.hi m), .int .u64 (Wd.lo m)], .bool b] w fun e w' => e = .returned (.agg #[.int .u64 (Wd.hi (Wd.sg b m)), .int .u64 (Wd.lo (Wd.sg b m)), .bool (Wd.neg (Wd.sg b m))]) ∧ Gr w w' := by
  rw [Wd.hi_sg, Wd.lo_sg, ← Wd.mk_sg b hm]
  exact rmade_raw _ _ _ w (Wd.hi_nonneg m) (Wd.lo_nonneg m)
end Go.Proofs.YtllkiadedaghoaaGreat
namespace Go.Proofs.YtllkiadedaghoaaGreat
open Go.RowKit
namespace Wd
theorem sg_neg (v : Int) : sg (neg v) (mag v) = v := by unfold sg neg mag; by_cases h : v < 0 <;> simp [h]
theorem sg_opp (v : Int) : sg (!neg v) (mag v) = -v := by unfold sg neg mag; by_cases h : v < 0 <;> simp [h]
theorem mag_zero {v : Int} : mag v = 0 ↔ v = 0 := by unfold mag; split <;> omega
theorem add_same {x y : Int} (h : neg x = neg y) : sg (neg x) (mag x + mag y) = x + y := by
  unfold sg neg mag at *; by_cases hx : x < 0 <;> by_cases hy : y < 0 <;> simp [hx, hy] at h ⊢ <;> omega
theorem add_less {x y : Int} (h : neg x ≠ neg y) : sg (neg y) (mag y - mag x) = x + y := by
  unfold sg neg mag at *; by_cases hx : x < 0 <;> by_cases hy : y < 0 <;> simp [hx, hy] at h ⊢ <;> omega
theorem add_more {x y : Int} (h : neg x ≠ neg y) : sg (neg x) (mag x - mag y) = x + y := by
  unfold sg neg mag at *; by_cases hx : x < 0 <;> by_cases hy : y < 0 <;> simp [hx, hy] at h ⊢ <;> omega
theorem hi_zero {v : Int} (h0 : 0 ≤ mag v) (h1 : mag v ≤ 18446744073709551615) : hi v = 0 ∧ lo v = mag v := by unfold hi lo; omega
/-- What IsInt returns as an int: the number, or the lowest bits of it. -/
def low (v : Int) : Int := if fits v then v else if neg v then wrap64 (IntKind.u64.wrap (0 - lo v)) else wrap64 (lo v)
theorem low_fits {v : Int} (h : fits v = true) : low v = v := by unfold low; rw [h]; rfl
theorem low_neg {v : Int} (h : v < 0) (hb : hi v = 0 → lo v ≤ 9223372036854775808 → fits v = true) : wrap64 (IntKind.u64.wrap (0 - lo v)) = low v := by
  unfold low
  by_cases hf : fits v = true
  · rw [hf]
    have e := hilo v
    rw [mag_of_neg h] at e
    unfold fits at hf
    simp only [Bool.and_eq_true, decide_eq_true_eq] at hf
    have l0 := lo_nonneg v
    have h0 := hi_nonneg v
    rw [IntKind.wrap_u64]; unfold wrap64; simp; omega
  · rw [if_neg hf, neg_of_neg h]; rfl
theorem low_pos {v : Int} (h : 0 ≤ v) : wrap64 (lo v) = low v := by
  unfold low
  by_cases hf : fits v = true
  · rw [hf]
    have e := hilo v
    rw [mag_of_nonneg h] at e
    unfold fits at hf
    simp only [Bool.and_eq_true, decide_eq_true_eq] at hf
    have l0 := lo_nonneg v
    have h0 := hi_nonneg v
    unfold wrap64; simp; omega
  · rw [if_neg hf, neg_of_nonneg h]; rfl
theorem fits_neg {v : Int} (h : v < 0) : fits v = (hi v == 0 && decide (lo v ≤ 9223372036854775808)) := by
  have e := hilo v; rw [mag_of_neg h] at e
  have l0 := lo_nonneg v; have l1 := lo_lt v; have h0 := hi_nonneg v
  unfold fits
  rw [Bool.eq_iff_iff]; simp only [Bool.and_eq_true, decide_eq_true_eq, beq_iff_eq]; omega
theorem fits_pos {v : Int} (h : 0 ≤ v) : fits v = (hi v == 0 && decide (lo v < 9223372036854775808)) := by
  have e := hilo v; rw [mag_of_nonneg h] at e
  have l0 := lo_nonneg v; have l1 := lo_lt v; have h0 := hi_nonneg v
  unfold fits
  rw [Bool.eq_iff_iff]; simp only [Bool.and_eq_true, decide_eq_true_eq, beq_iff_eq]; omega
end Wd
theorem rmade_v (v : Int) (b : Bool) (w : World) :
    Calls Tryz.prog 205 #[.agg #[.int .u64 (Wd.hi v), .int .u64 (Wd.lo v)], .bool b] w fun e w' => e = .returned (.agg #[.int .u64 (Wd.hi (Wd.sg b (Wd.mag v))), .int .u64 (Wd.lo (Wd.sg b (Wd.mag v))), .bool (Wd.neg (Wd.sg b (Wd.mag v)))]) ∧ Gr w w' := by
  have := rmade_any (Wd.mag v) b w (Wd.mag_nonneg v)
  rw [Wd.hi_mag, Wd.lo_mag] at this; exact this
set_option maxHeartbeats 400000 in
theorem rofint_any (n : Int) (w : World) (n0 : -9223372036854775808 ≤ n) (n1 : n ≤ 9223372036854775807) :
    Calls Tryz.prog 185 #[.int .i64 n] w fun e w' => e = .returned (.agg #[.int .u64 (Wd.hi n), .int .u64 (Wd.lo n), .bool (Wd.neg n)]) ∧ Gr w w' := by
  have m1 := Wd.mag_le n0 n1
  have m0 := Wd.mag_nonneg n
  obtain ⟨e1, e2⟩ := Wd.hi_zero (v := n) m0 (by omega)
  have hm : ∀ (W : World) (b : Bool), b = Wd.neg n → Calls Tryz.prog 205 #[.agg #[.int .u64 0, .int .u64 (Wd.mag n)], .bool b] W fun e w' => e = .returned (.agg #[.int .u64 (Wd.hi n), .int .u64 (Wd.lo n), .bool (Wd.neg n)]) ∧ Gr W w' := fun W b hb => by
    have := rmade_v n b W
    rw [hb, Wd.sg_neg] at this
    rw [hb]
    rw [e1, e2] at this ⊢
    exact this
  have HM := Lib.hid hm
  clear hm e1 e2
  by_cases hn : n < 0
  · have hn' : decide (n < 0) = true := decide_eq_true hn
    have HN := Lib.hid (Wd.neg_of_neg hn)
    go_enter Tryz.func185, Tryz.ntmps185
    go_wp2_with (first | (go_at_call 207; refine (rsize_any _ _ n0 n1).mono ?_; rintro e w' ⟨rfl, rfl⟩) | (go_at_call 205; refine (HM.out _ _ HN.out.symm).mono ?_; rintro e w1 ⟨rfl, hb1⟩; obtain ⟨hc1, hf1⟩ := Gr.cells hb1; have hz1 := Gr.size hb1; (try simp at hz1); (try have hy1_0 : w.heap.size < w1.heap.size := by omega); (try have hy1_1 : w.heap.size + 1 < w1.heap.size := by omega); (try have hy1_2 : w.heap.size + 1 + 1 < w1.heap.size := by omega); (try have hy1_3 : w.heap.size + 1 + 1 + 1 < w1.heap.size := by omega); (try have hy1_4 : w.heap.size + 1 + 1 + 1 + 1 < w1.heap.size := by omega); (try have hy1_5 : w.heap.size + 1 + 1 + 1 + 1 + 1 < w1.heap.size := by omega)))
    refine bodyPost_ret (by simp [results, Tryz.results185, go_sem, hc1, hz1, hy1_0]; try rfl) rfl ?_
    exact ⟨by first | rfl | (simp; done), gr_auto⟩
  · have hn' : decide (n < 0) = false := decide_eq_false hn
    have HN := Lib.hid (Wd.neg_of_nonneg (show 0 ≤ n by omega))
    go_enter Tryz.func185, Tryz.ntmps185
    go_wp2_with (first | (go_at_call 207; refine (rsize_any _ _ n0 n1).mono ?_; rintro e w' ⟨rfl, rfl⟩) | (go_at_call 205; refine (HM.out _ _ HN.out.symm).mono ?_; rintro e w1 ⟨rfl, hb1⟩; obtain ⟨hc1, hf1⟩ := Gr.cells hb1; have hz1 := Gr.size hb1; (try simp at hz1); (try have hy1_0 : w.heap.size < w1.heap.size := by omega); (try have hy1_1 : w.heap.size + 1 < w1.heap.size := by omega); (try have hy1_2 : w.heap.size + 1 + 1 < w1.heap.size := by omega); (try have hy1_3 : w.heap.size + 1 + 1 + 1 < w1.heap.size := by omega); (try have hy1_4 : w.heap.size + 1 + 1 + 1 + 1 < w1.heap.size := by omega); (try have hy1_5 : w.heap.size + 1 + 1 + 1 + 1 + 1 < w1.heap.size := by omega)))
    refine bodyPost_ret (by simp [results, Tryz.results185, go_sem, hc1, hz1, hy1_0]; try rfl) rfl ?_
    exact ⟨by first | rfl | (simp; done), gr_auto⟩
end Go.Proofs.YtllkiadedaghoaaGreat
namespace Go.Proofs.YtllkiadedaghoaaGreat
open Go.RowKit
namespace Wd
theorem ord_sub (x y : Int) : ord x y = if neg (x - y) then -1 else if hi (x - y) = 0 ∧ lo (x - y) = 0 then 0 else 1 := by
  have e := hilo (x - y)
  have l0 := lo_nonneg (x - y); have l1 := lo_lt (x - y); have h0 := hi_nonneg (x - y)
  unfold ord neg
  unfold mag at e
  by_cases h : x < y
  · rw [if_pos h]; have : x - y < 0 := by omega
    simp [this]
  · rw [if_neg h]; have : ¬ x - y < 0 := by omega
    simp only [this, decide_false, Bool.false_eq_true, if_false] at e ⊢
    by_cases h2 : y < x
    · rw [if_pos h2, if_neg (by omega)]
    · rw [if_neg h2, if_pos (by omega)]
end Wd
end Go.Proofs.YtllkiadedaghoaaGreat
namespace Go.Proofs.YtllkiadedaghoaaGreat
open Go.RowKit
theorem ret_ib {k : IntKind} {a b : Int} {c d : Bool} (h : a = b) (h' : c = d) : Ending.returned (.tuple #[.int k a, .bool c]) = .returned (.tuple #[.int k b, .bool d]) := by rw [h, h']
set_option maxHeartbeats 400000 in
theorem risint_any (v : Int) (w : World) :
    Calls Tryz.prog 182 #[.agg #[.int .u64 (Wd.hi v), .int .u64 (Wd.lo v), .bool (Wd.neg v)]] w fun e w' => e = .returned (.tuple #[.int .i64 (Wd.low v), .bool (Wd.fits v)]) ∧ Gr w w' := by
  have l0 := Wd.lo_nonneg v; have l1 := Wd.lo_lt v; have h0 := Wd.hi_nonneg v
  by_cases hn : v < 0
  · have e1 := Wd.low_neg hn (fun a b => by rw [Wd.fits_neg hn, a]; simp [b])
    rw [Wd.fits_neg hn, ← e1, Wd.neg_of_neg hn]
    clear e1
    generalize Wd.hi v = a at *; generalize Wd.lo v = b at *
    by_cases hz : a = 0
    · subst hz
      have hz' : ((0 : Int) == 0) = true := rfl
      go_enter Tryz.func182, Tryz.ntmps182
      go_wp2
      go_quiet (fail)
      go_wp2
      go_returns
      exact ⟨ret_ib (by first | rfl | (simp; done)) (by simp), gr_auto⟩
    · have hz' : (a == 0) = false := by simpa using hz
      go_enter Tryz.func182, Tryz.ntmps182
      go_wp2
      go_quiet (fail)
      go_wp2
      go_returns
      exact ⟨ret_ib (by first | rfl | (simp; done)) (by simp [hz]), gr_auto⟩
  · have hn' : 0 ≤ v := by omega
    rw [Wd.fits_pos hn', ← Wd.low_pos hn', Wd.neg_of_nonneg hn']
    generalize Wd.hi v = a at *; generalize Wd.lo v = b at *
    by_cases hz : a = 0
    · subst hz
      have hz' : ((0 : Int) == 0) = true := rfl
      go_enter Tryz.func182, Tryz.ntmps182
      go_wp2
      go_quiet (fail)
      go_wp2
      go_returns
      exact ⟨ret_ib (by first | rfl | (simp; done)) (by simp), gr_auto⟩
    · have hz' : (a == 0) = false := by simpa using hz
      go_enter Tryz.func182, Tryz.ntmps182
      go_wp2
      go_quiet (fail)
      go_wp2
      go_returns
      exact ⟨ret_ib (by first | rfl | (simp; done)) (by simp [hz]), gr_auto⟩
set_option maxHeartbeats 400000 in
theorem rtimes_any (a b : Int) (w : World) (a0 : -9223372036854775808 ≤ a) (a1 : a ≤ 9223372036854775807) (b0 : -9223372036854775808 ≤ b) (b1 : b ≤ 9223372036854775807) :
    Calls Tryz.prog 184 #[.int .i64 a, .int .i64 b] w fun e w' => e = .returned (.agg #[.int .u64 (Wd.hi (a * b)), .int .u64 (Wd.lo (a * b)), .bool (Wd.neg (a * b))]) ∧ Gr w w' := by
  have m1 := Wd.mag_le a0 a1
  have m2 := Wd.mag_le b0 b1
  have n1 := Wd.mag_nonneg a
  have n2 := Wd.mag_nonneg b
  have hmul : ∀ W : World, Calls Tryz.prog 206 #[.int .u64 (Wd.mag a), .int .u64 (Wd.mag b)] W fun e w' => e = .returned (.agg #[.int .u64 (Wd.hi (a * b)), .int .u64 (Wd.lo (a * b))]) ∧ Gr W w' := fun W => by
    have := rmul_any _ _ W n1 (by omega) n2 (by omega)
    rw [Wd.mag_mul, Wd.hi_mag, Wd.lo_mag] at this; exact this
  have hmade : ∀ (W : World) (s : Bool), s = (Wd.neg a != Wd.neg b) → Calls Tryz.prog 205 #[.agg #[.int .u64 (Wd.hi (a * b)), .int .u64 (Wd.lo (a * b))], .bool s] W fun e w' => e = .returned (.agg #[.int .u64 (Wd.hi (a * b)), .int .u64 (Wd.lo (a * b)), .bool (Wd.neg (a * b))]) ∧ Gr W w' := fun W s hs => by
    have := rmade_v (a * b) s W
    have e : Wd.sg s (Wd.mag (a * b)) = a * b := by
      have k := Wd.mk_mul a b
      rw [← hs] at k
      have := Wd.mk_sg s (Wd.mag_nonneg (a * b))
      rw [Wd.hi_mag, Wd.lo_mag, k] at this; exact this.symm
    rw [e] at this; exact this
  have HM := Lib.hid hmul; have HA := Lib.hid hmade
  clear hmul hmade
  generalize a * b = p at *
  by_cases ha : a < 0
  · have ha' : decide (a < 0) = true := decide_eq_true ha
    have NA := Lib.hid (Wd.neg_of_neg ha)
    by_cases hb : b < 0
    · have hb' : decide (b < 0) = true := decide_eq_true hb
      have NB := Lib.hid (Wd.neg_of_neg hb)
      go_enter Tryz.func184, Tryz.ntmps184
      go_wp2_with (first | (go_at_call 207; refine (rsize_any _ _ (by omega) (by omega)).mono ?_; rintro e w' ⟨rfl, rfl⟩) | (go_at_call 206; refine (HM.out _).mono ?_; rintro e w1 ⟨rfl, hb1⟩; obtain ⟨hc1, hf1⟩ := Gr.cells hb1; have hz1 := Gr.size hb1; (try simp at hz1); (try have hy1_0 : w.heap.size < w1.heap.size := by omega); (try have hy1_1 : w.heap.size + 1 < w1.heap.size := by omega); (try have hy1_2 : w.heap.size + 1 + 1 < w1.heap.size := by omega); (try have hy1_3 : w.heap.size + 1 + 1 + 1 < w1.heap.size := by omega); (try have hy1_4 : w.heap.size + 1 + 1 + 1 + 1 < w1.heap.size := by omega); (try have hy1_5 : w.heap.size + 1 + 1 + 1 + 1 + 1 < w1.heap.size := by omega)) | (go_at_call 205; refine (HA.out _ _ (by rw [NA.out, NB.out]; rfl)).mono ?_; rintro e w2 ⟨rfl, hb2⟩; obtain ⟨hc2, hf2⟩ := Gr.cells hb2; have hz2 := Gr.size hb2; (try simp at hz2); (try have hy2_0 : w.heap.size < w2.heap.size := by omega); (try have hy2_1 : w.heap.size + 1 < w2.heap.size := by omega); (try have hy2_2 : w.heap.size + 1 + 1 < w2.heap.size := by omega); (try have hy2_3 : w.heap.size + 1 + 1 + 1 < w2.heap.size := by omega); (try have hy2_4 : w.heap.size + 1 + 1 + 1 + 1 < w2.heap.size := by omega); (try have hy2_5 : w.heap.size + 1 + 1 + 1 + 1 + 1 < w2.heap.size := by omega); (try have hy2_1_0 : w1.heap.size < w2.heap.size := by omega); (try have hy2_1_1 : w1.heap.size + 1 < w2.heap.size := by omega)))
      refine bodyPost_ret (by simp [results, Tryz.results184, go_sem, hc1, hz1, hc2, hz2, hy1_0, hy2_0]; try rfl) rfl ?_
      exact ⟨by first | rfl | (simp; done), gr_auto⟩
    · have hb' : decide (b < 0) = false := decide_eq_false hb
      have NB := Lib.hid (Wd.neg_of_nonneg (show 0 ≤ b by omega))
      go_enter Tryz.func184, Tryz.ntmps184
      go_wp2_with (first | (go_at_call 207; refine (rsize_any _ _ (by omega) (by omega)).mono ?_; rintro e w' ⟨rfl, rfl⟩) | (go_at_call 206; refine (HM.out _).mono ?_; rintro e w1 ⟨rfl, hb1⟩; obtain ⟨hc1, hf1⟩ := Gr.cells hb1; have hz1 := Gr.size hb1; (try simp at hz1); (try have hy1_0 : w.heap.size < w1.heap.size := by omega); (try have hy1_1 : w.heap.size + 1 < w1.heap.size := by omega); (try have hy1_2 : w.heap.size + 1 + 1 < w1.heap.size := by omega); (try have hy1_3 : w.heap.size + 1 + 1 + 1 < w1.heap.size := by omega); (try have hy1_4 : w.heap.size + 1 + 1 + 1 + 1 < w1.heap.size := by omega); (try have hy1_5 : w.heap.size + 1 + 1 + 1 + 1 + 1 < w1.heap.size := by omega)) | (go_at_call 205; refine (HA.out _ _ (by rw [NA.out, NB.out]; rfl)).mono ?_; rintro e w2 ⟨rfl, hb2⟩; obtain ⟨hc2, hf2⟩ := Gr.cells hb2; have hz2 := Gr.size hb2; (try simp at hz2); (try have hy2_0 : w.heap.size < w2.heap.size := by omega); (try have hy2_1 : w.heap.size + 1 < w2.heap.size := by omega); (try have hy2_2 : w.heap.size + 1 + 1 < w2.heap.size := by omega); (try have hy2_3 : w.heap.size + 1 + 1 + 1 < w2.heap.size := by omega); (try have hy2_4 : w.heap.size + 1 + 1 + 1 + 1 < w2.heap.size := by omega); (try have hy2_5 : w.heap.size + 1 + 1 + 1 + 1 + 1 < w2.heap.size := by omega); (try have hy2_1_0 : w1.heap.size < w2.heap.size := by omega); (try have hy2_1_1 : w1.heap.size + 1 < w2.heap.size := by omega)))
      refine bodyPost_ret (by simp [results, Tryz.results184, go_sem, hc1, hz1, hc2, hz2, hy1_0, hy2_0]; try rfl) rfl ?_
      exact ⟨by first | rfl | (simp; done), gr_auto⟩
  · have ha' : decide (a < 0) = false := decide_eq_false ha
    have NA := Lib.hid (Wd.neg_of_nonneg (show 0 ≤ a by omega))
    by_cases hb : b < 0
    · have hb' : decide (b < 0) = true := decide_eq_true hb
      have NB := Lib.hid (Wd.neg_of_neg hb)
      go_enter Tryz.func184, Tryz.ntmps184
      go_wp2_with (first | (go_at_call 207; refine (rsize_any _ _ (by omega) (by omega)).mono ?_; rintro e w' ⟨rfl, rfl⟩) | (go_at_call 206; refine (HM.out _).mono ?_; rintro e w1 ⟨rfl, hb1⟩; obtain ⟨hc1, hf1⟩ := Gr.cells hb1; have hz1 := Gr.size hb1; (try simp at hz1); (try have hy1_0 : w.heap.size < w1.heap.size := by omega); (try have hy1_1 : w.heap.size + 1 < w1.heap.size := by omega); (try have hy1_2 : w.heap.size + 1 + 1 < w1.heap.size := by omega); (try have hy1_3 : w.heap.size + 1 + 1 + 1 < w1.heap.size := by omega); (try have hy1_4 : w.heap.size + 1 + 1 + 1 + 1 < w1.heap.size := by omega); (try have hy1_5 : w.heap.size + 1 + 1 + 1 + 1 + 1 < w1.heap.size := by omega)) | (go_at_call 205; refine (HA.out _ _ (by rw [NA.out, NB.out]; rfl)).mono ?_; rintro e w2 ⟨rfl, hb2⟩; obtain ⟨hc2, hf2⟩ := Gr.cells hb2; have hz2 := Gr.size hb2; (try simp at hz2); (try have hy2_0 : w.heap.size < w2.heap.size := by omega); (try have hy2_1 : w.heap.size + 1 < w2.heap.size := by omega); (try have hy2_2 : w.heap.size + 1 + 1 < w2.heap.size := by omega); (try have hy2_3 : w.heap.size + 1 + 1 + 1 < w2.heap.size := by omega); (try have hy2_4 : w.heap.size + 1 + 1 + 1 + 1 < w2.heap.size := by omega); (try have hy2_5 : w.heap.size + 1 + 1 + 1 + 1 + 1 < w2.heap.size := by omega); (try have hy2_1_0 : w1.heap.size < w2.heap.size := by omega); (try have hy2_1_1 : w1.heap.size + 1 < w2.heap.size := by omega)))
      refine bodyPost_ret (by simp [results, Tryz.results184, go_sem, hc1, hz1, hc2, hz2, hy1_0, hy2_0]; try rfl) rfl ?_
      exact ⟨by first | rfl | (simp; done), gr_auto⟩
    · have hb' : decide (b < 0) = false := decide_eq_false hb
      have NB := Lib.hid (Wd.neg_of_nonneg (show 0 ≤ b by omega))
      go_enter Tryz.func184, Tryz.ntmps184
      go_wp2_with (first | (go_at_call 207; refine (rsize_any _ _ (by omega) (by omega)).mono ?_; rintro e w' ⟨rfl, rfl⟩) | (go_at_call 206; refine (HM.out _).mono ?_; rintro e w1 ⟨rfl, hb1⟩; obtain ⟨hc1, hf1⟩ := Gr.cells hb1; have hz1 := Gr.size hb1; (try simp at hz1); (try have hy1_0 : w.heap.size < w1.heap.size := by omega); (try have hy1_1 : w.heap.size + 1 < w1.heap.size := by omega); (try have hy1_2 : w.heap.size + 1 + 1 < w1.heap.size := by omega); (try have hy1_3 : w.heap.size + 1 + 1 + 1 < w1.heap.size := by omega); (try have hy1_4 : w.heap.size + 1 + 1 + 1 + 1 < w1.heap.size := by omega); (try have hy1_5 : w.heap.size + 1 + 1 + 1 + 1 + 1 < w1.heap.size := by omega)) | (go_at_call 205; refine (HA.out _ _ (by rw [NA.out, NB.out]; rfl)).mono ?_; rintro e w2 ⟨rfl, hb2⟩; obtain ⟨hc2, hf2⟩ := Gr.cells hb2; have hz2 := Gr.size hb2; (try simp at hz2); (try have hy2_0 : w.heap.size < w2.heap.size := by omega); (try have hy2_1 : w.heap.size + 1 < w2.heap.size := by omega); (try have hy2_2 : w.heap.size + 1 + 1 < w2.heap.size := by omega); (try have hy2_3 : w.heap.size + 1 + 1 + 1 < w2.heap.size := by omega); (try have hy2_4 : w.heap.size + 1 + 1 + 1 + 1 < w2.heap.size := by omega); (try have hy2_5 : w.heap.size + 1 + 1 + 1 + 1 + 1 < w2.heap.size := by omega); (try have hy2_1_0 : w1.heap.size < w2.heap.size := by omega); (try have hy2_1_1 : w1.heap.size + 1 < w2.heap.size := by omega)))
      refine bodyPost_ret (by simp [results, Tryz.results184, go_sem, hc1, hz1, hc2, hz2, hy1_0, hy2_0]; try rfl) rfl ?_
      exact ⟨by first | rfl | (simp; done), gr_auto⟩
set_option maxHeartbeats 400000 in
theorem rshift_any (h l b : Int) (w : World) (h0 : 0 ≤ h) (l0 : 0 ≤ l) (l1 : l ≤ 18446744073709551615) (b0 : 0 ≤ b) (b1 : b ≤ 1) :
    Calls Tryz.prog 217 #[.agg #[.int .u64 h, .int .u64 l], .int .u64 b] w fun e w' => e = .returned (.agg #[.int .u64 ((h * 18446744073709551616 + l) * 2 / 18446744073709551616 % 18446744073709551616), .int .u64 (l * 2 % 18446744073709551616 + b)]) ∧ Gr w w' := by
  obtain ⟨X, hX⟩ : ∃ X, IntKind.u64.wrap (h * 2) = X := ⟨_, rfl⟩
  obtain ⟨Y, hY⟩ : ∃ X, IntKind.u64.wrap (l * 2) = X := ⟨_, rfl⟩
  have hX' := hX
  have hY' := hY
  rw [IntKind.wrap_u64] at hX' hY'
  have e1 : (h * 18446744073709551616 + l) * 2 / 18446744073709551616 % 18446744073709551616 = X + l / 9223372036854775808 := by omega
  have e2 : l * 2 % 18446744073709551616 = Y := hY'
  have bX : 0 ≤ X ∧ X + l / 9223372036854775808 ≤ 18446744073709551615 := by omega
  have bY : 0 ≤ Y ∧ Y + b ≤ 18446744073709551615 := by omega
  obtain ⟨X0, X1⟩ := bX
  obtain ⟨Y0, Y1⟩ := bY
  rw [e1, e2]
  clear e1 e2 hX' hY'
  go_enter Tryz.func217, Tryz.ntmps217
  go_wp2
  go_returns
  exact ⟨by first | rfl | (simp; done), gr_auto⟩
end Go.Proofs.YtllkiadedaghoaaGreat
namespace Go.Proofs.YtllkiadedaghoaaGreat
open Go.RowKit
namespace Wd
/-- What the long division, bit by bit, knows behind i rounds. -/
def DInv (N D : Int) (i : Nat) (a q r : Int) : Prop := a = N * 2 ^ i % 340282366920938463463374607431768211456 ∧ q = N / 2 ^ (128 - i) / D ∧ r = N / 2 ^ (128 - i) % D
theorem dinv_start (N D : Int) (h0 : 0 ≤ N) (h1 : N < 340282366920938463463374607431768211456) : DInv N D 0 N 0 0 := by
  unfold DInv
  have e : N / 2 ^ (128 - 0) = 0 := Int.ediv_eq_zero_of_lt h0 (by have : (2 : Int) ^ (128 - 0) = 340282366920938463463374607431768211456 := by decide
                                                                  rw [this]; exact h1)
  rw [e]
  have e2 : (2 : Int) ^ 0 = 1 := rfl
  rw [e2]
  exact ⟨by omega, by simp, by simp⟩
theorem dinv_step (N D : Int) (i : Nat) (a q r : Int) (hi : i < 128) (h0 : 0 ≤ N) (hD : 0 < D) (h : DInv N D i a q r) :
    0 ≤ a / 170141183460469231731687303715884105728 ∧ a / 170141183460469231731687303715884105728 ≤ 1 ∧
    (D ≤ 2 * r + a / 170141183460469231731687303715884105728 → DInv N D (i + 1) (a * 2 % 340282366920938463463374607431768211456) (2 * q + 1) (2 * r + a / 170141183460469231731687303715884105728 - D)) ∧
    (2 * r + a / 170141183460469231731687303715884105728 < D → DInv N D (i + 1) (a * 2 % 340282366920938463463374607431768211456) (2 * q) (2 * r + a / 170141183460469231731687303715884105728)) := by
  obtain ⟨ha, hq, hr⟩ := h
  have hPp : (0 : Int) < 2 ^ (127 - i) := two_pos _
  have hIp : (0 : Int) < 2 ^ i := two_pos _
  have hPI : (2 : Int) ^ (127 - i) * 2 ^ i = 170141183460469231731687303715884105728 := by
    rw [← Int.pow_add]; have : 127 - i + i = 127 := by omega
    rw [this]; decide
  have hP2 : (2 : Int) ^ (128 - i) = 2 ^ (127 - i) * 2 := by
    have : 128 - i = (127 - i) + 1 := by omega
    rw [this, Int.pow_succ]
  have hP3 : 128 - (i + 1) = 127 - i := by omega
  have ht : N / 2 ^ (128 - i) = N / 2 ^ (127 - i) / 2 := by rw [hP2, Int.ediv_ediv_of_nonneg (Int.le_of_lt hPp)]
  have hN := Int.mul_ediv_add_emod N (2 ^ (127 - i))
  have s0 := Int.emod_nonneg N (show (2 : Int) ^ (127 - i) ≠ 0 by omega)
  have s1 := Int.emod_lt_of_pos N hPp
  have key : N * 2 ^ i = 170141183460469231731687303715884105728 * (N / 2 ^ (127 - i)) + N % 2 ^ (127 - i) * 2 ^ i := by
    conv => lhs; rw [← hN]
    rw [Int.add_mul, Int.mul_right_comm, hPI]
  have u0 := Int.mul_nonneg s0 (Int.le_of_lt hIp)
  have u1 : N % 2 ^ (127 - i) * 2 ^ i < 170141183460469231731687303715884105728 := by rw [← hPI]; exact Int.mul_lt_mul_of_pos_right s1 hIp
  have t0 := Int.ediv_nonneg h0 (Int.le_of_lt hPp)
  have hbit : a / 170141183460469231731687303715884105728 = N / 2 ^ (127 - i) % 2 := by rw [ha, key]; omega
  have ha2 : a * 2 % 340282366920938463463374607431768211456 = N * 2 ^ (i + 1) % 340282366920938463463374607431768211456 := by
    rw [ha, Int.pow_succ, ← Int.mul_assoc]; omega
  rw [ht] at hq hr
  unfold DInv
  rw [hP3, hbit, ha2]
  generalize N / 2 ^ (127 - i) = t at *
  have e := Int.mul_ediv_add_emod (t / 2) D
  have r0 := Int.emod_nonneg (t / 2) (show D ≠ 0 by omega)
  have r1 := Int.emod_lt_of_pos (t / 2) hD
  rw [← hq, ← hr] at e
  rw [← hr] at r0 r1
  have tt : t = D * (2 * q) + (2 * r + t % 2) := by
    have : D * (2 * q) = 2 * (D * q) := by rw [Int.mul_left_comm]
    rw [this]; omega
  have m1 : D * (2 * q + 1) = D * (2 * q) + D := by rw [Int.mul_add, Int.mul_one]
  refine ⟨by omega, by omega, fun hle => ⟨rfl, ?_, ?_⟩, fun hlt => ⟨rfl, ?_, ?_⟩⟩
  · have k : t = (2 * r + t % 2 - D) + D * (2 * q + 1) := by omega
    conv => rhs; rw [k]
    rw [Int.add_mul_ediv_left _ _ (by omega), Int.ediv_eq_zero_of_lt (by omega) (by omega)]; omega
  · have k : t = (2 * r + t % 2 - D) + D * (2 * q + 1) := by omega
    conv => rhs; rw [k]
    rw [Int.add_mul_emod_self_left]
    exact (Int.emod_eq_of_lt (by omega) (by omega)).symm
  · have k : t = (2 * r + t % 2) + D * (2 * q) := by omega
    conv => rhs; rw [k]
    rw [Int.add_mul_ediv_left _ _ (by omega), Int.ediv_eq_zero_of_lt (by omega) (by omega)]; omega
  · have k : t = (2 * r + t % 2) + D * (2 * q) := by omega
    conv => rhs; rw [k]
    rw [Int.add_mul_emod_self_left]
    exact (Int.emod_eq_of_lt (by omega) (by omega)).symm
theorem dinv_end (N D a q r : Int) (h : DInv N D 128 a q r) : q = N / D ∧ r = N % D := by
  obtain ⟨_, hq, hr⟩ := h
  have e : (2 : Int) ^ (128 - 128) = 1 := rfl
  rw [e, Int.ediv_one] at hq hr
  exact ⟨hq, hr⟩
theorem dinv_q {N D : Int} {i : Nat} {a q r : Int} (h0 : 0 ≤ N) (h1 : N < 340282366920938463463374607431768211456) (hD : 0 < D) (h : DInv N D i a q r) : 0 ≤ a ∧ a ≤ 340282366920938463463374607431768211455 ∧ 0 ≤ q ∧ q ≤ 340282366920938463463374607431768211455 ∧ 0 ≤ r ∧ r < D := by
  obtain ⟨ha, hq, hr⟩ := h
  have p := two_pos (128 - i)
  have a0 := Int.ediv_nonneg h0 (Int.le_of_lt p)
  have a1 := Int.ediv_le_self (2 ^ (128 - i)) h0
  have b0 := Int.ediv_nonneg a0 (Int.le_of_lt hD)
  have b1 := Int.ediv_le_self D a0
  have r0 := Int.emod_nonneg (N / 2 ^ (128 - i)) (show D ≠ 0 by omega)
  have r1 := Int.emod_lt_of_pos (N / 2 ^ (128 - i)) hD
  omega
theorem words {n : Int} (h0 : 0 ≤ n) : hi n = n / 18446744073709551616 ∧ lo n = n % 18446744073709551616 := by
  unfold hi lo; rw [mag_of_nonneg h0]; exact ⟨rfl, rfl⟩
end Wd
theorem rshift_u (n b : Int) (w : World) (h0 : 0 ≤ n) (h1 : n ≤ 340282366920938463463374607431768211455) (b0 : 0 ≤ b) (b1 : b ≤ 1) :
    Calls Tryz.prog 217 #[.agg #[.int .u64 (Wd.hi n), .int .u64 (Wd.lo n)], .int .u64 b] w fun e w' => e = .returned (.agg #[.int .u64 (Wd.hi ((2 * n + b) % 340282366920938463463374607431768211456)), .int .u64 (Wd.lo ((2 * n + b) % 340282366920938463463374607431768211456))]) ∧ Gr w w' := by
  obtain ⟨e1, e2⟩ := Wd.words h0
  obtain ⟨e3, e4⟩ := Wd.words (n := (2 * n + b) % 340282366920938463463374607431768211456) (by omega)
  have := rshift_any (Wd.hi n) (Wd.lo n) b w (Wd.hi_nonneg n) (Wd.lo_nonneg n) (Wd.lo_lt n) b0 b1
  have f1 : Wd.hi ((2 * n + b) % 340282366920938463463374607431768211456) = (Wd.hi n * 18446744073709551616 + Wd.lo n) * 2 / 18446744073709551616 % 18446744073709551616 := by rw [e1, e2, e3]; omega
  have f2 : Wd.lo ((2 * n + b) % 340282366920938463463374607431768211456) = Wd.lo n * 2 % 18446744073709551616 + b := by rw [e2, e4]; omega
  rw [f1, f2]; exact this
set_option maxHeartbeats 400000 in
theorem rminus_mod (x y : Int) (w : World) (hx : Wd.hi x ≤ 18446744073709551615) (hy : Wd.hi y ≤ 18446744073709551615) :
    Calls Tryz.prog 219 #[.agg #[.int .u64 (Wd.hi x), .int .u64 (Wd.lo x)], .agg #[.int .u64 (Wd.hi y), .int .u64 (Wd.lo y)]] w fun e w' => e = .returned (.agg #[.int .u64 (Wd.hi ((Wd.mag x - Wd.mag y) % 340282366920938463463374607431768211456)), .int .u64 (Wd.lo ((Wd.mag x - Wd.mag y) % 340282366920938463463374607431768211456))]) ∧ Gr w w' := by
  have a0 := Wd.lo_nonneg x; have a1 := Wd.lo_lt x; have b0 := Wd.lo_nonneg y; have b1 := Wd.lo_lt y
  have c0 := Wd.hi_nonneg x; have d0 := Wd.hi_nonneg y
  have e1 := Wd.hilo x; have e2 := Wd.hilo y
  obtain ⟨e3, e4⟩ := Wd.words (n := (Wd.mag x - Wd.mag y) % 340282366920938463463374607431768211456) (by omega)
  rw [e3, e4]
  rw [← e1, ← e2]
  clear e1 e2 e3 e4
  generalize Wd.hi x = a at *; generalize Wd.lo x = b at *; generalize Wd.hi y = c at *; generalize Wd.lo y = d at *
  obtain ⟨H, hH⟩ : ∃ H, IntKind.u64.wrap (a - c) = H := ⟨_, rfl⟩
  obtain ⟨L, hL⟩ : ∃ L, IntKind.u64.wrap (b - d) = L := ⟨_, rfl⟩
  have hH' := hH; have hL' := hL
  rw [IntKind.wrap_u64] at hH' hL'
  by_cases hc : b < d
  · obtain ⟨G, hG⟩ : ∃ G, IntKind.u64.wrap (H - 1) = G := ⟨_, rfl⟩
    have hG' := hG
    rw [IntKind.wrap_u64] at hG'
    have r1 : (a * 18446744073709551616 + b - (c * 18446744073709551616 + d)) % 340282366920938463463374607431768211456 / 18446744073709551616 = G := by omega
    have r2 : (a * 18446744073709551616 + b - (c * 18446744073709551616 + d)) % 340282366920938463463374607431768211456 % 18446744073709551616 = L := by omega
    rw [r1, r2]
    have ht : decide (b < d) = true := decide_eq_true hc
    have hN : ¬ (0 ≤ b - d) := by omega
    clear r1 r2 hH' hL' hG'
    go_enter Tryz.func219, Tryz.ntmps219
    go_wp2
    go_returns
    exact ⟨by first | rfl | (simp; done), gr_auto⟩
  · have r1 : (a * 18446744073709551616 + b - (c * 18446744073709551616 + d)) % 340282366920938463463374607431768211456 / 18446744073709551616 = H := by omega
    have r2 : (a * 18446744073709551616 + b - (c * 18446744073709551616 + d)) % 340282366920938463463374607431768211456 % 18446744073709551616 = b - d := by omega
    rw [r1, r2]
    have ht : decide (b < d) = false := decide_eq_false hc
    clear r1 r2 hH' hL' hL
    go_enter Tryz.func219, Tryz.ntmps219
    go_wp2
    go_returns
    exact ⟨by first | rfl | (simp; done), gr_auto⟩
end Go.Proofs.YtllkiadedaghoaaGreat
namespace Go.Proofs.YtllkiadedaghoaaGreat
open Go.RowKit
namespace Wd
/-- The cells of the long division's own blocks: n0 the dividend, n0 + 1 the divisor, n0 + 2 and n0 + 3 the results' variables, n0 + 4 the quotient, n0 + 5 the remainder. -/
def DSt (w wr : World) (a y q r : Int) : Prop :=
  Gr w wr ∧ w.heap.size + 1 + 1 + 1 + 1 + 1 < wr.heap.size ∧
  (wr.cell? ⟨w.heap.size, 0, none⟩ = some (.int .u64 (hi a)) ∧ wr.cell? ⟨w.heap.size, 1, none⟩ = some (.int .u64 (lo a))) ∧
  (wr.cell? ⟨w.heap.size + 1, 0, none⟩ = some (.int .u64 (hi y)) ∧ wr.cell? ⟨w.heap.size + 1, 1, none⟩ = some (.int .u64 (lo y))) ∧
  (wr.cell? ⟨w.heap.size + 1 + 1, 0, none⟩ = some (.int .u64 0) ∧ wr.cell? ⟨w.heap.size + 1 + 1, 1, none⟩ = some (.int .u64 0)) ∧
  (wr.cell? ⟨w.heap.size + 1 + 1 + 1, 0, none⟩ = some (.int .u64 0) ∧ wr.cell? ⟨w.heap.size + 1 + 1 + 1, 1, none⟩ = some (.int .u64 0)) ∧
  (wr.cell? ⟨w.heap.size + 1 + 1 + 1 + 1, 0, none⟩ = some (.int .u64 (hi q)) ∧ wr.cell? ⟨w.heap.size + 1 + 1 + 1 + 1, 1, none⟩ = some (.int .u64 (lo q))) ∧
  (wr.cell? ⟨w.heap.size + 1 + 1 + 1 + 1 + 1, 0, none⟩ = some (.int .u64 (hi r)) ∧ wr.cell? ⟨w.heap.size + 1 + 1 + 1 + 1 + 1, 1, none⟩ = some (.int .u64 (lo r))) ∧
  (∀ o, wr.frozen? ⟨w.heap.size, o, none⟩ = false) ∧ (∀ o, wr.frozen? ⟨w.heap.size + 1 + 1, o, none⟩ = false) ∧ (∀ o, wr.frozen? ⟨w.heap.size + 1 + 1 + 1, o, none⟩ = false) ∧
  (∀ o, wr.frozen? ⟨w.heap.size + 1 + 1 + 1 + 1, o, none⟩ = false) ∧ (∀ o, wr.frozen? ⟨w.heap.size + 1 + 1 + 1 + 1 + 1, o, none⟩ = false)
theorem lo_twice {q : Int} (h0 : 0 ≤ q) (h1 : 2 * q ≤ 340282366920938463463374607431768211455) : hi (2 * q + 1) = hi (2 * q) ∧ lo (2 * q + 1) = lo (2 * q) + 1 ∧ lo (2 * q) + 1 ≤ 18446744073709551615 := by
  obtain ⟨a, b⟩ := words (n := 2 * q) (by omega)
  obtain ⟨c, d⟩ := words (n := 2 * q + 1) (by omega)
  rw [a, b, c, d]; omega
end Wd
set_option maxRecDepth 100000 in
set_option maxHeartbeats 4000000 in
theorem rdiv_any (x y : Int) (w : World) (hx : Wd.hi x ≤ 18446744073709551615) (hy : Wd.hi y ≤ 18446744073709551615) (hy0 : 0 < Wd.mag y) :
    Calls Tryz.prog 203 #[.agg #[.int .u64 (Wd.hi x), .int .u64 (Wd.lo x)], .agg #[.int .u64 (Wd.hi y), .int .u64 (Wd.lo y)]] w fun e w' => e = .returned (.tuple #[.agg #[.int .u64 (Wd.hi (Wd.mag x / Wd.mag y)), .int .u64 (Wd.lo (Wd.mag x / Wd.mag y))], .agg #[.int .u64 (Wd.hi (Wd.mag x % Wd.mag y)), .int .u64 (Wd.lo (Wd.mag x % Wd.mag y))]]) ∧ Gr w w' := by
  have ex := Wd.hilo x; have ey := Wd.hilo y
  have lx := Wd.lo_lt x; have ly := Wd.lo_lt y
  have mx := Wd.mag_nonneg x
  have st := Wd.dinv_start (Wd.mag x) (Wd.mag y) mx (by omega)
  have ST := Lib.hid st
  have MX : Hid (0 ≤ Wd.mag x ∧ Wd.mag x < 340282366920938463463374607431768211456 ∧ 0 < Wd.mag y ∧ Wd.mag y ≤ 340282366920938463463374607431768211455) := ⟨mx, by omega, hy0, by omega⟩
  clear st ex ey lx ly mx hy0
  have hz : Wd.hi 0 = 0 ∧ Wd.lo 0 = 0 := by decide
  obtain ⟨z1, z2⟩ := hz
  have HXX : Hid (Wd.hi (Wd.mag x) = Wd.hi x ∧ Wd.lo (Wd.mag x) = Wd.lo x) := ⟨Wd.hi_mag x, Wd.lo_mag x⟩
  go_enter Tryz.func203, Tryz.ntmps203
  go_wp2_with fail
  go_loopw [8] (fun s8 wr => ∃ (i : Nat) (a q r : Int), i ≤ 128 ∧ s8 = .int .i64 i ∧ Hid (Wd.DInv (Wd.mag x) (Wd.mag y) i a q r) ∧ Wd.DSt w wr a y q r) (fun s8 _ => 128 - (intOf s8).toNat)
  case atStart =>
    refine ⟨0, Wd.mag x, 0, 0, by omega, rfl, ST.out, ?_⟩
    unfold Wd.DSt
    rw [HXX.out.1, HXX.out.2, z1, z2]
    refine ⟨gr_auto, by simp, ?_⟩
    simp [go_sem]
  case round =>
    obtain ⟨i, a, q, r, hi, rfl, hd, hst⟩ := hrel
    unfold Wd.DSt at hst
    obtain ⟨g, sz, ⟨a0, a1⟩, ⟨b0, b1⟩, ⟨e0, e1⟩, ⟨f0, f1⟩, ⟨q0, q1⟩, ⟨r0, r1⟩, fa, fe, ff, fq, fr⟩ := hst
    have sz0 : w.heap.size < wr.heap.size := by omega
    have sz1 : w.heap.size + 1 < wr.heap.size := by omega
    have sz2 : w.heap.size + 1 + 1 < wr.heap.size := by omega
    have sz3 : w.heap.size + 1 + 1 + 1 < wr.heap.size := by omega
    have sz4 : w.heap.size + 1 + 1 + 1 + 1 < wr.heap.size := by omega
    by_cases hlt : i < 128
    · obtain ⟨c0, c1, c2, c3⟩ := MX.out
      obtain ⟨bt0, bt1, h1, h2⟩ := Wd.dinv_step _ _ _ _ _ _ hlt c0 c2 hd.out
      obtain ⟨d0, d1, d2, d3, d4, d5⟩ := Wd.dinv_q c0 c1 c2 hd.out
      have wa := (Wd.words d0).1
      have wr' := (Wd.words d4).1
      obtain ⟨bit, hbit⟩ : ∃ b, a / 170141183460469231731687303715884105728 = b := ⟨_, rfl⟩
      have hbit' : Wd.hi a / 9223372036854775808 = bit := by rw [wa]; omega
      rw [hbit] at bt0 bt1 h1 h2
      obtain ⟨ov, hov⟩ : ∃ o, Wd.hi r / 9223372036854775808 = o := ⟨_, rfl⟩
      have hov' : ov = r / 170141183460469231731687303715884105728 := by rw [← hov, wr']; omega
      have HS1 : Hid (∀ W : World, Calls Tryz.prog 217 #[.agg #[.int .u64 (Wd.hi a), .int .u64 (Wd.lo a)], .int .u64 0] W fun e w' => e = .returned (.agg #[.int .u64 (Wd.hi (a * 2 % 340282366920938463463374607431768211456)), .int .u64 (Wd.lo (a * 2 % 340282366920938463463374607431768211456))]) ∧ Gr W w') := fun W => by
        have := rshift_u a 0 W d0 d1 (by omega) (by omega)
        rw [show (2 * a + 0) = a * 2 by omega] at this; exact this
      have HS2 : Hid (∀ W : World, Calls Tryz.prog 217 #[.agg #[.int .u64 (Wd.hi r), .int .u64 (Wd.lo r)], .int .u64 bit] W fun e w' => e = .returned (.agg #[.int .u64 (Wd.hi ((2 * r + bit) % 340282366920938463463374607431768211456)), .int .u64 (Wd.lo ((2 * r + bit) % 340282366920938463463374607431768211456))]) ∧ Gr W w') := fun W => rshift_u r bit W d4 (by omega) bt0 bt1
      have hq2 : 2 * q + 1 ≤ 340282366920938463463374607431768211455 := by
        by_cases hle : Wd.mag y ≤ 2 * r + bit
        · exact (Wd.dinv_q c0 c1 c2 (h1 hle)).2.2.2.1
        · have := (Wd.dinv_q c0 c1 c2 (h2 (by omega))).2.2.2.1; omega
      have HS3 : Hid (∀ W : World, Calls Tryz.prog 217 #[.agg #[.int .u64 (Wd.hi q), .int .u64 (Wd.lo q)], .int .u64 0] W fun e w' => e = .returned (.agg #[.int .u64 (Wd.hi (2 * q)), .int .u64 (Wd.lo (2 * q))]) ∧ Gr W w') := fun W => by
        have := rshift_u q 0 W d2 d3 (by omega) (by omega)
        rw [show (2 * q + 0) % 340282366920938463463374607431768211456 = 2 * q by omega] at this; exact this
      obtain ⟨t1, t2, t3⟩ := Wd.lo_twice d2 (by omega)
      have T1 := Lib.hid t1; have T2 := Lib.hid t2
      have t4 := Wd.lo_nonneg (2 * q)
      obtain ⟨R1, hR1⟩ : ∃ R, (2 * r + bit) % 340282366920938463463374607431768211456 = R := ⟨_, rfl⟩
      have hm1 : Wd.mag R1 = R1 := Wd.mag_of_nonneg (by omega)
      have hi1 : Wd.hi R1 ≤ 18446744073709551615 := by rw [(Wd.words (n := R1) (by omega)).1]; omega
      have HMN0 : ∀ W : World, Calls Tryz.prog 219 #[.agg #[.int .u64 (Wd.hi R1), .int .u64 (Wd.lo R1)], .agg #[.int .u64 (Wd.hi y), .int .u64 (Wd.lo y)]] W fun e w' => e = .returned (.agg #[.int .u64 (Wd.hi ((Wd.mag R1 - Wd.mag y) % 340282366920938463463374607431768211456)), .int .u64 (Wd.lo ((Wd.mag R1 - Wd.mag y) % 340282366920938463463374607431768211456))]) ∧ Gr W w' := fun W => rminus_mod R1 y W hi1 hy
      have HL0 : ∀ W : World, Calls Tryz.prog 218 #[.agg #[.int .u64 (Wd.hi R1), .int .u64 (Wd.lo R1)], .agg #[.int .u64 (Wd.hi y), .int .u64 (Wd.lo y)]] W fun e w' => e = .returned (.bool (decide (Wd.mag R1 < Wd.mag y))) ∧ Gr W w' := fun W => wrless_any R1 y W
      rw [hm1] at HMN0 HL0
      rw [hR1] at HS2
      by_cases ho : 0 < ov
      · have ho' : decide (0 < ov) = true := decide_eq_true ho
        have HX : Hid (Wd.DInv (Wd.mag x) (Wd.mag y) (i + 1) (a * 2 % 340282366920938463463374607431768211456) (2 * q + 1) (2 * r + bit - Wd.mag y)) := h1 (by omega)
        rw [show (R1 - Wd.mag y) % 340282366920938463463374607431768211456 = 2 * r + bit - Wd.mag y by omega] at HMN0
        have HMN := Lib.hid HMN0
        clear h1 h2 HMN0 HL0 hR1 hm1 wa wr' hov' hbit hd t1 t2 d5
        go_wp2_with fail
        refine (HS1.out _).mono ?_; rintro e w1 ⟨rfl, hb1⟩; obtain ⟨hc1, hf1⟩ := Gr.cells hb1; have hz1 := Gr.size hb1; (try simp at hz1); (try have hy1_0 : w.heap.size < w1.heap.size := by omega); (try have hy1_1 : w.heap.size + 1 < w1.heap.size := by omega); (try have hy1_2 : w.heap.size + 1 + 1 < w1.heap.size := by omega); (try have hy1_3 : w.heap.size + 1 + 1 + 1 < w1.heap.size := by omega); (try have hy1_4 : w.heap.size + 1 + 1 + 1 + 1 < w1.heap.size := by omega); (try have hy1_5 : w.heap.size + 1 + 1 + 1 + 1 + 1 < w1.heap.size := by omega)
        have kc1_0 := hc1 (w.heap.size) 0 (by first | omega | (simp; done) | (simp; omega))
        have kc1_1 := hc1 (w.heap.size) 1 (by first | omega | (simp; done) | (simp; omega))
        have kc1_2 := hc1 (w.heap.size + 1) 0 (by first | omega | (simp; done) | (simp; omega))
        have kc1_3 := hc1 (w.heap.size + 1) 1 (by first | omega | (simp; done) | (simp; omega))
        have kc1_4 := hc1 (w.heap.size + 1 + 1) 0 (by first | omega | (simp; done) | (simp; omega))
        have kc1_5 := hc1 (w.heap.size + 1 + 1) 1 (by first | omega | (simp; done) | (simp; omega))
        have kc1_6 := hc1 (w.heap.size + 1 + 1 + 1) 0 (by first | omega | (simp; done) | (simp; omega))
        have kc1_7 := hc1 (w.heap.size + 1 + 1 + 1) 1 (by first | omega | (simp; done) | (simp; omega))
        have kc1_8 := hc1 (w.heap.size + 1 + 1 + 1 + 1) 0 (by first | omega | (simp; done) | (simp; omega))
        have kc1_9 := hc1 (w.heap.size + 1 + 1 + 1 + 1) 1 (by first | omega | (simp; done) | (simp; omega))
        have kc1_10 := hc1 (w.heap.size + 1 + 1 + 1 + 1 + 1) 0 (by first | omega | (simp; done) | (simp; omega))
        have kc1_11 := hc1 (w.heap.size + 1 + 1 + 1 + 1 + 1) 1 (by first | omega | (simp; done) | (simp; omega))
        clear hc1
        (try simp [go_sem, *] at kc1_0)
        (try simp [go_sem, *] at kc1_1)
        (try simp [go_sem, *] at kc1_2)
        (try simp [go_sem, *] at kc1_3)
        (try simp [go_sem, *] at kc1_4)
        (try simp [go_sem, *] at kc1_5)
        (try simp [go_sem, *] at kc1_6)
        (try simp [go_sem, *] at kc1_7)
        (try simp [go_sem, *] at kc1_8)
        (try simp [go_sem, *] at kc1_9)
        (try simp [go_sem, *] at kc1_10)
        (try simp [go_sem, *] at kc1_11)
        go_wp2_with fail
        refine (HS2.out _).mono ?_; rintro e w2 ⟨rfl, hb2⟩; obtain ⟨hc2, hf2⟩ := Gr.cells hb2; have hz2 := Gr.size hb2; (try simp at hz2); (try have hy2_0 : w.heap.size < w2.heap.size := by omega); (try have hy2_1 : w.heap.size + 1 < w2.heap.size := by omega); (try have hy2_2 : w.heap.size + 1 + 1 < w2.heap.size := by omega); (try have hy2_3 : w.heap.size + 1 + 1 + 1 < w2.heap.size := by omega); (try have hy2_4 : w.heap.size + 1 + 1 + 1 + 1 < w2.heap.size := by omega); (try have hy2_5 : w.heap.size + 1 + 1 + 1 + 1 + 1 < w2.heap.size := by omega); (try have hy2_1_0 : w1.heap.size < w2.heap.size := by omega); (try have hy2_1_1 : w1.heap.size + 1 < w2.heap.size := by omega)
        have kc2_0 := hc2 (w.heap.size) 0 (by first | omega | (simp; done) | (simp; omega))
        have kc2_1 := hc2 (w.heap.size) 1 (by first | omega | (simp; done) | (simp; omega))
        have kc2_2 := hc2 (w.heap.size + 1) 0 (by first | omega | (simp; done) | (simp; omega))
        have kc2_3 := hc2 (w.heap.size + 1) 1 (by first | omega | (simp; done) | (simp; omega))
        have kc2_4 := hc2 (w.heap.size + 1 + 1) 0 (by first | omega | (simp; done) | (simp; omega))
        have kc2_5 := hc2 (w.heap.size + 1 + 1) 1 (by first | omega | (simp; done) | (simp; omega))
        have kc2_6 := hc2 (w.heap.size + 1 + 1 + 1) 0 (by first | omega | (simp; done) | (simp; omega))
        have kc2_7 := hc2 (w.heap.size + 1 + 1 + 1) 1 (by first | omega | (simp; done) | (simp; omega))
        have kc2_8 := hc2 (w.heap.size + 1 + 1 + 1 + 1) 0 (by first | omega | (simp; done) | (simp; omega))
        have kc2_9 := hc2 (w.heap.size + 1 + 1 + 1 + 1) 1 (by first | omega | (simp; done) | (simp; omega))
        have kc2_10 := hc2 (w.heap.size + 1 + 1 + 1 + 1 + 1) 0 (by first | omega | (simp; done) | (simp; omega))
        have kc2_11 := hc2 (w.heap.size + 1 + 1 + 1 + 1 + 1) 1 (by first | omega | (simp; done) | (simp; omega))
        clear hc2
        (try simp [go_sem, *] at kc2_0)
        (try simp [go_sem, *] at kc2_1)
        (try simp [go_sem, *] at kc2_2)
        (try simp [go_sem, *] at kc2_3)
        (try simp [go_sem, *] at kc2_4)
        (try simp [go_sem, *] at kc2_5)
        (try simp [go_sem, *] at kc2_6)
        (try simp [go_sem, *] at kc2_7)
        (try simp [go_sem, *] at kc2_8)
        (try simp [go_sem, *] at kc2_9)
        (try simp [go_sem, *] at kc2_10)
        (try simp [go_sem, *] at kc2_11)
        go_wp2_with fail
        refine (HS3.out _).mono ?_; rintro e w3 ⟨rfl, hb3⟩; obtain ⟨hc3, hf3⟩ := Gr.cells hb3; have hz3 := Gr.size hb3; (try simp at hz3); (try have hy3_0 : w.heap.size < w3.heap.size := by omega); (try have hy3_1 : w.heap.size + 1 < w3.heap.size := by omega); (try have hy3_2 : w.heap.size + 1 + 1 < w3.heap.size := by omega); (try have hy3_3 : w.heap.size + 1 + 1 + 1 < w3.heap.size := by omega); (try have hy3_4 : w.heap.size + 1 + 1 + 1 + 1 < w3.heap.size := by omega); (try have hy3_5 : w.heap.size + 1 + 1 + 1 + 1 + 1 < w3.heap.size := by omega); (try have hy3_1_0 : w1.heap.size < w3.heap.size := by omega); (try have hy3_1_1 : w1.heap.size + 1 < w3.heap.size := by omega); (try have hy3_2_0 : w2.heap.size < w3.heap.size := by omega); (try have hy3_2_1 : w2.heap.size + 1 < w3.heap.size := by omega)
        have kc3_0 := hc3 (w.heap.size) 0 (by first | omega | (simp; done) | (simp; omega))
        have kc3_1 := hc3 (w.heap.size) 1 (by first | omega | (simp; done) | (simp; omega))
        have kc3_2 := hc3 (w.heap.size + 1) 0 (by first | omega | (simp; done) | (simp; omega))
        have kc3_3 := hc3 (w.heap.size + 1) 1 (by first | omega | (simp; done) | (simp; omega))
        have kc3_4 := hc3 (w.heap.size + 1 + 1) 0 (by first | omega | (simp; done) | (simp; omega))
        have kc3_5 := hc3 (w.heap.size + 1 + 1) 1 (by first | omega | (simp; done) | (simp; omega))
        have kc3_6 := hc3 (w.heap.size + 1 + 1 + 1) 0 (by first | omega | (simp; done) | (simp; omega))
        have kc3_7 := hc3 (w.heap.size + 1 + 1 + 1) 1 (by first | omega | (simp; done) | (simp; omega))
        have kc3_8 := hc3 (w.heap.size + 1 + 1 + 1 + 1) 0 (by first | omega | (simp; done) | (simp; omega))
        have kc3_9 := hc3 (w.heap.size + 1 + 1 + 1 + 1) 1 (by first | omega | (simp; done) | (simp; omega))
        have kc3_10 := hc3 (w.heap.size + 1 + 1 + 1 + 1 + 1) 0 (by first | omega | (simp; done) | (simp; omega))
        have kc3_11 := hc3 (w.heap.size + 1 + 1 + 1 + 1 + 1) 1 (by first | omega | (simp; done) | (simp; omega))
        clear hc3
        (try simp [go_sem, *] at kc3_0)
        (try simp [go_sem, *] at kc3_1)
        (try simp [go_sem, *] at kc3_2)
        (try simp [go_sem, *] at kc3_3)
        (try simp [go_sem, *] at kc3_4)
        (try simp [go_sem, *] at kc3_5)
        (try simp [go_sem, *] at kc3_6)
        (try simp [go_sem, *] at kc3_7)
        (try simp [go_sem, *] at kc3_8)
        (try simp [go_sem, *] at kc3_9)
        (try simp [go_sem, *] at kc3_10)
        (try simp [go_sem, *] at kc3_11)
        go_wp2_with fail
        refine (HMN.out _).mono ?_; rintro e w4 ⟨rfl, hb4⟩; obtain ⟨hc4, hf4⟩ := Gr.cells hb4; have hz4 := Gr.size hb4; (try simp at hz4); (try have hy4_0 : w.heap.size < w4.heap.size := by omega); (try have hy4_1 : w.heap.size + 1 < w4.heap.size := by omega); (try have hy4_2 : w.heap.size + 1 + 1 < w4.heap.size := by omega); (try have hy4_3 : w.heap.size + 1 + 1 + 1 < w4.heap.size := by omega); (try have hy4_4 : w.heap.size + 1 + 1 + 1 + 1 < w4.heap.size := by omega); (try have hy4_5 : w.heap.size + 1 + 1 + 1 + 1 + 1 < w4.heap.size := by omega); (try have hy4_1_0 : w1.heap.size < w4.heap.size := by omega); (try have hy4_1_1 : w1.heap.size + 1 < w4.heap.size := by omega); (try have hy4_2_0 : w2.heap.size < w4.heap.size := by omega); (try have hy4_2_1 : w2.heap.size + 1 < w4.heap.size := by omega); (try have hy4_3_0 : w3.heap.size < w4.heap.size := by omega); (try have hy4_3_1 : w3.heap.size + 1 < w4.heap.size := by omega)
        have kc4_0 := hc4 (w.heap.size) 0 (by first | omega | (simp; done) | (simp; omega))
        have kc4_1 := hc4 (w.heap.size) 1 (by first | omega | (simp; done) | (simp; omega))
        have kc4_2 := hc4 (w.heap.size + 1) 0 (by first | omega | (simp; done) | (simp; omega))
        have kc4_3 := hc4 (w.heap.size + 1) 1 (by first | omega | (simp; done) | (simp; omega))
        have kc4_4 := hc4 (w.heap.size + 1 + 1) 0 (by first | omega | (simp; done) | (simp; omega))
        have kc4_5 := hc4 (w.heap.size + 1 + 1) 1 (by first | omega | (simp; done) | (simp; omega))
        have kc4_6 := hc4 (w.heap.size + 1 + 1 + 1) 0 (by first | omega | (simp; done) | (simp; omega))
        have kc4_7 := hc4 (w.heap.size + 1 + 1 + 1) 1 (by first | omega | (simp; done) | (simp; omega))
        have kc4_8 := hc4 (w.heap.size + 1 + 1 + 1 + 1) 0 (by first | omega | (simp; done) | (simp; omega))
        have kc4_9 := hc4 (w.heap.size + 1 + 1 + 1 + 1) 1 (by first | omega | (simp; done) | (simp; omega))
        have kc4_10 := hc4 (w.heap.size + 1 + 1 + 1 + 1 + 1) 0 (by first | omega | (simp; done) | (simp; omega))
        have kc4_11 := hc4 (w.heap.size + 1 + 1 + 1 + 1 + 1) 1 (by first | omega | (simp; done) | (simp; omega))
        clear hc4
        (try simp [go_sem, *] at kc4_0)
        (try simp [go_sem, *] at kc4_1)
        (try simp [go_sem, *] at kc4_2)
        (try simp [go_sem, *] at kc4_3)
        (try simp [go_sem, *] at kc4_4)
        (try simp [go_sem, *] at kc4_5)
        (try simp [go_sem, *] at kc4_6)
        (try simp [go_sem, *] at kc4_7)
        (try simp [go_sem, *] at kc4_8)
        (try simp [go_sem, *] at kc4_9)
        (try simp [go_sem, *] at kc4_10)
        (try simp [go_sem, *] at kc4_11)
        go_wp2
        go_roundw
        case rel =>
          refine ⟨i + 1, _, _, _, by omega, by go_num, HX, ?_⟩
          unfold Wd.DSt
          rw [T1.out, T2.out]
          refine ⟨gr_auto, by first | omega | (simp; omega), ?_⟩
          simp [go_sem, *]
        case measure => simp [intOf]; omega
      · have ho' : decide (0 < ov) = false := decide_eq_false ho
        have hR2 : R1 = 2 * r + bit := by omega
        by_cases hle : Wd.mag y ≤ 2 * r + bit
        · have HX : Hid (Wd.DInv (Wd.mag x) (Wd.mag y) (i + 1) (a * 2 % 340282366920938463463374607431768211456) (2 * q + 1) (2 * r + bit - Wd.mag y)) := h1 hle
          rw [show (R1 - Wd.mag y) % 340282366920938463463374607431768211456 = 2 * r + bit - Wd.mag y by omega] at HMN0
          rw [decide_eq_false (show ¬ R1 < Wd.mag y by omega)] at HL0
          have HMN := Lib.hid HMN0; have HL := Lib.hid HL0
          clear h1 h2 HMN0 HL0 hR1 hm1 wa wr' hov' hbit hd t1 t2 d5 hR2
          go_wp2_with fail
          refine (HS1.out _).mono ?_; rintro e w1 ⟨rfl, hb1⟩; obtain ⟨hc1, hf1⟩ := Gr.cells hb1; have hz1 := Gr.size hb1; (try simp at hz1); (try have hy1_0 : w.heap.size < w1.heap.size := by omega); (try have hy1_1 : w.heap.size + 1 < w1.heap.size := by omega); (try have hy1_2 : w.heap.size + 1 + 1 < w1.heap.size := by omega); (try have hy1_3 : w.heap.size + 1 + 1 + 1 < w1.heap.size := by omega); (try have hy1_4 : w.heap.size + 1 + 1 + 1 + 1 < w1.heap.size := by omega); (try have hy1_5 : w.heap.size + 1 + 1 + 1 + 1 + 1 < w1.heap.size := by omega)
          have kc1_0 := hc1 (w.heap.size) 0 (by first | omega | (simp; done) | (simp; omega))
          have kc1_1 := hc1 (w.heap.size) 1 (by first | omega | (simp; done) | (simp; omega))
          have kc1_2 := hc1 (w.heap.size + 1) 0 (by first | omega | (simp; done) | (simp; omega))
          have kc1_3 := hc1 (w.heap.size + 1) 1 (by first | omega | (simp; done) | (simp; omega))
          have kc1_4 := hc1 (w.heap.size + 1 + 1) 0 (by first | omega | (simp; done) | (simp; omega))
          have kc1_5 := hc1 (w.heap.size + 1 + 1) 1 (by first | omega | (simp; done) | (simp; omega))
          have kc1_6 := hc1 (w.heap.size + 1 + 1 + 1) 0 (by first | omega | (simp; done) | (simp; omega))
          have kc1_7 := hc1 (w.heap.size + 1 + 1 + 1) 1 (by first | omega | (simp; done) | (simp; omega))
          have kc1_8 := hc1 (w.heap.size + 1 + 1 + 1 + 1) 0 (by first | omega | (simp; done) | (simp; omega))
          have kc1_9 := hc1 (w.heap.size + 1 + 1 + 1 + 1) 1 (by first | omega | (simp; done) | (simp; omega))
          have kc1_10 := hc1 (w.heap.size + 1 + 1 + 1 + 1 + 1) 0 (by first | omega | (simp; done) | (simp; omega))
          have kc1_11 := hc1 (w.heap.size + 1 + 1 + 1 + 1 + 1) 1 (by first | omega | (simp; done) | (simp; omega))
          clear hc1
          (try simp [go_sem, *] at kc1_0)
          (try simp [go_sem, *] at kc1_1)
          (try simp [go_sem, *] at kc1_2)
          (try simp [go_sem, *] at kc1_3)
          (try simp [go_sem, *] at kc1_4)
          (try simp [go_sem, *] at kc1_5)
          (try simp [go_sem, *] at kc1_6)
          (try simp [go_sem, *] at kc1_7)
          (try simp [go_sem, *] at kc1_8)
          (try simp [go_sem, *] at kc1_9)
          (try simp [go_sem, *] at kc1_10)
          (try simp [go_sem, *] at kc1_11)
          go_wp2_with fail
          refine (HS2.out _).mono ?_; rintro e w2 ⟨rfl, hb2⟩; obtain ⟨hc2, hf2⟩ := Gr.cells hb2; have hz2 := Gr.size hb2; (try simp at hz2); (try have hy2_0 : w.heap.size < w2.heap.size := by omega); (try have hy2_1 : w.heap.size + 1 < w2.heap.size := by omega); (try have hy2_2 : w.heap.size + 1 + 1 < w2.heap.size := by omega); (try have hy2_3 : w.heap.size + 1 + 1 + 1 < w2.heap.size := by omega); (try have hy2_4 : w.heap.size + 1 + 1 + 1 + 1 < w2.heap.size := by omega); (try have hy2_5 : w.heap.size + 1 + 1 + 1 + 1 + 1 < w2.heap.size := by omega); (try have hy2_1_0 : w1.heap.size < w2.heap.size := by omega); (try have hy2_1_1 : w1.heap.size + 1 < w2.heap.size := by omega)
          have kc2_0 := hc2 (w.heap.size) 0 (by first | omega | (simp; done) | (simp; omega))
          have kc2_1 := hc2 (w.heap.size) 1 (by first | omega | (simp; done) | (simp; omega))
          have kc2_2 := hc2 (w.heap.size + 1) 0 (by first | omega | (simp; done) | (simp; omega))
          have kc2_3 := hc2 (w.heap.size + 1) 1 (by first | omega | (simp; done) | (simp; omega))
          have kc2_4 := hc2 (w.heap.size + 1 + 1) 0 (by first | omega | (simp; done) | (simp; omega))
          have kc2_5 := hc2 (w.heap.size + 1 + 1) 1 (by first | omega | (simp; done) | (simp; omega))
          have kc2_6 := hc2 (w.heap.size + 1 + 1 + 1) 0 (by first | omega | (simp; done) | (simp; omega))
          have kc2_7 := hc2 (w.heap.size + 1 + 1 + 1) 1 (by first | omega | (simp; done) | (simp; omega))
          have kc2_8 := hc2 (w.heap.size + 1 + 1 + 1 + 1) 0 (by first | omega | (simp; done) | (simp; omega))
          have kc2_9 := hc2 (w.heap.size + 1 + 1 + 1 + 1) 1 (by first | omega | (simp; done) | (simp; omega))
          have kc2_10 := hc2 (w.heap.size + 1 + 1 + 1 + 1 + 1) 0 (by first | omega | (simp; done) | (simp; omega))
          have kc2_11 := hc2 (w.heap.size + 1 + 1 + 1 + 1 + 1) 1 (by first | omega | (simp; done) | (simp; omega))
          clear hc2
          (try simp [go_sem, *] at kc2_0)
          (try simp [go_sem, *] at kc2_1)
          (try simp [go_sem, *] at kc2_2)
          (try simp [go_sem, *] at kc2_3)
          (try simp [go_sem, *] at kc2_4)
          (try simp [go_sem, *] at kc2_5)
          (try simp [go_sem, *] at kc2_6)
          (try simp [go_sem, *] at kc2_7)
          (try simp [go_sem, *] at kc2_8)
          (try simp [go_sem, *] at kc2_9)
          (try simp [go_sem, *] at kc2_10)
          (try simp [go_sem, *] at kc2_11)
          go_wp2_with fail
          refine (HS3.out _).mono ?_; rintro e w3 ⟨rfl, hb3⟩; obtain ⟨hc3, hf3⟩ := Gr.cells hb3; have hz3 := Gr.size hb3; (try simp at hz3); (try have hy3_0 : w.heap.size < w3.heap.size := by omega); (try have hy3_1 : w.heap.size + 1 < w3.heap.size := by omega); (try have hy3_2 : w.heap.size + 1 + 1 < w3.heap.size := by omega); (try have hy3_3 : w.heap.size + 1 + 1 + 1 < w3.heap.size := by omega); (try have hy3_4 : w.heap.size + 1 + 1 + 1 + 1 < w3.heap.size := by omega); (try have hy3_5 : w.heap.size + 1 + 1 + 1 + 1 + 1 < w3.heap.size := by omega); (try have hy3_1_0 : w1.heap.size < w3.heap.size := by omega); (try have hy3_1_1 : w1.heap.size + 1 < w3.heap.size := by omega); (try have hy3_2_0 : w2.heap.size < w3.heap.size := by omega); (try have hy3_2_1 : w2.heap.size + 1 < w3.heap.size := by omega)
          have kc3_0 := hc3 (w.heap.size) 0 (by first | omega | (simp; done) | (simp; omega))
          have kc3_1 := hc3 (w.heap.size) 1 (by first | omega | (simp; done) | (simp; omega))
          have kc3_2 := hc3 (w.heap.size + 1) 0 (by first | omega | (simp; done) | (simp; omega))
          have kc3_3 := hc3 (w.heap.size + 1) 1 (by first | omega | (simp; done) | (simp; omega))
          have kc3_4 := hc3 (w.heap.size + 1 + 1) 0 (by first | omega | (simp; done) | (simp; omega))
          have kc3_5 := hc3 (w.heap.size + 1 + 1) 1 (by first | omega | (simp; done) | (simp; omega))
          have kc3_6 := hc3 (w.heap.size + 1 + 1 + 1) 0 (by first | omega | (simp; done) | (simp; omega))
          have kc3_7 := hc3 (w.heap.size + 1 + 1 + 1) 1 (by first | omega | (simp; done) | (simp; omega))
          have kc3_8 := hc3 (w.heap.size + 1 + 1 + 1 + 1) 0 (by first | omega | (simp; done) | (simp; omega))
          have kc3_9 := hc3 (w.heap.size + 1 + 1 + 1 + 1) 1 (by first | omega | (simp; done) | (simp; omega))
          have kc3_10 := hc3 (w.heap.size + 1 + 1 + 1 + 1 + 1) 0 (by first | omega | (simp; done) | (simp; omega))
          have kc3_11 := hc3 (w.heap.size + 1 + 1 + 1 + 1 + 1) 1 (by first | omega | (simp; done) | (simp; omega))
          clear hc3
          (try simp [go_sem, *] at kc3_0)
          (try simp [go_sem, *] at kc3_1)
          (try simp [go_sem, *] at kc3_2)
          (try simp [go_sem, *] at kc3_3)
          (try simp [go_sem, *] at kc3_4)
          (try simp [go_sem, *] at kc3_5)
          (try simp [go_sem, *] at kc3_6)
          (try simp [go_sem, *] at kc3_7)
          (try simp [go_sem, *] at kc3_8)
          (try simp [go_sem, *] at kc3_9)
          (try simp [go_sem, *] at kc3_10)
          (try simp [go_sem, *] at kc3_11)
          go_wp2_with fail
          refine (HL.out _).mono ?_; rintro e w4 ⟨rfl, hb4⟩; obtain ⟨hc4, hf4⟩ := Gr.cells hb4; have hz4 := Gr.size hb4; (try simp at hz4); (try have hy4_0 : w.heap.size < w4.heap.size := by omega); (try have hy4_1 : w.heap.size + 1 < w4.heap.size := by omega); (try have hy4_2 : w.heap.size + 1 + 1 < w4.heap.size := by omega); (try have hy4_3 : w.heap.size + 1 + 1 + 1 < w4.heap.size := by omega); (try have hy4_4 : w.heap.size + 1 + 1 + 1 + 1 < w4.heap.size := by omega); (try have hy4_5 : w.heap.size + 1 + 1 + 1 + 1 + 1 < w4.heap.size := by omega); (try have hy4_1_0 : w1.heap.size < w4.heap.size := by omega); (try have hy4_1_1 : w1.heap.size + 1 < w4.heap.size := by omega); (try have hy4_2_0 : w2.heap.size < w4.heap.size := by omega); (try have hy4_2_1 : w2.heap.size + 1 < w4.heap.size := by omega); (try have hy4_3_0 : w3.heap.size < w4.heap.size := by omega); (try have hy4_3_1 : w3.heap.size + 1 < w4.heap.size := by omega)
          have kc4_0 := hc4 (w.heap.size) 0 (by first | omega | (simp; done) | (simp; omega))
          have kc4_1 := hc4 (w.heap.size) 1 (by first | omega | (simp; done) | (simp; omega))
          have kc4_2 := hc4 (w.heap.size + 1) 0 (by first | omega | (simp; done) | (simp; omega))
          have kc4_3 := hc4 (w.heap.size + 1) 1 (by first | omega | (simp; done) | (simp; omega))
          have kc4_4 := hc4 (w.heap.size + 1 + 1) 0 (by first | omega | (simp; done) | (simp; omega))
          have kc4_5 := hc4 (w.heap.size + 1 + 1) 1 (by first | omega | (simp; done) | (simp; omega))
          have kc4_6 := hc4 (w.heap.size + 1 + 1 + 1) 0 (by first | omega | (simp; done) | (simp; omega))
          have kc4_7 := hc4 (w.heap.size + 1 + 1 + 1) 1 (by first | omega | (simp; done) | (simp; omega))
          have kc4_8 := hc4 (w.heap.size + 1 + 1 + 1 + 1) 0 (by first | omega | (simp; done) | (simp; omega))
          have kc4_9 := hc4 (w.heap.size + 1 + 1 + 1 + 1) 1 (by first | omega | (simp; done) | (simp; omega))
          have kc4_10 := hc4 (w.heap.size + 1 + 1 + 1 + 1 + 1) 0 (by first | omega | (simp; done) | (simp; omega))
          have kc4_11 := hc4 (w.heap.size + 1 + 1 + 1 + 1 + 1) 1 (by first | omega | (simp; done) | (simp; omega))
          clear hc4
          (try simp [go_sem, *] at kc4_0)
          (try simp [go_sem, *] at kc4_1)
          (try simp [go_sem, *] at kc4_2)
          (try simp [go_sem, *] at kc4_3)
          (try simp [go_sem, *] at kc4_4)
          (try simp [go_sem, *] at kc4_5)
          (try simp [go_sem, *] at kc4_6)
          (try simp [go_sem, *] at kc4_7)
          (try simp [go_sem, *] at kc4_8)
          (try simp [go_sem, *] at kc4_9)
          (try simp [go_sem, *] at kc4_10)
          (try simp [go_sem, *] at kc4_11)
          go_wp2_with fail
          refine (HMN.out _).mono ?_; rintro e w5 ⟨rfl, hb5⟩; obtain ⟨hc5, hf5⟩ := Gr.cells hb5; have hz5 := Gr.size hb5; (try simp at hz5); (try have hy5_0 : w.heap.size < w5.heap.size := by omega); (try have hy5_1 : w.heap.size + 1 < w5.heap.size := by omega); (try have hy5_2 : w.heap.size + 1 + 1 < w5.heap.size := by omega); (try have hy5_3 : w.heap.size + 1 + 1 + 1 < w5.heap.size := by omega); (try have hy5_4 : w.heap.size + 1 + 1 + 1 + 1 < w5.heap.size := by omega); (try have hy5_5 : w.heap.size + 1 + 1 + 1 + 1 + 1 < w5.heap.size := by omega); (try have hy5_1_0 : w1.heap.size < w5.heap.size := by omega); (try have hy5_1_1 : w1.heap.size + 1 < w5.heap.size := by omega); (try have hy5_2_0 : w2.heap.size < w5.heap.size := by omega); (try have hy5_2_1 : w2.heap.size + 1 < w5.heap.size := by omega); (try have hy5_3_0 : w3.heap.size < w5.heap.size := by omega); (try have hy5_3_1 : w3.heap.size + 1 < w5.heap.size := by omega)
          have kc5_0 := hc5 (w.heap.size) 0 (by first | omega | (simp; done) | (simp; omega))
          have kc5_1 := hc5 (w.heap.size) 1 (by first | omega | (simp; done) | (simp; omega))
          have kc5_2 := hc5 (w.heap.size + 1) 0 (by first | omega | (simp; done) | (simp; omega))
          have kc5_3 := hc5 (w.heap.size + 1) 1 (by first | omega | (simp; done) | (simp; omega))
          have kc5_4 := hc5 (w.heap.size + 1 + 1) 0 (by first | omega | (simp; done) | (simp; omega))
          have kc5_5 := hc5 (w.heap.size + 1 + 1) 1 (by first | omega | (simp; done) | (simp; omega))
          have kc5_6 := hc5 (w.heap.size + 1 + 1 + 1) 0 (by first | omega | (simp; done) | (simp; omega))
          have kc5_7 := hc5 (w.heap.size + 1 + 1 + 1) 1 (by first | omega | (simp; done) | (simp; omega))
          have kc5_8 := hc5 (w.heap.size + 1 + 1 + 1 + 1) 0 (by first | omega | (simp; done) | (simp; omega))
          have kc5_9 := hc5 (w.heap.size + 1 + 1 + 1 + 1) 1 (by first | omega | (simp; done) | (simp; omega))
          have kc5_10 := hc5 (w.heap.size + 1 + 1 + 1 + 1 + 1) 0 (by first | omega | (simp; done) | (simp; omega))
          have kc5_11 := hc5 (w.heap.size + 1 + 1 + 1 + 1 + 1) 1 (by first | omega | (simp; done) | (simp; omega))
          clear hc5
          (try simp [go_sem, *] at kc5_0)
          (try simp [go_sem, *] at kc5_1)
          (try simp [go_sem, *] at kc5_2)
          (try simp [go_sem, *] at kc5_3)
          (try simp [go_sem, *] at kc5_4)
          (try simp [go_sem, *] at kc5_5)
          (try simp [go_sem, *] at kc5_6)
          (try simp [go_sem, *] at kc5_7)
          (try simp [go_sem, *] at kc5_8)
          (try simp [go_sem, *] at kc5_9)
          (try simp [go_sem, *] at kc5_10)
          (try simp [go_sem, *] at kc5_11)
          go_wp2
          go_roundw
          case rel =>
            refine ⟨i + 1, _, _, _, by omega, by go_num, HX, ?_⟩
            unfold Wd.DSt
            rw [T1.out, T2.out]
            refine ⟨gr_auto, by first | omega | (simp; omega), ?_⟩
            simp [go_sem, *]
          case measure => simp [intOf]; omega
        · have HX : Hid (Wd.DInv (Wd.mag x) (Wd.mag y) (i + 1) (a * 2 % 340282366920938463463374607431768211456) (2 * q) R1) := by rw [hR2]; exact h2 (by omega)
          rw [decide_eq_true (show R1 < Wd.mag y by omega)] at HL0
          have HL := Lib.hid HL0
          clear h1 h2 HMN0 HL0 hR1 hm1 wa wr' hov' hbit hd t1 t2 d5 hR2
          go_wp2_with fail
          refine (HS1.out _).mono ?_; rintro e w1 ⟨rfl, hb1⟩; obtain ⟨hc1, hf1⟩ := Gr.cells hb1; have hz1 := Gr.size hb1; (try simp at hz1); (try have hy1_0 : w.heap.size < w1.heap.size := by omega); (try have hy1_1 : w.heap.size + 1 < w1.heap.size := by omega); (try have hy1_2 : w.heap.size + 1 + 1 < w1.heap.size := by omega); (try have hy1_3 : w.heap.size + 1 + 1 + 1 < w1.heap.size := by omega); (try have hy1_4 : w.heap.size + 1 + 1 + 1 + 1 < w1.heap.size := by omega); (try have hy1_5 : w.heap.size + 1 + 1 + 1 + 1 + 1 < w1.heap.size := by omega)
          have kc1_0 := hc1 (w.heap.size) 0 (by first | omega | (simp; done) | (simp; omega))
          have kc1_1 := hc1 (w.heap.size) 1 (by first | omega | (simp; done) | (simp; omega))
          have kc1_2 := hc1 (w.heap.size + 1) 0 (by first | omega | (simp; done) | (simp; omega))
          have kc1_3 := hc1 (w.heap.size + 1) 1 (by first | omega | (simp; done) | (simp; omega))
          have kc1_4 := hc1 (w.heap.size + 1 + 1) 0 (by first | omega | (simp; done) | (simp; omega))
          have kc1_5 := hc1 (w.heap.size + 1 + 1) 1 (by first | omega | (simp; done) | (simp; omega))
          have kc1_6 := hc1 (w.heap.size + 1 + 1 + 1) 0 (by first | omega | (simp; done) | (simp; omega))
          have kc1_7 := hc1 (w.heap.size + 1 + 1 + 1) 1 (by first | omega | (simp; done) | (simp; omega))
          have kc1_8 := hc1 (w.heap.size + 1 + 1 + 1 + 1) 0 (by first | omega | (simp; done) | (simp; omega))
          have kc1_9 := hc1 (w.heap.size + 1 + 1 + 1 + 1) 1 (by first | omega | (simp; done) | (simp; omega))
          have kc1_10 := hc1 (w.heap.size + 1 + 1 + 1 + 1 + 1) 0 (by first | omega | (simp; done) | (simp; omega))
          have kc1_11 := hc1 (w.heap.size + 1 + 1 + 1 + 1 + 1) 1 (by first | omega | (simp; done) | (simp; omega))
          clear hc1
          (try simp [go_sem, *] at kc1_0)
          (try simp [go_sem, *] at kc1_1)
          (try simp [go_sem, *] at kc1_2)
          (try simp [go_sem, *] at kc1_3)
          (try simp [go_sem, *] at kc1_4)
          (try simp [go_sem, *] at kc1_5)
          (try simp [go_sem, *] at kc1_6)
          (try simp [go_sem, *] at kc1_7)
          (try simp [go_sem, *] at kc1_8)
          (try simp [go_sem, *] at kc1_9)
          (try simp [go_sem, *] at kc1_10)
          (try simp [go_sem, *] at kc1_11)
          go_wp2_with fail
          refine (HS2.out _).mono ?_; rintro e w2 ⟨rfl, hb2⟩; obtain ⟨hc2, hf2⟩ := Gr.cells hb2; have hz2 := Gr.size hb2; (try simp at hz2); (try have hy2_0 : w.heap.size < w2.heap.size := by omega); (try have hy2_1 : w.heap.size + 1 < w2.heap.size := by omega); (try have hy2_2 : w.heap.size + 1 + 1 < w2.heap.size := by omega); (try have hy2_3 : w.heap.size + 1 + 1 + 1 < w2.heap.size := by omega); (try have hy2_4 : w.heap.size + 1 + 1 + 1 + 1 < w2.heap.size := by omega); (try have hy2_5 : w.heap.size + 1 + 1 + 1 + 1 + 1 < w2.heap.size := by omega); (try have hy2_1_0 : w1.heap.size < w2.heap.size := by omega); (try have hy2_1_1 : w1.heap.size + 1 < w2.heap.size := by omega)
          have kc2_0 := hc2 (w.heap.size) 0 (by first | omega | (simp; done) | (simp; omega))
          have kc2_1 := hc2 (w.heap.size) 1 (by first | omega | (simp; done) | (simp; omega))
          have kc2_2 := hc2 (w.heap.size + 1) 0 (by first | omega | (simp; done) | (simp; omega))
          have kc2_3 := hc2 (w.heap.size + 1) 1 (by first | omega | (simp; done) | (simp; omega))
          have kc2_4 := hc2 (w.heap.size + 1 + 1) 0 (by first | omega | (simp; done) | (simp; omega))
          have kc2_5 := hc2 (w.heap.size + 1 + 1) 1 (by first | omega | (simp; done) | (simp; omega))
          have kc2_6 := hc2 (w.heap.size + 1 + 1 + 1) 0 (by first | omega | (simp; done) | (simp; omega))
          have kc2_7 := hc2 (w.heap.size + 1 + 1 + 1) 1 (by first | omega | (simp; done) | (simp; omega))
          have kc2_8 := hc2 (w.heap.size + 1 + 1 + 1 + 1) 0 (by first | omega | (simp; done) | (simp; omega))
          have kc2_9 := hc2 (w.heap.size + 1 + 1 + 1 + 1) 1 (by first | omega | (simp; done) | (simp; omega))
          have kc2_10 := hc2 (w.heap.size + 1 + 1 + 1 + 1 + 1) 0 (by first | omega | (simp; done) | (simp; omega))
          have kc2_11 := hc2 (w.heap.size + 1 + 1 + 1 + 1 + 1) 1 (by first | omega | (simp; done) | (simp; omega))
          clear hc2
          (try simp [go_sem, *] at kc2_0)
          (try simp [go_sem, *] at kc2_1)
          (try simp [go_sem, *] at kc2_2)
          (try simp [go_sem, *] at kc2_3)
          (try simp [go_sem, *] at kc2_4)
          (try simp [go_sem, *] at kc2_5)
          (try simp [go_sem, *] at kc2_6)
          (try simp [go_sem, *] at kc2_7)
          (try simp [go_sem, *] at kc2_8)
          (try simp [go_sem, *] at kc2_9)
          (try simp [go_sem, *] at kc2_10)
          (try simp [go_sem, *] at kc2_11)
          go_wp2_with fail
          refine (HS3.out _).mono ?_; rintro e w3 ⟨rfl, hb3⟩; obtain ⟨hc3, hf3⟩ := Gr.cells hb3; have hz3 := Gr.size hb3; (try simp at hz3); (try have hy3_0 : w.heap.size < w3.heap.size := by omega); (try have hy3_1 : w.heap.size + 1 < w3.heap.size := by omega); (try have hy3_2 : w.heap.size + 1 + 1 < w3.heap.size := by omega); (try have hy3_3 : w.heap.size + 1 + 1 + 1 < w3.heap.size := by omega); (try have hy3_4 : w.heap.size + 1 + 1 + 1 + 1 < w3.heap.size := by omega); (try have hy3_5 : w.heap.size + 1 + 1 + 1 + 1 + 1 < w3.heap.size := by omega); (try have hy3_1_0 : w1.heap.size < w3.heap.size := by omega); (try have hy3_1_1 : w1.heap.size + 1 < w3.heap.size := by omega); (try have hy3_2_0 : w2.heap.size < w3.heap.size := by omega); (try have hy3_2_1 : w2.heap.size + 1 < w3.heap.size := by omega)
          have kc3_0 := hc3 (w.heap.size) 0 (by first | omega | (simp; done) | (simp; omega))
          have kc3_1 := hc3 (w.heap.size) 1 (by first | omega | (simp; done) | (simp; omega))
          have kc3_2 := hc3 (w.heap.size + 1) 0 (by first | omega | (simp; done) | (simp; omega))
          have kc3_3 := hc3 (w.heap.size + 1) 1 (by first | omega | (simp; done) | (simp; omega))
          have kc3_4 := hc3 (w.heap.size + 1 + 1) 0 (by first | omega | (simp; done) | (simp; omega))
          have kc3_5 := hc3 (w.heap.size + 1 + 1) 1 (by first | omega | (simp; done) | (simp; omega))
          have kc3_6 := hc3 (w.heap.size + 1 + 1 + 1) 0 (by first | omega | (simp; done) | (simp; omega))
          have kc3_7 := hc3 (w.heap.size + 1 + 1 + 1) 1 (by first | omega | (simp; done) | (simp; omega))
          have kc3_8 := hc3 (w.heap.size + 1 + 1 + 1 + 1) 0 (by first | omega | (simp; done) | (simp; omega))
          have kc3_9 := hc3 (w.heap.size + 1 + 1 + 1 + 1) 1 (by first | omega | (simp; done) | (simp; omega))
          have kc3_10 := hc3 (w.heap.size + 1 + 1 + 1 + 1 + 1) 0 (by first | omega | (simp; done) | (simp; omega))
          have kc3_11 := hc3 (w.heap.size + 1 + 1 + 1 + 1 + 1) 1 (by first | omega | (simp; done) | (simp; omega))
          clear hc3
          (try simp [go_sem, *] at kc3_0)
          (try simp [go_sem, *] at kc3_1)
          (try simp [go_sem, *] at kc3_2)
          (try simp [go_sem, *] at kc3_3)
          (try simp [go_sem, *] at kc3_4)
          (try simp [go_sem, *] at kc3_5)
          (try simp [go_sem, *] at kc3_6)
          (try simp [go_sem, *] at kc3_7)
          (try simp [go_sem, *] at kc3_8)
          (try simp [go_sem, *] at kc3_9)
          (try simp [go_sem, *] at kc3_10)
          (try simp [go_sem, *] at kc3_11)
          go_wp2_with fail
          refine (HL.out _).mono ?_; rintro e w4 ⟨rfl, hb4⟩; obtain ⟨hc4, hf4⟩ := Gr.cells hb4; have hz4 := Gr.size hb4; (try simp at hz4); (try have hy4_0 : w.heap.size < w4.heap.size := by omega); (try have hy4_1 : w.heap.size + 1 < w4.heap.size := by omega); (try have hy4_2 : w.heap.size + 1 + 1 < w4.heap.size := by omega); (try have hy4_3 : w.heap.size + 1 + 1 + 1 < w4.heap.size := by omega); (try have hy4_4 : w.heap.size + 1 + 1 + 1 + 1 < w4.heap.size := by omega); (try have hy4_5 : w.heap.size + 1 + 1 + 1 + 1 + 1 < w4.heap.size := by omega); (try have hy4_1_0 : w1.heap.size < w4.heap.size := by omega); (try have hy4_1_1 : w1.heap.size + 1 < w4.heap.size := by omega); (try have hy4_2_0 : w2.heap.size < w4.heap.size := by omega); (try have hy4_2_1 : w2.heap.size + 1 < w4.heap.size := by omega); (try have hy4_3_0 : w3.heap.size < w4.heap.size := by omega); (try have hy4_3_1 : w3.heap.size + 1 < w4.heap.size := by omega)
          have kc4_0 := hc4 (w.heap.size) 0 (by first | omega | (simp; done) | (simp; omega))
          have kc4_1 := hc4 (w.heap.size) 1 (by first | omega | (simp; done) | (simp; omega))
          have kc4_2 := hc4 (w.heap.size + 1) 0 (by first | omega | (simp; done) | (simp; omega))
          have kc4_3 := hc4 (w.heap.size + 1) 1 (by first | omega | (simp; done) | (simp; omega))
          have kc4_4 := hc4 (w.heap.size + 1 + 1) 0 (by first | omega | (simp; done) | (simp; omega))
          have kc4_5 := hc4 (w.heap.size + 1 + 1) 1 (by first | omega | (simp; done) | (simp; omega))
          have kc4_6 := hc4 (w.heap.size + 1 + 1 + 1) 0 (by first | omega | (simp; done) | (simp; omega))
          have kc4_7 := hc4 (w.heap.size + 1 + 1 + 1) 1 (by first | omega | (simp; done) | (simp; omega))
          have kc4_8 := hc4 (w.heap.size + 1 + 1 + 1 + 1) 0 (by first | omega | (simp; done) | (simp; omega))
          have kc4_9 := hc4 (w.heap.size + 1 + 1 + 1 + 1) 1 (by first | omega | (simp; done) | (simp; omega))
          have kc4_10 := hc4 (w.heap.size + 1 + 1 + 1 + 1 + 1) 0 (by first | omega | (simp; done) | (simp; omega))
          have kc4_11 := hc4 (w.heap.size + 1 + 1 + 1 + 1 + 1) 1 (by first | omega | (simp; done) | (simp; omega))
          clear hc4
          (try simp [go_sem, *] at kc4_0)
          (try simp [go_sem, *] at kc4_1)
          (try simp [go_sem, *] at kc4_2)
          (try simp [go_sem, *] at kc4_3)
          (try simp [go_sem, *] at kc4_4)
          (try simp [go_sem, *] at kc4_5)
          (try simp [go_sem, *] at kc4_6)
          (try simp [go_sem, *] at kc4_7)
          (try simp [go_sem, *] at kc4_8)
          (try simp [go_sem, *] at kc4_9)
          (try simp [go_sem, *] at kc4_10)
          (try simp [go_sem, *] at kc4_11)
          go_wp2
          go_roundw
          case rel =>
            refine ⟨i + 1, _, _, _, by omega, by go_num, HX, ?_⟩
            unfold Wd.DSt
            refine ⟨gr_auto, by first | omega | (simp; omega), ?_⟩
            simp [go_sem, *]
          case measure => simp [intOf]; omega
    · obtain rfl : i = 128 := by omega
      have hend := Wd.dinv_end _ _ _ _ _ hd.out
      rw [hend.1] at q0 q1
      rw [hend.2] at r0 r1
      clear hd hend
      go_wp2
      go_region
      all_goals
        go_wp2
        refine bodyPost_ret (by simp [results, Tryz.results203, go_sem, e0, e1, f0, f1]; try rfl) rfl ?_
        exact ⟨by first | rfl | (simp; done), gr_auto⟩
end Go.Proofs.YtllkiadedaghoaaGreat
namespace Go.Proofs.YtllkiadedaghoaaGreat
open Go.RowKit
namespace Wd
theorem flr_same {x y : Int} (hy : y ≠ 0) (h : neg x = neg y) : sg false (mag x / mag y) = flr x y := by
  rw [flr_mag x y hy, h]; simp [sg]
theorem flr_even {x y : Int} (hy : y ≠ 0) (h : neg x ≠ neg y) (hr : mag x % mag y = 0) : sg true (mag x / mag y) = flr x y := by
  rw [flr_mag x y hy]
  have : (neg x != neg y) = true := by cases h1 : neg x <;> cases h2 : neg y <;> simp_all
  rw [this]; unfold inc sg; simp [hr]
theorem flr_odd {x y : Int} (hy : y ≠ 0) (h : neg x ≠ neg y) (hr : 0 < mag x % mag y) : sg true (mag x / mag y + 1) = flr x y := by
  rw [flr_mag x y hy]
  have : (neg x != neg y) = true := by cases h1 : neg x <;> cases h2 : neg y <;> simp_all
  rw [this]; unfold inc sg; simp [hr]
theorem hi_one : hi 1 = 0 ∧ lo 1 = 1 ∧ mag 1 = 1 := by decide
theorem div_le {m d : Int} (hm : 0 ≤ m) (hd : 0 < d) : 0 ≤ m / d ∧ m / d ≤ m := by
  refine ⟨Int.ediv_nonneg hm (by omega), ?_⟩
  exact Int.ediv_le_self _ hm
end Wd
set_option maxHeartbeats 1000000 in
theorem rdown_any (x y : Int) (w : World) (hx : Wd.hi x ≤ 18446744073709551614) (hy : Wd.hi y ≤ 18446744073709551615) (hy0 : y ≠ 0) :
    Calls Tryz.prog 183 #[.agg #[.int .u64 (Wd.hi x), .int .u64 (Wd.lo x), .bool (Wd.neg x)], .agg #[.int .u64 (Wd.hi y), .int .u64 (Wd.lo y), .bool (Wd.neg y)]] w fun e w' => e = .returned (.agg #[.int .u64 (Wd.hi (Wd.flr x y)), .int .u64 (Wd.lo (Wd.flr x y)), .bool (Wd.neg (Wd.flr x y))]) ∧ Gr w w' := by
  have my := Wd.mag_nonneg y
  have mx := Wd.mag_nonneg x
  have my0 : Wd.mag y ≠ 0 := fun h => hy0 (Wd.mag_zero.1 h)
  have hd : ∀ W : World, Calls Tryz.prog 203 #[.agg #[.int .u64 (Wd.hi x), .int .u64 (Wd.lo x)], .agg #[.int .u64 (Wd.hi y), .int .u64 (Wd.lo y)]] W fun e w' => e = .returned (.tuple #[.agg #[.int .u64 (Wd.hi (Wd.mag x / Wd.mag y)), .int .u64 (Wd.lo (Wd.mag x / Wd.mag y))], .agg #[.int .u64 (Wd.hi (Wd.mag x % Wd.mag y)), .int .u64 (Wd.lo (Wd.mag x % Wd.mag y))]]) ∧ Gr W w' := fun W => rdiv_any x y W (by omega) hy (by omega)
  obtain ⟨d0, d1⟩ := Wd.div_le mx (show 0 < Wd.mag y by omega)
  have r0 := Int.emod_nonneg (Wd.mag x) my0
  have hm : ∀ W b, Calls Tryz.prog 205 #[.agg #[.int .u64 (Wd.hi (Wd.mag x / Wd.mag y)), .int .u64 (Wd.lo (Wd.mag x / Wd.mag y))], .bool b] W fun e w' => e = .returned (.agg #[.int .u64 (Wd.hi (Wd.sg b (Wd.mag x / Wd.mag y))), .int .u64 (Wd.lo (Wd.sg b (Wd.mag x / Wd.mag y))), .bool (Wd.neg (Wd.sg b (Wd.mag x / Wd.mag y)))]) ∧ Gr W w' := fun W b => rmade_any _ b W d0
  by_cases hs : Wd.neg x = Wd.neg y
  · have hm1 := fun W => hm W false
    rw [Wd.flr_same hy0 hs] at hm1
    have HD := Lib.hid hd; have HM := Lib.hid hm1
    clear hd hm hm1 r0 d0 d1 mx my my0
    generalize Wd.mag x / Wd.mag y = q at *
    generalize Wd.mag x % Wd.mag y = r at *
    have hss : (Wd.neg x == Wd.neg y) = true := by simp [hs]
    generalize Wd.neg x = s at *
    generalize Wd.neg y = t at *
    clear hs
    go_enter Tryz.func183, Tryz.ntmps183
    go_wp2_with fail; refine (HD.out _).mono ?_; rintro e w1 ⟨rfl, hb1⟩; obtain ⟨hc1, hf1⟩ := Gr.cells hb1; have hz1 := Gr.size hb1; (try simp at hz1); (try have hy1_0 : w.heap.size < w1.heap.size := by omega); (try have hy1_1 : w.heap.size + 1 < w1.heap.size := by omega); (try have hy1_2 : w.heap.size + 1 + 1 < w1.heap.size := by omega); (try have hy1_3 : w.heap.size + 1 + 1 + 1 < w1.heap.size := by omega); (try have hy1_4 : w.heap.size + 1 + 1 + 1 + 1 < w1.heap.size := by omega); (try have hy1_5 : w.heap.size + 1 + 1 + 1 + 1 + 1 < w1.heap.size := by omega)
    have kc1_0 := hc1 (w.heap.size) 0 (by first | omega | (simp; done) | (simp; omega))
    have kc1_1 := hc1 (w.heap.size) 1 (by first | omega | (simp; done) | (simp; omega))
    have kc1_2 := hc1 (w.heap.size) 2 (by first | omega | (simp; done) | (simp; omega))
    have kc1_3 := hc1 (w.heap.size + 1) 0 (by first | omega | (simp; done) | (simp; omega))
    have kc1_4 := hc1 (w.heap.size + 1) 1 (by first | omega | (simp; done) | (simp; omega))
    have kc1_5 := hc1 (w.heap.size + 1) 2 (by first | omega | (simp; done) | (simp; omega))
    have kc1_6 := hc1 (w.heap.size + 1 + 1) 0 (by first | omega | (simp; done) | (simp; omega))
    have kc1_7 := hc1 (w.heap.size + 1 + 1) 1 (by first | omega | (simp; done) | (simp; omega))
    have kc1_8 := hc1 (w.heap.size + 1 + 1) 2 (by first | omega | (simp; done) | (simp; omega))
    clear hc1
    (try simp [go_sem, *] at kc1_0)
    (try simp [go_sem, *] at kc1_1)
    (try simp [go_sem, *] at kc1_2)
    (try simp [go_sem, *] at kc1_3)
    (try simp [go_sem, *] at kc1_4)
    (try simp [go_sem, *] at kc1_5)
    (try simp [go_sem, *] at kc1_6)
    (try simp [go_sem, *] at kc1_7)
    (try simp [go_sem, *] at kc1_8)
    go_wp2_with fail; refine (HM.out _).mono ?_; rintro e w2 ⟨rfl, hb2⟩; obtain ⟨hc2, hf2⟩ := Gr.cells hb2; have hz2 := Gr.size hb2; (try simp at hz2); (try have hy2_0 : w.heap.size < w2.heap.size := by omega); (try have hy2_1 : w.heap.size + 1 < w2.heap.size := by omega); (try have hy2_2 : w.heap.size + 1 + 1 < w2.heap.size := by omega); (try have hy2_3 : w.heap.size + 1 + 1 + 1 < w2.heap.size := by omega); (try have hy2_4 : w.heap.size + 1 + 1 + 1 + 1 < w2.heap.size := by omega); (try have hy2_5 : w.heap.size + 1 + 1 + 1 + 1 + 1 < w2.heap.size := by omega); (try have hy2_1_0 : w1.heap.size < w2.heap.size := by omega); (try have hy2_1_1 : w1.heap.size + 1 < w2.heap.size := by omega)
    have kc2_0 := hc2 (w.heap.size + 1 + 1) 0 (by first | omega | (simp; done) | (simp; omega))
    have kc2_1 := hc2 (w.heap.size + 1 + 1) 1 (by first | omega | (simp; done) | (simp; omega))
    have kc2_2 := hc2 (w.heap.size + 1 + 1) 2 (by first | omega | (simp; done) | (simp; omega))
    clear hc2
    (try simp [go_sem, *] at kc2_0)
    (try simp [go_sem, *] at kc2_1)
    (try simp [go_sem, *] at kc2_2)
    go_wp2
    refine bodyPost_ret (by simp [results, Tryz.results183, go_sem, kc2_0, kc2_1, kc2_2]; try rfl) rfl ?_
    exact ⟨by first | rfl | (simp; done), gr_auto⟩
  · have hss : (Wd.neg x == Wd.neg y) = false := by simpa using hs
    by_cases hr : Wd.mag x % Wd.mag y = 0
    · have hm1 := fun W => hm W true
      rw [Wd.flr_even hy0 hs hr] at hm1
      have hz : Wd.hi 0 = 0 ∧ Wd.lo 0 = 0 := by decide
      rw [hr, hz.1, hz.2] at hd
      have HD := Lib.hid hd; have HM := Lib.hid hm1
      clear hd hm hm1 r0 d0 d1 mx my my0 hs hr hz
      generalize Wd.mag x / Wd.mag y = q at *
      generalize Wd.neg x = s at *
      generalize Wd.neg y = t at *
      go_enter Tryz.func183, Tryz.ntmps183
      go_wp2_with fail; refine (HD.out _).mono ?_; rintro e w1 ⟨rfl, hb1⟩; obtain ⟨hc1, hf1⟩ := Gr.cells hb1; have hz1 := Gr.size hb1; (try simp at hz1); (try have hy1_0 : w.heap.size < w1.heap.size := by omega); (try have hy1_1 : w.heap.size + 1 < w1.heap.size := by omega); (try have hy1_2 : w.heap.size + 1 + 1 < w1.heap.size := by omega); (try have hy1_3 : w.heap.size + 1 + 1 + 1 < w1.heap.size := by omega); (try have hy1_4 : w.heap.size + 1 + 1 + 1 + 1 < w1.heap.size := by omega); (try have hy1_5 : w.heap.size + 1 + 1 + 1 + 1 + 1 < w1.heap.size := by omega)
      have kc1_0 := hc1 (w.heap.size) 0 (by first | omega | (simp; done) | (simp; omega))
      have kc1_1 := hc1 (w.heap.size) 1 (by first | omega | (simp; done) | (simp; omega))
      have kc1_2 := hc1 (w.heap.size) 2 (by first | omega | (simp; done) | (simp; omega))
      have kc1_3 := hc1 (w.heap.size + 1) 0 (by first | omega | (simp; done) | (simp; omega))
      have kc1_4 := hc1 (w.heap.size + 1) 1 (by first | omega | (simp; done) | (simp; omega))
      have kc1_5 := hc1 (w.heap.size + 1) 2 (by first | omega | (simp; done) | (simp; omega))
      have kc1_6 := hc1 (w.heap.size + 1 + 1) 0 (by first | omega | (simp; done) | (simp; omega))
      have kc1_7 := hc1 (w.heap.size + 1 + 1) 1 (by first | omega | (simp; done) | (simp; omega))
      have kc1_8 := hc1 (w.heap.size + 1 + 1) 2 (by first | omega | (simp; done) | (simp; omega))
      clear hc1
      (try simp [go_sem, *] at kc1_0)
      (try simp [go_sem, *] at kc1_1)
      (try simp [go_sem, *] at kc1_2)
      (try simp [go_sem, *] at kc1_3)
      (try simp [go_sem, *] at kc1_4)
      (try simp [go_sem, *] at kc1_5)
      (try simp [go_sem, *] at kc1_6)
      (try simp [go_sem, *] at kc1_7)
      (try simp [go_sem, *] at kc1_8)
      go_wp2_with fail; refine (HM.out _).mono ?_; rintro e w2 ⟨rfl, hb2⟩; obtain ⟨hc2, hf2⟩ := Gr.cells hb2; have hz2 := Gr.size hb2; (try simp at hz2); (try have hy2_0 : w.heap.size < w2.heap.size := by omega); (try have hy2_1 : w.heap.size + 1 < w2.heap.size := by omega); (try have hy2_2 : w.heap.size + 1 + 1 < w2.heap.size := by omega); (try have hy2_3 : w.heap.size + 1 + 1 + 1 < w2.heap.size := by omega); (try have hy2_4 : w.heap.size + 1 + 1 + 1 + 1 < w2.heap.size := by omega); (try have hy2_5 : w.heap.size + 1 + 1 + 1 + 1 + 1 < w2.heap.size := by omega); (try have hy2_1_0 : w1.heap.size < w2.heap.size := by omega); (try have hy2_1_1 : w1.heap.size + 1 < w2.heap.size := by omega)
      have kc2_0 := hc2 (w.heap.size + 1 + 1) 0 (by first | omega | (simp; done) | (simp; omega))
      have kc2_1 := hc2 (w.heap.size + 1 + 1) 1 (by first | omega | (simp; done) | (simp; omega))
      have kc2_2 := hc2 (w.heap.size + 1 + 1) 2 (by first | omega | (simp; done) | (simp; omega))
      clear hc2
      (try simp [go_sem, *] at kc2_0)
      (try simp [go_sem, *] at kc2_1)
      (try simp [go_sem, *] at kc2_2)
      go_wp2
      refine bodyPost_ret (by simp [results, Tryz.results183, go_sem, kc2_0, kc2_1, kc2_2]; try rfl) rfl ?_
      exact ⟨by first | rfl | (simp; done), gr_auto⟩
    · have e1 := Wd.hilo x
      have l1 := Wd.lo_lt x
      have hp : ∀ W : World, Calls Tryz.prog 204 #[.agg #[.int .u64 (Wd.hi (Wd.mag x / Wd.mag y)), .int .u64 (Wd.lo (Wd.mag x / Wd.mag y))], .agg #[.int .u64 0, .int .u64 1]] W fun e w' => e = .returned (.agg #[.int .u64 (Wd.hi (Wd.mag x / Wd.mag y + 1)), .int .u64 (Wd.lo (Wd.mag x / Wd.mag y + 1))]) ∧ Gr W w' := fun W => by
        have := rplus_any (Wd.mag x / Wd.mag y) 1 W (by rw [Wd.mag_of_nonneg d0, Wd.hi_one.2.2]; omega)
        rw [Wd.mag_of_nonneg d0, Wd.hi_one.2.2, Wd.hi_one.1, Wd.hi_one.2.1] at this; exact this
      have hm1 : ∀ W, Calls Tryz.prog 205 #[.agg #[.int .u64 (Wd.hi (Wd.mag x / Wd.mag y + 1)), .int .u64 (Wd.lo (Wd.mag x / Wd.mag y + 1))], .bool true] W fun e w' => e = .returned (.agg #[.int .u64 (Wd.hi (Wd.flr x y)), .int .u64 (Wd.lo (Wd.flr x y)), .bool (Wd.neg (Wd.flr x y))]) ∧ Gr W w' := fun W => by
        have := rmade_any (Wd.mag x / Wd.mag y + 1) true W (by omega)
        rw [Wd.flr_odd hy0 hs (by omega)] at this; exact this
      have er := Wd.hilo (Wd.mag x % Wd.mag y)
      rw [Wd.mag_of_nonneg r0] at er
      have HD := Lib.hid hd; have HM := Lib.hid hm1; have HP := Lib.hid hp
      by_cases hh : Wd.hi (Wd.mag x % Wd.mag y) = 0
      · have hl : (Wd.lo (Wd.mag x % Wd.mag y) == 0) = false := by simp; omega
        rw [hh] at HD
        clear hd hm hm1 hp r0 d0 d1 mx my my0 hs hr er e1 l1 hh
        generalize Wd.mag x / Wd.mag y = q at *
        generalize Wd.mag x % Wd.mag y = r at *
        generalize Wd.neg x = s at *
        generalize Wd.neg y = t at *
        go_enter Tryz.func183, Tryz.ntmps183
        go_wp2_with fail; refine (HD.out _).mono ?_; rintro e w1 ⟨rfl, hb1⟩; obtain ⟨hc1, hf1⟩ := Gr.cells hb1; have hz1 := Gr.size hb1; (try simp at hz1); (try have hy1_0 : w.heap.size < w1.heap.size := by omega); (try have hy1_1 : w.heap.size + 1 < w1.heap.size := by omega); (try have hy1_2 : w.heap.size + 1 + 1 < w1.heap.size := by omega); (try have hy1_3 : w.heap.size + 1 + 1 + 1 < w1.heap.size := by omega); (try have hy1_4 : w.heap.size + 1 + 1 + 1 + 1 < w1.heap.size := by omega); (try have hy1_5 : w.heap.size + 1 + 1 + 1 + 1 + 1 < w1.heap.size := by omega)
        have kc1_0 := hc1 (w.heap.size) 0 (by first | omega | (simp; done) | (simp; omega))
        have kc1_1 := hc1 (w.heap.size) 1 (by first | omega | (simp; done) | (simp; omega))
        have kc1_2 := hc1 (w.heap.size) 2 (by first | omega | (simp; done) | (simp; omega))
        have kc1_3 := hc1 (w.heap.size + 1) 0 (by first | omega | (simp; done) | (simp; omega))
        have kc1_4 := hc1 (w.heap.size + 1) 1 (by first | omega | (simp; done) | (simp; omega))
        have kc1_5 := hc1 (w.heap.size + 1) 2 (by first | omega | (simp; done) | (simp; omega))
        have kc1_6 := hc1 (w.heap.size + 1 + 1) 0 (by first | omega | (simp; done) | (simp; omega))
        have kc1_7 := hc1 (w.heap.size + 1 + 1) 1 (by first | omega | (simp; done) | (simp; omega))
        have kc1_8 := hc1 (w.heap.size + 1 + 1) 2 (by first | omega | (simp; done) | (simp; omega))
        clear hc1
        (try simp [go_sem, *] at kc1_0)
        (try simp [go_sem, *] at kc1_1)
        (try simp [go_sem, *] at kc1_2)
        (try simp [go_sem, *] at kc1_3)
        (try simp [go_sem, *] at kc1_4)
        (try simp [go_sem, *] at kc1_5)
        (try simp [go_sem, *] at kc1_6)
        (try simp [go_sem, *] at kc1_7)
        (try simp [go_sem, *] at kc1_8)
        go_wp2_with fail; refine (HP.out _).mono ?_; rintro e w2 ⟨rfl, hb2⟩; obtain ⟨hc2, hf2⟩ := Gr.cells hb2; have hz2 := Gr.size hb2; (try simp at hz2); (try have hy2_0 : w.heap.size < w2.heap.size := by omega); (try have hy2_1 : w.heap.size + 1 < w2.heap.size := by omega); (try have hy2_2 : w.heap.size + 1 + 1 < w2.heap.size := by omega); (try have hy2_3 : w.heap.size + 1 + 1 + 1 < w2.heap.size := by omega); (try have hy2_4 : w.heap.size + 1 + 1 + 1 + 1 < w2.heap.size := by omega); (try have hy2_5 : w.heap.size + 1 + 1 + 1 + 1 + 1 < w2.heap.size := by omega); (try have hy2_1_0 : w1.heap.size < w2.heap.size := by omega); (try have hy2_1_1 : w1.heap.size + 1 < w2.heap.size := by omega)
        have kc2_0 := hc2 (w.heap.size) 0 (by first | omega | (simp; done) | (simp; omega))
        have kc2_1 := hc2 (w.heap.size) 1 (by first | omega | (simp; done) | (simp; omega))
        have kc2_2 := hc2 (w.heap.size) 2 (by first | omega | (simp; done) | (simp; omega))
        have kc2_3 := hc2 (w.heap.size + 1) 0 (by first | omega | (simp; done) | (simp; omega))
        have kc2_4 := hc2 (w.heap.size + 1) 1 (by first | omega | (simp; done) | (simp; omega))
        have kc2_5 := hc2 (w.heap.size + 1) 2 (by first | omega | (simp; done) | (simp; omega))
        have kc2_6 := hc2 (w.heap.size + 1 + 1) 0 (by first | omega | (simp; done) | (simp; omega))
        have kc2_7 := hc2 (w.heap.size + 1 + 1) 1 (by first | omega | (simp; done) | (simp; omega))
        have kc2_8 := hc2 (w.heap.size + 1 + 1) 2 (by first | omega | (simp; done) | (simp; omega))
        have kc2_9 := hc2 (w1.heap.size) 0 (by first | omega | (simp; done) | (simp; omega))
        have kc2_10 := hc2 (w1.heap.size) 1 (by first | omega | (simp; done) | (simp; omega))
        have kc2_11 := hc2 (w1.heap.size + 1) 0 (by first | omega | (simp; done) | (simp; omega))
        have kc2_12 := hc2 (w1.heap.size + 1) 1 (by first | omega | (simp; done) | (simp; omega))
        clear hc2
        (try simp [go_sem, *] at kc2_0)
        (try simp [go_sem, *] at kc2_1)
        (try simp [go_sem, *] at kc2_2)
        (try simp [go_sem, *] at kc2_3)
        (try simp [go_sem, *] at kc2_4)
        (try simp [go_sem, *] at kc2_5)
        (try simp [go_sem, *] at kc2_6)
        (try simp [go_sem, *] at kc2_7)
        (try simp [go_sem, *] at kc2_8)
        (try simp [go_sem, *] at kc2_9)
        (try simp [go_sem, *] at kc2_10)
        (try simp [go_sem, *] at kc2_11)
        (try simp [go_sem, *] at kc2_12)
        go_wp2_with fail; refine (HM.out _).mono ?_; rintro e w3 ⟨rfl, hb3⟩; obtain ⟨hc3, hf3⟩ := Gr.cells hb3; have hz3 := Gr.size hb3; (try simp at hz3); (try have hy3_0 : w.heap.size < w3.heap.size := by omega); (try have hy3_1 : w.heap.size + 1 < w3.heap.size := by omega); (try have hy3_2 : w.heap.size + 1 + 1 < w3.heap.size := by omega); (try have hy3_3 : w.heap.size + 1 + 1 + 1 < w3.heap.size := by omega); (try have hy3_4 : w.heap.size + 1 + 1 + 1 + 1 < w3.heap.size := by omega); (try have hy3_5 : w.heap.size + 1 + 1 + 1 + 1 + 1 < w3.heap.size := by omega); (try have hy3_1_0 : w1.heap.size < w3.heap.size := by omega); (try have hy3_1_1 : w1.heap.size + 1 < w3.heap.size := by omega); (try have hy3_2_0 : w2.heap.size < w3.heap.size := by omega); (try have hy3_2_1 : w2.heap.size + 1 < w3.heap.size := by omega)
        have kc3_0 := hc3 (w.heap.size + 1 + 1) 0 (by first | omega | (simp; done) | (simp; omega))
        have kc3_1 := hc3 (w.heap.size + 1 + 1) 1 (by first | omega | (simp; done) | (simp; omega))
        have kc3_2 := hc3 (w.heap.size + 1 + 1) 2 (by first | omega | (simp; done) | (simp; omega))
        clear hc3
        (try simp [go_sem, *] at kc3_0)
        (try simp [go_sem, *] at kc3_1)
        (try simp [go_sem, *] at kc3_2)
        go_wp2
        refine bodyPost_ret (by simp [results, Tryz.results183, go_sem, kc3_0, kc3_1, kc3_2]; try rfl) rfl ?_
        exact ⟨by first | rfl | (simp; done), gr_auto⟩
      · have hl : (Wd.hi (Wd.mag x % Wd.mag y) == 0) = false := by simpa using hh
        clear hd hm hm1 hp r0 d0 d1 mx my my0 hs hr er e1 l1 hh
        generalize Wd.mag x / Wd.mag y = q at *
        generalize Wd.mag x % Wd.mag y = r at *
        generalize Wd.neg x = s at *
        generalize Wd.neg y = t at *
        go_enter Tryz.func183, Tryz.ntmps183
        go_wp2_with fail; refine (HD.out _).mono ?_; rintro e w1 ⟨rfl, hb1⟩; obtain ⟨hc1, hf1⟩ := Gr.cells hb1; have hz1 := Gr.size hb1; (try simp at hz1); (try have hy1_0 : w.heap.size < w1.heap.size := by omega); (try have hy1_1 : w.heap.size + 1 < w1.heap.size := by omega); (try have hy1_2 : w.heap.size + 1 + 1 < w1.heap.size := by omega); (try have hy1_3 : w.heap.size + 1 + 1 + 1 < w1.heap.size := by omega); (try have hy1_4 : w.heap.size + 1 + 1 + 1 + 1 < w1.heap.size := by omega); (try have hy1_5 : w.heap.size + 1 + 1 + 1 + 1 + 1 < w1.heap.size := by omega)
        have kc1_0 := hc1 (w.heap.size) 0 (by first | omega | (simp; done) | (simp; omega))
        have kc1_1 := hc1 (w.heap.size) 1 (by first | omega | (simp; done) | (simp; omega))
        have kc1_2 := hc1 (w.heap.size) 2 (by first | omega | (simp; done) | (simp; omega))
        have kc1_3 := hc1 (w.heap.size + 1) 0 (by first | omega | (simp; done) | (simp; omega))
        have kc1_4 := hc1 (w.heap.size + 1) 1 (by first | omega | (simp; done) | (simp; omega))
        have kc1_5 := hc1 (w.heap.size + 1) 2 (by first | omega | (simp; done) | (simp; omega))
        have kc1_6 := hc1 (w.heap.size + 1 + 1) 0 (by first | omega | (simp; done) | (simp; omega))
        have kc1_7 := hc1 (w.heap.size + 1 + 1) 1 (by first | omega | (simp; done) | (simp; omega))
        have kc1_8 := hc1 (w.heap.size + 1 + 1) 2 (by first | omega | (simp; done) | (simp; omega))
        clear hc1
        (try simp [go_sem, *] at kc1_0)
        (try simp [go_sem, *] at kc1_1)
        (try simp [go_sem, *] at kc1_2)
        (try simp [go_sem, *] at kc1_3)
        (try simp [go_sem, *] at kc1_4)
        (try simp [go_sem, *] at kc1_5)
        (try simp [go_sem, *] at kc1_6)
        (try simp [go_sem, *] at kc1_7)
        (try simp [go_sem, *] at kc1_8)
        go_wp2_with fail; refine (HP.out _).mono ?_; rintro e w2 ⟨rfl, hb2⟩; obtain ⟨hc2, hf2⟩ := Gr.cells hb2; have hz2 := Gr.size hb2; (try simp at hz2); (try have hy2_0 : w.heap.size < w2.heap.size := by omega); (try have hy2_1 : w.heap.size + 1 < w2.heap.size := by omega); (try have hy2_2 : w.heap.size + 1 + 1 < w2.heap.size := by omega); (try have hy2_3 : w.heap.size + 1 + 1 + 1 < w2.heap.size := by omega); (try have hy2_4 : w.heap.size + 1 + 1 + 1 + 1 < w2.heap.size := by omega); (try have hy2_5 : w.heap.size + 1 + 1 + 1 + 1 + 1 < w2.heap.size := by omega); (try have hy2_1_0 : w1.heap.size < w2.heap.size := by omega); (try have hy2_1_1 : w1.heap.size + 1 < w2.heap.size := by omega)
        have kc2_0 := hc2 (w.heap.size) 0 (by first | omega | (simp; done) | (simp; omega))
        have kc2_1 := hc2 (w.heap.size) 1 (by first | omega | (simp; done) | (simp; omega))
        have kc2_2 := hc2 (w.heap.size) 2 (by first | omega | (simp; done) | (simp; omega))
        have kc2_3 := hc2 (w.heap.size + 1) 0 (by first | omega | (simp; done) | (simp; omega))
        have kc2_4 := hc2 (w.heap.size + 1) 1 (by first | omega | (simp; done) | (simp; omega))
        have kc2_5 := hc2 (w.heap.size + 1) 2 (by first | omega | (simp; done) | (simp; omega))
        have kc2_6 := hc2 (w.heap.size + 1 + 1) 0 (by first | omega | (simp; done) | (simp; omega))
        have kc2_7 := hc2 (w.heap.size + 1 + 1) 1 (by first | omega | (simp; done) | (simp; omega))
        have kc2_8 := hc2 (w.heap.size + 1 + 1) 2 (by first | omega | (simp; done) | (simp; omega))
        have kc2_9 := hc2 (w1.heap.size) 0 (by first | omega | (simp; done) | (simp; omega))
        have kc2_10 := hc2 (w1.heap.size) 1 (by first | omega | (simp; done) | (simp; omega))
        have kc2_11 := hc2 (w1.heap.size + 1) 0 (by first | omega | (simp; done) | (simp; omega))
        have kc2_12 := hc2 (w1.heap.size + 1) 1 (by first | omega | (simp; done) | (simp; omega))
        clear hc2
        (try simp [go_sem, *] at kc2_0)
        (try simp [go_sem, *] at kc2_1)
        (try simp [go_sem, *] at kc2_2)
        (try simp [go_sem, *] at kc2_3)
        (try simp [go_sem, *] at kc2_4)
        (try simp [go_sem, *] at kc2_5)
        (try simp [go_sem, *] at kc2_6)
        (try simp [go_sem, *] at kc2_7)
        (try simp [go_sem, *] at kc2_8)
        (try simp [go_sem, *] at kc2_9)
        (try simp [go_sem, *] at kc2_10)
        (try simp [go_sem, *] at kc2_11)
        (try simp [go_sem, *] at kc2_12)
        go_wp2_with fail; refine (HM.out _).mono ?_; rintro e w3 ⟨rfl, hb3⟩; obtain ⟨hc3, hf3⟩ := Gr.cells hb3; have hz3 := Gr.size hb3; (try simp at hz3); (try have hy3_0 : w.heap.size < w3.heap.size := by omega); (try have hy3_1 : w.heap.size + 1 < w3.heap.size := by omega); (try have hy3_2 : w.heap.size + 1 + 1 < w3.heap.size := by omega); (try have hy3_3 : w.heap.size + 1 + 1 + 1 < w3.heap.size := by omega); (try have hy3_4 : w.heap.size + 1 + 1 + 1 + 1 < w3.heap.size := by omega); (try have hy3_5 : w.heap.size + 1 + 1 + 1 + 1 + 1 < w3.heap.size := by omega); (try have hy3_1_0 : w1.heap.size < w3.heap.size := by omega); (try have hy3_1_1 : w1.heap.size + 1 < w3.heap.size := by omega); (try have hy3_2_0 : w2.heap.size < w3.heap.size := by omega); (try have hy3_2_1 : w2.heap.size + 1 < w3.heap.size := by omega)
        have kc3_0 := hc3 (w.heap.size + 1 + 1) 0 (by first | omega | (simp; done) | (simp; omega))
        have kc3_1 := hc3 (w.heap.size + 1 + 1) 1 (by first | omega | (simp; done) | (simp; omega))
        have kc3_2 := hc3 (w.heap.size + 1 + 1) 2 (by first | omega | (simp; done) | (simp; omega))
        clear hc3
        (try simp [go_sem, *] at kc3_0)
        (try simp [go_sem, *] at kc3_1)
        (try simp [go_sem, *] at kc3_2)
        go_wp2
        refine bodyPost_ret (by simp [results, Tryz.results183, go_sem, kc3_0, kc3_1, kc3_2]; try rfl) rfl ?_
        exact ⟨by first | rfl | (simp; done), gr_auto⟩
end Go.Proofs.YtllkiadedaghoaaGreat
