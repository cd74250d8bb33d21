import Derived.Test.YtbaahlofabmljaaDoorWdTop
set_option linter.unusedVariables false
set_option linter.unusedSimpArgs false
namespace Go.Proofs.YtbaahlofabmljaaDoor
open Go.RowKit
namespace Wd
/-- The root, bit by bit: from r on, k bits are still to come. -/
def rootGo : Nat → Int → Int → Int
  | 0, _, r => r
  | k + 1, v, r => if (r + 2 ^ k) * (r + 2 ^ k) ≤ v then rootGo k v (r + 2 ^ k) else rootGo k v r
def root (v : Int) : Int := rootGo 60 v 0
/-- The bit that comes next. -/
def bitAt : Nat → Int
  | 0 => 0
  | k + 1 => 2 ^ k
def RInv (k : Nat) (v r : Int) : Prop := 0 ≤ r ∧ r % 2 ^ k = 0 ∧ r + 2 ^ k ≤ 1152921504606846976 ∧ r * r ≤ v ∧ v < (r + 2 ^ k) * (r + 2 ^ k)
theorem two_pos (k : Nat) : (0 : Int) < 2 ^ k := by exact_mod_cast Nat.two_pow_pos k
theorem bit_half (k : Nat) : bitAt (k + 1) / 2 = bitAt k := by
  cases k with
  | zero => rfl
  | succ k => show (2 : Int) ^ (k + 1) / 2 = 2 ^ k; rw [Int.pow_succ]; omega
theorem rinv_step {k : Nat} {v r : Int} (h : RInv (k + 1) v r) : (if (r + 2 ^ k) * (r + 2 ^ k) ≤ v then RInv k v (r + 2 ^ k) else RInv k v r) := by
  obtain ⟨a, b, c, d, e⟩ := h
  have p := two_pos k
  rw [Int.pow_succ] at b c e
  have b' : r % 2 ^ k = 0 := by
    have : r = 2 ^ k * 2 * (r / (2 ^ k * 2)) := by have := Int.mul_ediv_add_emod r (2 ^ k * 2); omega
    rw [this, Int.mul_assoc]; exact Int.mul_emod_right _ _
  split
  · rename_i g
    refine ⟨by omega, ?_, by omega, g, ?_⟩
    · rw [Int.add_emod, b', Int.emod_self]; rfl
    · have : r + 2 ^ k + 2 ^ k = r + 2 ^ k * 2 := by omega
      rw [this]; exact e
  · rename_i g
    exact ⟨a, b', by omega, d, by omega⟩
theorem rinv_start {v : Int} (h0 : 0 ≤ v) (h1 : v ≤ 1329227995784915872903807060280344575) : RInv 60 v 0 := by
  refine ⟨by omega, rfl, by decide, by omega, ?_⟩
  have : (0 + 2 ^ 60 : Int) * (0 + 2 ^ 60) = 1329227995784915872903807060280344576 := by decide
  rw [this]; omega
theorem root_spec_go : ∀ (k : Nat) (v r : Int), RInv k v r → RInv 0 v (rootGo k v r)
  | 0, _, _, h => h
  | k + 1, v, r, h => by
    have s := rinv_step h
    unfold rootGo
    split
    · rename_i g; rw [if_pos g] at s; exact root_spec_go k v _ s
    · rename_i g; rw [if_neg g] at s; exact root_spec_go k v _ s
theorem root_spec {v : Int} (h0 : 0 ≤ v) (h1 : v ≤ 1329227995784915872903807060280344575) : 0 ≤ root v ∧ root v ≤ 1152921504606846975 ∧ root v * root v ≤ v ∧ v < (root v + 1) * (root v + 1) := by
  obtain ⟨a, b, c, d, e⟩ := root_spec_go 60 v 0 (rinv_start h0 h1)
  have p1 : (2 : Int) ^ 0 = 1 := rfl
  rw [p1] at c e
  exact ⟨a, by unfold root; omega, d, e⟩
theorem or_bit {k : Nat} {v r : Int} (h : RInv (k + 1) v r) : bits .or .u64 r (2 ^ k) = r + 2 ^ k := by
  obtain ⟨a, b, c, d, e⟩ := h
  have p := two_pos k
  rw [Int.pow_succ] at b c e
  rw [u64_or _ _ a (by omega) (by omega) (by omega)]
  have e1 : ((2 : Int) ^ k).toNat = 2 ^ k := by
    have : (2 : Int) ^ k = ((2 ^ k : Nat) : Int) := by push_cast; rfl
    rw [this]; rfl
  have e2 : r.toNat % 2 ^ (k + 1) = 0 := by
    obtain ⟨n, rfl⟩ := Int.eq_ofNat_of_zero_le a
    have : ((2 : Int) ^ k * 2) = ((2 ^ (k + 1) : Nat) : Int) := by rw [Nat.pow_succ]; push_cast; rfl
    rw [this] at b
    rw [Int.toNat_natCast]
    omega
  rw [e1, nat_join (k + 1) _ _ e2 (by rw [Nat.pow_succ]; have := Nat.two_pow_pos k; omega)]
  have : ((2 ^ k : Nat) : Int) = (2 : Int) ^ k := by push_cast; rfl
  omega
end Wd
set_option maxHeartbeats 400000 in
theorem root_bad (h l : Int) (w : World) (hv : Wd.vld h l = false) :
    Calls Tryd.prog 6 #[.agg #[.int .i64 h, .int .i64 l]] w fun e w' => e = .returned (.tuple #[.int .i64 0, .int .i64 1]) ∧ Gr w w' := by
  have HV := Lib.hid hv; clear hv
  go_enter Tryd.func6, Tryd.ntmps6
  go_wp2_with (first | (go_at_call 11; refine (valid_false h l _ HV.out).mono ?_; rintro e w1 ⟨rfl, hb1⟩; obtain ⟨hc1, hf1⟩ := Gr.cells hb1; have hz1 := Gr.size hb1; (try simp at hz1); (try have hy1_0 : w.heap.size < w1.heap.size := by omega); (try have hy1_1 : w.heap.size + 1 < w1.heap.size := by omega); (try have hy1_2 : w.heap.size + 1 + 1 < w1.heap.size := by omega); (try have hy1_3 : w.heap.size + 1 + 1 + 1 < w1.heap.size := by omega); (try have hy1_4 : w.heap.size + 1 + 1 + 1 + 1 < w1.heap.size := by omega); (try have hy1_5 : w.heap.size + 1 + 1 + 1 + 1 + 1 < w1.heap.size := by omega)))
  go_ret2
  exact ⟨rfl, (by repeat' (first | (with_reducible exact Gr.refl _) | (with_reducible assumption) | (with_reducible refine Gr.alloc ?_ _) | (with_reducible refine Gr.drew ?_) | (with_reducible refine Gr.drewN ?_ _) | (with_reducible refine Gr.setCell ?_ ?_ _) | (with_reducible refine Gr.trans ?_ (by with_reducible assumption)) | go_size))⟩
set_option maxHeartbeats 400000 in
theorem root_neg (h l : Int) (w : World) (hv : Wd.vld h l = true) (hn : Wd.val h l < 0) :
    Calls Tryd.prog 6 #[.agg #[.int .i64 h, .int .i64 l]] w fun e w' => e = .returned (.tuple #[.int .i64 0, .int .i64 2]) ∧ Gr w w' := by
  have HV := Lib.hid hv; clear hv
  have hn' := Wd.neg_of_neg hn
  go_enter Tryd.func6, Tryd.ntmps6
  go_wp2_with (first | (go_at_call 11; refine (valid_true h l _ HV.out).mono ?_; rintro e w1 ⟨rfl, hb1⟩; obtain ⟨hc1, hf1⟩ := Gr.cells hb1; have hz1 := Gr.size hb1; (try simp at hz1); (try have hy1_0 : w.heap.size < w1.heap.size := by omega); (try have hy1_1 : w.heap.size + 1 < w1.heap.size := by omega); (try have hy1_2 : w.heap.size + 1 + 1 < w1.heap.size := by omega); (try have hy1_3 : w.heap.size + 1 + 1 + 1 < w1.heap.size := by omega); (try have hy1_4 : w.heap.size + 1 + 1 + 1 + 1 < w1.heap.size := by omega); (try have hy1_5 : w.heap.size + 1 + 1 + 1 + 1 + 1 < w1.heap.size := by omega)) | (go_at_call 18; refine (value_v _ _ _ HV.out).mono ?_; rintro e w2 ⟨rfl, hb2⟩; obtain ⟨hc2, hf2⟩ := Gr.cells hb2; have hz2 := Gr.size hb2; (try simp at hz2); (try have hy2_0 : w.heap.size < w2.heap.size := by omega); (try have hy2_1 : w.heap.size + 1 < w2.heap.size := by omega); (try have hy2_2 : w.heap.size + 1 + 1 < w2.heap.size := by omega); (try have hy2_3 : w.heap.size + 1 + 1 + 1 < w2.heap.size := by omega); (try have hy2_4 : w.heap.size + 1 + 1 + 1 + 1 < w2.heap.size := by omega); (try have hy2_5 : w.heap.size + 1 + 1 + 1 + 1 + 1 < w2.heap.size := by omega)))
  go_ret2
  exact ⟨rfl, (by repeat' (first | (with_reducible exact Gr.refl _) | (with_reducible assumption) | (with_reducible refine Gr.alloc ?_ _) | (with_reducible refine Gr.drew ?_) | (with_reducible refine Gr.drewN ?_ _) | (with_reducible refine Gr.setCell ?_ ?_ _) | (with_reducible refine Gr.trans ?_ (by with_reducible assumption)) | go_size))⟩
set_option maxHeartbeats 1000000 in
theorem root_any (h l : Int) (w : World) (hv : Wd.vld h l = true) (hn : 0 ≤ Wd.val h l) :
    Calls Tryd.prog 6 #[.agg #[.int .i64 h, .int .i64 l]] w fun e w' => e = .returned (.tuple #[.int .i64 (Wd.root (Wd.val h l)), .int .i64 0]) ∧ Gr w w' := by
  obtain ⟨x0, x1⟩ := Wd.val_bounds hv
  have HV := Lib.hid hv; clear hv
  have hn' := Wd.neg_of_nonneg hn
  have hm := Wd.hilo (Wd.val h l)
  rw [Wd.mag_of_nonneg hn] at hm
  have HM := Lib.hid hm; clear hm
  have l0 := Wd.lo_nonneg (Wd.val h l)
  have l1 := Wd.lo_lt (Wd.val h l)
  have h0 := Wd.hi_nonneg (Wd.val h l)
  have hst := Wd.rinv_start hn x1
  have ST := Lib.hid hst; clear hst
  have hva : ∀ W : World, Calls Tryd.prog 18 #[.agg #[.int .i64 h, .int .i64 l]] W fun e w' => e = .returned (.agg #[.int .u64 (Wd.hi (Wd.val h l)), .int .u64 (Wd.lo (Wd.val h l)), .bool (Wd.neg (Wd.val h l))]) ∧ Gr W w' := fun W => value_v h l W HV.out
  have HA := Lib.hid hva; clear hva
  generalize Wd.val h l = v at *
  go_enter Tryd.func6, Tryd.ntmps6
  go_wp2_with (first | (go_at_call 11; refine (valid_true h l _ HV.out).mono ?_; rintro e w1 ⟨rfl, hb1⟩; obtain ⟨hc1, hf1⟩ := Gr.cells hb1; have hz1 := Gr.size hb1; (try simp at hz1); (try have hy1_0 : w.heap.size < w1.heap.size := by omega); (try have hy1_1 : w.heap.size + 1 < w1.heap.size := by omega); (try have hy1_2 : w.heap.size + 1 + 1 < w1.heap.size := by omega); (try have hy1_3 : w.heap.size + 1 + 1 + 1 < w1.heap.size := by omega); (try have hy1_4 : w.heap.size + 1 + 1 + 1 + 1 < w1.heap.size := by omega); (try have hy1_5 : w.heap.size + 1 + 1 + 1 + 1 + 1 < w1.heap.size := by omega)) | (go_at_call 18; refine (HA.out _).mono ?_; rintro e w2 ⟨rfl, hb2⟩; obtain ⟨hc2, hf2⟩ := Gr.cells hb2; have hz2 := Gr.size hb2; (try simp at hz2); (try have hy2_0 : w.heap.size < w2.heap.size := by omega); (try have hy2_1 : w.heap.size + 1 < w2.heap.size := by omega); (try have hy2_2 : w.heap.size + 1 + 1 < w2.heap.size := by omega); (try have hy2_3 : w.heap.size + 1 + 1 + 1 < w2.heap.size := by omega); (try have hy2_4 : w.heap.size + 1 + 1 + 1 + 1 < w2.heap.size := by omega); (try have hy2_5 : w.heap.size + 1 + 1 + 1 + 1 + 1 < w2.heap.size := by omega)))
  go_loop [5, 6] (fun s5 s6 => ∃ (k : Nat) (r : Int), s5 = .int .u64 r ∧ s6 = .int .u64 (Wd.bitAt k) ∧ Hid (Wd.RInv k v r ∧ Wd.rootGo k v r = Wd.root v)) (fun _ s6 => (intOf s6).toNat)
  case atStart => exact ⟨60, 0, rfl, by unfold Wd.bitAt; rfl, ⟨ST.out, rfl⟩⟩
  case round =>
    obtain ⟨k, r, rfl, rfl, hi⟩ := hrel
    cases k with
    | zero =>
      have hr : r = Wd.root v := hi.out.2
      have e0 : Wd.bitAt 0 = 0 := rfl
      have r0 : 0 ≤ r := hi.out.1.1
      have r1 : r ≤ 1152921504606846976 := by have := hi.out.1.2.2.1; have p : (2 : Int) ^ 0 = 1 := rfl; rw [p] at this; omega
      have HR := Lib.hid hr; clear hr
      go_wp2
      go_ret2
      exact ⟨ret_two HR.out rfl, (by repeat' (first | (with_reducible exact Gr.refl _) | (with_reducible assumption) | (with_reducible refine Gr.alloc ?_ _) | (with_reducible refine Gr.drew ?_) | (with_reducible refine Gr.drewN ?_ _) | (with_reducible refine Gr.setCell ?_ ?_ _) | (with_reducible refine Gr.trans ?_ (by with_reducible assumption)) | go_size))⟩
    | succ k =>
      have hor := Wd.or_bit hi.out.1
      have hhf := Wd.bit_half k
      have hstep := Wd.rinv_step hi.out.1
      have r0 : 0 ≤ r := hi.out.1.1
      have hgo : Wd.rootGo (k + 1) v r = Wd.root v := hi.out.2
      have p := Wd.two_pos k
      have r1 : r + 2 ^ k * 2 ≤ 1152921504606846976 := by have := hi.out.1.2.2.1; rw [Int.pow_succ] at this; exact this
      have eb : Wd.bitAt (k + 1) = 2 ^ k := rfl
      unfold Wd.rootGo at hgo
      rw [eb] at hhf ⊢
      generalize (2 : Int) ^ k = B at *
      have hsq : ∃ S : Int, (r + B) * (r + B) = S := ⟨_, rfl⟩
      obtain ⟨S, hS⟩ := hsq
      have s0 : 0 ≤ S := by rw [← hS]; exact Int.mul_nonneg (by omega) (by omega)
      have hmul : ∀ W : World, Calls Tryd.prog 19 #[.int .u64 (r + B), .int .u64 (r + B)] W fun e w' => e = .returned (.tuple #[.int .u64 (S / 18446744073709551616), .int .u64 (S % 18446744073709551616)]) ∧ W = w' := fun W => by
        rw [← hS]; exact mul64_any _ _ W (by omega) (by omega) (by omega) (by omega)
      rw [hS] at hstep hgo
      have hd := Int.mul_ediv_add_emod S 18446744073709551616
      have t0 : 0 ≤ S % 18446744073709551616 := by omega
      have t1 : S % 18446744073709551616 ≤ 18446744073709551615 := by omega
      have t2 : 0 ≤ S / 18446744073709551616 := by omega
      generalize S / 18446744073709551616 = sh at *
      generalize S % 18446744073709551616 = sl at *
      have HMU := Lib.hid hmul
      have HDD := Lib.hid hd
      have HST := Lib.hid hstep
      have HGO := Lib.hid hgo
      clear hmul hd hS hstep hgo hi eb
      have hp : decide (0 < B) = true := decide_eq_true p
      by_cases c1 : sh < Wd.hi v
      · have c1' : decide (sh < Wd.hi v) = true := decide_eq_true c1
        have hle : S ≤ v := by have := HM.out; have := HDD.out; omega
        have hstep := HST.out; have hgo := HGO.out
        rw [if_pos hle] at hstep hgo
        have HX : Hid (Wd.RInv k v (r + B) ∧ Wd.rootGo k v (r + B) = Wd.root v) := ⟨hstep, hgo⟩
        clear hstep hgo hle
        go_wp2_with (go_at_call 19; refine (HMU.out _).mono ?_; rintro e w' ⟨rfl, rfl⟩)
        go_round
        case rel => exact ⟨k, _, rfl, rfl, HX⟩
        case measure => simp [intOf]; omega
      · have c1' : decide (sh < Wd.hi v) = false := decide_eq_false c1
        by_cases c2 : sh = Wd.hi v
        · have c2' : (sh == Wd.hi v) = true := beq_iff_eq.2 c2
          have C2 := Lib.hid c2
          clear c2
          by_cases c3 : sl ≤ Wd.lo v
          · have c3' : decide (sl ≤ Wd.lo v) = true := decide_eq_true c3
            have hle : S ≤ v := by have := HM.out; have := HDD.out; have := C2.out; omega
            have hstep := HST.out; have hgo := HGO.out
            rw [if_pos hle] at hstep hgo
            have HX : Hid (Wd.RInv k v (r + B) ∧ Wd.rootGo k v (r + B) = Wd.root v) := ⟨hstep, hgo⟩
            clear hstep hgo hle
            go_wp2_with (go_at_call 19; refine (HMU.out _).mono ?_; rintro e w' ⟨rfl, rfl⟩)
            go_round
            case rel => exact ⟨k, _, rfl, rfl, HX⟩
            case measure => simp [intOf]; omega
          · have c3' : decide (sl ≤ Wd.lo v) = false := decide_eq_false c3
            have hle : ¬ S ≤ v := by have := HM.out; have := HDD.out; have := C2.out; omega
            have hstep := HST.out; have hgo := HGO.out
            rw [if_neg hle] at hstep hgo
            have HX : Hid (Wd.RInv k v r ∧ Wd.rootGo k v r = Wd.root v) := ⟨hstep, hgo⟩
            clear hstep hgo hle
            go_wp2_with (go_at_call 19; refine (HMU.out _).mono ?_; rintro e w' ⟨rfl, rfl⟩)
            go_round
            case rel => exact ⟨k, _, rfl, rfl, HX⟩
            case measure => simp [intOf]; omega
        · have c2' : (sh == Wd.hi v) = false := beq_eq_false_iff_ne.2 c2
          have hle : ¬ S ≤ v := by have := HM.out; have := HDD.out; omega
          have hstep := HST.out; have hgo := HGO.out
          rw [if_neg hle] at hstep hgo
          have HX : Hid (Wd.RInv k v r ∧ Wd.rootGo k v r = Wd.root v) := ⟨hstep, hgo⟩
          clear hstep hgo hle
          go_wp2_with (go_at_call 19; refine (HMU.out _).mono ?_; rintro e w' ⟨rfl, rfl⟩)
          go_round
          case rel => exact ⟨k, _, rfl, rfl, HX⟩
          case measure => simp [intOf]; omega
end Go.Proofs.YtbaahlofabmljaaDoor
