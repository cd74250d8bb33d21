import Derived.Test.YtbaahlofabmljaaDoorWdRefI
import Derived.Test.YtbaahlofabmljaaDoorWdTxt
set_option linter.unusedVariables false
set_option linter.unusedSimpArgs false
namespace Go.Proofs.YtbaahlofabmljaaDoor
open Go.RowKit
set_option maxRecDepth 100000 in
set_option maxHeartbeats 1000000 in
theorem rroot_any (v : Int) (w : World) (h0 : 0 ≤ v) (h1 : v ≤ 1329227995784915872903807060280344575) :
    Calls Tryd.prog 27 #[.agg #[.int .u64 (Wd.hi v), .int .u64 (Wd.lo v)]] w fun e w' => e = .returned (.int .u64 (Wd.root v)) ∧ Gr w w' := by
  have ST := Lib.hid (Wd.rinvB_start h0 h1)
  have HB := Lib.hid (And.intro h0 h1)
  clear h0 h1
  go_enter Tryd.func27, Tryd.ntmps27
  go_wp2_with fail
  go_loopw [3, 4] (fun s3 s4 wr => ∃ (i : Nat) (r : Int), i ≤ 63 ∧ s3 = .int .u64 r ∧ s4 = .int .i64 (i : Int) ∧ Hid (Wd.RInvB (63 - i) v r) ∧ Gr w wr ∧ w.heap.size < wr.heap.size ∧ wr.cell? ⟨w.heap.size, 0, none⟩ = some (.int .u64 (Wd.hi v)) ∧ wr.cell? ⟨w.heap.size, 1, none⟩ = some (.int .u64 (Wd.lo v))) (fun _ s4 _ => 63 - (intOf s4).toNat)
  case atStart => exact ⟨0, 0, by omega, rfl, rfl, ST, (by repeat' (first | (with_reducible exact Gr.refl _) | (with_reducible assumption) | (with_reducible refine Gr.alloc ?_ _) | (with_reducible refine Gr.drew ?_) | (with_reducible refine Gr.drewN ?_ _) | (with_reducible refine Gr.setCell ?_ ?_ _) | (with_reducible refine Gr.trans ?_ (by with_reducible assumption)) | go_size)), by simp, (by first | (simp [go_sem, *]; done) | ((try simp [go_sem, *]); refine World.cell?_setCell_same' _ _ _ ?_; simp [go_sem, *]; done)), (by first | (simp [go_sem, *]; done) | ((try simp [go_sem, *]); refine World.cell?_setCell_same' _ _ _ ?_; simp [go_sem, *]; done))⟩
  case round =>
    obtain ⟨i, r, hi, rfl, rfl, hr, hg, hsz, c0, c1⟩ := hrel
    by_cases hlt : i < 63
    · obtain ⟨k, hk⟩ : ∃ k, 63 - i = k + 1 := ⟨62 - i, by omega⟩
      rw [hk] at hr
      have hstep := Wd.rinvB_step hr.out
      have r0 : 0 ≤ r := hr.out.1
      have p := Wd.two_pos k
      have r1 : r + 2 ^ k * 2 ≤ 9223372036854775808 := by have := hr.out.2.1; rw [Int.pow_succ] at this; exact this
      have hkk : (62 - (i : Int)) = (k : Int) := by omega
      have e62 : ((62 : Int) - (i : Int)).toNat = k := by omega
      go_wp2_with fail
      generalize (2 : Int) ^ k = B at *
      obtain ⟨S, hS⟩ : ∃ S : Int, (r + B) * (r + B) = S := ⟨_, rfl⟩
      have s0 : 0 ≤ S := by rw [← hS]; exact Int.mul_nonneg (by omega) (by omega)
      have HM : Hid (∀ W : World, Calls Tryd.prog 54 #[.int .u64 (r + B), .int .u64 (r + B)] W fun e w' => e = .returned (.agg #[.int .u64 (Wd.hi S), .int .u64 (Wd.lo S)]) ∧ Gr W w') := fun W => by
        rw [← hS]; exact rmul_any _ _ W (by omega) (by omega) (by omega) (by omega)
      have hv0 := HB.out.1
      rw [hS] at hstep
      by_cases hle : S ≤ v
      · have HL : Hid (∀ W : World, Calls Tryd.prog 57 #[.agg #[.int .u64 (Wd.hi v), .int .u64 (Wd.lo v)], .agg #[.int .u64 (Wd.hi S), .int .u64 (Wd.lo S)]] W fun e w' => e = .returned (.bool false) ∧ Gr W w') := fun W => by
          have := rless_any v S W
          rw [Wd.mag_of_nonneg hv0, Wd.mag_of_nonneg s0, decide_eq_false (by omega)] at this
          exact this
        rw [if_pos hle] at hstep
        have HX := Lib.hid hstep
        clear hstep hS s0 hle hv0 hr
        have HK := Lib.hid hk
        clear hk hkk e62
        refine name_world ?_; intro W0 hW0
        have g0 : Gr w W0 := by rw [hW0]; exact (by repeat' (first | (with_reducible exact Gr.refl _) | (with_reducible assumption) | (with_reducible refine Gr.alloc ?_ _) | (with_reducible refine Gr.drew ?_) | (with_reducible refine Gr.drewN ?_ _) | (with_reducible refine Gr.setCell ?_ ?_ _) | (with_reducible refine Gr.trans ?_ (by with_reducible assumption)) | go_size))
        have k0_0 : ∀ w', Gr W0 w' → w'.cell? ⟨w.heap.size, 0, none⟩ = some (.int .u64 (Wd.hi v)) := fun w' hgW => by first | exact (Gr.at hgW (by rw [hW0]; simp [go_sem, *]))
        have k0_1 : ∀ w', Gr W0 w' → w'.cell? ⟨w.heap.size, 1, none⟩ = some (.int .u64 (Wd.lo v)) := fun w' hgW => by first | exact (Gr.at hgW (by rw [hW0]; simp [go_sem, *]))
        clear hW0
        have zW0 := Gr.size g0
        go_region_held3 (fun w' => Gr W0 w') (repeat' (first | (with_reducible exact Gr.refl _) | (with_reducible assumption) | (with_reducible refine Gr.alloc ?_ _) | (with_reducible refine Gr.drew ?_) | (with_reducible refine Gr.drewN ?_ _) | (with_reducible refine Gr.setCell ?_ ?_ _) | (with_reducible refine Gr.trans ?_ (by with_reducible assumption)) | go_size)) (first | (go_at_call 54; refine (HM.out _).mono ?_; rintro e w1 ⟨rfl, hb1⟩; have q1 : Gr W0 w1 := (by repeat' (first | (with_reducible exact Gr.refl _) | (with_reducible assumption) | (with_reducible refine Gr.alloc ?_ _) | (with_reducible refine Gr.drew ?_) | (with_reducible refine Gr.drewN ?_ _) | (with_reducible refine Gr.setCell ?_ ?_ _) | (with_reducible refine Gr.trans ?_ (by with_reducible assumption)) | go_size)); have z1 := Gr.size q1; obtain ⟨hc1, hf1⟩ := Gr.cells hb1; have hz1 := Gr.size hb1; (try simp at hz1); (try have hy1_0 : w.heap.size < w1.heap.size := by omega); (try have hy1_1 : w.heap.size + 1 < w1.heap.size := by omega); (try have hy1_2 : w.heap.size + 1 + 1 < w1.heap.size := by omega); (try have hy1_3 : w.heap.size + 1 + 1 + 1 < w1.heap.size := by omega); (try have hy1_4 : w.heap.size + 1 + 1 + 1 + 1 < w1.heap.size := by omega); (try have hy1_5 : w.heap.size + 1 + 1 + 1 + 1 + 1 < w1.heap.size := by omega); (try have hy1_W0_0 : W0.heap.size < w1.heap.size := by omega); (try have hy1_W0_1 : W0.heap.size + 1 < w1.heap.size := by omega)) | (go_at_call 57; refine (HL.out _).mono ?_; rintro e w2 ⟨rfl, hb2⟩; have q2 : Gr W0 w2 := (by repeat' (first | (with_reducible exact Gr.refl _) | (with_reducible assumption) | (with_reducible refine Gr.alloc ?_ _) | (with_reducible refine Gr.drew ?_) | (with_reducible refine Gr.drewN ?_ _) | (with_reducible refine Gr.setCell ?_ ?_ _) | (with_reducible refine Gr.trans ?_ (by with_reducible assumption)) | go_size)); have z2 := Gr.size q2; obtain ⟨hc2, hf2⟩ := Gr.cells hb2; have hz2 := Gr.size hb2; (try simp at hz2); (try have hy2_0 : w.heap.size < w2.heap.size := by omega); (try have hy2_1 : w.heap.size + 1 < w2.heap.size := by omega); (try have hy2_2 : w.heap.size + 1 + 1 < w2.heap.size := by omega); (try have hy2_3 : w.heap.size + 1 + 1 + 1 < w2.heap.size := by omega); (try have hy2_4 : w.heap.size + 1 + 1 + 1 + 1 < w2.heap.size := by omega); (try have hy2_5 : w.heap.size + 1 + 1 + 1 + 1 + 1 < w2.heap.size := by omega); (try have hy2_W0_0 : W0.heap.size < w2.heap.size := by omega); (try have hy2_W0_1 : W0.heap.size + 1 < w2.heap.size := by omega); (try have hy2_1_0 : w1.heap.size < w2.heap.size := by omega); (try have hy2_1_1 : w1.heap.size + 1 < w2.heap.size := by omega)))
        go_wp2_with fail
        go_roundw
        case rel => exact ⟨i + 1, r + B, by omega, rfl, by go_num, by rw [show 63 - (i + 1) = k by have := HK.out; omega]; exact HX, (by repeat' (first | (with_reducible exact Gr.refl _) | (with_reducible assumption) | (with_reducible refine Gr.alloc ?_ _) | (with_reducible refine Gr.drew ?_) | (with_reducible refine Gr.drewN ?_ _) | (with_reducible refine Gr.setCell ?_ ?_ _) | (with_reducible refine Gr.trans ?_ (by with_reducible assumption)) | go_size)), World.block_lt_of_cell? _ ⟨w.heap.size, 0, none⟩ (by first | exact k0_0 _ (by repeat' (first | (with_reducible exact Gr.refl _) | (with_reducible assumption) | (with_reducible refine Gr.alloc ?_ _) | (with_reducible refine Gr.drew ?_) | (with_reducible refine Gr.drewN ?_ _) | (with_reducible refine Gr.setCell ?_ ?_ _) | (with_reducible refine Gr.trans ?_ (by with_reducible assumption)) | go_size)) | (simp [go_sem, *]; done)), by first | exact k0_0 _ (by repeat' (first | (with_reducible exact Gr.refl _) | (with_reducible assumption) | (with_reducible refine Gr.alloc ?_ _) | (with_reducible refine Gr.drew ?_) | (with_reducible refine Gr.drewN ?_ _) | (with_reducible refine Gr.setCell ?_ ?_ _) | (with_reducible refine Gr.trans ?_ (by with_reducible assumption)) | go_size)) | (simp [go_sem, *]; done), by first | exact k0_1 _ (by repeat' (first | (with_reducible exact Gr.refl _) | (with_reducible assumption) | (with_reducible refine Gr.alloc ?_ _) | (with_reducible refine Gr.drew ?_) | (with_reducible refine Gr.drewN ?_ _) | (with_reducible refine Gr.setCell ?_ ?_ _) | (with_reducible refine Gr.trans ?_ (by with_reducible assumption)) | go_size)) | (simp [go_sem, *]; done)⟩
        case measure => first | (simp [intOf]; done) | (simp [intOf]; omega)
      · have HL : Hid (∀ W : World, Calls Tryd.prog 57 #[.agg #[.int .u64 (Wd.hi v), .int .u64 (Wd.lo v)], .agg #[.int .u64 (Wd.hi S), .int .u64 (Wd.lo S)]] W fun e w' => e = .returned (.bool true) ∧ Gr W w') := fun W => by
          have := rless_any v S W
          rw [Wd.mag_of_nonneg hv0, Wd.mag_of_nonneg s0, decide_eq_true (by omega)] at this
          exact this
        rw [if_neg hle] at hstep
        have HX := Lib.hid hstep
        clear hstep hS s0 hle hv0 hr
        have HK := Lib.hid hk
        clear hk hkk e62
        refine name_world ?_; intro W0 hW0
        have g0 : Gr w W0 := by rw [hW0]; exact (by repeat' (first | (with_reducible exact Gr.refl _) | (with_reducible assumption) | (with_reducible refine Gr.alloc ?_ _) | (with_reducible refine Gr.drew ?_) | (with_reducible refine Gr.drewN ?_ _) | (with_reducible refine Gr.setCell ?_ ?_ _) | (with_reducible refine Gr.trans ?_ (by with_reducible assumption)) | go_size))
        have k0_0 : ∀ w', Gr W0 w' → w'.cell? ⟨w.heap.size, 0, none⟩ = some (.int .u64 (Wd.hi v)) := fun w' hgW => by first | exact (Gr.at hgW (by rw [hW0]; simp [go_sem, *]))
        have k0_1 : ∀ w', Gr W0 w' → w'.cell? ⟨w.heap.size, 1, none⟩ = some (.int .u64 (Wd.lo v)) := fun w' hgW => by first | exact (Gr.at hgW (by rw [hW0]; simp [go_sem, *]))
        clear hW0
        have zW0 := Gr.size g0
        go_region_held3 (fun w' => Gr W0 w') (repeat' (first | (with_reducible exact Gr.refl _) | (with_reducible assumption) | (with_reducible refine Gr.alloc ?_ _) | (with_reducible refine Gr.drew ?_) | (with_reducible refine Gr.drewN ?_ _) | (with_reducible refine Gr.setCell ?_ ?_ _) | (with_reducible refine Gr.trans ?_ (by with_reducible assumption)) | go_size)) (first | (go_at_call 54; refine (HM.out _).mono ?_; rintro e w1 ⟨rfl, hb1⟩; have q1 : Gr W0 w1 := (by repeat' (first | (with_reducible exact Gr.refl _) | (with_reducible assumption) | (with_reducible refine Gr.alloc ?_ _) | (with_reducible refine Gr.drew ?_) | (with_reducible refine Gr.drewN ?_ _) | (with_reducible refine Gr.setCell ?_ ?_ _) | (with_reducible refine Gr.trans ?_ (by with_reducible assumption)) | go_size)); have z1 := Gr.size q1; obtain ⟨hc1, hf1⟩ := Gr.cells hb1; have hz1 := Gr.size hb1; (try simp at hz1); (try have hy1_0 : w.heap.size < w1.heap.size := by omega); (try have hy1_1 : w.heap.size + 1 < w1.heap.size := by omega); (try have hy1_2 : w.heap.size + 1 + 1 < w1.heap.size := by omega); (try have hy1_3 : w.heap.size + 1 + 1 + 1 < w1.heap.size := by omega); (try have hy1_4 : w.heap.size + 1 + 1 + 1 + 1 < w1.heap.size := by omega); (try have hy1_5 : w.heap.size + 1 + 1 + 1 + 1 + 1 < w1.heap.size := by omega); (try have hy1_W0_0 : W0.heap.size < w1.heap.size := by omega); (try have hy1_W0_1 : W0.heap.size + 1 < w1.heap.size := by omega)) | (go_at_call 57; refine (HL.out _).mono ?_; rintro e w2 ⟨rfl, hb2⟩; have q2 : Gr W0 w2 := (by repeat' (first | (with_reducible exact Gr.refl _) | (with_reducible assumption) | (with_reducible refine Gr.alloc ?_ _) | (with_reducible refine Gr.drew ?_) | (with_reducible refine Gr.drewN ?_ _) | (with_reducible refine Gr.setCell ?_ ?_ _) | (with_reducible refine Gr.trans ?_ (by with_reducible assumption)) | go_size)); have z2 := Gr.size q2; obtain ⟨hc2, hf2⟩ := Gr.cells hb2; have hz2 := Gr.size hb2; (try simp at hz2); (try have hy2_0 : w.heap.size < w2.heap.size := by omega); (try have hy2_1 : w.heap.size + 1 < w2.heap.size := by omega); (try have hy2_2 : w.heap.size + 1 + 1 < w2.heap.size := by omega); (try have hy2_3 : w.heap.size + 1 + 1 + 1 < w2.heap.size := by omega); (try have hy2_4 : w.heap.size + 1 + 1 + 1 + 1 < w2.heap.size := by omega); (try have hy2_5 : w.heap.size + 1 + 1 + 1 + 1 + 1 < w2.heap.size := by omega); (try have hy2_W0_0 : W0.heap.size < w2.heap.size := by omega); (try have hy2_W0_1 : W0.heap.size + 1 < w2.heap.size := by omega); (try have hy2_1_0 : w1.heap.size < w2.heap.size := by omega); (try have hy2_1_1 : w1.heap.size + 1 < w2.heap.size := by omega)))
        go_wp2_with fail
        go_roundw
        case rel => exact ⟨i + 1, r, by omega, rfl, by go_num, by rw [show 63 - (i + 1) = k by have := HK.out; omega]; exact HX, (by repeat' (first | (with_reducible exact Gr.refl _) | (with_reducible assumption) | (with_reducible refine Gr.alloc ?_ _) | (with_reducible refine Gr.drew ?_) | (with_reducible refine Gr.drewN ?_ _) | (with_reducible refine Gr.setCell ?_ ?_ _) | (with_reducible refine Gr.trans ?_ (by with_reducible assumption)) | go_size)), World.block_lt_of_cell? _ ⟨w.heap.size, 0, none⟩ (by first | exact k0_0 _ (by repeat' (first | (with_reducible exact Gr.refl _) | (with_reducible assumption) | (with_reducible refine Gr.alloc ?_ _) | (with_reducible refine Gr.drew ?_) | (with_reducible refine Gr.drewN ?_ _) | (with_reducible refine Gr.setCell ?_ ?_ _) | (with_reducible refine Gr.trans ?_ (by with_reducible assumption)) | go_size)) | (simp [go_sem, *]; done)), by first | exact k0_0 _ (by repeat' (first | (with_reducible exact Gr.refl _) | (with_reducible assumption) | (with_reducible refine Gr.alloc ?_ _) | (with_reducible refine Gr.drew ?_) | (with_reducible refine Gr.drewN ?_ _) | (with_reducible refine Gr.setCell ?_ ?_ _) | (with_reducible refine Gr.trans ?_ (by with_reducible assumption)) | go_size)) | (simp [go_sem, *]; done), by first | exact k0_1 _ (by repeat' (first | (with_reducible exact Gr.refl _) | (with_reducible assumption) | (with_reducible refine Gr.alloc ?_ _) | (with_reducible refine Gr.drew ?_) | (with_reducible refine Gr.drewN ?_ _) | (with_reducible refine Gr.setCell ?_ ?_ _) | (with_reducible refine Gr.trans ?_ (by with_reducible assumption)) | go_size)) | (simp [go_sem, *]; done)⟩
        case measure => first | (simp [intOf]; done) | (simp [intOf]; omega)
    · obtain rfl : i = 63 := by omega
      have hend := Wd.rinvB_end hr.out HB.out.2
      have HE := Lib.hid hend
      clear hend
      go_wp2_with fail
      go_ret
      exact ⟨ret_int HE.out, hg⟩
theorem u63_i64 {n : Int} (h0 : 0 ≤ n) (h1 : n ≤ 9223372036854775807) : wrap64 n = n := IntWalk.wrap64_in n ⟨by omega, by omega⟩
set_option maxHeartbeats 1000000 in
/-- The reference's root of a valid wide number. -/
theorem rrootof_neg (h l : Int) (w : World) (hv : Wd.vld h l = true) (hn : Wd.val h l < 0) :
    Calls Tryd.prog 9 #[.agg #[.int .i64 h, .int .i64 l]] w fun e w' => e = .returned (.tuple #[.int .i64 0, .int .i64 2]) ∧ Gr w w' := by
  obtain ⟨a, b, c, d⟩ := Wd.vld_true hv
  have HO := Lib.hid (fun W => rofwide_any h l W (by omega) (by omega) (by omega) (by omega))
  have hn' := Wd.neg_of_neg hn
  clear hv hn
  generalize Wd.val h l = v at *
  go_enter Tryd.func9, Tryd.ntmps9
  go_wp2_with (first | (go_at_call 26; refine (HO.out _).mono ?_; rintro e w1 ⟨rfl, hb1⟩; obtain ⟨hc1, hf1⟩ := Gr.cells hb1; have hz1 := Gr.size hb1; (try simp at hz1); (try have hy1_0 : w.heap.size < w1.heap.size := by omega); (try have hy1_1 : w.heap.size + 1 < w1.heap.size := by omega); (try have hy1_2 : w.heap.size + 1 + 1 < w1.heap.size := by omega); (try have hy1_3 : w.heap.size + 1 + 1 + 1 < w1.heap.size := by omega); (try have hy1_4 : w.heap.size + 1 + 1 + 1 + 1 < w1.heap.size := by omega); (try have hy1_5 : w.heap.size + 1 + 1 + 1 + 1 + 1 < w1.heap.size := by omega)))
  go_ret2
  exact ⟨rfl, (by repeat' (first | (with_reducible exact Gr.refl _) | (with_reducible assumption) | (with_reducible refine Gr.alloc ?_ _) | (with_reducible refine Gr.drew ?_) | (with_reducible refine Gr.drewN ?_ _) | (with_reducible refine Gr.setCell ?_ ?_ _) | (with_reducible refine Gr.trans ?_ (by with_reducible assumption)) | go_size))⟩
set_option maxHeartbeats 1000000 in
theorem rrootof_any (h l : Int) (w : World) (hv : Wd.vld h l = true) (hn : 0 ≤ Wd.val h l) :
    Calls Tryd.prog 9 #[.agg #[.int .i64 h, .int .i64 l]] w fun e w' => e = .returned (.tuple #[.int .i64 (Wd.root (Wd.val h l)), .int .i64 0]) ∧ Gr w w' := by
  obtain ⟨x0, x1⟩ := Wd.val_bounds hv
  obtain ⟨a, b, c, d⟩ := Wd.vld_true hv
  have HO := Lib.hid (fun W => rofwide_any h l W (by omega) (by omega) (by omega) (by omega))
  have hn' := Wd.neg_of_nonneg hn
  have HR := Lib.hid (fun W => rroot_any (Wd.val h l) W hn x1)
  obtain ⟨r0, r1, -, -⟩ := Wd.root_spec hn x1
  clear hv hn x0 x1
  generalize Wd.val h l = v at *
  generalize Wd.root v = r at *
  go_enter Tryd.func9, Tryd.ntmps9
  go_wp2_with (first | (go_at_call 26; refine (HO.out _).mono ?_; rintro e w1 ⟨rfl, hb1⟩; obtain ⟨hc1, hf1⟩ := Gr.cells hb1; have hz1 := Gr.size hb1; (try simp at hz1); (try have hy1_0 : w.heap.size < w1.heap.size := by omega); (try have hy1_1 : w.heap.size + 1 < w1.heap.size := by omega); (try have hy1_2 : w.heap.size + 1 + 1 < w1.heap.size := by omega); (try have hy1_3 : w.heap.size + 1 + 1 + 1 < w1.heap.size := by omega); (try have hy1_4 : w.heap.size + 1 + 1 + 1 + 1 < w1.heap.size := by omega); (try have hy1_5 : w.heap.size + 1 + 1 + 1 + 1 + 1 < w1.heap.size := by omega)) | (go_at_call 27; refine (HR.out _).mono ?_; rintro e w2 ⟨rfl, hb2⟩; obtain ⟨hc2, hf2⟩ := Gr.cells hb2; have hz2 := Gr.size hb2; (try simp at hz2); (try have hy2_0 : w.heap.size < w2.heap.size := by omega); (try have hy2_1 : w.heap.size + 1 < w2.heap.size := by omega); (try have hy2_2 : w.heap.size + 1 + 1 < w2.heap.size := by omega); (try have hy2_3 : w.heap.size + 1 + 1 + 1 < w2.heap.size := by omega); (try have hy2_4 : w.heap.size + 1 + 1 + 1 + 1 < w2.heap.size := by omega); (try have hy2_5 : w.heap.size + 1 + 1 + 1 + 1 + 1 < w2.heap.size := by omega); (try have hy2_1_0 : w1.heap.size < w2.heap.size := by omega); (try have hy2_1_1 : w1.heap.size + 1 < w2.heap.size := by omega)))
  go_ret2
  exact ⟨rfl, (by repeat' (first | (with_reducible exact Gr.refl _) | (with_reducible assumption) | (with_reducible refine Gr.alloc ?_ _) | (with_reducible refine Gr.drew ?_) | (with_reducible refine Gr.drewN ?_ _) | (with_reducible refine Gr.setCell ?_ ?_ _) | (with_reducible refine Gr.trans ?_ (by with_reducible assumption)) | go_size))⟩
end Go.Proofs.YtbaahlofabmljaaDoor
