/-
  Plain arithmetic of the layer clock: steps of time and how they overlap with a span. No program here.
-/
import Derived.Test.YtllkiadedaghoaaGreatDoorOr01
import Derived.WalkKit
import Derived.Deep.RegionHeld3
set_option linter.unusedVariables false
set_option linter.unusedSimpArgs false
namespace Go.Proofs.YtllkiadedaghoaaGreatDoor
namespace Ck
def inst (t : Int) : Bool := decide (-68719476736 ≤ t) && decide (t ≤ 68719476736)
def len (n : Int) : Bool := decide (1 ≤ n) && decide (n ≤ 86400)
theorem inst_iff (t : Int) : inst t = true ↔ -68719476736 ≤ t ∧ t ≤ 68719476736 := by unfold inst; simp only [Bool.and_eq_true, decide_eq_true_eq]
theorem inst_no {t : Int} (h : inst t = false) : t < -68719476736 ∨ 68719476736 < t := by
  unfold inst at h; simp only [Bool.and_eq_false_iff, decide_eq_false_iff_not] at h; omega
theorem div_bd {n s B : Int} (hs : 1 ≤ s) (h0 : -B ≤ n) (h1 : n ≤ B) : -B ≤ n / s ∧ n / s ≤ B := by
  have hB : 0 ≤ B := by omega
  have hm := Int.mul_le_mul_of_nonneg_left hs hB
  constructor
  · rw [Int.le_ediv_iff_mul_le (by omega), Int.neg_mul]; omega
  · have := Int.ediv_le_ediv (show 0 < s by omega) h1
    have h2 : B / s ≤ B := by
      have := Int.ediv_le_self s hB; exact this
    omega
end Ck
end Go.Proofs.YtllkiadedaghoaaGreatDoor
set_option linter.unusedVariables false
set_option linter.unusedSimpArgs false
namespace Go.Proofs.YtllkiadedaghoaaGreatDoor
open Go.RowKit
theorem ck_ret_bool {a b : Bool} (h : a = b) : Ending.returned (.bool a) = .returned (.bool b) := by rw [h]
set_option maxHeartbeats 400000 in
theorem leap_any (y : Int) (w : World) (h0 : 0 ≤ y) (h1 : y ≤ 100000) :
    Calls Tryz.prog 176 #[.int .i64 y] w fun e w' => e = .returned (.bool (Ck.lpB y)) ∧ w = w' := by
  have hl : Ck.lpB y = (((y % 4 == 0) && (y % 100 != 0)) || (y % 400 == 0)) := rfl
  have HL := Lib.hid hl; clear hl
  cases a : (y % 4 == 0) <;> cases b : (y % 100 != 0) <;> cases c : (y % 400 == 0)
  all_goals
    go_enter Tryz.func176, Tryz.ntmps176
    go_wp2
    go_ret
    exact ⟨ck_ret_bool (by rw [HL.out]; simp [a, b, c]), rfl⟩
set_option maxHeartbeats 400000 in
theorem rleap_any (y : Int) (w : World) (h0 : 0 ≤ y) (h1 : y ≤ 100000) :
    Calls Tryz.prog 191 #[.int .i64 y] w fun e w' => e = .returned (.bool (Ck.lpB y)) ∧ w = w' := by
  have hm : y % 400 = 0 → y % 4 = 0 := by omega
  have hl : Ck.lpB y = ((y % 4 == 0) && ((y % 100 != 0) || (y % 400 == 0))) := by
    unfold Ck.lpB
    cases a : (y % 4 == 0) <;> cases b : (y % 100 != 0) <;> cases c : (y % 400 == 0) <;> simp_all
  have HL := Lib.hid hl; clear hl hm
  cases a : (y % 4 == 0) <;> cases b : (y % 100 != 0) <;> cases c : (y % 400 == 0)
  all_goals
    go_enter Tryz.func191, Tryz.ntmps191
    go_wp2
    go_ret
    exact ⟨ck_ret_bool (by rw [HL.out]; simp [a, b, c]), rfl⟩
theorem tab_lp {y : Int} (h : Ck.lpB y = true) : Ck.mlen y 2 = 29 := by unfold Ck.mlen Ck.lp; rw [h]; rfl
theorem tab_no {y m : Int} (h : m = 2 → Ck.lpB y = false) : Ck.mlen y m = Ck.tab m := by
  unfold Ck.mlen Ck.lp
  by_cases hm : m = 2
  · rw [if_pos hm, h hm]; subst hm; rfl
  · rw [if_neg hm]
theorem ret_int' {k : IntKind} {a b : Int} (h : a = b) : Ending.returned (.int k b) = .returned (.int k a) := by rw [h]
set_option maxHeartbeats 800000 in
theorem month_any (y m : Int) (w : World) (h0 : 0 ≤ y) (h1 : y ≤ 100000) (m1 : 1 ≤ m) (m2 : m ≤ 12) :
    Calls Tryz.prog 148 #[.int .i64 y, .int .i64 m] w fun e w' => e = .returned (.int .i64 (Ck.mlen y m)) ∧ Gr w w' := by
  have HL := Lib.hid (fun W => leap_any y W h0 h1)
  cases hb : Ck.lpB y
  · rw [tab_no (m := m) fun _ => hb]
    rw [hb] at HL
    rcases Ck.months m1 m2 with rfl | rfl | rfl | rfl | rfl | rfl | rfl | rfl | rfl | rfl | rfl | rfl
    all_goals
      clear hb h0 h1 m1 m2
      go_enter Tryz.func148, Tryz.ntmps148
      go_wp2_with (go_at_call 176; refine (HL.out _).mono ?_; rintro e w' ⟨rfl, rfl⟩)
      go_ret
      exact ⟨ret_int' rfl, gr_auto⟩
  · rw [hb] at HL
    by_cases hm : m = 2
    · subst hm
      rw [tab_lp hb]
      clear hb h0 h1 m1 m2
      go_enter Tryz.func148, Tryz.ntmps148
      go_wp2_with (go_at_call 176; refine (HL.out _).mono ?_; rintro e w' ⟨rfl, rfl⟩)
      go_ret
      exact ⟨rfl, gr_auto⟩
    · rw [tab_no fun h => absurd h hm]
      rcases Ck.months m1 m2 with rfl | rfl | rfl | rfl | rfl | rfl | rfl | rfl | rfl | rfl | rfl | rfl
      all_goals
        clear hb h0 h1 m1 m2
        first
        | (exact absurd rfl hm)
        | (clear hm
           go_enter Tryz.func148, Tryz.ntmps148
           go_wp2_with (go_at_call 176; refine (HL.out _).mono ?_; rintro e w' ⟨rfl, rfl⟩)
           go_ret
           exact ⟨ret_int' rfl, gr_auto⟩)
set_option maxHeartbeats 400000 in
theorem before_any (y : Int) (w : World) (h0 : 1 ≤ y) (h1 : y ≤ 10002) :
    Calls Tryz.prog 145 #[.int .i64 y] w fun e w' => e = .returned (.int .i64 (Ck.bef y)) ∧ w = w' := by
  go_enter Tryz.func145, Tryz.ntmps145
  go_wp2
  go_ret
  exact ⟨ret_int (by unfold Ck.bef; rfl), rfl⟩
set_option maxHeartbeats 400000 in
theorem instant_any (t : Int) (w : World) :
    Calls Tryz.prog 101 #[.int .i64 t] w fun e w' => e = .returned (.bool (Ck.inst t)) ∧ w = w' := by
  cases h : Ck.inst t
  · rcases Ck.inst_no h with k | k
    · have a : decide (-68719476736 ≤ t) = false := decide_eq_false (by omega)
      clear k h
      go_enter Tryz.func101, Tryz.ntmps101
      go_wp2
      go_ret
      exact ⟨rfl, rfl⟩
    · have a : decide (-68719476736 ≤ t) = true := decide_eq_true (by omega)
      have b : decide (t ≤ 68719476736) = false := decide_eq_false (by omega)
      clear k h
      go_enter Tryz.func101, Tryz.ntmps101
      go_wp2
      go_ret
      exact ⟨rfl, rfl⟩
  · obtain ⟨k, l⟩ := (Ck.inst_iff t).1 h
    have a : decide (-68719476736 ≤ t) = true := decide_eq_true (by omega)
    have b : decide (t ≤ 68719476736) = true := decide_eq_true (by omega)
    clear k l h
    go_enter Tryz.func101, Tryz.ntmps101
    go_wp2
    go_ret
    exact ⟨rfl, rfl⟩
end Go.Proofs.YtllkiadedaghoaaGreatDoor
set_option linter.unusedVariables false
set_option linter.unusedSimpArgs false
namespace Go.Proofs.YtllkiadedaghoaaGreatDoor
open Go.RowKit
set_option maxHeartbeats 400000 in
theorem floor_any (a b : Int) (w : World) (b0 : 1 ≤ b) (b1 : b ≤ 1099511627776) (a0 : -4611686018427387904 ≤ a) (a1 : a ≤ 4611686018427387904) :
    Calls Tryz.prog 102 #[.int .i64 a, .int .i64 b] w fun e w' => e = .returned (.int .i64 (a / b)) ∧ w = w' := by
  have hf := Ck.tdiv_floor a b (by omega)
  obtain ⟨q0, q1⟩ := Ck.div_bd (n := a) (B := 4611686018427387904) b0 (by omega) (by omega)
  have hz : (b == 0) = false := beq_eq_false_iff_ne.2 (by omega)
  by_cases hr : a.tmod b < 0
  · have hd : decide (a.tmod b < 0) = true := decide_eq_true hr
    rw [if_pos hr] at hf
    have HF := Lib.hid hf; clear hf hr
    go_enter Tryz.func102, Tryz.ntmps102
    go_wp2
    go_ret
    exact ⟨ret_int (by rw [HF.out]; exact IntWalk.wrap64_in _ (by omega)), rfl⟩
  · have hd : decide (a.tmod b < 0) = false := decide_eq_false hr
    rw [if_neg hr] at hf
    have HF := Lib.hid hf; clear hf hr
    go_enter Tryz.func102, Tryz.ntmps102
    go_wp2
    go_ret
    exact ⟨ret_int HF.out, rfl⟩
theorem rfloor_eq (a b : Int) : a - a.tdiv b * b = a.tmod b := by
  have := Int.mul_tdiv_add_tmod a b; rw [Int.mul_comm] at this; omega
set_option maxHeartbeats 400000 in
theorem rfloor_any (a b : Int) (w : World) (b0 : 1 ≤ b) (b1 : b ≤ 1099511627776) (a0 : -4611686018427387904 ≤ a) (a1 : a ≤ 4611686018427387904) :
    Calls Tryz.prog 117 #[.int .i64 a, .int .i64 b] w fun e w' => e = .returned (.int .i64 (a / b)) ∧ w = w' := by
  have hf := Ck.tdiv_floor a b (by omega)
  obtain ⟨q0, q1⟩ := Ck.div_bd (n := a) (B := 4611686018427387904) b0 (by omega) (by omega)
  have hz : (b == 0) = false := beq_eq_false_iff_ne.2 (by omega)
  have he := rfloor_eq a b
  have hm0 : -1099511627776 ≤ a.tmod b := by have := Int.lt_tmod_of_pos a (show 0 < b by omega); omega
  have hm1 : a.tmod b ≤ 1099511627776 := by have := Int.tmod_lt_of_pos a (show 0 < b by omega); omega
  have p0 : -4611687117939015680 ≤ a.tdiv b * b := by omega
  have p1 : a.tdiv b * b ≤ 4611687117939015680 := by omega
  have r0 : -1099511627776 ≤ a - a.tdiv b * b := by omega
  have r1 : a - a.tdiv b * b ≤ 1099511627776 := by omega
  by_cases hr : a.tmod b < 0
  · have hd : decide (a - a.tdiv b * b < 0) = true := decide_eq_true (by omega)
    rw [if_pos hr] at hf
    have HF := Lib.hid hf; clear hf hr he
    go_enter Tryz.func117, Tryz.ntmps117
    go_wp2
    go_ret
    exact ⟨ret_int (by rw [HF.out]; exact IntWalk.wrap64_in _ (by omega)), rfl⟩
  · have hd : decide (a - a.tdiv b * b < 0) = false := decide_eq_false (by omega)
    rw [if_neg hr] at hf
    have HF := Lib.hid hf; clear hf hr he
    go_enter Tryz.func117, Tryz.ntmps117
    go_wp2
    go_ret
    exact ⟨ret_int HF.out, rfl⟩
set_option maxHeartbeats 400000 in
theorem rinstant_any (t : Int) (w : World) :
    Calls Tryz.prog 116 #[.int .i64 t] w fun e w' => e = .returned (.bool (Ck.inst t)) ∧ w = w' := by
  cases h : Ck.inst t
  · rcases Ck.inst_no h with k | k
    · have a : decide (-68719476736 ≤ t) = false := decide_eq_false (by omega)
      clear k h
      go_enter Tryz.func116, Tryz.ntmps116
      go_wp2
      go_ret
      exact ⟨rfl, rfl⟩
    · have a : decide (-68719476736 ≤ t) = true := decide_eq_true (by omega)
      have b : decide (t ≤ 68719476736) = false := decide_eq_false (by omega)
      clear k h
      go_enter Tryz.func116, Tryz.ntmps116
      go_wp2
      go_ret
      exact ⟨rfl, rfl⟩
  · obtain ⟨k, l⟩ := (Ck.inst_iff t).1 h
    have a : decide (-68719476736 ≤ t) = true := decide_eq_true (by omega)
    have b : decide (t ≤ 68719476736) = true := decide_eq_true (by omega)
    clear k l h
    go_enter Tryz.func116, Tryz.ntmps116
    go_wp2
    go_ret
    exact ⟨rfl, rfl⟩
end Go.Proofs.YtllkiadedaghoaaGreatDoor
set_option linter.unusedVariables false
set_option linter.unusedSimpArgs false
namespace Go.Proofs.YtllkiadedaghoaaGreatDoor
open Go.RowKit
set_option maxHeartbeats 800000 in
theorem rdays_any (y m : Int) (w : World) (h0 : 0 ≤ y) (h1 : y ≤ 100000) (m1 : 1 ≤ m) (m2 : m ≤ 12) :
    Calls Tryz.prog 160 #[.int .i64 y, .int .i64 m] w fun e w' => e = .returned (.int .i64 (Ck.mlen y m)) ∧ Gr w w' := by
  have HL := Lib.hid (fun W => rleap_any y W h0 h1)
  cases hb : Ck.lpB y
  · rw [tab_no (m := m) fun _ => hb]
    rw [hb] at HL
    rcases Ck.months m1 m2 with rfl | rfl | rfl | rfl | rfl | rfl | rfl | rfl | rfl | rfl | rfl | rfl
    all_goals
      clear hb h0 h1 m1 m2
      go_enter Tryz.func160, Tryz.ntmps160
      go_wp2_with (go_at_call 191; refine (HL.out _).mono ?_; rintro e w' ⟨rfl, rfl⟩)
      go_ret
      exact ⟨ret_int' rfl, gr_auto⟩
  · rw [hb] at HL
    by_cases hm : m = 2
    · subst hm
      rw [tab_lp hb]
      clear hb h0 h1 m1 m2
      go_enter Tryz.func160, Tryz.ntmps160
      go_wp2_with (go_at_call 191; refine (HL.out _).mono ?_; rintro e w' ⟨rfl, rfl⟩)
      go_ret
      exact ⟨rfl, gr_auto⟩
    · rw [tab_no fun h => absurd h hm]
      rcases Ck.months m1 m2 with rfl | rfl | rfl | rfl | rfl | rfl | rfl | rfl | rfl | rfl | rfl | rfl
      all_goals
        clear hb h0 h1 m1 m2
        first
        | (exact absurd rfl hm)
        | (clear hm
           go_enter Tryz.func160, Tryz.ntmps160
           go_wp2_with (go_at_call 191; refine (HL.out _).mono ?_; rintro e w' ⟨rfl, rfl⟩)
           go_ret
           exact ⟨ret_int' rfl, gr_auto⟩)
set_option maxHeartbeats 400000 in
theorem rbefore_any (y : Int) (w : World) (h0 : 1 ≤ y) (h1 : y ≤ 10002) :
    Calls Tryz.prog 159 #[.int .i64 y] w fun e w' => e = .returned (.int .i64 (Ck.bef y + 730119)) ∧ w = w' := by
  have HE := Lib.hid (show Ck.bef y + 730119 = 365 * (y - 1) + (y - 1) / 4 - (y - 1) / 100 + (y - 1) / 400 by unfold Ck.bef; omega)
  go_enter Tryz.func159, Tryz.ntmps159
  go_wp2
  go_ret
  exact ⟨ret_int HE.out.symm, rfl⟩
end Go.Proofs.YtllkiadedaghoaaGreatDoor
set_option linter.unusedVariables false
set_option linter.unusedSimpArgs false
namespace Go.Proofs.YtllkiadedaghoaaGreatDoor
open Go.RowKit
theorem Ck.bef_2000 : Ck.bef 2000 = 0 := by decide
theorem Ck.bef_inv {a b : Int} (h : Ck.bef a < Ck.bef b) : a < b := by
  rcases Int.lt_or_le a b with k | k
  · exact k
  · have := Ck.bef_mono k; omega
set_option maxHeartbeats 1000000 in
theorem ck_rnumber_any (y m d : Int) (w : World) (hv : Ck.vld y m d = true) :
    Calls Tryz.prog 158 #[.agg #[.int .i64 y, .int .i64 m, .int .i64 d]] w fun e w' => e = .returned (.int .i64 (Ck.num y m d)) ∧ Gr w w' := by
  obtain ⟨v1, v2, v3, v4, v5, v6⟩ := (Ck.vld_iff y m d).1 hv
  obtain ⟨l0, l1⟩ := Ck.mlen_bd y m
  obtain ⟨c0, c1⟩ := Ck.bef_bd y (by omega) (by omega)
  clear hv
  go_enter Tryz.func158, Tryz.ntmps158
  
  go_wp2_with fail
  refine name_world ?_; intro W0 hW0
  have g0 : Gr w W0 := by rw [hW0]; exact gr_auto
  have k0_0 : ∀ w', Gr W0 w' → w'.cell? ⟨w.heap.size, 0, none⟩ = some (.int .i64 y) := fun w' hgW => by first | exact (Gr.at hgW (by rw [hW0]; simp [go_sem, *]))
  have k0_1 : ∀ w', Gr W0 w' → w'.cell? ⟨w.heap.size, 1, none⟩ = some (.int .i64 m) := fun w' hgW => by first | exact (Gr.at hgW (by rw [hW0]; simp [go_sem, *]))
  have k0_2 : ∀ w', Gr W0 w' → w'.cell? ⟨w.heap.size, 2, none⟩ = some (.int .i64 d) := fun w' hgW => by first | exact (Gr.at hgW (by rw [hW0]; simp [go_sem, *]))
  clear hW0
  have zW0 := Gr.size g0
  go_region_held3 (fun w' => Gr W0 w') (exact gr_auto) (first | (go_at_call 159; refine (rbefore_any _ _ (by omega) (by omega)).mono ?_; rintro e w' ⟨rfl, rfl⟩))
  all_goals
    go_wp2_with fail
    go_loopw [3, 4] (fun p q wr => ∃ k : Int, 1 ≤ k ∧ k ≤ m ∧ q = .int .i64 k ∧ p = .int .i64 (Ck.bef y + d - 1 + Ck.cum y k) ∧ Gr w wr ∧ wr.cell? ⟨w.heap.size, 0, none⟩ = some (.int .i64 y) ∧ wr.cell? ⟨w.heap.size, 1, none⟩ = some (.int .i64 m) ∧ wr.cell? ⟨w.heap.size, 2, none⟩ = some (.int .i64 d)) (fun _ q _ => (m - intOf q).toNat)
    case atStart => exact ⟨1, by omega, by omega, rfl, by rw [Ck.cum_one]; exact congrArg (Value.int IntKind.i64) (by have e2 := Ck.bef_2000; go_arith), gr_auto, (by first | (simp [go_sem, *]; done) | ((try simp [go_sem, *]); refine World.cell?_setCell_same' _ _ _ ?_; simp [go_sem, *]; done)), (by first | (simp [go_sem, *]; done) | ((try simp [go_sem, *]); refine World.cell?_setCell_same' _ _ _ ?_; simp [go_sem, *]; done)), (by first | (simp [go_sem, *]; done) | ((try simp [go_sem, *]); refine World.cell?_setCell_same' _ _ _ ?_; simp [go_sem, *]; done))⟩
    case round =>
      obtain ⟨k, k1, k2, rfl, rfl, hg, hc0, hc1, hc2⟩ := hrel
      have hlt := World.block_lt_of_cell? wr ⟨w.heap.size, 0, none⟩ hc0
      have hs := Ck.cum_bd y k
      by_cases hk : k < m
      · have HS := Lib.hid (Ck.cum_succ y k k1 (by omega))
        obtain ⟨n0, n1⟩ := Ck.mlen_bd y k
        go_wp2_with (go_at_call 160; refine (rdays_any _ _ _ (by omega) (by omega) (by omega) (by omega)).mono ?_; rintro e w1 ⟨rfl, hb1⟩; obtain ⟨hcc, hff⟩ := Gr.cells hb1)
        go_roundw
        case rel => exact ⟨k + 1, by omega, by omega, by go_num, by rw [HS.out]; exact congrArg (Value.int IntKind.i64) (by omega), gr_auto, (by first | (simp [go_sem, *]; done) | ((try simp [go_sem, *]); refine World.cell?_setCell_same' _ _ _ ?_; simp [go_sem, *]; done)), (by first | (simp [go_sem, *]; done) | ((try simp [go_sem, *]); refine World.cell?_setCell_same' _ _ _ ?_; simp [go_sem, *]; done)), (by first | (simp [go_sem, *]; done) | ((try simp [go_sem, *]); refine World.cell?_setCell_same' _ _ _ ?_; simp [go_sem, *]; done))⟩
        case measure => simp [intOf]; omega
      · obtain rfl : k = m := by omega
        go_wp2
        go_ret
        exact ⟨ret_int (by unfold Ck.num; omega), gr_auto⟩
set_option maxHeartbeats 400000 in
theorem late_any (b : Nat) (i n : Int) (w : World) (h0 : 0 ≤ i) (h1 : i ≤ 9998) (hc : w.cell? ⟨b, 0, none⟩ = some (.int .i64 n)) :
    Calls Tryz.prog 147 #[.int .i64 i, .pointer (some ⟨b, 0, none⟩)] w fun e w' => e = .returned (.bool (decide (n < Ck.bef (i + 2)))) ∧ Gr w w' := by
  have hw : IntKind.i64.wrap (i + 2) = i + 2 := IntWalk.i64_in _ (by omega)
  have q0 : 1 ≤ i + 2 := by omega
  have q1 : i + 2 ≤ 10002 := by omega
  go_enter Tryz.func147, Tryz.ntmps147
  go_wp2_with fail
  refine name_world ?_; intro W0 hW0
  have g0 : Gr w W0 := by rw [hW0]; exact gr_auto
  have k0_0 : ∀ w', Gr W0 w' → w'.cell? ⟨b, 0, none⟩ = some (.int .i64 n) := fun w' hgW => by first | exact (Gr.at hgW (by rw [hW0]; simp [go_sem, *]))
  clear hW0
  have zW0 := Gr.size g0
  go_region_held3 (fun w' => Gr W0 w') (exact gr_auto) (first | (go_at_call 145; refine (before_any _ _ (by assumption) (by assumption)).mono ?_; rintro e w' ⟨rfl, rfl⟩))
  all_goals
    go_wp2
    go_ret
    exact ⟨rfl, gr_auto⟩
set_option maxHeartbeats 1000000 in
theorem search_any (b : Nat) (n y : Int) (w : World) (hc : w.cell? ⟨b, 0, none⟩ = some (.int .i64 n)) (y0 : 1 ≤ y) (y1 : y ≤ 9999) (n0 : Ck.bef y ≤ n) (n1 : n < Ck.bef (y + 1)) :
    Calls Tryz.prog 146 #[.int .i64 9999, .func (.func 147) #[] #[.pointer (some ⟨b, 0, none⟩)]] w fun e w' => e = .returned (.int .i64 (y - 1)) ∧ Gr w w' := by
  go_enter Tryz.func146, Tryz.ntmps146
  go_wp2_with fail
  go_loopw [5, 6] (fun p q wr => ∃ lo hi : Int, 0 ≤ lo ∧ lo ≤ y - 1 ∧ y - 1 ≤ hi ∧ hi ≤ 9999 ∧ p = .int .i64 lo ∧ q = .int .i64 hi ∧ Gr w wr ∧ wr.cell? ⟨b, 0, none⟩ = some (.int .i64 n)) (fun p q _ => (intOf q - intOf p).toNat)
  case atStart => exact ⟨0, 9999, by omega, by omega, by omega, by omega, rfl, rfl, gr_auto, hc⟩
  case round =>
    obtain ⟨lo, hi, l0, l1, l2, l3, rfl, rfl, hg, hcc⟩ := hrel
    by_cases hlt : lo < hi
    · have hm : 0 ≤ (lo + hi) / 2 ∧ (lo + hi) / 2 ≤ 9998 := by omega
      obtain ⟨m0, m1⟩ := hm
      have hl := fun W hC => late_any b ((lo + hi) / 2) n W m0 m1 hC
      by_cases hp : n < Ck.bef ((lo + hi) / 2 + 2)
      · have hy : y ≤ (lo + hi) / 2 + 1 := by have := Ck.bef_inv (a := y) (b := (lo + hi) / 2 + 2) (by omega); omega
        rw [decide_eq_true hp] at hl
        have HL := Lib.hid hl; clear hl hp
        go_wp2_with (go_at_call 147; refine (HL.out _ (by assumption)).mono ?_; rintro e w1 ⟨rfl, hb1⟩)
        go_roundw
        case rel => exact ⟨lo, (lo + hi) / 2, by omega, by omega, by omega, by omega, rfl, by go_num, gr_auto, Gr.at hb1 hcc⟩
        case measure => simp [intOf]; omega
      · have hy : (lo + hi) / 2 + 2 ≤ y := by have := Ck.bef_inv (a := (lo + hi) / 2 + 2) (b := y + 1) (by omega); omega
        rw [decide_eq_false hp] at hl
        have HL := Lib.hid hl; clear hl hp
        go_wp2_with (go_at_call 147; refine (HL.out _ (by assumption)).mono ?_; rintro e w1 ⟨rfl, hb1⟩)
        go_roundw
        case rel => exact ⟨(lo + hi) / 2 + 1, hi, by omega, by omega, by omega, by omega, by go_num, rfl, gr_auto, Gr.at hb1 hcc⟩
        case measure => simp [intOf]; omega
    · obtain rfl : lo = y - 1 := by omega
      go_wp2
      go_ret
      exact ⟨rfl, gr_auto⟩
end Go.Proofs.YtllkiadedaghoaaGreatDoor
