import Derived.Test.YtlcbjkkcfenlmaaDoorGr
import Derived.Test.YtlcbjkkcfenlmaaDoorCkPlain
import Derived.Test.YtlcbjkkcfenlmaaDoorCkPlainB
set_option linter.unusedVariables false
set_option linter.unusedSimpArgs false
namespace Go.Proofs.YtlcbjkkcfenlmaaDoor
open Go.RowKit
theorem ret_bool {a b : Bool} (h : a = b) : Ending.returned (.bool a) = .returned (.bool b) := by rw [h]
theorem ret_two {k l : IntKind} {a b c d : Int} (h : a = b) (h' : c = d) : Ending.returned (.tuple #[.int k a, .int l c]) = .returned (.tuple #[.int k b, .int l d]) := by rw [h, h']
set_option maxHeartbeats 400000 in
theorem leap_any (y : Int) (w : World) (h0 : 0 ≤ y) (h1 : y ≤ 100000) :
    Calls Tryd.prog 53 #[.int .i64 y] w fun e w' => e = .returned (.bool (Ck.lpB y)) ∧ w = w' := by
  have hl : Ck.lpB y = (((y % 4 == 0) && (y % 100 != 0)) || (y % 400 == 0)) := rfl
  have HL := Lib.hid hl; clear hl
  cases a : (y % 4 == 0) <;> cases b : (y % 100 != 0) <;> cases c : (y % 400 == 0)
  all_goals
    go_enter Tryd.func53, Tryd.ntmps53
    go_wp2
    go_ret
    exact ⟨ret_bool (by rw [HL.out]; simp [a, b, c]), rfl⟩
set_option maxHeartbeats 400000 in
theorem rleap_any (y : Int) (w : World) (h0 : 0 ≤ y) (h1 : y ≤ 100000) :
    Calls Tryd.prog 54 #[.int .i64 y] w fun e w' => e = .returned (.bool (Ck.lpB y)) ∧ w = w' := by
  have hm : y % 400 = 0 → y % 4 = 0 := by omega
  have hl : Ck.lpB y = ((y % 4 == 0) && ((y % 100 != 0) || (y % 400 == 0))) := by
    unfold Ck.lpB
    cases a : (y % 4 == 0) <;> cases b : (y % 100 != 0) <;> cases c : (y % 400 == 0) <;> simp_all
  have HL := Lib.hid hl; clear hl hm
  cases a : (y % 4 == 0) <;> cases b : (y % 100 != 0) <;> cases c : (y % 400 == 0)
  all_goals
    go_enter Tryd.func54, Tryd.ntmps54
    go_wp2
    go_ret
    exact ⟨ret_bool (by rw [HL.out]; simp [a, b, c]), rfl⟩
theorem tab_lp {y : Int} (h : Ck.lpB y = true) : Ck.mlen y 2 = 29 := by unfold Ck.mlen Ck.lp; rw [h]; rfl
theorem tab_no {y m : Int} (h : m = 2 → Ck.lpB y = false) : Ck.mlen y m = Ck.tab m := by
  unfold Ck.mlen Ck.lp
  by_cases hm : m = 2
  · rw [if_pos hm, h hm]; subst hm; rfl
  · rw [if_neg hm]
theorem ret_int' {k : IntKind} {a b : Int} (h : a = b) : Ending.returned (.int k b) = .returned (.int k a) := by rw [h]
set_option maxHeartbeats 800000 in
theorem month_any (y m : Int) (w : World) (h0 : 0 ≤ y) (h1 : y ≤ 100000) (m1 : 1 ≤ m) (m2 : m ≤ 12) :
    Calls Tryd.prog 42 #[.int .i64 y, .int .i64 m] w fun e w' => e = .returned (.int .i64 (Ck.mlen y m)) ∧ Gr w w' := by
  have HL := Lib.hid (fun W => leap_any y W h0 h1)
  cases hb : Ck.lpB y
  · rw [tab_no (m := m) fun _ => hb]
    rw [hb] at HL
    rcases Ck.months m1 m2 with rfl | rfl | rfl | rfl | rfl | rfl | rfl | rfl | rfl | rfl | rfl | rfl
    all_goals
      clear hb h0 h1 m1 m2
      go_enter Tryd.func42, Tryd.ntmps42
      go_wp2_with (go_at_call 53; refine (HL.out _).mono ?_; rintro e w' ⟨rfl, rfl⟩)
      go_ret
      exact ⟨ret_int' rfl, (by repeat' (first | (with_reducible exact Gr.refl _) | (with_reducible assumption) | (with_reducible refine Gr.alloc ?_ _) | (with_reducible refine Gr.drew ?_) | (with_reducible refine Gr.drewN ?_ _) | (with_reducible refine Gr.setCell ?_ ?_ _) | (with_reducible refine Gr.trans ?_ (by with_reducible assumption)) | go_size))⟩
  · rw [hb] at HL
    by_cases hm : m = 2
    · subst hm
      rw [tab_lp hb]
      clear hb h0 h1 m1 m2
      go_enter Tryd.func42, Tryd.ntmps42
      go_wp2_with (go_at_call 53; refine (HL.out _).mono ?_; rintro e w' ⟨rfl, rfl⟩)
      go_ret
      exact ⟨rfl, (by repeat' (first | (with_reducible exact Gr.refl _) | (with_reducible assumption) | (with_reducible refine Gr.alloc ?_ _) | (with_reducible refine Gr.drew ?_) | (with_reducible refine Gr.drewN ?_ _) | (with_reducible refine Gr.setCell ?_ ?_ _) | (with_reducible refine Gr.trans ?_ (by with_reducible assumption)) | go_size))⟩
    · rw [tab_no fun h => absurd h hm]
      rcases Ck.months m1 m2 with rfl | rfl | rfl | rfl | rfl | rfl | rfl | rfl | rfl | rfl | rfl | rfl
      all_goals
        clear hb h0 h1 m1 m2
        first
        | (exact absurd rfl hm)
        | (clear hm
           go_enter Tryd.func42, Tryd.ntmps42
           go_wp2_with (go_at_call 53; refine (HL.out _).mono ?_; rintro e w' ⟨rfl, rfl⟩)
           go_ret
           exact ⟨ret_int' rfl, (by repeat' (first | (with_reducible exact Gr.refl _) | (with_reducible assumption) | (with_reducible refine Gr.alloc ?_ _) | (with_reducible refine Gr.drew ?_) | (with_reducible refine Gr.drewN ?_ _) | (with_reducible refine Gr.setCell ?_ ?_ _) | (with_reducible refine Gr.trans ?_ (by with_reducible assumption)) | go_size))⟩)
set_option maxHeartbeats 400000 in
theorem before_any (y : Int) (w : World) (h0 : 1 ≤ y) (h1 : y ≤ 10002) :
    Calls Tryd.prog 41 #[.int .i64 y] w fun e w' => e = .returned (.int .i64 (Ck.bef y)) ∧ w = w' := by
  go_enter Tryd.func41, Tryd.ntmps41
  go_wp2
  go_ret
  exact ⟨ret_int (by unfold Ck.bef; rfl), rfl⟩
set_option maxHeartbeats 400000 in
theorem instant_any (t : Int) (w : World) :
    Calls Tryd.prog 35 #[.int .i64 t] w fun e w' => e = .returned (.bool (Ck.inst t)) ∧ w = w' := by
  cases h : Ck.inst t
  · rcases Ck.inst_no h with k | k
    · have a : decide (-68719476736 ≤ t) = false := decide_eq_false (by omega)
      clear k h
      go_enter Tryd.func35, Tryd.ntmps35
      go_wp2
      go_ret
      exact ⟨rfl, rfl⟩
    · have a : decide (-68719476736 ≤ t) = true := decide_eq_true (by omega)
      have b : decide (t ≤ 68719476736) = false := decide_eq_false (by omega)
      clear k h
      go_enter Tryd.func35, Tryd.ntmps35
      go_wp2
      go_ret
      exact ⟨rfl, rfl⟩
  · obtain ⟨k, l⟩ := (Ck.inst_iff t).1 h
    have a : decide (-68719476736 ≤ t) = true := decide_eq_true (by omega)
    have b : decide (t ≤ 68719476736) = true := decide_eq_true (by omega)
    clear k l h
    go_enter Tryd.func35, Tryd.ntmps35
    go_wp2
    go_ret
    exact ⟨rfl, rfl⟩
set_option maxHeartbeats 400000 in
theorem length_any (t : Int) (w : World) :
    Calls Tryd.prog 36 #[.int .i64 t] w fun e w' => e = .returned (.bool (Ck.len t)) ∧ w = w' := by
  cases h : Ck.len t
  · rcases Ck.len_no h with k | k
    · have a : decide (1 ≤ t) = false := decide_eq_false (by omega)
      clear k h
      go_enter Tryd.func36, Tryd.ntmps36
      go_wp2
      go_ret
      exact ⟨rfl, rfl⟩
    · have a : decide (1 ≤ t) = true := decide_eq_true (by omega)
      have b : decide (t ≤ 86400) = false := decide_eq_false (by omega)
      clear k h
      go_enter Tryd.func36, Tryd.ntmps36
      go_wp2
      go_ret
      exact ⟨rfl, rfl⟩
  · obtain ⟨k, l⟩ := (Ck.len_iff t).1 h
    have a : decide (1 ≤ t) = true := decide_eq_true (by omega)
    have b : decide (t ≤ 86400) = true := decide_eq_true (by omega)
    clear k l h
    go_enter Tryd.func36, Tryd.ntmps36
    go_wp2
    go_ret
    exact ⟨rfl, rfl⟩
end Go.Proofs.YtlcbjkkcfenlmaaDoor
