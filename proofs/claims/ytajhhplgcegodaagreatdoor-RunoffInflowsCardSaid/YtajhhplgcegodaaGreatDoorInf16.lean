/-
  Runoff: hydrograph.within and Valid; slices.Clone of ints and of classes. (Printed by mkg.py.)
-/
import Derived.Test.YtajhhplgcegodaaGreatDoorInf15
import Derived.Test.YtajhhplgcegodaaGreatDoorInf02
import Derived.ChangeAlike
set_option linter.unusedVariables false
set_option linter.unusedSimpArgs false
namespace Go.Proofs.YtajhhplgcegodaaGreatDoor
open Go.RowKit
attribute [local go_sem ↓] Go.wp_at_zero Go.wp_at_succ
namespace Ba
/-- All numbers are from 0 to m. -/
def wiB (s : SlI) (m : Int) : Bool := allB (fun i => bet (s.X i) 0 m) s.n
/-- Is a unit hydrograph valid? -/
def uniB (s : SlI) : Bool := decide ((1 : Int) ≤ (s.n : Int)) && (decide ((s.n : Int) ≤ 1000) && (wiB s 1073741824 && (s.X (s.n - 1) != 0)))
theorem bet_not0 (x m : Int) : (!bet x 0 m) = (decide (x < 0) || decide (m < x)) := by
  unfold bet
  rw [Bool.eq_iff_iff]
  simp only [Bool.not_eq_true', Bool.and_eq_false_iff, decide_eq_false_iff_not, Bool.or_eq_true, decide_eq_true_eq]
  omega
end Ba
set_option maxRecDepth 100000 in
set_option maxHeartbeats 4000000 in
theorem hwithinf_any (x m : Int) (B : Nat) (w : World) (hc : w.cell? ⟨B, 0, none⟩ = some (.int .i64 m)) : Calls Tryz.prog 175 #[.int .i64 x, .pointer (some ⟨B, 0, none⟩)] w fun e w' => e = .returned (.bool (!Ba.bet x 0 m)) ∧ Gr w w' := by
  rw [Ba.bet_not0]
  cases t0 : decide (x < 0)
  · cases t1 : decide (m < x)
    all_goals
      go_enter Tryz.func175, Tryz.ntmps175
      go_wp2_with fail
      go_ret
      exact ⟨rfl, Gr.refl _⟩
  · go_enter Tryz.func175, Tryz.ntmps175
    go_wp2_with fail
    go_ret
    exact ⟨rfl, Gr.refl _⟩
set_option maxRecDepth 100000 in
set_option maxHeartbeats 4000000 in
theorem hwithin_any (s : Ba.SlI) (m : Int) (w : World) (h : s.At w) : Calls Tryz.prog 150 #[.slice s.A s.n s.c, .int .i64 m] w fun e w' => e = .returned (.bool (Ba.wiB s m)) ∧ Gr w w' := by
  have HI := Lib.hid (fun (B : Nat) (W : World) (hg : Gr w W) (hc : W.cell? ⟨B, 0, none⟩ = some (.int .i64 m)) => has_int 175 #[.pointer (some ⟨B, 0, none⟩)] s (fun i => !Ba.bet (s.X i) 0 m) W (h.gr hg) (enter_of Tryz.func175 (by kernel_rfl) (by kernel_rfl)) fun i hi W' hW => hwithinf_any (s.X i) m B W' (Gr.at hW hc))
  unfold Ba.wiB
  rw [← Ba.any_not]
  clear h
  generalize Ba.any (fun i => !Ba.bet (s.X i) 0 m) s.n = q at *
  generalize s.A = A at *
  generalize s.n = n at *
  generalize s.c = c at *
  go_enter Tryz.func150, Tryz.ntmps150
  go_wp2_with fail
  refine (HI.out _ _ gr_auto (by simp [go_sem])).mono ?_
  rintro e w1 ⟨rfl, hb1⟩
  go_wp2
  go_ret
  exact ⟨rfl, gr_auto⟩
set_option maxRecDepth 100000 in
set_option maxHeartbeats 4000000 in
theorem hvalid_any (s : Ba.SlI) (w : World) (h : s.At w) : Calls Tryz.prog 94 #[.slice s.A s.n s.c] w fun e w' => e = .returned (.bool (Ba.uniB s)) ∧ Gr w w' := by
  have HC := Lib.hid (fun W (hh : Gr w W) => hwithin_any s 1073741824 W (h.gr hh))
  have hm := Nat.le_trans h.hc h.hb
  have HA := Lib.hid h.hA; have HX := Lib.hid h.hX
  clear h
  unfold Ba.uniB
  generalize Ba.wiB s 1073741824 = q at *
  obtain ⟨A, n, c, b, o, X⟩ := s
  simp only at *
  cases t0 : decide ((1 : Int) ≤ (n : Int))
  · clear HC HX
    go_enter Tryz.func94, Tryz.ntmps94
    go_wp2_with fail
    go_ret
    exact ⟨rfl, gr_auto⟩
  cases t1 : decide ((n : Int) ≤ 1000)
  · clear HC HX
    go_enter Tryz.func94, Tryz.ntmps94
    go_wp2_with fail
    go_ret
    exact ⟨rfl, gr_auto⟩
  have n1 : 1 ≤ n := by simp only [decide_eq_true_eq] at t0; omega
  obtain rfl := HA.out (by omega)
  have a0 := (HX.out (n - 1) (by omega)).1
  have e1 : ((n - 1 : Nat) : Int) = (n : Int) - 1 := by omega
  have ib0 : (0 : Int) ≤ (n : Int) - 1 := by omega
  have ib1 : (n : Int) - 1 < (n : Int) := by omega
  have ib2 : ((n : Int) - 1).toNat = n - 1 := by omega
  clear HX HA
  generalize X (n - 1) = x at *
  cases q
  · go_enter Tryz.func94, Tryz.ntmps94
    go_wp2_with fail
    refine (HC.out _ gr_auto).mono ?_
    rintro e w1 ⟨rfl, hb1⟩
    go_wp2_with fail
    go_ret
    exact ⟨rfl, gr_auto⟩
  · cases t3 : (x != 0)
    · go_enter Tryz.func94, Tryz.ntmps94
      go_wp2_with fail
      refine (HC.out _ gr_auto).mono ?_
      rintro e w1 ⟨rfl, hb1⟩
      replace a0 := Gr.at hb1 a0
      go_wp2_with fail
      go_ret
      exact ⟨rfl, gr_auto⟩
    · go_enter Tryz.func94, Tryz.ntmps94
      go_wp2_with fail
      refine (HC.out _ gr_auto).mono ?_
      rintro e w1 ⟨rfl, hb1⟩
      replace a0 := Gr.at hb1 a0
      go_wp2_with fail
      go_ret
      exact ⟨rfl, gr_auto⟩
end Go.Proofs.YtajhhplgcegodaaGreatDoor
