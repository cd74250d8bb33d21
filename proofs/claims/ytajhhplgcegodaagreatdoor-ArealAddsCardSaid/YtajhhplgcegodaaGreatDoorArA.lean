/-
  Records: gauge.Valid and the reference's; slices.Equal and Clone of ints; own rows. (Printed by mka.py.)
-/
import Derived.Test.YtajhhplgcegodaaGreatDoorRoPlain
import Derived.Test.YtajhhplgcegodaaGreatDoorZc
import Derived.Deep.DrawnRows
import Derived.Deep.AppendLies
set_option linter.unusedVariables false
set_option linter.unusedSimpArgs false
namespace Go.Proofs.YtajhhplgcegodaaGreatDoor
open Go.RowKit
attribute [local go_sem ↓] Go.wp_at_zero Go.wp_at_succ
set_option maxRecDepth 100000 in
set_option maxHeartbeats 4000000 in
theorem instant_any (x : Int) (w : World) : Calls Tryz.prog 124 #[.int .i64 x] w fun e w' => e = .returned (.bool (Ba.bet x (-68719476736) 68719476736)) ∧ w = w' := by
  unfold Ba.bet
  cases t0 : decide (-68719476736 ≤ x)
  · go_enter Tryz.func124, Tryz.ntmps124
    go_wp2_with fail
    go_ret
    exact ⟨rfl, rfl⟩
  · cases t1 : decide (x ≤ 68719476736)
    · go_enter Tryz.func124, Tryz.ntmps124
      go_wp2_with fail
      go_ret
      exact ⟨rfl, rfl⟩
    · go_enter Tryz.func124, Tryz.ntmps124
      go_wp2_with fail
      go_ret
      exact ⟨rfl, rfl⟩
set_option maxRecDepth 100000 in
set_option maxHeartbeats 4000000 in
theorem rinstant_any (x : Int) (w : World) : Calls Tryz.prog 111 #[.int .i64 x] w fun e w' => e = .returned (.bool (Ba.bet x (-68719476736) 68719476736)) ∧ w = w' := by
  unfold Ba.bet
  cases t0 : decide (-68719476736 ≤ x)
  · go_enter Tryz.func111, Tryz.ntmps111
    go_wp2_with fail
    go_ret
    exact ⟨rfl, rfl⟩
  · cases t1 : decide (x ≤ 68719476736)
    · go_enter Tryz.func111, Tryz.ntmps111
      go_wp2_with fail
      go_ret
      exact ⟨rfl, rfl⟩
    · go_enter Tryz.func111, Tryz.ntmps111
      go_wp2_with fail
      go_ret
      exact ⟨rfl, rfl⟩
set_option maxRecDepth 100000 in
set_option maxHeartbeats 4000000 in
theorem rlength_any (x : Int) (w : World) : Calls Tryz.prog 112 #[.int .i64 x] w fun e w' => e = .returned (.bool (Ba.bet x 1 86400)) ∧ w = w' := by
  unfold Ba.bet
  cases t0 : decide (1 ≤ x)
  · go_enter Tryz.func112, Tryz.ntmps112
    go_wp2_with fail
    go_ret
    exact ⟨rfl, rfl⟩
  · cases t1 : decide (x ≤ 86400)
    · go_enter Tryz.func112, Tryz.ntmps112
      go_wp2_with fail
      go_ret
      exact ⟨rfl, rfl⟩
    · go_enter Tryz.func112, Tryz.ntmps112
      go_wp2_with fail
      go_ret
      exact ⟨rfl, rfl⟩
set_option maxRecDepth 100000 in
set_option maxHeartbeats 4000000 in
theorem gvf_any (x : Int) (w : World) : Calls Tryz.prog 125 #[.int .i64 x] w fun e w' => e = .returned (.bool (!Ba.bet x (-1) 4194304)) ∧ w = w' := by
  have e : (!Ba.bet x (-1) 4194304) = (decide (x < -1) || decide (4194304 < x)) := by
    unfold Ba.bet
    by_cases h : x < -1
    · rw [decide_eq_true h, decide_eq_false (by omega : ¬ -1 ≤ x)]; simp
    · rw [decide_eq_false h, decide_eq_true (by omega : -1 ≤ x)]
      by_cases h2 : 4194304 < x
      · rw [decide_eq_true h2, decide_eq_false (by omega : ¬ x ≤ 4194304)]; rfl
      · rw [decide_eq_false h2, decide_eq_true (by omega : x ≤ 4194304)]; rfl
  rw [e]
  clear e
  cases t0 : decide (x < -1)
  · cases t1 : decide (4194304 < x)
    · go_enter Tryz.func125, Tryz.ntmps125
      go_wp2_with fail
      go_ret
      exact ⟨rfl, rfl⟩
    · go_enter Tryz.func125, Tryz.ntmps125
      go_wp2_with fail
      go_ret
      exact ⟨rfl, rfl⟩
  · go_enter Tryz.func125, Tryz.ntmps125
    go_wp2_with fail
    go_ret
    exact ⟨rfl, rfl⟩
theorem gr_of {f : FuncId} {args : Array Value} {w : World} {v : Value} {P : Program} (h : Calls P f args w fun e w' => e = .returned v ∧ w = w') : Calls P f args w fun e w' => e = .returned v ∧ Gr w w' := h.mono fun _ _ ⟨a, b⟩ => ⟨a, b ▸ Gr.refl _⟩
namespace Ba
def dep (x : Int) : Bool := bet x (-1) 4194304
def serB (s : Ser) : Bool := bet s.fr (-68719476736) 68719476736 && (bet s.st 1 86400 && (decide (s.ds.n ≤ 10000) && (bet (s.fr + s.st * s.ds.n) (-68719476736) 68719476736 && allB (fun i => dep (s.ds.X i)) s.ds.n)))
end Ba
set_option maxRecDepth 100000 in
set_option maxHeartbeats 4000000 in
theorem gvalid_any (s : Ba.Ser) (w : World) (h : s.Ok w) : Calls Tryz.prog 72 #[s.val] w fun e w' => e = .returned (.bool (Ba.serB s)) ∧ Gr w w' := by
  have HC := Lib.hid (fun W (hh : Gr w W) => has_int 125 #[] s.ds (fun i => !Ba.dep (s.ds.X i)) W (h.2.2.gr hh) (enter_of Tryz.func125 (by kernel_rfl) (by kernel_rfl)) fun i _ W' _ => gr_of (gvf_any (s.ds.X i) W'))
  have e : Ba.any (fun i => !Ba.dep (s.ds.X i)) s.ds.n = !Ba.allB (fun i => Ba.dep (s.ds.X i)) s.ds.n := by rw [← Ba.any_not, Bool.not_not]
  rw [e] at HC
  obtain ⟨b1, b2, b3⟩ := h
  have hm := Nat.le_trans b3.hc b3.hb
  clear b3 e
  unfold Ba.serB Ba.Ser.val
  generalize Ba.allB (fun i => Ba.dep (s.ds.X i)) s.ds.n = q at *
  obtain ⟨fr, st, ⟨A, n, c, b, o, X⟩⟩ := s
  simp only at *
  unfold Ba.i64 at b1 b2
  cases c0 : Ba.bet fr (-68719476736) 68719476736
  · have HI := Lib.hid (fun W => instant_any fr W)
    rw [c0] at HI
    go_enter Tryz.func72, Tryz.ntmps72
    go_wp2_with fail
    refine (HI.out _).mono ?_
    rintro e w1 ⟨rfl, rfl⟩
    go_wp2_with fail
    go_ret
    exact ⟨rfl, gr_auto⟩
  have HI := Lib.hid (fun W => instant_any fr W)
  rw [c0] at HI
  rw [Ba.bet_iff] at c0
  unfold Ba.bet
  rw [Bool.true_and]
  by_cases u0 : st < 1
  · have t0 : decide (st < 1) = true := decide_eq_true u0
    rw [decide_eq_false (by omega : ¬ 1 ≤ st)]
    clear u0
    go_enter Tryz.func72, Tryz.ntmps72
    go_wp2_with fail
    refine (HI.out _).mono ?_
    rintro e w1 ⟨rfl, rfl⟩
    go_wp2_with fail
    go_ret
    exact ⟨rfl, gr_auto⟩
  have t0 : decide (st < 1) = false := decide_eq_false u0
  rw [decide_eq_true (by omega : 1 ≤ st)]
  by_cases u1 : 86400 < st
  · have t1 : decide (86400 < st) = true := decide_eq_true u1
    rw [decide_eq_false (by omega : ¬ st ≤ 86400)]
    go_enter Tryz.func72, Tryz.ntmps72
    go_wp2_with fail
    refine (HI.out _).mono ?_
    rintro e w1 ⟨rfl, rfl⟩
    go_wp2_with fail
    go_ret
    exact ⟨rfl, gr_auto⟩
  have t1 : decide (86400 < st) = false := decide_eq_false u1
  rw [decide_eq_true (by omega : st ≤ 86400)]
  by_cases u2 : 10000 < n
  · have t2 : decide ((10000 : Int) < (n : Int)) = true := decide_eq_true (by omega)
    rw [decide_eq_false (by omega : ¬ n ≤ 10000)]
    go_enter Tryz.func72, Tryz.ntmps72
    go_wp2_with fail
    refine (HI.out _).mono ?_
    rintro e w1 ⟨rfl, rfl⟩
    go_wp2_with fail
    go_ret
    exact ⟨rfl, gr_auto⟩
  have t2 : decide ((10000 : Int) < (n : Int)) = false := decide_eq_false (by omega)
  rw [decide_eq_true (by omega : n ≤ 10000), Bool.true_and, Bool.true_and, Bool.true_and]
  have hp : 0 ≤ st * (n : Int) ∧ st * (n : Int) ≤ 864000000 := by
    refine ⟨Int.mul_nonneg (by omega) (by omega), ?_⟩
    calc st * (n : Int) ≤ 86400 * 10000 := Int.mul_le_mul (by omega) (by omega) (by omega) (by omega)
      _ = 864000000 := by decide
  have HJ := Lib.hid (fun W => instant_any (fr + st * (n : Int)) W)
  unfold Ba.bet at HJ
  generalize hz : st * (n : Int) = z at *
  have hz1 : fr + z ≤ 9223372036854775807 := by omega
  have hz2 : -9223372036854775808 ≤ fr + z := by omega
  generalize (decide (-68719476736 ≤ fr + z) && decide (fr + z ≤ 68719476736)) = q2 at *
  cases q2
  · go_enter Tryz.func72, Tryz.ntmps72
    go_wp2_with fail
    refine (HI.out _).mono ?_
    rintro e w1 ⟨rfl, rfl⟩
    go_wp2_with fail
    refine (HJ.out _).mono ?_
    rintro e w1 ⟨rfl, rfl⟩
    go_wp2_with fail
    go_ret
    exact ⟨rfl, gr_auto⟩
  · go_enter Tryz.func72, Tryz.ntmps72
    go_wp2_with fail
    refine (HI.out _).mono ?_
    rintro e w1 ⟨rfl, rfl⟩
    go_wp2_with fail
    refine (HJ.out _).mono ?_
    rintro e w1 ⟨rfl, rfl⟩
    go_wp2_with fail
    refine (HC.out _ gr_auto).mono ?_
    rintro e w3 ⟨rfl, hb3⟩
    go_wp2_with fail
    go_ret
    exact ⟨by cases q <;> rfl, gr_auto⟩
namespace Ba
theorem bet_no {x l h : Int} (e : ¬ bet x l h = true) : x < l ∨ h < x := by
  rw [bet_iff] at e; omega
end Ba
set_option maxRecDepth 100000 in
set_option maxHeartbeats 4000000 in
theorem rser_any (s : Ba.Ser) (w : World) (h : s.Ok w) : Calls Tryz.prog 59 #[s.val] w fun e w' => e = .returned (.bool (Ba.serB s)) ∧ Gr w w' := by
  obtain ⟨b1, b2, b3⟩ := h
  have hm := Nat.le_trans b3.hc b3.hb
  have HA := Lib.hid b3.hA; have HX := Lib.hid b3.hX
  clear b3
  unfold Ba.serB Ba.Ser.val Ba.dep
  obtain ⟨fr, st, ⟨A, n, c, b, o, X⟩⟩ := s
  simp only at *
  unfold Ba.i64 at b1 b2
  have HI := Lib.hid (fun W => rinstant_any fr W); have HL := Lib.hid (fun W => rlength_any st W)
  cases c0 : Ba.bet fr (-68719476736) 68719476736
  · rw [c0] at HI
    clear HX HA HL
    go_enter Tryz.func59, Tryz.ntmps59
    go_wp2_with fail
    refine (HI.out _).mono ?_
    rintro e w1 ⟨rfl, rfl⟩
    go_wp2_with fail
    go_ret
    exact ⟨rfl, gr_auto⟩
  rw [c0] at HI
  rw [Bool.true_and]
  cases c1 : Ba.bet st 1 86400
  · rw [c1] at HL
    clear HX HA
    go_enter Tryz.func59, Tryz.ntmps59
    go_wp2_with fail
    refine (HI.out _).mono ?_
    rintro e w1 ⟨rfl, rfl⟩
    go_wp2_with fail
    refine (HL.out _).mono ?_
    rintro e w1 ⟨rfl, rfl⟩
    go_wp2_with fail
    go_ret
    exact ⟨rfl, gr_auto⟩
  rw [c1] at HL
  rw [Bool.true_and]
  rw [Ba.bet_iff] at c0 c1
  by_cases hn : 10000 < n
  · rw [decide_eq_false (by omega), Bool.false_and]
    have t0 : (10000 : Int) < (n : Int) := by omega
    clear HX HA hn
    go_enter Tryz.func59, Tryz.ntmps59
    go_wp2_with fail
    refine (HI.out _).mono ?_
    rintro e w1 ⟨rfl, rfl⟩
    go_wp2_with fail
    refine (HL.out _).mono ?_
    rintro e w1 ⟨rfl, rfl⟩
    go_wp2_with fail
    go_ret
    exact ⟨rfl, gr_auto⟩
  rw [decide_eq_true (by omega), Bool.true_and]
  have t0 : (n : Int) ≤ 10000 := by omega
  clear hn
  have p0 : 0 ≤ st * (n : Int) := Int.mul_nonneg (by omega) (by omega)
  have p1 : st * (n : Int) ≤ 86400 * 10000 := Int.mul_le_mul c1.2 t0 (by omega) (by omega)
  have HJ := Lib.hid (fun W => rinstant_any (fr + st * (n : Int)) W)
  generalize hp : st * (n : Int) = pr at *
  cases c3 : Ba.bet (fr + pr) (-68719476736) 68719476736
  · rw [c3] at HJ
    clear HX HA
    go_enter Tryz.func59, Tryz.ntmps59
    go_wp2_with fail
    refine (HI.out _).mono ?_
    rintro e w1 ⟨rfl, rfl⟩
    go_wp2_with fail
    refine (HL.out _).mono ?_
    rintro e w1 ⟨rfl, rfl⟩
    go_wp2_with fail
    refine (HJ.out _).mono ?_
    rintro e w1 ⟨rfl, rfl⟩
    go_wp2_with fail
    go_ret
    exact ⟨rfl, gr_auto⟩
  rw [c3] at HJ
  rw [Bool.true_and]
  clear c3
  go_enter Tryz.func59, Tryz.ntmps59
  go_wp2_with fail
  refine (HI.out _).mono ?_
  rintro e w1 ⟨rfl, rfl⟩
  go_wp2_with fail
  refine (HL.out _).mono ?_
  rintro e w1 ⟨rfl, rfl⟩
  go_wp2_with fail
  refine (HJ.out _).mono ?_
  rintro e w1 ⟨rfl, rfl⟩
  go_wp2_with fail
  (first | refine name_world ?_ | refine (show (∀ W, W = _ → Calls _ _ _ W _) → Calls _ _ _ _ _ from fun h => h _ rfl) ?_); intro W1 hW1
  have g1 : Gr w W1 := by rw [hW1]; exact gr_auto
  have k1_0 : W1.cell? ⟨w.heap.size, 0, none⟩ = some (.int .i64 fr) := by rw [hW1]; first | (simp [go_sem, *]; done) | (refine Gr.at ?_ (by assumption); exact gr_auto)
  have b1_0 : w.heap.size < W1.heap.size := World.block_lt_of_cell? _ _ k1_0
  have k1_1 : W1.cell? ⟨w.heap.size, 1, none⟩ = some (.int .i64 st) := by rw [hW1]; first | (simp [go_sem, *]; done) | (refine Gr.at ?_ (by assumption); exact gr_auto)
  have k1_2 : W1.cell? ⟨w.heap.size, 2, none⟩ = some (.slice A n c) := by rw [hW1]; first | (simp [go_sem, *]; done) | (refine Gr.at ?_ (by assumption); exact gr_auto)
  clear hW1
  clear k1_0 k1_1 HI HL HJ
  go_loopw [3] (fun x wr => ∃ i : Nat, i ≤ n ∧ x = .int .i64 (i : Int) ∧ Hid (Ba.allB (fun i => Ba.bet (X i) (-1) 4194304) i = true) ∧ Gr W1 wr) (fun x _ => n - (intOf x).toNat)
  case atStart => exact ⟨0, Nat.zero_le _, rfl, Lib.hid rfl, Gr.refl _⟩
  case round =>
    obtain ⟨i, hi, rfl, HQ, hg⟩ := hrel
    have c2 := Gr.at hg k1_2
    by_cases hlt : i < n
    · obtain rfl := HA.out (by omega)
      have a0 := Gr.at (g1.trans hg) ((HX.out i hlt).1)
      have a1 := (HX.out i hlt).2
      unfold Ba.i64 at a1
      have ib0 : (0 : Int) ≤ (i : Int) := by omega
      have ib1 : (i : Int) < (n : Int) := by omega
      by_cases hp : Ba.bet (X i) (-1) 4194304 = true
      · have HQ2 := Lib.hid (Ba.allB_go HQ.out hp)
        have p := (Ba.bet_iff _ _ _).1 hp
        clear HX HA HQ hp
        generalize X i = x at *
        go_wp2_with fail
        go_roundw
        case rel => exact ⟨i + 1, by omega, by go_num, HQ2, hg⟩
        case measure => simp [intOf]; omega
      · have HN := Lib.hid (Ba.allB_stop (p := (fun i => Ba.bet (X i) (-1) 4194304)) hlt (by simpa using hp))
        have p := Ba.bet_no hp
        clear HX HA HQ hp
        generalize X i = x at *
        rcases p with p | p
        all_goals
          go_wp2_with fail
          go_ret
          exact ⟨ret_bool HN.out.symm, g1.trans hg⟩
    · obtain rfl : n = i := by omega
      clear HX HA
      go_wp2_with fail
      go_ret
      exact ⟨ret_bool HQ.out.symm, g1.trans hg⟩
namespace Ba
/-- Are the numbers the same? -/
def eqI (a b : SlI) : Bool := decide (a.n = b.n) && allB (fun i => a.X i == b.X i) a.n
end Ba
set_option maxRecDepth 100000 in
set_option maxHeartbeats 4000000 in
theorem equal_any (a b : Ba.SlI) (w : World) (ha : a.At w) (hb : b.At w) : Calls Tryz.prog 11 #[.slice a.A a.n a.c, .slice b.A b.n b.c] w fun e w' => e = .returned (.bool (Ba.eqI a b)) ∧ Gr w w' := by
  have m1 := Nat.le_trans ha.hc ha.hb; have m2 := Nat.le_trans hb.hc hb.hb
  have HA := Lib.hid ha.hA; have HX := Lib.hid ha.hX; have KA := Lib.hid hb.hA; have KX := Lib.hid hb.hX
  clear ha hb
  unfold Ba.eqI
  obtain ⟨A, n, c, b1, o1, X⟩ := a
  obtain ⟨A2, n2, c2, b2, o2, Y⟩ := b
  simp only at *
  by_cases hn : n = n2
  rotate_left
  · rw [decide_eq_false hn]
    have t0 : ((n : Int) != (n2 : Int)) = true := by rw [bne_iff_ne]; omega
    clear hn
    go_enter Tryz.func11, Tryz.ntmps11
    go_wp2_with fail
    go_ret
    exact ⟨rfl, gr_auto⟩
  subst hn
  rw [decide_eq_true rfl, Bool.true_and]
  go_enter Tryz.func11, Tryz.ntmps11
  go_wp2_with fail
  go_loopw [13] (fun x wr => ∃ i : Nat, i ≤ n ∧ x = .int .i64 (i : Int) ∧ Hid (Ba.allB (fun i => X i == Y i) i = true) ∧ Gr w wr) (fun x _ => n - (intOf x).toNat)
  case atStart => exact ⟨0, Nat.zero_le _, rfl, Lib.hid rfl, Gr.refl _⟩
  case round =>
    obtain ⟨i, hi, rfl, HQ, hg⟩ := hrel
    by_cases hlt : i < n
    · obtain rfl := HA.out (by omega); obtain rfl := KA.out (by omega)
      have a0 := Gr.at hg (HX.out i hlt).1; have a1 := Gr.at hg (KX.out i hlt).1
      have ib0 : (0 : Int) ≤ (i : Int) := by omega
      have ib1 : (i : Int) < (n : Int) := by omega
      cases hq : (X i == Y i)
      · have HZ := Lib.hid (Ba.allB_stop (p := fun i => X i == Y i) hlt hq)
        have hq2 : (X i != Y i) = true := by simp only [bne, hq, Bool.not_false]
        clear HX KX HQ
        generalize X i = x at *
        generalize Y i = y at *
        go_wp2_with fail
        go_quiet (fail)
        go_wp2_with fail
        go_ret
        exact ⟨by rw [HZ.out]; rfl, gr_auto⟩
      · have HZ := Lib.hid (Ba.allB_go (p := fun i => X i == Y i) HQ.out hq)
        have hq2 : (X i != Y i) = false := by simp only [bne, hq, Bool.not_true]
        clear HX KX HQ
        generalize X i = x at *
        generalize Y i = y at *
        go_wp2_with fail
        go_quiet (fail)
        go_wp2_with fail
        go_roundw
        case rel => exact ⟨i + 1, by omega, by go_num, HZ, gr_auto⟩
        case measure => simp [intOf]; omega
    · obtain rfl : n = i := by omega
      have HR := Lib.hid HQ.out
      clear HX KX HQ
      go_wp2_with fail
      go_ret
      exact ⟨by rw [HR.out]; rfl, hg⟩
namespace Ba
theorem eqI_of {a b : SlI} (h : a.n = b.n) (hx : ∀ i, i < a.n → a.X i = b.X i) : eqI a b = true := by
  unfold eqI
  rw [decide_eq_true h, Bool.true_and, allB_iff]
  intro k hk
  simp only [beq_iff_eq]
  exact hx k hk
end Ba
end Go.Proofs.YtajhhplgcegodaaGreatDoor
