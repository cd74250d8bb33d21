/-
  Valid tables: table.Valid and the reference's answer alike. (Printed by mktable.py.)
  The small tests of numbers: between, level, and the reference's position, level, within. (Printed by mksmall.py.)
  table.Valid. (Printed by mktable.py.)
-/
import Derived.Test.YtllkiadedaghoaaGreatDoorOr19
import Derived.KernelRfl
set_option linter.unusedVariables false
set_option linter.unusedSimpArgs false
namespace Go.Proofs.YtllkiadedaghoaaGreatDoor
open Go.RowKit
namespace Ba
def kfit (x : Int) : Bool := decide (-1125899906842624 ≤ x) && decide (x ≤ 1125899906842624)
/-- Knot k is right. -/
def kn (X Y : Nat → Int) : Nat → Bool
  | 0 => kfit (X 0) && kfit (Y 0)
  | k + 1 => kfit (X (k + 1)) && kfit (Y (k + 1)) && (decide (X k < X (k + 1)) && decide (Y k ≤ Y (k + 1)))
/-- The first n knots are right. -/
def kns (X Y : Nat → Int) : Nat → Bool
  | 0 => true
  | k + 1 => kns X Y k && kn X Y k
theorem kns_no {X Y : Nat → Int} {k : Nat} (h : kn X Y k = false) : ∀ j, kns X Y (k + 1 + j) = false
  | 0 => by rw [Nat.add_zero, kns, h, Bool.and_false]
  | j + 1 => by rw [show k + 1 + (j + 1) = k + 1 + j + 1 by omega, kns, kns_no h j, Bool.false_and]
theorem kns_stop {X Y : Nat → Int} {k n : Nat} (hk : k < n) (h : kn X Y k = false) : kns X Y n = false := by
  rw [show n = k + 1 + (n - (k + 1)) by omega]; exact kns_no h _
theorem kns_go {X Y : Nat → Int} {k : Nat} (h : kns X Y k = true) (hk : kn X Y k = true) : kns X Y (k + 1) = true := by rw [kns, h, hk]; rfl
theorem kns_at {X Y : Nat → Int} : ∀ {n k : Nat}, kns X Y n = true → k < n → kn X Y k = true
  | 0, _, _, h => by omega
  | n + 1, k, h, hk => by
    rw [kns, Bool.and_eq_true] at h
    by_cases e : k = n
    · subst e; exact h.2
    · exact kns_at h.1 (by omega)
/-- A table is valid. -/
def tblB (s : SlK) : Bool := decide (1 ≤ s.n) && decide (s.n ≤ 100) && kns s.X s.Y s.n
end Ba
set_option maxRecDepth 100000 in
theorem fits_any (x : Int) (w : World) : Calls Tryz.prog 169 #[.int .i64 x] w fun e w' => e = .returned (.bool (Ba.kfit x)) ∧ w = w' := by
  unfold Ba.kfit
  cases t0 : decide (-1125899906842624 ≤ x)
  · go_enter Tryz.func169, Tryz.ntmps169
    go_wp2
    go_ret
    exact ⟨rfl, rfl⟩
  · cases t1 : decide (x ≤ 1125899906842624)
    · go_enter Tryz.func169, Tryz.ntmps169
      go_wp2
      go_ret
      exact ⟨rfl, rfl⟩
    · go_enter Tryz.func169, Tryz.ntmps169
      go_wp2
      go_ret
      exact ⟨rfl, rfl⟩
end Go.Proofs.YtllkiadedaghoaaGreatDoor
set_option linter.unusedVariables false
set_option linter.unusedSimpArgs false
namespace Go.Proofs.YtllkiadedaghoaaGreatDoor
open Go.RowKit
/-- A function with a body is entered. -/
theorem enter_of {P : Program} {f : FuncId} {fn : Func} (hf : P.funcs[f]? = some fn) (hn : (fn.name == "runtime.NumGoroutine") = false) (hb : fn.body.isNone = false) (args : Array Value) (w : World) :
    (callFunc f args).run P w = .ok (.enter f args) w := by
  have h1 : fn.name ≠ "runtime.NumGoroutine" := by simpa using hn
  have h2 : fn.body ≠ none := fun h => by rw [h] at hb; exact absurd hb (by decide)
  simp [callFunc, hf, h1, h2]
namespace Ba
def bet (x l h : Int) : Bool := decide (l ≤ x) && decide (x ≤ h)
theorem bet_iff (x l h : Int) : bet x l h = true ↔ l ≤ x ∧ x ≤ h := by unfold bet; simp only [Bool.and_eq_true, decide_eq_true_eq]
theorem any_one (p : Nat → Bool) : any p 1 = p 0 := by unfold any; simp only [fst]; cases h : p 0 <;> simp [h]
theorem any_two (p : Nat → Bool) : any p 2 = (p 0 || p 1) := by unfold any; simp only [fst]; cases h : p 0 <;> cases h1 : p 1 <;> simp [h, h1]
end Ba
set_option maxRecDepth 100000 in
theorem between_any (x l h : Int) (w : World) : Calls Tryz.prog 127 #[.int .i64 x, .int .i64 l, .int .i64 h] w fun e w' => e = .returned (.bool (Ba.bet x l h)) ∧ w = w' := by
  unfold Ba.bet
  cases t0 : decide (l ≤ x)
  · go_enter Tryz.func127, Tryz.ntmps127
    go_wp2
    go_ret
    exact ⟨rfl, rfl⟩
  · cases t1 : decide (x ≤ h)
    · go_enter Tryz.func127, Tryz.ntmps127
      go_wp2
      go_ret
      exact ⟨rfl, rfl⟩
    · go_enter Tryz.func127, Tryz.ntmps127
      go_wp2
      go_ret
      exact ⟨rfl, rfl⟩
set_option maxRecDepth 100000 in
theorem levelc_any (x : Int) (w : World) : Calls Tryz.prog 167 #[.int .i64 x] w fun e w' => e = .returned (.bool (!Ba.bet x (-4194304) 4194304)) ∧ w = w' := by
  have hb := Ba.bet_iff x (-4194304) 4194304
  cases e : Ba.bet x (-4194304) 4194304
  · rw [e] at hb
    have hb' := fun h => Bool.false_ne_true (hb.2 h)
    rcases Bool.eq_false_or_eq_true (decide (x < -4194304)) with t0 | t0
    · clear hb hb' e
      go_enter Tryz.func167, Tryz.ntmps167
      go_wp2
      go_ret
      exact ⟨rfl, rfl⟩
    · have t1 : decide (4194304 < x) = true := decide_eq_true (by have := of_decide_eq_false t0; apply Decidable.byContradiction; intro h; exact hb' ⟨by omega, by omega⟩)
      clear hb hb' e
      go_enter Tryz.func167, Tryz.ntmps167
      go_wp2
      go_ret
      exact ⟨rfl, rfl⟩
  · have hc := hb.1 e
    have t0 : decide (x < -4194304) = false := decide_eq_false (by omega)
    have t1 : decide (4194304 < x) = false := decide_eq_false (by omega)
    clear hb e hc
    go_enter Tryz.func167, Tryz.ntmps167
    go_wp2
    go_ret
    exact ⟨rfl, rfl⟩
theorem level_any (s : Ba.SlI) (w : World) (h : s.At w) : Calls Tryz.prog 128 #[.slice s.A s.n s.c] w fun e w' => e = .returned (.bool (!Ba.any (fun i => !Ba.bet (s.X i) (-4194304) 4194304) s.n)) ∧ Gr w w' := by
  have HI := Lib.hid (has_int 167 #[] s (fun i => !Ba.bet (s.X i) (-4194304) 4194304) w h (enter_of Tryz.func167 (by kernel_rfl) (by kernel_rfl)) fun i hi W hW => (levelc_any (s.X i) W).mono fun e w' ⟨he, hw⟩ => ⟨he, hw ▸ Gr.refl _⟩)
  clear h
  generalize Ba.any (fun i => !Ba.bet (s.X i) (-4194304) 4194304) s.n = q at *
  generalize s.A = A at *
  generalize s.n = n at *
  generalize s.c = c at *
  go_enter Tryz.func128, Tryz.ntmps128
  go_wp2_with fail
  refine HI.out.mono ?_
  rintro e w1 ⟨rfl, hb1⟩
  go_wp2
  go_ret
  exact ⟨rfl, hb1⟩
end Go.Proofs.YtllkiadedaghoaaGreatDoor
set_option linter.unusedVariables false
set_option linter.unusedSimpArgs false
namespace Go.Proofs.YtllkiadedaghoaaGreatDoor
open Go.RowKit
set_option maxRecDepth 100000 in
set_option maxHeartbeats 4000000 in
theorem table_any (s : Ba.SlK) (w : World) (h : s.At w) : Calls Tryz.prog 134 #[.slice s.A s.n s.c] w fun e w' => e = .returned (.bool (Ba.tblB s)) ∧ Gr w w' := by
  have HA := Lib.hid h.hA; have HXY := Lib.hid h.hX
  have hn : s.n ≤ 9223372036854775807 := Nat.le_trans h.hc h.hb
  have hT := show Ba.tblB s = (decide (1 ≤ s.n) && decide (s.n ≤ 100) && Ba.kns s.X s.Y s.n) from rfl
  clear h
  generalize Ba.tblB s = r at *
  obtain ⟨A, n, c, b, o, X, Y⟩ := s
  simp only at *
  by_cases h1 : n < 1
  · rw [decide_eq_false (by omega : ¬ 1 ≤ n)] at hT
    have t0 : decide ((n : Int) < 1) = true := decide_eq_true (by omega)
    clear h1
    go_enter Tryz.func134, Tryz.ntmps134
    go_wp2_with fail
    go_ret
    exact ⟨ret_bool hT.symm, Gr.refl _⟩
  rw [decide_eq_true (by omega : 1 ≤ n), Bool.true_and] at hT
  by_cases h2 : 100 < n
  · rw [decide_eq_false (by omega : ¬ n ≤ 100)] at hT
    have t0 : decide ((n : Int) < 1) = false := decide_eq_false (by omega)
    have t1 : decide ((100 : Int) < (n : Int)) = true := decide_eq_true (by omega)
    clear h1 h2
    go_enter Tryz.func134, Tryz.ntmps134
    go_wp2_with fail
    go_ret
    exact ⟨ret_bool hT.symm, Gr.refl _⟩
  rw [decide_eq_true (by omega : n ≤ 100), Bool.true_and] at hT
  have HT := Lib.hid hT
  clear hT
  go_enter Tryz.func134, Tryz.ntmps134
  go_wp2_with fail
  go_loopw [15] (fun q wr => ∃ i : Nat, i ≤ n ∧ q = .int .i64 (i : Int) ∧ Gr w wr ∧ Hid (Ba.kns X Y i = true)) (fun q _ => n - (intOf q).toNat)
  case atStart => exact ⟨0, Nat.zero_le _, rfl, Gr.refl _, Lib.hid rfl⟩
  case round =>
    obtain ⟨i, hi, rfl, hg, hf⟩ := hrel
    by_cases hlt : i < n
    · obtain rfl := HA.out (by omega)
      obtain ⟨⟨a0, a1⟩, x0, y0⟩ := HXY.out i hlt
      have a0 := Gr.at hg a0; have a1 := Gr.at hg a1
      have HX := Lib.hid (fits_any (X i)); have HY := Lib.hid (fits_any (Y i))
      cases hx : Ba.kfit (X i)
      · have HF : Hid (r = false) := Lib.hid (by rw [HT.out]; exact Ba.kns_stop hlt (by cases i <;> simp [Ba.kn, hx]))
        rw [hx] at HX
        clear hx hf HY
        go_wp2_with fail
        go_quiet (((go_at_call 169; first | exact quiet_eq (HX.out _) | exact quiet_eq (HY.out _) | exact quiet_add_left (HX.out _) | exact quiet_add_left (HY.out _))))
        go_wp2_with fail
        go_ret
        exact ⟨ret_bool HF.out.symm, gr_auto⟩
      cases hy : Ba.kfit (Y i)
      · have HF : Hid (r = false) := Lib.hid (by rw [HT.out]; exact Ba.kns_stop hlt (by cases i <;> simp [Ba.kn, hy]))
        rw [hx] at HX; rw [hy] at HY
        clear hx hy hf
        go_wp2_with fail
        go_quiet (((go_at_call 169; first | exact quiet_eq (HX.out _) | exact quiet_eq (HY.out _) | exact quiet_add_left (HX.out _) | exact quiet_add_left (HY.out _))))
        go_wp2_with fail
        go_ret
        exact ⟨ret_bool HF.out.symm, gr_auto⟩
      by_cases h0 : i = 0
      · have HF : Hid (Ba.kns X Y (i + 1) = true) := Lib.hid (Ba.kns_go hf.out (by subst h0; simp [Ba.kn, hx, hy]))
        rw [hx] at HX; rw [hy] at HY
        have f0 : decide ((0 : Int) < (i : Int)) = false := decide_eq_false (by omega)
        have f1 : decide (0 < i) = false := decide_eq_false (by omega)
        clear hx hy hf h0
        go_wp2_with fail
        go_quiet (((go_at_call 169; first | exact quiet_eq (HX.out _) | exact quiet_eq (HY.out _) | exact quiet_add_left (HX.out _) | exact quiet_add_left (HY.out _))))
        go_wp2_with fail
        go_roundw
        case rel => exact ⟨i + 1, by omega, by go_num, gr_auto, HF⟩
        case measure => simp [intOf]; omega
      obtain ⟨j, hj⟩ : ∃ j, i = j + 1 := ⟨i - 1, by omega⟩
      have HK := Lib.hid (show Ba.kn X Y i = (decide (X j < X i) && decide (Y j ≤ Y i)) by subst hj; simp [Ba.kn, hx, hy])
      obtain ⟨⟨b0, b1⟩, x1, y1⟩ := HXY.out j (by omega)
      have b0 := Gr.at hg b0; have b1 := Gr.at hg b1
      have hbw : b < wr.heap.size := World.block_lt_of_cell? _ _ b0
      have hbn : b ≠ wr.heap.size := by omega
      have c0 : (wr.alloc (Obj.cells #[.int .i64 (X i), .int .i64 (Y i)] 93)).cell? ⟨b, o + j * 2, none⟩ = some (.int .i64 (X j)) := Gr.at (Gr.alloc (Gr.refl _) _) b0
      have c1 : (wr.alloc (Obj.cells #[.int .i64 (X i), .int .i64 (Y i)] 93)).cell? ⟨b, o + j * 2 + 1, none⟩ = some (.int .i64 (Y j)) := Gr.at (Gr.alloc (Gr.refl _) _) b1
      have f0 : decide ((0 : Int) < (i : Int)) = true := decide_eq_true (by omega)
      have f1 : decide (0 < i) = true := decide_eq_true (by omega)
      have wv0 : IntKind.i64.wrap ((i : Int) - 1) = (j : Int) := by rw [show (i : Int) - 1 = (j : Int) by omega]; exact IntWalk.i64_in _ (by omega)
      have wb0 : (0 : Int) ≤ (j : Int) := by omega
      have wb1 : (j : Int) < (n : Int) := by omega
      have wb2 : (0 : Int) ≤ (i : Int) := by omega
      have wb3 : (i : Int) < (n : Int) := by omega
      clear h0 hj
      rcases Bool.eq_false_or_eq_true (decide (X i ≤ X j)) with hxx | hxx
      · have HF : Hid (r = false) := Lib.hid (by rw [HT.out]; refine Ba.kns_stop hlt ?_; rw [HK.out]; simp; intro h; have := of_decide_eq_true hxx; omega)
        rw [hx] at HX; rw [hy] at HY
        clear hx hy hf HK
        go_wp2_with fail
        go_quiet (((go_at_call 169; first | exact quiet_eq (HX.out _) | exact quiet_eq (HY.out _) | exact quiet_add_left (HX.out _) | exact quiet_add_left (HY.out _))))
        go_wp2_with fail
        go_ret
        exact ⟨ret_bool HF.out.symm, gr_auto⟩
      rcases Bool.eq_false_or_eq_true (decide (Y i < Y j)) with hyy | hyy
      · have HF : Hid (r = false) := Lib.hid (by rw [HT.out]; refine Ba.kns_stop hlt ?_; rw [HK.out]; simp; intro h; have := of_decide_eq_true hyy; omega)
        rw [hx] at HX; rw [hy] at HY
        clear hx hy hf HK
        go_wp2_with fail
        go_quiet (((go_at_call 169; first | exact quiet_eq (HX.out _) | exact quiet_eq (HY.out _) | exact quiet_add_left (HX.out _) | exact quiet_add_left (HY.out _))))
        go_wp2_with fail
        go_ret
        exact ⟨ret_bool HF.out.symm, gr_auto⟩
      have HF : Hid (Ba.kns X Y (i + 1) = true) := Lib.hid (Ba.kns_go hf.out (by rw [HK.out]; have := of_decide_eq_false hxx; have := of_decide_eq_false hyy; simp; omega))
      rw [hx] at HX; rw [hy] at HY
      clear hx hy hf HK
      go_wp2_with fail
      go_quiet (((go_at_call 169; first | exact quiet_eq (HX.out _) | exact quiet_eq (HY.out _) | exact quiet_add_left (HX.out _) | exact quiet_add_left (HY.out _))))
      go_wp2_with fail
      go_roundw
      case rel => exact ⟨i + 1, by omega, by go_num, gr_auto, HF⟩
      case measure => simp [intOf]; omega
    · obtain rfl : i = n := by omega
      have HF : Hid (r = true) := Lib.hid (by rw [HT.out]; exact hf.out)
      clear hf
      go_wp2_with fail
      go_ret
      exact ⟨ret_bool HF.out.symm, hg⟩
end Go.Proofs.YtllkiadedaghoaaGreatDoor
