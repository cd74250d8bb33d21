/-
  Capacities: storage.capacity and the reference's Capacity.
  storage.last, storage.capacity.
  slices.Equal on tables: a table with itself, a table with none; storage.within, storage.holds.
  storage.within, storage.holds.
-/
import Derived.Test.YtkgbbcmgfbipaaaGreatDoorSm09

set_option linter.unusedVariables false
set_option linter.unusedSimpArgs false
namespace Go.Proofs.YtkgbbcmgfbipaaaGreatDoor
open Go.RowKit
namespace Ba
/-- The capacity of a right node. -/
def capy (d : Node) : Int := if d.kd = 3 then 0 else d.sh.Y (d.sh.n - 1)
end Ba
end Go.Proofs.YtkgbbcmgfbipaaaGreatDoor
set_option linter.unusedVariables false
set_option linter.unusedSimpArgs false
namespace Go.Proofs.YtkgbbcmgfbipaaaGreatDoor
open Go.RowKit
set_option maxRecDepth 100000 in
theorem last_any (s : Ba.SlK) (w : World) (h : s.At w) (h1 : 1 ≤ s.n) : Calls Tryz.prog 100 #[.slice s.A s.n s.c] w fun e w' => e = .returned (.agg #[.int .i64 (s.X (s.n - 1)), .int .i64 (s.Y (s.n - 1))]) ∧ Gr w w' := by
  have hb : s.n ≤ 9223372036854775807 := Nat.le_trans h.hc h.hb
  have HA := Lib.hid h.hA; have HX := Lib.hid h.hX
  clear h
  obtain ⟨A, n, c, b, o, X, Y⟩ := s
  simp only at *
  obtain rfl := HA.out (by omega)
  obtain ⟨⟨b0, b1⟩, -, -⟩ := HX.out (n - 1) (by omega)
  obtain ⟨m, hm⟩ : ∃ m, n = m + 1 := ⟨n - 1, by omega⟩
  rw [show n - 1 = m by omega] at *
  have hbw : b < w.heap.size := World.block_lt_of_cell? _ _ b1
  have hbn : b ≠ w.heap.size := by omega
  have c0 := Gr.at (Gr.alloc (Gr.refl w) (Obj.cells #[.int .i64 0, .int .i64 0] 86)) b0
  have c1 := Gr.at (Gr.alloc (Gr.refl w) (Obj.cells #[.int .i64 0, .int .i64 0] 86)) b1
  have wv0 : (n : Int) - 1 = (m : Int) := by omega
  have wv1 : IntKind.i64.wrap (m : Int) = (m : Int) := IntWalk.i64_in _ (by omega)
  have wb0 : (0 : Int) ≤ (m : Int) := by omega
  have wb1 : (m : Int) < (n : Int) := by omega
  clear hm HA HX
  generalize X m = x1 at *
  generalize Y m = y1 at *
  go_enter Tryz.func100, Tryz.ntmps100
  go_wp2_with fail
  refine bodyPost_ret (by simp [results, Tryz.results100, go_sem]; try rfl) rfl ?_
  exact ⟨rfl, gr_auto⟩
set_option maxRecDepth 100000 in
theorem capacity_any (d : Ba.Node) (w : World) (h : d.sh.At w) (hn : d.kd ≠ 3 → 1 ≤ d.sh.n) : Calls Tryz.prog 83 #[d.val] w fun e w' => e = .returned (.int .i64 (Ba.capy d)) ∧ Gr w w' := by
  have HL := Lib.hid (fun (hk : d.kd ≠ 3) (W : World) (hg : Gr w W) => last_any d.sh W (h.gr hg) (hn hk))
  clear h hn
  unfold Ba.Node.val Ba.capy
  obtain ⟨nm, kd, ax, ay, iv, gr, ⟨A, n, c, b, o, X, Y⟩, pr, rs⟩ := d
  simp only at *
  by_cases hk : kd = 3
  · rw [if_pos hk]
    subst hk
    clear HL
    go_enter Tryz.func83, Tryz.ntmps83
    go_wp2_with fail
    go_ret
    exact ⟨rfl, gr_auto⟩
  · rw [if_neg hk]
    have t0 : (kd == 3) = false := by rw [beq_eq_false_iff_ne]; exact hk
    have HM := Lib.hid (HL.out hk)
    clear HL hk
    generalize X (n - 1) = x1 at *
    generalize Y (n - 1) = y1 at *
    have hfd : ∀ w : World, (Instr.field 86 (.agg #[.int .i64 x1, .int .i64 y1]) 1).run Tryz.prog w = .ok (.int .i64 y1) w := fun _ => by kernel_rfl
    go_enter Tryz.func83, Tryz.ntmps83
    go_wp2_with fail
    refine (HM.out _ gr_auto).mono ?_
    rintro e w1 ⟨rfl, hb1⟩
    go_wp2_with fail
    go_ret
    exact ⟨rfl, gr_auto⟩
end Go.Proofs.YtkgbbcmgfbipaaaGreatDoor
set_option linter.unusedVariables false
set_option linter.unusedSimpArgs false
namespace Go.Proofs.YtkgbbcmgfbipaaaGreatDoor
open Go.RowKit
set_option maxRecDepth 100000 in
theorem eqk_nil (s : Ba.SlK) (w : World) (h : s.At w) : Calls Tryz.prog 91 #[.slice s.A s.n s.c, .slice none 0 0] w fun e w' => e = .returned (.bool (decide (s.n = 0))) ∧ Gr w w' := by
  have hb : s.n ≤ 9223372036854775807 := Nat.le_trans h.hc h.hb
  clear h
  generalize s.A = A at *
  generalize s.n = n at *
  generalize s.c = c at *
  by_cases h0 : n = 0
  · subst h0
    go_enter Tryz.func91, Tryz.ntmps91
    go_wp2_with fail
    refine wp_loop_rounds 1 ?_
    rw [rounds_succ]
    go_wp2_with fail
    go_ret
    exact ⟨rfl, Gr.refl _⟩
  · rw [decide_eq_false h0]
    have t0 : ((n : Int) == 0) = false := by rw [beq_eq_false_iff_ne]; omega
    have t1 : (n == 0) = false := by rw [beq_eq_false_iff_ne]; omega
    go_enter Tryz.func91, Tryz.ntmps91
    go_wp2_with fail
    go_ret
    exact ⟨rfl, Gr.refl _⟩
set_option maxRecDepth 100000 in
theorem eqk_self (s : Ba.SlK) (w : World) (h : s.At w) : Calls Tryz.prog 91 #[.slice s.A s.n s.c, .slice s.A s.n s.c] w fun e w' => e = .returned (.bool true) ∧ Gr w w' := by
  have hb : s.n ≤ 9223372036854775807 := Nat.le_trans h.hc h.hb
  have HA := Lib.hid h.hA; have HX := Lib.hid h.hX
  clear h
  obtain ⟨A, n, c, b, o, X, Y⟩ := s
  simp only at *
  go_enter Tryz.func91, Tryz.ntmps91
  go_wp2_with fail
  go_loopw [13] (fun s13 wr => ∃ i : Nat, i ≤ n ∧ s13 = .int .i64 (i : Int) ∧ Gr w wr) (fun s13 _ => n - (intOf s13).toNat)
  case atStart => exact ⟨0, Nat.zero_le _, rfl, Gr.refl _⟩
  case round =>
    obtain ⟨i, hi, rfl, hg⟩ := hrel
    by_cases hlt : i < n
    · obtain rfl := HA.out (by omega)
      obtain ⟨⟨a0, a1⟩, -, -⟩ := HX.out i hlt
      have a0 := Gr.at hg a0; have a1 := Gr.at hg a1
      generalize X i = x at *
      generalize Y i = y at *
      go_wp2_with fail
      go_quiet (fail)
      go_wp2_with fail
      go_roundw
      case rel => exact ⟨i + 1, by omega, by go_num, gr_auto⟩
      case measure => simp [intOf]; omega
    · go_wp2_with fail
      go_ret
      exact ⟨rfl, hg⟩
end Go.Proofs.YtkgbbcmgfbipaaaGreatDoor
set_option linter.unusedVariables false
set_option linter.unusedSimpArgs false
namespace Go.Proofs.YtkgbbcmgfbipaaaGreatDoor
open Go.RowKit
set_option maxRecDepth 100000 in
theorem swithin_any (x l h : Int) (w : World) : Calls Tryz.prog 82 #[.int .i64 x, .int .i64 l, .int .i64 h] w fun e w' => e = .returned (.bool (Ba.bet x l h)) ∧ w = w' := by
  unfold Ba.bet
  cases t0 : decide (l ≤ x)
  · go_enter Tryz.func82, Tryz.ntmps82
    go_wp2
    go_ret
    exact ⟨rfl, rfl⟩
  · cases t1 : decide (x ≤ h)
    · go_enter Tryz.func82, Tryz.ntmps82
      go_wp2
      go_ret
      exact ⟨rfl, rfl⟩
    · go_enter Tryz.func82, Tryz.ntmps82
      go_wp2
      go_ret
      exact ⟨rfl, rfl⟩
set_option maxRecDepth 100000 in
theorem holds_any (x : Int) (w : World) : Calls Tryz.prog 84 #[.int .i64 x] w fun e w' => e = .returned (.bool (Ba.bet x 0 1125899906842624)) ∧ w = w' := by
  have HX := Lib.hid (swithin_any x 0 1125899906842624)
  generalize Ba.bet x 0 1125899906842624 = q at *
  go_enter Tryz.func84, Tryz.ntmps84
  go_wp2_with fail
  refine (HX.out _).mono ?_
  rintro e w1 ⟨rfl, rfl⟩
  go_wp2_with fail
  go_ret
  exact ⟨rfl, rfl⟩
end Go.Proofs.YtkgbbcmgfbipaaaGreatDoor
