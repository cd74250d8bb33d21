/-
  slices.Equal on slices that hold the same: rows of three ints, findings, ints. (Printed by mkes.py.)
-/
import Derived.Test.YtajhhplgcegodaaDoorMsEq
import Derived.Test.YtajhhplgcegodaaDoorHeld
set_option linter.unusedVariables false
set_option linter.unusedSimpArgs false
namespace Go.Proofs.YtajhhplgcegodaaDoor
open Go.RowKit
theorem ms_neq3 (a b c : Int) (w : World) : (binOp .neq 47 (.agg #[.int .i64 a, .int .i64 b, .int .i64 c]) (.agg #[.int .i64 a, .int .i64 b, .int .i64 c])).run Tryd.prog w = .ok (.bool false) w := by
  have hi : Tryd.prog.underlying 3 = some (.int .i64) := Tryd.underlying3
  rw [run_neq_struct, show (10000 : Nat) = 9998 + 1 + 1 from rfl]
  conv => lhs; unfold Op.equalIn
  simp only [Sem.run_bind, run_underlying Tryd.underlying47, Result.andThen_ok]
  simp only [Std.Legacy.Range.forIn_eq_forIn_range', Std.Legacy.Range.size, Nat.sub_zero, Nat.add_one_sub_one, Nat.div_one, List.range']
  go_simp
theorem fd_eqg : Tryd.prog.eqGuardType Tryd.prog.depth 35 = false := by kernel_rfl
theorem fd_neq (a : Int) (s : ByteArray) (w : World) : (binOp .neq 35 (.agg #[.int .i64 a, .string s]) (.agg #[.int .i64 a, .string s])).run Tryd.prog w = .ok (.bool false) w := by
  have hS : Tryd.prog.underlying 35 = some (.struct (Tryd.prog.fieldsOf 35)) := by kernel_rfl
  have hp : Tryd.prog.stoodInHeld 35 = false := by kernel_rfl
  rw [run_neq_struct, show (10000 : Nat) = 9999 + 1 from rfl, run_equalIn_agg w 9999 35 _ _ hS hp]
  simp only [Program.fieldsOf, Tryd.underlying35]
  go_simp
set_option maxRecDepth 100000 in
set_option maxHeartbeats 4000000 in
theorem eq_3 (X0 : Nat → Int) (X1 : Nat → Int) (X2 : Nat → Int) (A1 A2 : Option Addr) (n c1 c2 b1 b2 : Nat) (w : World) (hn : n ≤ c1) (hn2 : n ≤ c2) (hc1 : c1 ≤ 9223372036854775807) (hc2 : c2 ≤ 9223372036854775807) (hA1 : 0 < n → A1 = some ⟨b1, 0, none⟩) (hA2 : 0 < n → A2 = some ⟨b2, 0, none⟩)
    (h1 : ∀ i, i < n → w.cell? ⟨b1, i * 3, none⟩ = some (.int .i64 (X0 i)) ∧ w.cell? ⟨b1, i * 3 + 1, none⟩ = some (.int .i64 (X1 i)) ∧ w.cell? ⟨b1, i * 3 + 2, none⟩ = some (.int .i64 (X2 i))) (h2 : ∀ i, i < n → w.cell? ⟨b2, i * 3, none⟩ = some (.int .i64 (X0 i)) ∧ w.cell? ⟨b2, i * 3 + 1, none⟩ = some (.int .i64 (X1 i)) ∧ w.cell? ⟨b2, i * 3 + 2, none⟩ = some (.int .i64 (X2 i))) : Calls Tryd.prog 23 #[.slice A1 n c1, .slice A2 n c2] w fun e w' => e = .returned (.bool true) ∧ Gr w w' := by
  have H1 := Lib.hid h1; have H2 := Lib.hid h2; have HA1 := Lib.hid hA1; have HA2 := Lib.hid hA2
  clear h1 h2 hA1 hA2
  go_enter Tryd.func23, Tryd.ntmps23
  go_wp2_with fail
  go_loopw [13] (fun s13 wr => ∃ i : Nat, i ≤ n ∧ s13 = .int .i64 (i : Int) ∧ Gr w wr) (fun s13 _ => n - (intOf s13).toNat)
  case atStart => exact ⟨0, Nat.zero_le _, rfl, Gr.refl _⟩
  case round =>
    obtain ⟨i, hi, rfl, hg⟩ := hrel
    by_cases hlt : i < n
    · obtain rfl := HA1.out (by omega); obtain rfl := HA2.out (by omega)
      have ib0 : (0 : Int) ≤ (i : Int) := by omega
      have ib1 : (i : Int) < (n : Int) := by omega
      obtain ⟨a0, a1, a2⟩ := H1.out i hlt
      obtain ⟨e0, e1, e2⟩ := H2.out i hlt
      replace a0 := Gr.at hg a0; replace e0 := Gr.at hg e0
      replace a1 := Gr.at hg a1; replace e1 := Gr.at hg e1
      replace a2 := Gr.at hg a2; replace e2 := Gr.at hg e2
      clear H1 H2 HA1 HA2
      generalize X0 i = x0 at *
      generalize X1 i = x1 at *
      generalize X2 i = x2 at *
      have eg := ms_eq3g
      have en : ∀ W, (binOp .neq 47 (.agg #[.int .i64 x0, .int .i64 x1, .int .i64 x2]) (.agg #[.int .i64 x0, .int .i64 x1, .int .i64 x2])).run Tryd.prog W = .ok (.bool false) W := fun W => ms_neq3 x0 x1 x2 W
      go_wp2_with fail
      -- @a
      go_quiet (fail)
      -- @b
      go_wp2_with fail
      go_roundw
      case rel => exact ⟨i + 1, by omega, by go_num, gr_auto⟩
      case measure => simp [intOf]; omega
    · go_wp2_with fail
      go_ret
      exact ⟨rfl, hg⟩
set_option maxRecDepth 100000 in
set_option maxHeartbeats 4000000 in
theorem eq_f (X0 : Nat → Int) (X1 : Nat → ByteArray) (A1 A2 : Option Addr) (n c1 c2 b1 b2 : Nat) (w : World) (hn : n ≤ c1) (hn2 : n ≤ c2) (hc1 : c1 ≤ 9223372036854775807) (hc2 : c2 ≤ 9223372036854775807) (hA1 : 0 < n → A1 = some ⟨b1, 0, none⟩) (hA2 : 0 < n → A2 = some ⟨b2, 0, none⟩)
    (h1 : ∀ i, i < n → w.cell? ⟨b1, i * 2, none⟩ = some (.int .i64 (X0 i)) ∧ w.cell? ⟨b1, i * 2 + 1, none⟩ = some (.string (X1 i))) (h2 : ∀ i, i < n → w.cell? ⟨b2, i * 2, none⟩ = some (.int .i64 (X0 i)) ∧ w.cell? ⟨b2, i * 2 + 1, none⟩ = some (.string (X1 i))) : Calls Tryd.prog 16 #[.slice A1 n c1, .slice A2 n c2] w fun e w' => e = .returned (.bool true) ∧ Gr w w' := by
  have H1 := Lib.hid h1; have H2 := Lib.hid h2; have HA1 := Lib.hid hA1; have HA2 := Lib.hid hA2
  clear h1 h2 hA1 hA2
  go_enter Tryd.func16, Tryd.ntmps16
  go_wp2_with fail
  go_loopw [13] (fun s13 wr => ∃ i : Nat, i ≤ n ∧ s13 = .int .i64 (i : Int) ∧ Gr w wr) (fun s13 _ => n - (intOf s13).toNat)
  case atStart => exact ⟨0, Nat.zero_le _, rfl, Gr.refl _⟩
  case round =>
    obtain ⟨i, hi, rfl, hg⟩ := hrel
    by_cases hlt : i < n
    · obtain rfl := HA1.out (by omega); obtain rfl := HA2.out (by omega)
      have ib0 : (0 : Int) ≤ (i : Int) := by omega
      have ib1 : (i : Int) < (n : Int) := by omega
      obtain ⟨a0, a1⟩ := H1.out i hlt
      obtain ⟨e0, e1⟩ := H2.out i hlt
      replace a0 := Gr.at hg a0; replace e0 := Gr.at hg e0
      replace a1 := Gr.at hg a1; replace e1 := Gr.at hg e1
      clear H1 H2 HA1 HA2
      generalize X0 i = x0 at *
      generalize X1 i = x1 at *
      have eg := fd_eqg
      have en : ∀ W, (binOp .neq 35 (.agg #[.int .i64 x0, .string x1]) (.agg #[.int .i64 x0, .string x1])).run Tryd.prog W = .ok (.bool false) W := fun W => fd_neq x0 x1 W
      go_wp2_with fail
      -- @a
      go_quiet (fail)
      -- @b
      go_wp2_with fail
      go_roundw
      case rel => exact ⟨i + 1, by omega, by go_num, gr_auto⟩
      case measure => simp [intOf]; omega
    · go_wp2_with fail
      go_ret
      exact ⟨rfl, hg⟩
set_option maxRecDepth 100000 in
set_option maxHeartbeats 4000000 in
theorem eq_i (X0 : Nat → Int) (A1 A2 : Option Addr) (n c1 c2 b1 b2 : Nat) (w : World) (hn : n ≤ c1) (hn2 : n ≤ c2) (hc1 : c1 ≤ 9223372036854775807) (hc2 : c2 ≤ 9223372036854775807) (hA1 : 0 < n → A1 = some ⟨b1, 0, none⟩) (hA2 : 0 < n → A2 = some ⟨b2, 0, none⟩)
    (h1 : ∀ i, i < n → w.cell? ⟨b1, i, none⟩ = some (.int .i64 (X0 i))) (h2 : ∀ i, i < n → w.cell? ⟨b2, i, none⟩ = some (.int .i64 (X0 i))) : Calls Tryd.prog 27 #[.slice A1 n c1, .slice A2 n c2] w fun e w' => e = .returned (.bool true) ∧ Gr w w' := by
  have H1 := Lib.hid h1; have H2 := Lib.hid h2; have HA1 := Lib.hid hA1; have HA2 := Lib.hid hA2
  clear h1 h2 hA1 hA2
  go_enter Tryd.func27, Tryd.ntmps27
  go_wp2_with fail
  go_loopw [13] (fun s13 wr => ∃ i : Nat, i ≤ n ∧ s13 = .int .i64 (i : Int) ∧ Gr w wr) (fun s13 _ => n - (intOf s13).toNat)
  case atStart => exact ⟨0, Nat.zero_le _, rfl, Gr.refl _⟩
  case round =>
    obtain ⟨i, hi, rfl, hg⟩ := hrel
    by_cases hlt : i < n
    · obtain rfl := HA1.out (by omega); obtain rfl := HA2.out (by omega)
      have ib0 : (0 : Int) ≤ (i : Int) := by omega
      have ib1 : (i : Int) < (n : Int) := by omega
      obtain a0 := H1.out i hlt
      obtain e0 := H2.out i hlt
      replace a0 := Gr.at hg a0; replace e0 := Gr.at hg e0
      clear H1 H2 HA1 HA2
      generalize X0 i = x0 at *
      go_wp2_with fail
      -- @a
      go_quiet (fail)
      -- @b
      go_wp2_with fail
      go_roundw
      case rel => exact ⟨i + 1, by omega, by go_num, gr_auto⟩
      case measure => simp [intOf]; omega
    · go_wp2_with fail
      go_ret
      exact ⟨rfl, hg⟩
end Go.Proofs.YtajhhplgcegodaaDoor
