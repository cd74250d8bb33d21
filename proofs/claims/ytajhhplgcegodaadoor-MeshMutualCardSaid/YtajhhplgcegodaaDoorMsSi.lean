/-
  Surfaces: the law MeshMutual's sides: how many border sides and other sides there are.
-/
import Derived.Test.YtajhhplgcegodaaDoorMsMu
set_option linter.unusedVariables false
set_option linter.unusedSimpArgs false
namespace Go.Proofs.YtajhhplgcegodaaDoor
open Go.RowKit
namespace Ms
/-- The border sides below t. -/
def bdC (m : Mesh) (t : Nat) : Nat := (idx (fun t => (op m t).isNone) t).length
theorem bdC_yes {m : Mesh} {t : Nat} (h : op m t = none) : bdC m (t + 1) = bdC m t + 1 := by unfold bdC; rw [idx_yes (by rw [h]; rfl), List.length_append]; rfl
theorem bdC_no {m : Mesh} {t u : Nat} (h : op m t = some u) : bdC m (t + 1) = bdC m t := by unfold bdC; rw [idx_no (by rw [h]; rfl)]
theorem bdC_le (m : Mesh) (t : Nat) : bdC m t ≤ t := idx_le _ _
end Ms
theorem ix3 (a b c : Int) (k : Nat) (hk : k < 3) (w : World) : (Instr.index 47 (.agg #[.int .i64 a, .int .i64 b, .int .i64 c]) (.int .i64 (k : Int))).run Tryd.prog w = .ok (.int .i64 (match k with | 0 => a | 1 => b | _ => c)) w := by
  rcases (by omega : k = 0 ∨ k = 1 ∨ k = 2) with rfl | rfl | rfl <;> kernel_rfl
set_option maxRecDepth 100000 in
set_option maxHeartbeats 4000000 in
theorem mu_sides (m : Ms.Mesh) (G n : Nat) (hn : n ≤ 61) (w : World) (hc : ∀ t, t < 3 * n → w.cell? ⟨G, t, none⟩ = some (.int .i64 (Ms.nb m (t / 3) (t % 3)))) : Calls Tryd.prog 21 #[.slice (some ⟨G, 0, none⟩) n n] w fun e w' => e = .returned (.tuple #[.int .i64 (Ms.bdC m (3 * n) : Int), .int .i64 (((3 * n - Ms.bdC m (3 * n)) / 2 : Nat) : Int)]) ∧ Gr w w' := by
  have HC := Lib.hid hc
  have HY := Lib.hid (fun t h => Ms.bdC_yes (m := m) (t := t) h); have HN := Lib.hid (fun t u h => Ms.bdC_no (m := m) (t := t) (u := u) h)
  have HL := Lib.hid (Ms.bdC_le m)
  clear hc
  go_enter Tryd.func21, Tryd.ntmps21
  go_wp2_with fail
  -- @a
  go_loopw [2, 3, 10] (fun a b x wr => ∃ i : Nat, i ≤ n ∧ x = .int .i64 (i : Int) ∧ a = .int .i64 (Ms.bdC m (3 * i) : Int) ∧ b = .int .i64 ((3 * i - Ms.bdC m (3 * i) : Nat) : Int) ∧ Gr w wr) (fun _ _ x _ => n - (intOf x).toNat)
  case atStart => exact ⟨0, Nat.zero_le _, rfl, rfl, rfl, Gr.refl _⟩
  case round =>
    obtain ⟨i, hi, rfl, rfl, rfl, hg⟩ := hrel
    rename World => W1
    by_cases hlt : i < n
    · have ib0 : (0 : Int) ≤ (i : Int) := by omega
      have ib1 : (i : Int) < (n : Int) := by omega
      have q : ∀ k, k < 3 → W1.cell? ⟨G, i * 3 + k, none⟩ = some (.int .i64 (Ms.nb m i k)) := fun k hk => by
        have := Gr.at hg (HC.out (i * 3 + k) (by omega))
        rw [show (i * 3 + k) / 3 = i by omega, show (i * 3 + k) % 3 = k by omega] at this
        exact this
      have c0 : W1.cell? ⟨G, i * 3, none⟩ = some (.int .i64 (Ms.nb m i 0)) := q 0 (by omega)
      have c1 := q 1 (by omega); have c2 := q 2 (by omega)
      have bl := World.block_lt_of_cell? _ _ c0
      simp only at bl
      have hix := fun (k : Nat) (hk : k < 3) w => ix3 (Ms.nb m i 0) (Ms.nb m i 1) (Ms.nb m i 2) k hk w
      have HIX := Lib.hid hix
      clear q hix
      -- @b
      go_wp2_with fail
      clear c0 c1 c2
      -- @c
      go_loopw [2, 3, 15] (fun a b x wr => ∃ k : Nat, k ≤ 3 ∧ x = .int .i64 (k : Int) ∧ a = .int .i64 (Ms.bdC m (3 * i + k) : Int) ∧ b = .int .i64 ((3 * i + k - Ms.bdC m (3 * i + k) : Nat) : Int) ∧ Gr W1 wr) (fun _ _ x _ => 3 - (intOf x).toNat)
      case atStart => exact ⟨0, by omega, rfl, rfl, rfl, by exact gr_auto⟩
      case round =>
        obtain ⟨k, hk, rfl, rfl, rfl, hg1⟩ := hrel
        rename World => W2
        by_cases hlk : k < 3
        · have kb0 : (0 : Int) ≤ (k : Int) := by omega
          have kb1 : (k : Int) < 3 := by omega
          obtain ⟨t, ht⟩ : ∃ t, 3 * i + k = t := ⟨_, rfl⟩
          have hop : Ms.op m t = Ms.acO m i k := by rw [← ht, Ms.op_at m hlk]
          have hx : ∀ w, (Instr.index 47 (.agg #[.int .i64 (Ms.nb m i 0), .int .i64 (Ms.nb m i 1), .int .i64 (Ms.nb m i 2)]) (.int .i64 (k : Int))).run Tryd.prog w = .ok (.int .i64 (Ms.nb m i k)) w := fun w => by
            rw [HIX.out k hlk w]
            rcases (by omega : k = 0 ∨ k = 1 ∨ k = 2) with rfl | rfl | rfl <;> rfl
          have hle := HL.out t
          have hT := Lib.hid ht
          rw [ht]
          cases hq : Ms.acO m i k with
          | none =>
            have hv : Ms.nb m i k = -1 := by unfold Ms.nb; rw [hq]
            have hs := HY.out t (hop.trans hq)
            rw [hv] at hx
            have e1 : (Ms.bdC m (3 * i + (k + 1)) : Int) = (Ms.bdC m t : Int) + 1 := by rw [show 3 * i + (k + 1) = t + 1 by omega, hs]; omega
            have e2 : ((3 * i + (k + 1) - Ms.bdC m (3 * i + (k + 1)) : Nat) : Int) = ((t - Ms.bdC m t : Nat) : Int) := by rw [show 3 * i + (k + 1) = t + 1 by omega, hs]; omega
            have E := Lib.hid (And.intro e1 e2)
            clear e1 e2 hs hv hq hop ht
            generalize Ms.nb m i 0 = n0 at *; generalize Ms.nb m i 1 = n1 at *; generalize Ms.nb m i 2 = n2 at *
            have b1 : (Ms.bdC m t : Int) + 1 ≤ 9223372036854775807 := by have := hT.out; omega
            have b2 : (-9223372036854775808 : Int) ≤ (Ms.bdC m t : Int) + 1 := by omega
            go_wp2_with fail
            -- @d
            go_roundw
            case rel => exact ⟨k + 1, by omega, by go_num, by rw [E.out.1], by rw [E.out.2], hg1⟩
            case measure => simp [intOf]; omega
          | some u =>
            have hv : Ms.nb m i k = ((u / 3 : Nat) : Int) := by unfold Ms.nb; rw [hq]
            have hs := HN.out t u (hop.trans hq)
            rw [hv] at hx
            have e1 : (Ms.bdC m (3 * i + (k + 1)) : Int) = (Ms.bdC m t : Int) := by rw [show 3 * i + (k + 1) = t + 1 by omega, hs]
            have e2 : ((3 * i + (k + 1) - Ms.bdC m (3 * i + (k + 1)) : Nat) : Int) = ((t - Ms.bdC m t : Nat) : Int) + 1 := by rw [show 3 * i + (k + 1) = t + 1 by omega, hs]; omega
            have E := Lib.hid (And.intro e1 e2)
            clear e1 e2 hs hv hq hop ht
            generalize Ms.nb m i 0 = n0 at *; generalize Ms.nb m i 1 = n1 at *; generalize Ms.nb m i 2 = n2 at *
            have u0 : ¬ ((u / 3 : Nat) : Int) < 0 := by omega
            generalize ((u / 3 : Nat) : Int) = uv at *
            have b1 : ((t - Ms.bdC m t : Nat) : Int) + 1 ≤ 9223372036854775807 := by have := hT.out; omega
            have b2 : (-9223372036854775808 : Int) ≤ ((t - Ms.bdC m t : Nat) : Int) + 1 := by omega
            go_wp2_with fail
            -- @e
            go_roundw
            case rel => exact ⟨k + 1, by omega, by go_num, by rw [E.out.1], by rw [E.out.2], hg1⟩
            case measure => simp [intOf]; omega
        · obtain rfl : k = 3 := by omega
          go_wp2_with fail
          -- @f
          go_roundw
          case rel => exact ⟨i + 1, by omega, by go_num, rfl, rfl, hg.trans hg1⟩
          case measure => simp [intOf]; omega
    · obtain rfl : n = i := by omega
      have hle := HL.out (3 * n)
      have E := Lib.hid (show ((3 * n - Ms.bdC m (3 * n) : Nat) : Int) / 2 = (((3 * n - Ms.bdC m (3 * n)) / 2 : Nat) : Int) from by omega)
      have z0 : (0 : Int) ≤ ((3 * n - Ms.bdC m (3 * n) : Nat) : Int) := by omega
      have z1 : ((3 * n - Ms.bdC m (3 * n) : Nat) : Int) ≤ 183 := by omega
      generalize ((3 * n - Ms.bdC m (3 * n) : Nat) : Int) = zz at *
      go_wp2_with fail
      -- @g
      go_ret2
      exact ⟨by rw [← E.out]; rfl, hg⟩
end Go.Proofs.YtajhhplgcegodaaDoor
