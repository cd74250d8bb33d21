import Derived.Test.YtagfgnpjljaefaaDoorDcWalkH
import Derived.Lib.ConvBytes
import Derived.Lib.SmallJoins
set_option linter.unusedVariables false
set_option linter.unusedSimpArgs false
namespace Go.Proofs.YtagfgnpjljaefaaDoor
open Go.RowKit
theorem cutp_lite (s p : ByteArray) (w : World) (h : Lib.hasPrefix s.data.toList p.data.toList = false) : Calls Tryd.prog 63 #[.string s, .string p] w fun e w' => e = .returned (.tuple #[.string s, .bool false]) ∧ w = w' := by
  have HP := Lib.hid (fun W => Tryd.stringslite_HasPrefix s p W)
  rw [h] at HP
  clear h
  go_enter Tryd.func63, Tryd.ntmps63
  go_wp2_with (first | (go_at_call 47; with_reducible refine (HP.out _).mono ?_; rintro e w' ⟨rfl, rfl⟩))
  go_ret2
  exact ⟨rfl, rfl⟩
theorem cutp_no (s p : ByteArray) (w : World) (h : Lib.hasPrefix s.data.toList p.data.toList = false) : Calls Tryd.prog 48 #[.string s, .string p] w fun e w' => e = .returned (.tuple #[.string s, .bool false]) ∧ w = w' := by
  have HP := Lib.hid (fun W => cutp_lite s p W h)
  clear h
  go_enter Tryd.func48, Tryd.ntmps48
  go_wp2_with (first | (go_at_call 63; with_reducible refine (HP.out _).mono ?_; rintro e w' ⟨rfl, rfl⟩))
  go_ret2
  exact ⟨rfl, rfl⟩
theorem cut_lite (w : World) : Calls Tryd.prog 64 #[.string ⟨#[49, 50, 46, 51]⟩, .string ⟨#[46]⟩] w fun e w' => e = .returned (.tuple #[.string ⟨#[49, 50]⟩, .string ⟨#[51]⟩, .bool true]) ∧ Gr w w' := by
  have HP := Lib.hid (fun W => Tryd.stringslite_Index_one ⟨#[49, 50, 46, 51]⟩ 46 W)
  rw [show Lib.indexByte (⟨#[49, 50, 46, 51]⟩ : ByteArray).data.toList 46 = 2 by decide] at HP
  have e1 : (⟨#[49, 50, 46, 51]⟩ : ByteArray).extract 0 2 = ⟨#[49, 50]⟩ := rfl
  have e2 : (⟨#[49, 50, 46, 51]⟩ : ByteArray).extract 3 4 = ⟨#[51]⟩ := rfl
  go_enter Tryd.func64, Tryd.ntmps64
  go_wp2_with (first | (go_at_call 72; with_reducible refine (HP.out _).mono ?_; rintro e w' ⟨rfl, rfl⟩))
  go_quiet (fail)
  go_wp2
  refine bodyPost_ret (by simp [results, Tryd.results64, go_sem, e1, e2]; try rfl) rfl ?_
  exact ⟨by first | rfl | (simp; done), (by repeat' (first | (with_reducible exact Gr.refl _) | (with_reducible assumption) | (with_reducible refine Gr.alloc ?_ _) | (with_reducible refine Gr.drew ?_) | (with_reducible refine Gr.drewN ?_ _) | (with_reducible refine Gr.setCell ?_ ?_ _) | (with_reducible refine Gr.trans ?_ (by with_reducible assumption)) | go_size))⟩
theorem cut_ex (w : World) : Calls Tryd.prog 49 #[.string ⟨#[49, 50, 46, 51]⟩, .string ⟨#[46]⟩] w fun e w' => e = .returned (.tuple #[.string ⟨#[49, 50]⟩, .string ⟨#[51]⟩, .bool true]) ∧ Gr w w' := by
  have HP := Lib.hid cut_lite
  go_enter Tryd.func49, Tryd.ntmps49
  go_wp2_with (first | (go_at_call 64; with_reducible refine (HP.out _).mono ?_; rintro e w1 ⟨rfl, hb1⟩))
  refine bodyPost_ret (by simp [results, Tryd.results49, go_sem]; try rfl) rfl ?_
  exact ⟨by first | rfl | (simp; done), (by repeat' (first | (with_reducible exact Gr.refl _) | (with_reducible assumption) | (with_reducible refine Gr.alloc ?_ _) | (with_reducible refine Gr.drew ?_) | (with_reducible refine Gr.drewN ?_ _) | (with_reducible refine Gr.setCell ?_ ?_ _) | (with_reducible refine Gr.trans ?_ (by with_reducible assumption)) | go_size))⟩
theorem conv_ex (W : World) : ∃ (cap : Nat) (W1 : World), (convert 9 38 (.string ((⟨#[49, 50]⟩ : ByteArray) ++ ⟨#[51]⟩ ++ ⟨#[48]⟩))).run Tryd.prog W = .ok (.slice (some ⟨W.heap.size, 0, none⟩) 4 cap) W1 ∧ Gr W W1 ∧
    W1.cell? ⟨W.heap.size, 0, none⟩ = some (.int .u8 49) ∧ W1.cell? ⟨W.heap.size, 1, none⟩ = some (.int .u8 50) ∧ W1.cell? ⟨W.heap.size, 2, none⟩ = some (.int .u8 51) ∧ W1.cell? ⟨W.heap.size, 3, none⟩ = some (.int .u8 48) := by
  have e : (⟨#[49, 50]⟩ : ByteArray) ++ ⟨#[51]⟩ ++ ⟨#[48]⟩ = ⟨#[49, 50, 51, 48]⟩ := by apply ByteArray.ext; simp [ByteArray.data_append]
  rw [e]
  have hc := fun j hj => Lib.bytesWorld_cell W 5 ⟨#[49, 50, 51, 48]⟩ j hj
  exact ⟨_, _, Lib.run_convert_string_bytes W _ _ 5 _ Tryd.underlying9 Tryd.underlying38 Tryd.underlying5, Go.Joins.below_bytesWorld _ _ _ _ (Nat.le_refl _), hc 0 (by decide), hc 1 (by decide), hc 2 (by decide), hc 3 (by decide)⟩
set_option maxRecDepth 100000 in
set_option maxHeartbeats 2000000 in
theorem parse_ex (w : World) : Calls Tryd.prog 27 #[.string ⟨#[49, 50, 46, 51]⟩, .int .i64 2] w fun e w' => e = .returned (.tuple #[.int .i64 1230, .int .i64 0]) ∧ Gr w w' := by
  have HK := Lib.hid (places_any 2)
  rw [show Dc.plc 2 = true by decide] at HK
  have HP := Lib.hid (fun W => cutp_no ⟨#[49, 50, 46, 51]⟩ ⟨#[45]⟩ W (by decide))
  have HC := Lib.hid cut_ex
  have HA := Lib.hid (fun W => all_any ⟨#[49, 50]⟩ W (by decide))
  rw [show Dc.allD (⟨#[49, 50]⟩ : ByteArray).data.toList = true by decide] at HA
  have HB := Lib.hid (fun W => all_any ⟨#[51]⟩ W (by decide))
  rw [show Dc.allD (⟨#[51]⟩ : ByteArray).data.toList = true by decide] at HB
  have HR := Lib.hid (fun W => repeat0_any 1 W (by decide) (by decide))
  rw [show (List.replicate (1 : Int).toNat (48 : UInt8)) = [48] by decide] at HR
  go_enter Tryd.func27, Tryd.ntmps27
  go_wp2_with (first | (go_at_call 28; with_reducible refine (HK.out _).mono ?_; rintro e w' ⟨rfl, rfl⟩) | (go_at_call 48; with_reducible refine (HP.out _).mono ?_; rintro e w' ⟨rfl, rfl⟩) | (go_at_call 49; with_reducible refine (HC.out _).mono ?_; rintro e w1 ⟨rfl, hb1⟩) | (go_at_call 50; with_reducible refine (HA.out _).mono ?_; rintro e w' ⟨rfl, rfl⟩) | (go_at_call 50; with_reducible refine (HB.out _).mono ?_; rintro e w' ⟨rfl, rfl⟩) | (go_at_call 16; with_reducible refine (HR.out _).mono ?_; rintro e w2 ⟨rfl, hb2⟩))
  obtain ⟨cap, W3, hrun, hg3, q0, q1, q2, q3⟩ := conv_ex w2
  have hg : Gr w W3 := (hb1.trans hb2).trans hg3
  rw [hrun]
  clear hrun hg3
  generalize w2.heap.size = g at *
  go_wp2_with fail
  go_loop [11, 67] (fun p q => ∃ (k : Nat) (n : Int), k ≤ 4 ∧ q = .int .i64 k ∧ p = .int .i64 n ∧ (k = 0 ∧ n = 0 ∨ k = 1 ∧ n = 1 ∨ k = 2 ∧ n = 12 ∨ k = 3 ∧ n = 123 ∨ k = 4 ∧ n = 1230)) (fun _ q => 4 - (intOf q).toNat)
  case atStart => exact ⟨0, 0, by omega, rfl, rfl, by omega⟩
  case round =>
    obtain ⟨k, n, hk, rfl, rfl, hr⟩ := hrel
    rcases hr with ⟨rfl, rfl⟩ | ⟨rfl, rfl⟩ | ⟨rfl, rfl⟩ | ⟨rfl, rfl⟩ | ⟨rfl, rfl⟩
    · go_wp2_with fail
      go_round
      case rel => exact ⟨1, 1, by omega, rfl, rfl, by omega⟩
      case measure => decide
    · go_wp2_with fail
      go_round
      case rel => exact ⟨2, 12, by omega, rfl, rfl, by omega⟩
      case measure => decide
    · go_wp2_with fail
      go_round
      case rel => exact ⟨3, 123, by omega, rfl, rfl, by omega⟩
      case measure => decide
    · go_wp2_with fail
      go_round
      case rel => exact ⟨4, 1230, by omega, rfl, rfl, by omega⟩
      case measure => decide
    · go_wp2
      go_ret2
      exact ⟨rfl, (by repeat' (first | (with_reducible exact Gr.refl _) | (with_reducible assumption) | (with_reducible refine Gr.alloc ?_ _) | (with_reducible refine Gr.drew ?_) | (with_reducible refine Gr.drewN ?_ _) | (with_reducible refine Gr.setCell ?_ ?_ _) | (with_reducible refine Gr.trans ?_ (by with_reducible assumption)) | go_size))⟩
end Go.Proofs.YtagfgnpjljaefaaDoor
