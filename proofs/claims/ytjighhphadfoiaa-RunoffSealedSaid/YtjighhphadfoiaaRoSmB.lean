/-
  Runoff: what runoff.Dry refuses; the reference's SumOf. (Printed by mkyg.py.)
  Runoff: what runoff.Dry refuses, joined.
  Runoff: the reference's upTo. (Printed by mkyi.py.)
  Runoff: the reference's Dry, of what is right. (Printed by mkyj.py.)
  Runoff: the reference's Dry, joined. (Printed by mkyk.py.)
-/
import Derived.Test.YtjighhphadfoiaaRoL
import Derived.Test.YtjighhphadfoiaaTail
import Derived.Test.YtjighhphadfoiaaRoRef
import Derived.Deep.RegionLaw
import Derived.Deep.AppendLies
set_option linter.unusedVariables false
set_option linter.unusedSimpArgs false
namespace Go.Proofs.Ytjighhphadfoiaa
open Go.RowKit
attribute [local go_sem ↓] Go.wp_at_zero Go.wp_at_succ
namespace Ba
/-- The error of Dry. -/
def dryE (nm : ByteArray) (daily step n : Int) (s : SlI) : Int := if Dc.isName nm.data.toList = true then if uniB s = true then if 86400 % (s.n : Int) = 0 then if bet daily 0 1099511627776 = true then if bet step 1 86400 = true then if bet n 0 10000 = true then 0 else 2 else 2 else 2 else 1 else 1 else 1
end Ba

set_option maxRecDepth 100000 in
set_option maxHeartbeats 4000000 in
theorem rsumof_any (s : Ba.SlI) (w : World) (h : s.At w) (hb : ∀ i, i ≤ s.n → Ba.i64 (Ba.sumI s.X i)) : Calls Try.prog 66 #[.slice s.A s.n s.c] w fun e w' => e = .returned (.int .i64 (Ba.sumI s.X s.n)) ∧ Gr w w' := by
  have HA := Lib.hid h.hA; have HX := Lib.hid h.hX; have HB := Lib.hid hb
  have hm := Nat.le_trans h.hc h.hb
  clear h hb
  obtain ⟨A, n, c, b, o, X⟩ := s
  simp only at *
  go_enter Try.func66, Try.ntmps66
  go_wp2_with fail
  go_loopw [3, 4] (fun v x wr => ∃ i : Nat, i ≤ n ∧ x = .int .i64 (i : Int) ∧ v = .int .i64 (Ba.sumI X i) ∧ Gr w wr) (fun _ x _ => n - (intOf x).toNat)
  case atStart => exact ⟨0, Nat.zero_le _, rfl, rfl, Gr.refl _⟩
  case round =>
    obtain ⟨i, hi, rfl, rfl, hg⟩ := hrel
    have t := HB.out i hi
    unfold Ba.i64 at t
    by_cases hlt : i < n
    · obtain rfl := HA.out (by omega)
      have a0 := Gr.at hg ((HX.out i hlt).1)
      have a1 := (HX.out i hlt).2
      have tc := HB.out (i + 1) hlt
      have T := Lib.hid (show Ba.sumI X (i + 1) = Ba.sumI X i + X i from rfl)
      rw [T.out] at tc
      unfold Ba.i64 at a1 tc
      have ib0 : (0 : Int) ≤ (i : Int) := by omega
      have ib1 : (i : Int) < (n : Int) := by omega
      clear HX HA HB
      generalize Ba.sumI X i = s0 at *
      generalize X i = x at *
      go_wp2_with fail
      go_roundw
      case rel => exact ⟨i + 1, by omega, by go_num, by rw [T.out], hg⟩
      case measure => simp [intOf]; omega
    · obtain rfl : n = i := by omega
      clear HX HA HB
      go_wp2_with fail
      go_ret
      exact ⟨rfl, hg⟩

set_option maxRecDepth 100000 in
set_option maxHeartbeats 4000000 in
theorem dry_n1 (nd : ByteArray) (A : Option Addr) (n c : Nat) (daily step kk : Int) (w : World) (HN : Hid (∀ W, Calls Try.prog 50 #[.string nd] W fun e w' => e = .returned (.bool false) ∧ W = w')) : Calls Try.prog 24 #[.string nd, .int .i64 daily, .slice A n c, .int .i64 step, .int .i64 kk] w fun e w' => e = .returned (.tuple #[.agg #[.string ⟨#[]⟩, .slice none 0 0], .int .i64 1]) ∧ Gr w w' := by
  go_enter Try.func24, Try.ntmps24
  go_wp2_with fail
  (first | refine name_world ?_ | refine (show (∀ W, W = _ → Calls _ _ _ W _) → Calls _ _ _ _ _ from fun h => h _ rfl) ?_); intro W1 hW1
  have g1 : Gr w W1 := by rw [hW1]; exact gr_auto
  have k0 : W1.cell? ⟨w.heap.size, 0, none⟩ = some (.int .i64 daily) := by rw [hW1]; simp [go_sem]
  have O1 : Own W1 (w.heap.size + 1) 0 (.string ⟨#[]⟩) := ⟨by rw [hW1]; simp [go_sem], by rw [hW1]; simp [go_sem]⟩
  have O2 : Own W1 (w.heap.size + 1) 1 (.slice none 0 0) := ⟨by rw [hW1]; simp [go_sem], by rw [hW1]; simp [go_sem]⟩
  clear hW1
  refine (HN.out _).mono ?_
  rintro e w2 ⟨rfl, rfl⟩
  have o10 := O1.1; have o11 := O1.2; have o20 := O2.1; have o21 := O2.2
  have u0 := Own.set (u := .string ⟨#[]⟩) O1
  have u1 := (Own.other (b' := w.heap.size + 1) (o' := 1) (u := .slice none 0 0) u0 (Or.inr (by decide))).1
  have u2 := (Own.set (u := .slice none 0 0) (Own.other (b' := w.heap.size + 1) (o' := 0) (u := .string ⟨#[]⟩) O2 (Or.inr (by decide)))).1
  have gf : Gr w ((W1.setCell ⟨w.heap.size + 1, 0, none⟩ (.string ⟨#[]⟩)).setCell ⟨w.heap.size + 1, 1, none⟩ (.slice none 0 0)) := Gr.setCell (Gr.setCell g1 (by simp only; omega) _) (by simp only; omega) _
  replace u0 := u0.1
  go_wp2_with fail
  refine bodyPost_ret (by simp [results, Try.results24, go_sem, u1, u2]; try rfl) rfl ?_
  exact ⟨rfl, gf⟩

set_option maxRecDepth 100000 in
set_option maxHeartbeats 4000000 in
theorem dry_n2 (nd : ByteArray) (A : Option Addr) (n c : Nat) (daily step kk : Int) (w : World) (HN : Hid (∀ W, Calls Try.prog 50 #[.string nd] W fun e w' => e = .returned (.bool true) ∧ W = w')) (HV : Hid (∀ W, Gr w W → Calls Try.prog 43 #[.slice A n c] W fun e w' => e = .returned (.bool false) ∧ Gr W w')) : Calls Try.prog 24 #[.string nd, .int .i64 daily, .slice A n c, .int .i64 step, .int .i64 kk] w fun e w' => e = .returned (.tuple #[.agg #[.string ⟨#[]⟩, .slice none 0 0], .int .i64 1]) ∧ Gr w w' := by
  go_enter Try.func24, Try.ntmps24
  go_wp2_with fail
  (first | refine name_world ?_ | refine (show (∀ W, W = _ → Calls _ _ _ W _) → Calls _ _ _ _ _ from fun h => h _ rfl) ?_); intro W1 hW1
  have g1 : Gr w W1 := by rw [hW1]; exact gr_auto
  have k0 : W1.cell? ⟨w.heap.size, 0, none⟩ = some (.int .i64 daily) := by rw [hW1]; simp [go_sem]
  have O1 : Own W1 (w.heap.size + 1) 0 (.string ⟨#[]⟩) := ⟨by rw [hW1]; simp [go_sem], by rw [hW1]; simp [go_sem]⟩
  have O2 : Own W1 (w.heap.size + 1) 1 (.slice none 0 0) := ⟨by rw [hW1]; simp [go_sem], by rw [hW1]; simp [go_sem]⟩
  clear hW1
  refine (HN.out _).mono ?_
  rintro e w2 ⟨rfl, rfl⟩
  go_wp2_with fail
  refine (HV.out _ (by exact g1)).mono ?_
  rintro e w2 ⟨rfl, hb2⟩
  have g2 := g1.trans hb2
  replace k0 := Gr.at hb2 k0; replace O1 := O1.gr hb2; replace O2 := O2.gr hb2
  have o10 := O1.1; have o11 := O1.2; have o20 := O2.1; have o21 := O2.2
  have u0 := Own.set (u := .string ⟨#[]⟩) O1
  have u1 := (Own.other (b' := w.heap.size + 1) (o' := 1) (u := .slice none 0 0) u0 (Or.inr (by decide))).1
  have u2 := (Own.set (u := .slice none 0 0) (Own.other (b' := w.heap.size + 1) (o' := 0) (u := .string ⟨#[]⟩) O2 (Or.inr (by decide)))).1
  have gf : Gr w ((w2.setCell ⟨w.heap.size + 1, 0, none⟩ (.string ⟨#[]⟩)).setCell ⟨w.heap.size + 1, 1, none⟩ (.slice none 0 0)) := Gr.setCell (Gr.setCell g2 (by simp only; omega) _) (by simp only; omega) _
  replace u0 := u0.1
  go_wp2_with fail
  refine bodyPost_ret (by simp [results, Try.results24, go_sem, u1, u2]; try rfl) rfl ?_
  exact ⟨rfl, gf⟩

set_option maxRecDepth 100000 in
set_option maxHeartbeats 4000000 in
theorem dry_n3 (nd : ByteArray) (A : Option Addr) (n c : Nat) (daily step kk : Int) (w : World) (HN : Hid (∀ W, Calls Try.prog 50 #[.string nd] W fun e w' => e = .returned (.bool true) ∧ W = w')) (HV : Hid (∀ W, Gr w W → Calls Try.prog 43 #[.slice A n c] W fun e w' => e = .returned (.bool true) ∧ Gr W w')) (hn1 : 1 ≤ n) (hn : n ≤ 1000) (hd : (86400 % (n : Int) != 0) = true) : Calls Try.prog 24 #[.string nd, .int .i64 daily, .slice A n c, .int .i64 step, .int .i64 kk] w fun e w' => e = .returned (.tuple #[.agg #[.string ⟨#[]⟩, .slice none 0 0], .int .i64 1]) ∧ Gr w w' := by
  have nz : (n : Int) ≠ 0 := by omega
  go_enter Try.func24, Try.ntmps24
  go_wp2_with fail
  (first | refine name_world ?_ | refine (show (∀ W, W = _ → Calls _ _ _ W _) → Calls _ _ _ _ _ from fun h => h _ rfl) ?_); intro W1 hW1
  have g1 : Gr w W1 := by rw [hW1]; exact gr_auto
  have k0 : W1.cell? ⟨w.heap.size, 0, none⟩ = some (.int .i64 daily) := by rw [hW1]; simp [go_sem]
  have O1 : Own W1 (w.heap.size + 1) 0 (.string ⟨#[]⟩) := ⟨by rw [hW1]; simp [go_sem], by rw [hW1]; simp [go_sem]⟩
  have O2 : Own W1 (w.heap.size + 1) 1 (.slice none 0 0) := ⟨by rw [hW1]; simp [go_sem], by rw [hW1]; simp [go_sem]⟩
  clear hW1
  refine (HN.out _).mono ?_
  rintro e w2 ⟨rfl, rfl⟩
  go_wp2_with fail
  refine (HV.out _ (by exact g1)).mono ?_
  rintro e w2 ⟨rfl, hb2⟩
  have g2 := g1.trans hb2
  replace k0 := Gr.at hb2 k0; replace O1 := O1.gr hb2; replace O2 := O2.gr hb2
  have o10 := O1.1; have o11 := O1.2; have o20 := O2.1; have o21 := O2.2
  have u0 := Own.set (u := .string ⟨#[]⟩) O1
  have u1 := (Own.other (b' := w.heap.size + 1) (o' := 1) (u := .slice none 0 0) u0 (Or.inr (by decide))).1
  have u2 := (Own.set (u := .slice none 0 0) (Own.other (b' := w.heap.size + 1) (o' := 0) (u := .string ⟨#[]⟩) O2 (Or.inr (by decide)))).1
  have gf : Gr w ((w2.setCell ⟨w.heap.size + 1, 0, none⟩ (.string ⟨#[]⟩)).setCell ⟨w.heap.size + 1, 1, none⟩ (.slice none 0 0)) := Gr.setCell (Gr.setCell g2 (by simp only; omega) _) (by simp only; omega) _
  replace u0 := u0.1
  go_wp2_with fail
  refine bodyPost_ret (by simp [results, Try.results24, go_sem, u1, u2]; try rfl) rfl ?_
  exact ⟨rfl, gf⟩

set_option maxRecDepth 100000 in
set_option maxHeartbeats 4000000 in
theorem dry_n4 (nd : ByteArray) (A : Option Addr) (n c : Nat) (daily step kk : Int) (w : World) (HN : Hid (∀ W, Calls Try.prog 50 #[.string nd] W fun e w' => e = .returned (.bool true) ∧ W = w')) (HV : Hid (∀ W, Gr w W → Calls Try.prog 43 #[.slice A n c] W fun e w' => e = .returned (.bool true) ∧ Gr W w')) (hn1 : 1 ≤ n) (hn : n ≤ 1000) (hd : (86400 % (n : Int) != 0) = false) (HD : Hid (∀ W, Calls Try.prog 51 #[.int .i64 daily, .int .i64 1099511627776] W fun e w' => e = .returned (.bool false) ∧ W = w')) : Calls Try.prog 24 #[.string nd, .int .i64 daily, .slice A n c, .int .i64 step, .int .i64 kk] w fun e w' => e = .returned (.tuple #[.agg #[.string ⟨#[]⟩, .slice none 0 0], .int .i64 2]) ∧ Gr w w' := by
  have nz : (n : Int) ≠ 0 := by omega
  go_enter Try.func24, Try.ntmps24
  go_wp2_with fail
  (first | refine name_world ?_ | refine (show (∀ W, W = _ → Calls _ _ _ W _) → Calls _ _ _ _ _ from fun h => h _ rfl) ?_); intro W1 hW1
  have g1 : Gr w W1 := by rw [hW1]; exact gr_auto
  have k0 : W1.cell? ⟨w.heap.size, 0, none⟩ = some (.int .i64 daily) := by rw [hW1]; simp [go_sem]
  have O1 : Own W1 (w.heap.size + 1) 0 (.string ⟨#[]⟩) := ⟨by rw [hW1]; simp [go_sem], by rw [hW1]; simp [go_sem]⟩
  have O2 : Own W1 (w.heap.size + 1) 1 (.slice none 0 0) := ⟨by rw [hW1]; simp [go_sem], by rw [hW1]; simp [go_sem]⟩
  clear hW1
  refine (HN.out _).mono ?_
  rintro e w2 ⟨rfl, rfl⟩
  go_wp2_with fail
  refine (HV.out _ (by exact g1)).mono ?_
  rintro e w2 ⟨rfl, hb2⟩
  have g2 := g1.trans hb2
  replace k0 := Gr.at hb2 k0; replace O1 := O1.gr hb2; replace O2 := O2.gr hb2
  go_wp2_with fail
  refine (HD.out _).mono ?_
  rintro e w3 ⟨rfl, rfl⟩
  have o10 := O1.1; have o11 := O1.2; have o20 := O2.1; have o21 := O2.2
  have u0 := Own.set (u := .string ⟨#[]⟩) O1
  have u1 := (Own.other (b' := w.heap.size + 1) (o' := 1) (u := .slice none 0 0) u0 (Or.inr (by decide))).1
  have u2 := (Own.set (u := .slice none 0 0) (Own.other (b' := w.heap.size + 1) (o' := 0) (u := .string ⟨#[]⟩) O2 (Or.inr (by decide)))).1
  have gf : Gr w ((w2.setCell ⟨w.heap.size + 1, 0, none⟩ (.string ⟨#[]⟩)).setCell ⟨w.heap.size + 1, 1, none⟩ (.slice none 0 0)) := Gr.setCell (Gr.setCell g2 (by simp only; omega) _) (by simp only; omega) _
  replace u0 := u0.1
  go_wp2_with fail
  refine bodyPost_ret (by simp [results, Try.results24, go_sem, u1, u2]; try rfl) rfl ?_
  exact ⟨rfl, gf⟩

set_option maxRecDepth 100000 in
set_option maxHeartbeats 4000000 in
theorem dry_n5 (nd : ByteArray) (A : Option Addr) (n c : Nat) (daily step kk : Int) (w : World) (HN : Hid (∀ W, Calls Try.prog 50 #[.string nd] W fun e w' => e = .returned (.bool true) ∧ W = w')) (HV : Hid (∀ W, Gr w W → Calls Try.prog 43 #[.slice A n c] W fun e w' => e = .returned (.bool true) ∧ Gr W w')) (hn1 : 1 ≤ n) (hn : n ≤ 1000) (hd : (86400 % (n : Int) != 0) = false) (HD : Hid (∀ W, Calls Try.prog 51 #[.int .i64 daily, .int .i64 1099511627776] W fun e w' => e = .returned (.bool true) ∧ W = w')) (hs : step < 1) : Calls Try.prog 24 #[.string nd, .int .i64 daily, .slice A n c, .int .i64 step, .int .i64 kk] w fun e w' => e = .returned (.tuple #[.agg #[.string ⟨#[]⟩, .slice none 0 0], .int .i64 2]) ∧ Gr w w' := by
  have nz : (n : Int) ≠ 0 := by omega
  go_enter Try.func24, Try.ntmps24
  go_wp2_with fail
  (first | refine name_world ?_ | refine (show (∀ W, W = _ → Calls _ _ _ W _) → Calls _ _ _ _ _ from fun h => h _ rfl) ?_); intro W1 hW1
  have g1 : Gr w W1 := by rw [hW1]; exact gr_auto
  have k0 : W1.cell? ⟨w.heap.size, 0, none⟩ = some (.int .i64 daily) := by rw [hW1]; simp [go_sem]
  have O1 : Own W1 (w.heap.size + 1) 0 (.string ⟨#[]⟩) := ⟨by rw [hW1]; simp [go_sem], by rw [hW1]; simp [go_sem]⟩
  have O2 : Own W1 (w.heap.size + 1) 1 (.slice none 0 0) := ⟨by rw [hW1]; simp [go_sem], by rw [hW1]; simp [go_sem]⟩
  clear hW1
  refine (HN.out _).mono ?_
  rintro e w2 ⟨rfl, rfl⟩
  go_wp2_with fail
  refine (HV.out _ (by exact g1)).mono ?_
  rintro e w2 ⟨rfl, hb2⟩
  have g2 := g1.trans hb2
  replace k0 := Gr.at hb2 k0; replace O1 := O1.gr hb2; replace O2 := O2.gr hb2
  go_wp2_with fail
  refine (HD.out _).mono ?_
  rintro e w3 ⟨rfl, rfl⟩
  have o10 := O1.1; have o11 := O1.2; have o20 := O2.1; have o21 := O2.2
  have u0 := Own.set (u := .string ⟨#[]⟩) O1
  have u1 := (Own.other (b' := w.heap.size + 1) (o' := 1) (u := .slice none 0 0) u0 (Or.inr (by decide))).1
  have u2 := (Own.set (u := .slice none 0 0) (Own.other (b' := w.heap.size + 1) (o' := 0) (u := .string ⟨#[]⟩) O2 (Or.inr (by decide)))).1
  have gf : Gr w ((w2.setCell ⟨w.heap.size + 1, 0, none⟩ (.string ⟨#[]⟩)).setCell ⟨w.heap.size + 1, 1, none⟩ (.slice none 0 0)) := Gr.setCell (Gr.setCell g2 (by simp only; omega) _) (by simp only; omega) _
  replace u0 := u0.1
  go_wp2_with fail
  refine bodyPost_ret (by simp [results, Try.results24, go_sem, u1, u2]; try rfl) rfl ?_
  exact ⟨rfl, gf⟩

set_option maxRecDepth 100000 in
set_option maxHeartbeats 4000000 in
theorem dry_n6 (nd : ByteArray) (A : Option Addr) (n c : Nat) (daily step kk : Int) (w : World) (HN : Hid (∀ W, Calls Try.prog 50 #[.string nd] W fun e w' => e = .returned (.bool true) ∧ W = w')) (HV : Hid (∀ W, Gr w W → Calls Try.prog 43 #[.slice A n c] W fun e w' => e = .returned (.bool true) ∧ Gr W w')) (hn1 : 1 ≤ n) (hn : n ≤ 1000) (hd : (86400 % (n : Int) != 0) = false) (HD : Hid (∀ W, Calls Try.prog 51 #[.int .i64 daily, .int .i64 1099511627776] W fun e w' => e = .returned (.bool true) ∧ W = w')) (hs : 1 ≤ step) (hs2 : 86400 < step) : Calls Try.prog 24 #[.string nd, .int .i64 daily, .slice A n c, .int .i64 step, .int .i64 kk] w fun e w' => e = .returned (.tuple #[.agg #[.string ⟨#[]⟩, .slice none 0 0], .int .i64 2]) ∧ Gr w w' := by
  have nz : (n : Int) ≠ 0 := by omega
  go_enter Try.func24, Try.ntmps24
  go_wp2_with fail
  (first | refine name_world ?_ | refine (show (∀ W, W = _ → Calls _ _ _ W _) → Calls _ _ _ _ _ from fun h => h _ rfl) ?_); intro W1 hW1
  have g1 : Gr w W1 := by rw [hW1]; exact gr_auto
  have k0 : W1.cell? ⟨w.heap.size, 0, none⟩ = some (.int .i64 daily) := by rw [hW1]; simp [go_sem]
  have O1 : Own W1 (w.heap.size + 1) 0 (.string ⟨#[]⟩) := ⟨by rw [hW1]; simp [go_sem], by rw [hW1]; simp [go_sem]⟩
  have O2 : Own W1 (w.heap.size + 1) 1 (.slice none 0 0) := ⟨by rw [hW1]; simp [go_sem], by rw [hW1]; simp [go_sem]⟩
  clear hW1
  refine (HN.out _).mono ?_
  rintro e w2 ⟨rfl, rfl⟩
  go_wp2_with fail
  refine (HV.out _ (by exact g1)).mono ?_
  rintro e w2 ⟨rfl, hb2⟩
  have g2 := g1.trans hb2
  replace k0 := Gr.at hb2 k0; replace O1 := O1.gr hb2; replace O2 := O2.gr hb2
  go_wp2_with fail
  refine (HD.out _).mono ?_
  rintro e w3 ⟨rfl, rfl⟩
  have o10 := O1.1; have o11 := O1.2; have o20 := O2.1; have o21 := O2.2
  have u0 := Own.set (u := .string ⟨#[]⟩) O1
  have u1 := (Own.other (b' := w.heap.size + 1) (o' := 1) (u := .slice none 0 0) u0 (Or.inr (by decide))).1
  have u2 := (Own.set (u := .slice none 0 0) (Own.other (b' := w.heap.size + 1) (o' := 0) (u := .string ⟨#[]⟩) O2 (Or.inr (by decide)))).1
  have gf : Gr w ((w2.setCell ⟨w.heap.size + 1, 0, none⟩ (.string ⟨#[]⟩)).setCell ⟨w.heap.size + 1, 1, none⟩ (.slice none 0 0)) := Gr.setCell (Gr.setCell g2 (by simp only; omega) _) (by simp only; omega) _
  replace u0 := u0.1
  go_wp2_with fail
  refine bodyPost_ret (by simp [results, Try.results24, go_sem, u1, u2]; try rfl) rfl ?_
  exact ⟨rfl, gf⟩

set_option maxRecDepth 100000 in
set_option maxHeartbeats 4000000 in
theorem dry_n7 (nd : ByteArray) (A : Option Addr) (n c : Nat) (daily step kk : Int) (w : World) (HN : Hid (∀ W, Calls Try.prog 50 #[.string nd] W fun e w' => e = .returned (.bool true) ∧ W = w')) (HV : Hid (∀ W, Gr w W → Calls Try.prog 43 #[.slice A n c] W fun e w' => e = .returned (.bool true) ∧ Gr W w')) (hn1 : 1 ≤ n) (hn : n ≤ 1000) (hd : (86400 % (n : Int) != 0) = false) (HD : Hid (∀ W, Calls Try.prog 51 #[.int .i64 daily, .int .i64 1099511627776] W fun e w' => e = .returned (.bool true) ∧ W = w')) (HK : Hid (∀ W, Calls Try.prog 51 #[.int .i64 kk, .int .i64 10000] W fun e w' => e = .returned (.bool false) ∧ W = w')) (hs : 1 ≤ step) (hs2 : step ≤ 86400) : Calls Try.prog 24 #[.string nd, .int .i64 daily, .slice A n c, .int .i64 step, .int .i64 kk] w fun e w' => e = .returned (.tuple #[.agg #[.string ⟨#[]⟩, .slice none 0 0], .int .i64 2]) ∧ Gr w w' := by
  have nz : (n : Int) ≠ 0 := by omega
  go_enter Try.func24, Try.ntmps24
  go_wp2_with fail
  (first | refine name_world ?_ | refine (show (∀ W, W = _ → Calls _ _ _ W _) → Calls _ _ _ _ _ from fun h => h _ rfl) ?_); intro W1 hW1
  have g1 : Gr w W1 := by rw [hW1]; exact gr_auto
  have k0 : W1.cell? ⟨w.heap.size, 0, none⟩ = some (.int .i64 daily) := by rw [hW1]; simp [go_sem]
  have O1 : Own W1 (w.heap.size + 1) 0 (.string ⟨#[]⟩) := ⟨by rw [hW1]; simp [go_sem], by rw [hW1]; simp [go_sem]⟩
  have O2 : Own W1 (w.heap.size + 1) 1 (.slice none 0 0) := ⟨by rw [hW1]; simp [go_sem], by rw [hW1]; simp [go_sem]⟩
  clear hW1
  refine (HN.out _).mono ?_
  rintro e w2 ⟨rfl, rfl⟩
  go_wp2_with fail
  refine (HV.out _ (by exact g1)).mono ?_
  rintro e w2 ⟨rfl, hb2⟩
  have g2 := g1.trans hb2
  replace k0 := Gr.at hb2 k0; replace O1 := O1.gr hb2; replace O2 := O2.gr hb2
  go_wp2_with fail
  refine (HD.out _).mono ?_
  rintro e w3 ⟨rfl, rfl⟩
  go_wp2_with fail
  refine (HK.out _).mono ?_
  rintro e w3 ⟨rfl, rfl⟩
  have o10 := O1.1; have o11 := O1.2; have o20 := O2.1; have o21 := O2.2
  have u0 := Own.set (u := .string ⟨#[]⟩) O1
  have u1 := (Own.other (b' := w.heap.size + 1) (o' := 1) (u := .slice none 0 0) u0 (Or.inr (by decide))).1
  have u2 := (Own.set (u := .slice none 0 0) (Own.other (b' := w.heap.size + 1) (o' := 0) (u := .string ⟨#[]⟩) O2 (Or.inr (by decide)))).1
  have gf : Gr w ((w2.setCell ⟨w.heap.size + 1, 0, none⟩ (.string ⟨#[]⟩)).setCell ⟨w.heap.size + 1, 1, none⟩ (.slice none 0 0)) := Gr.setCell (Gr.setCell g2 (by simp only; omega) _) (by simp only; omega) _
  replace u0 := u0.1
  go_wp2_with fail
  refine bodyPost_ret (by simp [results, Try.results24, go_sem, u1, u2]; try rfl) rfl ?_
  exact ⟨rfl, gf⟩

end Go.Proofs.Ytjighhphadfoiaa
namespace Go.Proofs.Ytjighhphadfoiaa
open Go.RowKit
theorem dry_no (nd : ByteArray) (s : Ba.SlI) (daily step kk : Int) (w : World) (hm : nd.size ≤ 9223372036854775807) (hs : s.At w) (he : Ba.dryE nd daily step kk s ≠ 0) : Calls Try.prog 24 #[.string nd, .int .i64 daily, .slice s.A s.n s.c, .int .i64 step, .int .i64 kk] w fun e w' => e = .returned (.tuple #[.agg #[.string ⟨#[]⟩, .slice none 0 0], .int .i64 (Ba.dryE nd daily step kk s)]) ∧ Gr w w' := by
  have HN := Lib.hid (fun W => isname_all nd W hm)
  have HV := Lib.hid (fun W (hh : Gr w W) => hvalid_any s W (hs.gr hh))
  have HD := Lib.hid (fun W => rwithin_any_ daily 1099511627776 W)
  have HK := Lib.hid (fun W => rwithin_any_ kk 10000 W)
  unfold Ba.dryE at he ⊢
  cases h1 : Dc.isName nd.data.toList
  · rw [h1] at HN
    exact dry_n1 nd s.A s.n s.c daily step kk w HN
  rw [h1] at HN he
  rw [if_pos rfl] at he ⊢
  cases h2 : Ba.uniB s
  · rw [h2] at HV
    exact dry_n2 nd s.A s.n s.c daily step kk w HN HV
  obtain ⟨u1, u2, -, -⟩ := Ba.uni_parts h2
  rw [h2] at HV he
  rw [if_pos rfl] at he ⊢
  by_cases h3 : 86400 % (s.n : Int) = 0
  rotate_left
  · rw [if_neg h3]
    exact dry_n3 nd s.A s.n s.c daily step kk w HN HV u1 u2 (bne_iff_ne.2 h3)
  have h3' : (86400 % (s.n : Int) != 0) = false := by rw [h3]; rfl
  rw [if_pos h3] at he ⊢
  cases h4 : Ba.bet daily 0 1099511627776
  · rw [h4] at HD
    exact dry_n4 nd s.A s.n s.c daily step kk w HN HV u1 u2 h3' HD
  rw [h4] at HD he
  rw [if_pos rfl] at he ⊢
  by_cases h5 : step < 1
  · rw [if_neg (by rw [Ba.bet_iff]; omega)]
    exact dry_n5 nd s.A s.n s.c daily step kk w HN HV u1 u2 h3' HD h5
  by_cases h6 : 86400 < step
  · rw [if_neg (by rw [Ba.bet_iff]; omega)]
    exact dry_n6 nd s.A s.n s.c daily step kk w HN HV u1 u2 h3' HD (by omega) h6
  have h7 : Ba.bet step 1 86400 = true := by rw [Ba.bet_iff]; omega
  rw [if_pos h7] at he ⊢
  cases h8 : Ba.bet kk 0 10000
  · rw [h8] at HK
    exact dry_n7 nd s.A s.n s.c daily step kk w HN HV u1 u2 h3' HD HK (by omega) (by omega)
  · rw [h8] at he
    exact absurd (if_pos rfl) he
theorem dryE_ok {nd : ByteArray} {s : Ba.SlI} {daily step kk : Int} (he : Ba.dryE nd daily step kk s = 0) : Dc.isName nd.data.toList = true ∧ Ba.uniB s = true ∧ 86400 % (s.n : Int) = 0 ∧ (0 ≤ daily ∧ daily ≤ 1099511627776) ∧ (1 ≤ step ∧ step ≤ 86400) ∧ (0 ≤ kk ∧ kk ≤ 10000) := by
  unfold Ba.dryE at he
  split at he
  rotate_left
  · omega
  rename_i h1
  split at he
  rotate_left
  · omega
  rename_i h2
  split at he
  rotate_left
  · omega
  rename_i h3
  split at he
  rotate_left
  · omega
  rename_i h4
  split at he
  rotate_left
  · omega
  rename_i h5
  split at he
  rotate_left
  · omega
  rename_i h6
  exact ⟨h1, h2, h3, (Ba.bet_iff _ _ _).1 h4, (Ba.bet_iff _ _ _).1 h5, (Ba.bet_iff _ _ _).1 h6⟩
end Go.Proofs.Ytjighhphadfoiaa
namespace Go.Proofs.Ytjighhphadfoiaa
open Go.RowKit
attribute [local go_sem ↓] Go.wp_at_zero Go.wp_at_succ

set_option maxRecDepth 100000 in
set_option maxHeartbeats 4000000 in
theorem upto_ok (daily t m dy rs pm rm dd ym qv wh sa sb b0 b1 : Int) (b o n c p : Nat) (w : World) (hn : n ≤ 1000) (hc : n ≤ c) (hcm : c ≤ 9223372036854775807) (hn1 : 1 ≤ n) (ht : 0 ≤ t ∧ t ≤ 864000000) (hm : 86400 / (n : Int) = m) (hm1 : 1 ≤ m ∧ m ≤ 86400) (hdy : t / 86400 = dy) (hrs : t % 86400 = rs) (hp : rs / m = (p : Int)) (hpn : p < n) (hpm : (p : Int) * m = pm) (hrm : rs - pm = rm) (hdd : dy * daily = dd) (hym : (b1 - b0) * rm = ym) (hqv : ym / m = qv)
    (B0 : 0 ≤ dy ∧ dy ≤ 10000) (B1 : 0 ≤ rs ∧ rs < 86400) (B2 : 0 ≤ pm ∧ pm ≤ 86400) (B3 : 0 ≤ rm ∧ rm ≤ 86400) (B4 : 0 ≤ dd ∧ dd ≤ 1000000000000000000) (B5 : 0 ≤ ym ∧ ym ≤ 1000000000000000000) (B6 : 0 ≤ qv ∧ qv ≤ 1000000000000000000) (B7 : 0 ≤ b0 ∧ b0 ≤ 1099511627776) (B8 : 0 ≤ b1 - b0 ∧ b1 - b0 ≤ 1099511627776)
    (H0 : Hid (∀ W, Gr w W → Calls Try.prog 66 #[.slice (some ⟨b, o, none⟩) n c] W fun e w' => e = .returned (.int .i64 wh) ∧ Gr W w')) (Ha : Hid (∀ W, Gr w W → Calls Try.prog 66 #[.slice (some ⟨b, o, none⟩) p c] W fun e w' => e = .returned (.int .i64 sa) ∧ Gr W w')) (Hb : Hid (∀ W, Gr w W → Calls Try.prog 66 #[.slice (some ⟨b, o, none⟩) (p + 1) c] W fun e w' => e = .returned (.int .i64 sb) ∧ Gr W w'))
    (Pa : Hid (∀ W, Calls Try.prog 88 #[.int .i64 daily, .int .i64 sa, .int .i64 wh] W fun e w' => e = .returned (.int .i64 b0) ∧ Gr W w')) (Pb : Hid (∀ W, Calls Try.prog 88 #[.int .i64 daily, .int .i64 sb, .int .i64 wh] W fun e w' => e = .returned (.int .i64 b1) ∧ Gr W w')) :
    Calls Try.prog 57 #[.int .i64 daily, .slice (some ⟨b, o, none⟩) n c, .int .i64 t] w fun e w' => e = .returned (.int .i64 (dd + b0 + qv)) ∧ Gr w w' := by
  have nz : (n : Int) ≠ 0 := by omega
  have mz : m ≠ 0 := by omega
  have p0 : (0 : Int) ≤ (p : Int) := by omega
  have p1 : (p : Int) < (n : Int) := by omega
  have p2 : (p : Int) + 1 ≤ (n : Int) := by omega
  have p3 : ((p + 1 : Nat) : Int) = (p : Int) + 1 := by omega
  have p4 : ((p : Int) + 1).toNat = p + 1 := by omega
  have s1 : 0 ≤ dd + b0 ∧ dd + b0 ≤ 2000000000000000000 := by omega
  have s2 : 0 ≤ dd + b0 + qv ∧ dd + b0 + qv ≤ 4000000000000000000 := by omega
  go_enter Try.func57, Try.ntmps57
  go_wp2_with fail
  refine (H0.out _ (by exact Gr.refl _)).mono ?_
  rintro e w1 ⟨rfl, g1⟩
  go_wp2_with fail
  refine (Ha.out _ (by exact g1)).mono ?_
  rintro e w2 ⟨rfl, hb2⟩
  have g2 := g1.trans hb2
  go_wp2_with fail
  refine (Pa.out _).mono ?_
  rintro e w3 ⟨rfl, hb3⟩
  have g3 := g2.trans hb3
  go_wp2_with fail
  refine (Hb.out _ (by exact g3)).mono ?_
  rintro e w4 ⟨rfl, hb4⟩
  have g4 := g3.trans hb4
  go_wp2_with fail
  refine (Pb.out _).mono ?_
  rintro e w5 ⟨rfl, hb5⟩
  have g5 := g4.trans hb5
  go_wp2_with fail
  go_ret
  exact ⟨rfl, g5⟩

set_option maxHeartbeats 1000000 in
theorem upto_any (s : Ba.SlI) (daily t : Int) (w : World) (hs : s.At w) (hu : Ba.uniB s = true) (hd : 86400 % (s.n : Int) = 0) (h1 : 0 ≤ daily ∧ daily ≤ 1099511627776) (ht : 0 ≤ t ∧ t ≤ 864000000) : Calls Try.prog 57 #[.int .i64 daily, .slice s.A s.n s.c, .int .i64 t] w fun e w' => e = .returned (.int .i64 (Ba.upI s.X daily s.n t)) ∧ Gr w w' := by
  have H := Ba.hour_of hu hd h1 ht
  obtain ⟨u1, u2, -, -⟩ := Ba.uni_parts hu
  have hA := hs.hA (by omega)
  have us := fun i (hi : i ≤ s.n) => Ba.uni_sum hu hi
  obtain ⟨p, hp⟩ : ∃ p, (t % 86400 / (86400 / (s.n : Int))).toNat = p := ⟨_, rfl⟩
  obtain ⟨m, hm⟩ : ∃ m, 86400 / (s.n : Int) = m := ⟨_, rfl⟩
  have Hm := H.m; have Hp := H.p; have Hpn := H.pn; have Hdd := H.dd; have Hym := H.ym; have Hqv := H.qv
  unfold Ba.upI
  rw [hm] at Hm Hp Hpn Hym Hqv hp
  rw [hp] at Hp Hpn Hym Hqv
  rw [hm, hp]
  have c0 := Ba.cut_le hu h1.1 (i := p) (by omega)
  have sh := Ba.shr_le hu h1.1 (i := p) Hpn
  have em := Int.mul_ediv_add_emod (t % 86400) m
  have er0 : 0 ≤ t % 86400 % m := Int.emod_nonneg _ (by omega)
  have er1 : t % 86400 % m < m := Int.emod_lt_of_pos _ (by omega)
  rw [Hp] at em
  obtain ⟨pm, hpm⟩ : ∃ z, (p : Int) * m = z := ⟨_, rfl⟩
  rw [Int.mul_comm, hpm] at em
  have pm0 : 0 ≤ pm := by rw [← hpm]; exact Int.mul_nonneg (by omega) (by omega)
  obtain ⟨tn, rfl⟩ : ∃ z : Nat, daily = (z : Int) := ⟨daily.toNat, by omega⟩
  have ib : ∀ k, k ≤ s.n → ∀ i, i ≤ k → Ba.i64 (Ba.sumI s.X i) := fun k hk i hi => by have := us i (by omega); unfold Ba.i64; omega
  have pre : ∀ k, k ≤ s.n → ∀ W, Gr w W → Calls Try.prog 66 #[.slice s.A k s.c] W fun e w' => e = .returned (.int .i64 (Ba.sumI s.X k)) ∧ Gr W w' := fun k hk W hW => rsumof_any ⟨s.A, k, s.c, s.b, s.o, s.X⟩ W ⟨fun _ => hA, by have := hs.hc; simp only; omega, hs.hb, fun i hi => (hs.gr hW).hX i (by simp only at hi; omega)⟩ (ib k hk)
  have key := upto_ok (tn : Int) t m (t / 86400) (t % 86400) pm (t % 86400 % m) (t / 86400 * (tn : Int)) (Ba.shrI s.X tn s.n p * (t % 86400 % m)) (Ba.shrI s.X tn s.n p * (t % 86400 % m) / m) (Ba.sumI s.X s.n) (Ba.sumI s.X p) (Ba.sumI s.X (p + 1)) (Ba.cutI s.X tn s.n p) (Ba.cutI s.X tn s.n (p + 1)) s.b s.o s.n s.c p w u2 hs.hc hs.hb u1 ht hm Hm rfl rfl Hp Hpn hpm (by omega) rfl rfl rfl (by omega) (by omega) (by omega) (by omega) Hdd Hym Hqv (by omega) (by unfold Ba.shrI at sh; omega)
    (Lib.hid (by rw [← hA]; exact pre s.n (Nat.le_refl _))) (Lib.hid (by rw [← hA]; exact pre p (by omega))) (Lib.hid (by rw [← hA]; exact pre (p + 1) (by omega)))
    (Lib.hid fun W => part02_any tn (Ba.sumI s.X p) (Ba.sumI s.X s.n) W (by omega) (by have := us p (by omega); omega) (by have := us s.n (Nat.le_refl _); have := (Ba.uni_parts hu).2.2.2; omega)) (Lib.hid fun W => part02_any tn (Ba.sumI s.X (p + 1)) (Ba.sumI s.X s.n) W (by omega) (by have := us (p + 1) (by omega); omega) (by have := us s.n (Nat.le_refl _); have := (Ba.uni_parts hu).2.2.2; omega))
  rw [← hA] at key
  exact key
end Go.Proofs.Ytjighhphadfoiaa
namespace Go.Proofs.Ytjighhphadfoiaa
open Go.RowKit
attribute [local go_sem ↓] Go.wp_at_zero Go.wp_at_succ

set_option maxRecDepth 100000 in
set_option maxHeartbeats 8000000 in
theorem rdry_ok (nd : ByteArray) (A : Option Addr) (n c kk : Nat) (daily step : Int) (w : World) (hn1 : 1 ≤ n) (hn : n ≤ 1000) (hdv : Hid (86400 % (n : Int) = 0)) (hda : 0 ≤ daily ∧ daily ≤ 1099511627776) (hst : 1 ≤ step ∧ step ≤ 86400) (hk : kk ≤ 10000)
    (HN : Hid (∀ W, Calls Try.prog 56 #[.string nd] W fun e w' => e = .returned (.bool true) ∧ W = w'))
    (HV : Hid (∀ W, Gr w W → Calls Try.prog 45 #[.slice A n c] W fun e w' => e = .returned (.bool true) ∧ Gr W w'))
    (up : Nat → Int) (HUB : Hid (∀ j, j ≤ kk → 0 ≤ up j ∧ up j ≤ 4000000000000000000)) (HTB : Hid (∀ j : Nat, j ≤ kk → 0 ≤ (j : Int) * step ∧ (j : Int) * step ≤ 864000000)) (HT1 : Hid (∀ j : Nat, ((j + 1 : Nat) : Int) * step = ((j : Int) + 1) * step))
    (HU : Hid (∀ j, j ≤ kk → ∀ W, Gr w W → Calls Try.prog 57 #[.int .i64 daily, .slice A n c, .int .i64 ((j : Int) * step)] W fun e w' => e = .returned (.int .i64 (up j)) ∧ Gr W w')) : Calls Try.prog 27 #[.string nd, .int .i64 daily, .slice A n c, .int .i64 step, .int .i64 (kk : Int)] w (fun e w' => ∃ r : Ba.SlI, e = .returned (.tuple #[.agg #[.string nd, .slice r.A r.n r.c], .int .i64 0]) ∧ r.At w' ∧ r.n = kk ∧ (∀ i, i < kk → r.X i = up (i + 1) - up i) ∧ Gr w w') := by
  obtain ⟨i1, hi0, hz0, hz1, hz2⟩ := info_parts info_int
  have KI := Lib.hid hi0; have KZ0 := Lib.hid hz0; have KZ1 := Lib.hid hz1; have KZ2 := Lib.hid hz2
  clear hi0 hz0 hz1 hz2
  have hdv' := hdv.out
  have nz : (n : Int) ≠ 0 := by omega
  have kz0 : (0 : Int) ≤ (kk : Int) := by omega
  have kz1 : (kk : Int) ≤ 10000 := by omega
  go_enter Try.func27, Try.ntmps27
  go_wp2_with fail
  (first | refine name_world ?_ | refine (show (∀ W, W = _ → Calls _ _ _ W _) → Calls _ _ _ _ _ from fun h => h _ rfl) ?_); intro W1 hW1
  have g1 : Gr w W1 := by rw [hW1]; exact gr_auto
  have O1 : Own W1 w.heap.size 0 (.string ⟨#[]⟩) := ⟨by rw [hW1]; simp [go_sem], by rw [hW1]; simp [go_sem]⟩
  have O2 : Own W1 w.heap.size 1 (.slice none 0 0) := ⟨by rw [hW1]; simp [go_sem], by rw [hW1]; simp [go_sem]⟩
  clear hW1
  refine (HN.out _).mono ?_
  rintro e w2 ⟨rfl, rfl⟩
  go_wp2_with fail
  refine (HV.out _ (by exact g1)).mono ?_
  rintro e w5 ⟨rfl, hb2⟩
  have g5 := g1.trans hb2
  replace O1 := O1.gr hb2; replace O2 := O2.gr hb2
  clear HV HN
  have zB := World.block_lt_of_cell? _ _ O1.1
  simp only at zB
  go_wp2_with fail
  (first | refine name_world ?_ | refine (show (∀ W, W = _ → Calls _ _ _ W _) → Calls _ _ _ _ _ from fun h => h _ rfl) ?_); intro W6 hW6
  have gs6 : Gr w5 W6 := by rw [hW6]; exact gr_auto
  have P1 : Own W6 w5.heap.size 0 (.string nd) := ⟨by rw [hW6]; simp [go_sem, *], by rw [hW6]; simp [go_sem, *]⟩
  have P2 : Own W6 w5.heap.size 1 (.slice none 0 0) := ⟨by rw [hW6]; simp [go_sem, *], by rw [hW6]; simp [go_sem, *]⟩
  have nB : w5.heap.size < W6.heap.size := World.block_lt_of_cell? _ _ P1.1
  clear hW6
  replace O1 := O1.gr gs6; replace O2 := O2.gr gs6
  have g6 := g5.trans gs6
  have HP := Lib.hid (And.intro P1 P2)
  have HO12 := Lib.hid (And.intro O1 O2)
  have zO : w.heap.size ≤ w5.heap.size := Gr.size g5
  have HU6 := Lib.hid (fun j hj W (hW : GrY w5.heap.size w5.heap.size W6 W) => HU.out j hj W (GrY.below g6 zO zO hW))
  clear HU O1 O2 P1 P2
  generalize w5.heap.size = BO at *
  go_loopw [13] (fun x wr => ∃ i : Nat, i ≤ kk ∧ x = .int .i64 (i : Int) ∧ (∃ va, Hid (Own wr BO 1 va) ∧ Hid (wr.ownsRow W6.heap.size 3 1 va i ((List.range i).map fun i => .int .i64 (up (i + 1) - up i)))) ∧ Hid (Own wr BO 0 (.string nd)) ∧ GrY BO BO W6 wr) (fun x _ => kk - (intOf x).toNat)
  case atStart => exact ⟨0, Nat.zero_le _, rfl, ⟨_, Lib.hid HP.out.2, Lib.hid ⟨rfl, Or.inl ⟨rfl, rfl⟩⟩⟩, Lib.hid HP.out.1, GrY.refl _ _ _⟩
  case round =>
    clear HP hdv'
    obtain ⟨i, hi, rfl, ⟨va, HC, HO⟩, HD0, hg⟩ := hrel
    by_cases hlt : i < kk
    · have t0 := HTB.out i hi; have t1 := HTB.out (i + 1) hlt
      rw [HT1.out] at t1
      have HU1 := Lib.hid (fun W (hW : Gr wr W) => HU6.out (i + 1) hlt W (hg.gr hW))
      have HU0 := Lib.hid (fun W (hW : Gr wr W) => HU6.out i hi W (hg.gr hW))
      rw [HT1.out] at HU1
      have ub0 := HUB.out i hi; have ub1 := HUB.out (i + 1) hlt
      obtain ⟨un, hun⟩ : ∃ z, up (i + 1) = z := ⟨_, rfl⟩
      obtain ⟨uo, huo⟩ : ∃ z, up i = z := ⟨_, rfl⟩
      rw [hun] at HU1 ub1
      rw [huo] at HU0 ub0
      have HUN := Lib.hid hun; have HUO := Lib.hid huo
      have ew1 : IntKind.i64.wrap (IntKind.i64.wrap ((i : Int) + 1) * step) = ((i : Int) + 1) * step := by rw [wrap_in ((i : Int) + 1) (by omega), wrap_in _ (by omega)]
      have ew0 : IntKind.i64.wrap ((i : Int) * step) = (i : Int) * step := wrap_in _ (by omega)
      have HDN := Lib.hid (wrap_in (un - uo) (by omega))
      rw [← ew1] at HU1
      rw [← ew0] at HU0
      clear ew1 ew0
      have c1 := HC.out.1; have f1 := HC.out.2; have d1 := HD0.out.1; have df1 := HD0.out.2
      have hfar : some BO ≠ va.ownBlock := own_far HO.out nB
      have bw := hg.size
      have bBO := World.block_lt_of_cell? _ _ c1
      simp only at bBO
      clear HU6 HUB HTB HT1 hun huo HC HD0
      generalize w.heap.size = B0 at *
      go_wp2_with fail
      go_region_law (first | (go_simp; go_at_call_of 57 (Value.int IntKind.i64 (IntKind.i64.wrap (IntKind.i64.wrap ((i : Int) + 1) * step))); refine (HU1.out _ gr_auto).mono ?_; rintro e w21 ⟨rfl, hb21⟩; have c21 := Gr.at (w1 := w21) (show Gr wr w21 from gr_auto) c1; have z21 := Gr.size (show Gr wr w21 from gr_auto); have n21 : BO ≠ w21.heap.size := Nat.ne_of_lt (Nat.lt_of_lt_of_le bBO z21); have l21 : BO < w21.heap.size := Nat.lt_of_lt_of_le bBO z21) | (go_simp; go_at_call_of 57 (Value.int IntKind.i64 (IntKind.i64.wrap ((i : Int) * step))); refine (HU0.out _ gr_auto).mono ?_; rintro e w22 ⟨rfl, hb22⟩; have c22 := Gr.at (w1 := w22) (show Gr wr w22 from gr_auto) c1; have z22 := Gr.size (show Gr wr w22 from gr_auto); have n22 : BO ≠ w22.heap.size := Nat.ne_of_lt (Nat.lt_of_lt_of_le bBO z22); have l22 : BO < w22.heap.size := Nat.lt_of_lt_of_le bBO z22) | (refine step_append_lies _ (by rfl) _ _ 23 (by rfl) W6.heap.size 3 i1 (.int .i64 0) 1 8 Try.underlying23 KI.out KZ0.out KZ1.out KZ2.out rfl (by decide) va i ((List.range i).map fun i => .int .i64 (up (i + 1) - up i)) (by rfl) (ownsRow_gr HO.out (by exact gr_auto)) ⟨w22.heap.size, 0, none⟩ 1 1 [.int .i64 (IntKind.i64.wrap (un - uo))] (by rfl) rfl (by intro p u hp; rcases p with _ | p <;> simp at hp <;> (try subst hp) <;> first | (simp [Addr.add, go_sem]; done) | (simp [Addr.add]; done)) (by intro u hu; simp at hu; subst hu; rfl) (by omega) (by unfold maxLen; omega) (by omega) (by simp; omega) _ rfl ?_; intro g9 cp9 w9 hown9 hgrow9 hat9 hlt9; have c9 : w9.cell? ⟨BO, 1, none⟩ = some va := (hgrow9.cell_far ⟨BO, 1, none⟩ (by simp; omega) hfar).trans (Gr.at (show Gr wr _ from gr_auto) c1); have f9 : w9.frozen? ⟨BO, 1, none⟩ = false := (hgrow9.frozen_far ⟨BO, 1, none⟩ (by simp; omega) hfar).trans (Gr.free (show Gr wr _ from gr_auto) c1 f1); have gy9 : GrY BO BO W6 w9 := GrY.grow (base := W6.heap.size) (GrY.gr hg (show Gr wr _ from gr_auto)) (Nat.le_refl _) (ownsRow_gr HO.out (show Gr wr _ from gr_auto)) hgrow9; have hd9 : Own w9 BO 0 (.string nd) := ⟨(hgrow9.cell_far ⟨BO, 0, none⟩ (by simp; omega) hfar).trans (Gr.at (show Gr wr _ from gr_auto) d1), (hgrow9.frozen_far ⟨BO, 0, none⟩ (by simp; omega) hfar).trans (Gr.free (show Gr wr _ from gr_auto) d1 df1)⟩))
      all_goals
        have HOn := Lib.hid (show (w9.setCell ⟨BO, 1, none⟩ (.slice (some ⟨g9, 0, none⟩) (i + 1) cp9)).ownsRow W6.heap.size 3 1 (.slice (some ⟨g9, 0, none⟩) (i + 1) cp9) (i + 1) ((List.range (i + 1)).map fun i => .int .i64 (up (i + 1) - up i)) from ownsRow_set (by rw [List.range_succ, List.map_append, List.map_cons, List.map_nil, HUN.out, HUO.out, ← HDN.out]; exact hown9) nB)
        have HCn := Lib.hid (show Own (w9.setCell ⟨BO, 1, none⟩ (.slice (some ⟨g9, 0, none⟩) (i + 1) cp9)) BO 1 (.slice (some ⟨g9, 0, none⟩) (i + 1) cp9) from Own.set ⟨c9, f9⟩)
        have HDn := Lib.hid (show Own (w9.setCell ⟨BO, 1, none⟩ (.slice (some ⟨g9, 0, none⟩) (i + 1) cp9)) BO 0 (.string nd) from Own.other hd9 (Or.inr (by decide)))
        have gyn := GrY.setCell gy9 (p := ⟨BO, 1, none⟩) rfl (.slice (some ⟨g9, 0, none⟩) (i + 1) cp9)
        clear hown9 hgrow9 hat9 hd9 c9 f9 gy9 HU1 HU0
        go_wp2_with fail
        go_roundw
        case rel => exact ⟨i + 1, by omega, by go_num, ⟨_, HCn, HOn⟩, HDn, gyn⟩
        case measure => simp [intOf]; omega
    · obtain rfl : kk = i := by omega
      clear HU6 HTB HT1
      have c1 := HC.out.1; have f1 := HC.out.2; have d1 := HD0.out.1; have df1 := HD0.out.2
      have r0 := GrY.keep hg (by omega) (by omega) HO12.out.1; have r1 := GrY.keep hg (by omega) (by omega) HO12.out.2
      have e0 := r0.1; have e1 := r0.2; have e2 := r1.1; have e3 := r1.2
      have nq : BO ≠ w.heap.size := by omega
      clear r0 r1
      have hbo : ∀ i, i < kk → Ba.i64 (up (i + 1) - up i) := fun i hi => by
        have h1 := HUB.out i (by omega); have h2 := HUB.out (i + 1) (by omega)
        unfold Ba.i64; omega
      obtain ⟨A9, c9, b9, rfl, q1, q2, q3, q4⟩ := ownsRow_at HO.out
      clear q1 q2 q3 q4
      have HOf := Lib.hid (own_sli (ownsRow_set (B := w.heap.size) (o := 1) (u := .slice A9 kk c9) (ownsRow_set (B := w.heap.size) (o := 0) (u := .string nd) HO.out (by omega)) (by omega)) hbo)
      have gf : Gr w ((wr.setCell ⟨w.heap.size, 0, none⟩ (.string nd)).setCell ⟨w.heap.size, 1, none⟩ (.slice A9 kk c9)) := Gr.setCell (Gr.setCell (GrY.below g6 (by omega) (by omega) hg) (by simp) _) (by simp) _
      have u0 : (wr.setCell ⟨w.heap.size, 0, none⟩ (.string nd)).cell? ⟨w.heap.size, 0, none⟩ = some (.string nd) := (Own.set (o := 0) ⟨e0, e1⟩).1
      have u1 : ((wr.setCell ⟨w.heap.size, 0, none⟩ (.string nd)).setCell ⟨w.heap.size, 1, none⟩ (.slice A9 kk c9)).cell? ⟨w.heap.size, 0, none⟩ = some (.string nd) := (Own.other (o' := 1) (Own.set (o := 0) ⟨e0, e1⟩) (Or.inr (by decide))).1
      have u2 : ((wr.setCell ⟨w.heap.size, 0, none⟩ (.string nd)).setCell ⟨w.heap.size, 1, none⟩ (.slice A9 kk c9)).cell? ⟨w.heap.size, 1, none⟩ = some (.slice A9 kk c9) := (Own.set (Own.other (o := 1) (o' := 0) ⟨e2, e3⟩ (Or.inr (by decide)))).1
      clear hbo HC HO HD0 HO12 HUB
      go_wp2_with fail
      refine bodyPost_ret (by simp [results, Try.results27, go_sem, u1, u2]; try rfl) rfl ?_
      obtain ⟨s, hs, s1, s2, s3⟩ := HOf.out
      simp only [Value.slice.injEq] at hs
      obtain ⟨h1, h2, h3⟩ := hs
      exact ⟨s, by rw [← h1, ← h2, ← h3], s1, s2, fun i hi => s3 i (by omega), gf⟩

end Go.Proofs.Ytjighhphadfoiaa
namespace Go.Proofs.Ytjighhphadfoiaa
open Go.RowKit
attribute [local go_sem ↓] Go.wp_at_zero Go.wp_at_succ

set_option maxRecDepth 100000 in
set_option maxHeartbeats 4000000 in
theorem rdry_n1 (nd : ByteArray) (A : Option Addr) (n c : Nat) (daily step kk : Int) (w : World) (HN : Hid (∀ W, Calls Try.prog 56 #[.string nd] W fun e w' => e = .returned (.bool false) ∧ W = w')) : Calls Try.prog 27 #[.string nd, .int .i64 daily, .slice A n c, .int .i64 step, .int .i64 kk] w fun e w' => e = .returned (.tuple #[.agg #[.string ⟨#[]⟩, .slice none 0 0], .int .i64 1]) ∧ Gr w w' := by
  go_enter Try.func27, Try.ntmps27
  go_wp2_with fail
  (first | refine name_world ?_ | refine (show (∀ W, W = _ → Calls _ _ _ W _) → Calls _ _ _ _ _ from fun h => h _ rfl) ?_); intro W1 hW1
  have g1 : Gr w W1 := by rw [hW1]; exact gr_auto
  have O1 : Own W1 (w.heap.size) 0 (.string ⟨#[]⟩) := ⟨by rw [hW1]; simp [go_sem], by rw [hW1]; simp [go_sem]⟩
  have O2 : Own W1 (w.heap.size) 1 (.slice none 0 0) := ⟨by rw [hW1]; simp [go_sem], by rw [hW1]; simp [go_sem]⟩
  clear hW1
  refine (HN.out _).mono ?_
  rintro e w2 ⟨rfl, rfl⟩
  have o10 := O1.1; have o11 := O1.2; have o20 := O2.1; have o21 := O2.2
  have u0 := Own.set (u := .string ⟨#[]⟩) O1
  have u1 := (Own.other (b' := w.heap.size) (o' := 1) (u := .slice none 0 0) u0 (Or.inr (by decide))).1
  have u2 := (Own.set (u := .slice none 0 0) (Own.other (b' := w.heap.size) (o' := 0) (u := .string ⟨#[]⟩) O2 (Or.inr (by decide)))).1
  have gf : Gr w ((W1.setCell ⟨w.heap.size, 0, none⟩ (.string ⟨#[]⟩)).setCell ⟨w.heap.size, 1, none⟩ (.slice none 0 0)) := Gr.setCell (Gr.setCell g1 (by simp) _) (by simp) _
  replace u0 := u0.1
  go_wp2_with fail
  refine bodyPost_ret (by simp [results, Try.results27, go_sem, u1, u2]; try rfl) rfl ?_
  exact ⟨rfl, gf⟩

set_option maxRecDepth 100000 in
set_option maxHeartbeats 4000000 in
theorem rdry_n2 (nd : ByteArray) (A : Option Addr) (n c : Nat) (daily step kk : Int) (w : World) (HN : Hid (∀ W, Calls Try.prog 56 #[.string nd] W fun e w' => e = .returned (.bool true) ∧ W = w')) (HV : Hid (∀ W, Gr w W → Calls Try.prog 45 #[.slice A n c] W fun e w' => e = .returned (.bool false) ∧ Gr W w')) : Calls Try.prog 27 #[.string nd, .int .i64 daily, .slice A n c, .int .i64 step, .int .i64 kk] w fun e w' => e = .returned (.tuple #[.agg #[.string ⟨#[]⟩, .slice none 0 0], .int .i64 1]) ∧ Gr w w' := by
  go_enter Try.func27, Try.ntmps27
  go_wp2_with fail
  (first | refine name_world ?_ | refine (show (∀ W, W = _ → Calls _ _ _ W _) → Calls _ _ _ _ _ from fun h => h _ rfl) ?_); intro W1 hW1
  have g1 : Gr w W1 := by rw [hW1]; exact gr_auto
  have O1 : Own W1 (w.heap.size) 0 (.string ⟨#[]⟩) := ⟨by rw [hW1]; simp [go_sem], by rw [hW1]; simp [go_sem]⟩
  have O2 : Own W1 (w.heap.size) 1 (.slice none 0 0) := ⟨by rw [hW1]; simp [go_sem], by rw [hW1]; simp [go_sem]⟩
  clear hW1
  refine (HN.out _).mono ?_
  rintro e w2 ⟨rfl, rfl⟩
  go_wp2_with fail
  refine (HV.out _ (by exact g1)).mono ?_
  rintro e w2 ⟨rfl, hb2⟩
  have g2 := g1.trans hb2
  replace O1 := O1.gr hb2; replace O2 := O2.gr hb2
  have o10 := O1.1; have o11 := O1.2; have o20 := O2.1; have o21 := O2.2
  have u0 := Own.set (u := .string ⟨#[]⟩) O1
  have u1 := (Own.other (b' := w.heap.size) (o' := 1) (u := .slice none 0 0) u0 (Or.inr (by decide))).1
  have u2 := (Own.set (u := .slice none 0 0) (Own.other (b' := w.heap.size) (o' := 0) (u := .string ⟨#[]⟩) O2 (Or.inr (by decide)))).1
  have gf : Gr w ((w2.setCell ⟨w.heap.size, 0, none⟩ (.string ⟨#[]⟩)).setCell ⟨w.heap.size, 1, none⟩ (.slice none 0 0)) := Gr.setCell (Gr.setCell g2 (by simp) _) (by simp) _
  replace u0 := u0.1
  go_wp2_with fail
  refine bodyPost_ret (by simp [results, Try.results27, go_sem, u1, u2]; try rfl) rfl ?_
  exact ⟨rfl, gf⟩

set_option maxRecDepth 100000 in
set_option maxHeartbeats 4000000 in
theorem rdry_n3 (nd : ByteArray) (A : Option Addr) (n c : Nat) (daily step kk : Int) (w : World) (HN : Hid (∀ W, Calls Try.prog 56 #[.string nd] W fun e w' => e = .returned (.bool true) ∧ W = w')) (HV : Hid (∀ W, Gr w W → Calls Try.prog 45 #[.slice A n c] W fun e w' => e = .returned (.bool true) ∧ Gr W w')) (hn1 : 1 ≤ n) (hn : n ≤ 1000) (hd : (86400 % (n : Int) != 0) = true) : Calls Try.prog 27 #[.string nd, .int .i64 daily, .slice A n c, .int .i64 step, .int .i64 kk] w fun e w' => e = .returned (.tuple #[.agg #[.string ⟨#[]⟩, .slice none 0 0], .int .i64 1]) ∧ Gr w w' := by
  have nz : (n : Int) ≠ 0 := by omega
  go_enter Try.func27, Try.ntmps27
  go_wp2_with fail
  (first | refine name_world ?_ | refine (show (∀ W, W = _ → Calls _ _ _ W _) → Calls _ _ _ _ _ from fun h => h _ rfl) ?_); intro W1 hW1
  have g1 : Gr w W1 := by rw [hW1]; exact gr_auto
  have O1 : Own W1 (w.heap.size) 0 (.string ⟨#[]⟩) := ⟨by rw [hW1]; simp [go_sem], by rw [hW1]; simp [go_sem]⟩
  have O2 : Own W1 (w.heap.size) 1 (.slice none 0 0) := ⟨by rw [hW1]; simp [go_sem], by rw [hW1]; simp [go_sem]⟩
  clear hW1
  refine (HN.out _).mono ?_
  rintro e w2 ⟨rfl, rfl⟩
  go_wp2_with fail
  refine (HV.out _ (by exact g1)).mono ?_
  rintro e w2 ⟨rfl, hb2⟩
  have g2 := g1.trans hb2
  replace O1 := O1.gr hb2; replace O2 := O2.gr hb2
  have o10 := O1.1; have o11 := O1.2; have o20 := O2.1; have o21 := O2.2
  have u0 := Own.set (u := .string ⟨#[]⟩) O1
  have u1 := (Own.other (b' := w.heap.size) (o' := 1) (u := .slice none 0 0) u0 (Or.inr (by decide))).1
  have u2 := (Own.set (u := .slice none 0 0) (Own.other (b' := w.heap.size) (o' := 0) (u := .string ⟨#[]⟩) O2 (Or.inr (by decide)))).1
  have gf : Gr w ((w2.setCell ⟨w.heap.size, 0, none⟩ (.string ⟨#[]⟩)).setCell ⟨w.heap.size, 1, none⟩ (.slice none 0 0)) := Gr.setCell (Gr.setCell g2 (by simp) _) (by simp) _
  replace u0 := u0.1
  go_wp2_with fail
  refine bodyPost_ret (by simp [results, Try.results27, go_sem, u1, u2]; try rfl) rfl ?_
  exact ⟨rfl, gf⟩

set_option maxRecDepth 100000 in
set_option maxHeartbeats 4000000 in
theorem rdry_n4 (nd : ByteArray) (A : Option Addr) (n c : Nat) (daily step kk : Int) (w : World) (HN : Hid (∀ W, Calls Try.prog 56 #[.string nd] W fun e w' => e = .returned (.bool true) ∧ W = w')) (HV : Hid (∀ W, Gr w W → Calls Try.prog 45 #[.slice A n c] W fun e w' => e = .returned (.bool true) ∧ Gr W w')) (hn1 : 1 ≤ n) (hn : n ≤ 1000) (hd : (86400 % (n : Int) != 0) = false)  (hbad : daily < 0) : Calls Try.prog 27 #[.string nd, .int .i64 daily, .slice A n c, .int .i64 step, .int .i64 kk] w fun e w' => e = .returned (.tuple #[.agg #[.string ⟨#[]⟩, .slice none 0 0], .int .i64 2]) ∧ Gr w w' := by
  have nz : (n : Int) ≠ 0 := by omega
  go_enter Try.func27, Try.ntmps27
  go_wp2_with fail
  (first | refine name_world ?_ | refine (show (∀ W, W = _ → Calls _ _ _ W _) → Calls _ _ _ _ _ from fun h => h _ rfl) ?_); intro W1 hW1
  have g1 : Gr w W1 := by rw [hW1]; exact gr_auto
  have O1 : Own W1 (w.heap.size) 0 (.string ⟨#[]⟩) := ⟨by rw [hW1]; simp [go_sem], by rw [hW1]; simp [go_sem]⟩
  have O2 : Own W1 (w.heap.size) 1 (.slice none 0 0) := ⟨by rw [hW1]; simp [go_sem], by rw [hW1]; simp [go_sem]⟩
  clear hW1
  refine (HN.out _).mono ?_
  rintro e w2 ⟨rfl, rfl⟩
  go_wp2_with fail
  refine (HV.out _ (by exact g1)).mono ?_
  rintro e w2 ⟨rfl, hb2⟩
  have g2 := g1.trans hb2
  replace O1 := O1.gr hb2; replace O2 := O2.gr hb2
  have o10 := O1.1; have o11 := O1.2; have o20 := O2.1; have o21 := O2.2
  have u0 := Own.set (u := .string ⟨#[]⟩) O1
  have u1 := (Own.other (b' := w.heap.size) (o' := 1) (u := .slice none 0 0) u0 (Or.inr (by decide))).1
  have u2 := (Own.set (u := .slice none 0 0) (Own.other (b' := w.heap.size) (o' := 0) (u := .string ⟨#[]⟩) O2 (Or.inr (by decide)))).1
  have gf : Gr w ((w2.setCell ⟨w.heap.size, 0, none⟩ (.string ⟨#[]⟩)).setCell ⟨w.heap.size, 1, none⟩ (.slice none 0 0)) := Gr.setCell (Gr.setCell g2 (by simp) _) (by simp) _
  replace u0 := u0.1
  go_wp2_with fail
  refine bodyPost_ret (by simp [results, Try.results27, go_sem, u1, u2]; try rfl) rfl ?_
  exact ⟨rfl, gf⟩

set_option maxRecDepth 100000 in
set_option maxHeartbeats 4000000 in
theorem rdry_n5 (nd : ByteArray) (A : Option Addr) (n c : Nat) (daily step kk : Int) (w : World) (HN : Hid (∀ W, Calls Try.prog 56 #[.string nd] W fun e w' => e = .returned (.bool true) ∧ W = w')) (HV : Hid (∀ W, Gr w W → Calls Try.prog 45 #[.slice A n c] W fun e w' => e = .returned (.bool true) ∧ Gr W w')) (hn1 : 1 ≤ n) (hn : n ≤ 1000) (hd : (86400 % (n : Int) != 0) = false) (g0 : 0 ≤ daily) (hbad : 1099511627776 < daily) : Calls Try.prog 27 #[.string nd, .int .i64 daily, .slice A n c, .int .i64 step, .int .i64 kk] w fun e w' => e = .returned (.tuple #[.agg #[.string ⟨#[]⟩, .slice none 0 0], .int .i64 2]) ∧ Gr w w' := by
  have nz : (n : Int) ≠ 0 := by omega
  go_enter Try.func27, Try.ntmps27
  go_wp2_with fail
  (first | refine name_world ?_ | refine (show (∀ W, W = _ → Calls _ _ _ W _) → Calls _ _ _ _ _ from fun h => h _ rfl) ?_); intro W1 hW1
  have g1 : Gr w W1 := by rw [hW1]; exact gr_auto
  have O1 : Own W1 (w.heap.size) 0 (.string ⟨#[]⟩) := ⟨by rw [hW1]; simp [go_sem], by rw [hW1]; simp [go_sem]⟩
  have O2 : Own W1 (w.heap.size) 1 (.slice none 0 0) := ⟨by rw [hW1]; simp [go_sem], by rw [hW1]; simp [go_sem]⟩
  clear hW1
  refine (HN.out _).mono ?_
  rintro e w2 ⟨rfl, rfl⟩
  go_wp2_with fail
  refine (HV.out _ (by exact g1)).mono ?_
  rintro e w2 ⟨rfl, hb2⟩
  have g2 := g1.trans hb2
  replace O1 := O1.gr hb2; replace O2 := O2.gr hb2
  have o10 := O1.1; have o11 := O1.2; have o20 := O2.1; have o21 := O2.2
  have u0 := Own.set (u := .string ⟨#[]⟩) O1
  have u1 := (Own.other (b' := w.heap.size) (o' := 1) (u := .slice none 0 0) u0 (Or.inr (by decide))).1
  have u2 := (Own.set (u := .slice none 0 0) (Own.other (b' := w.heap.size) (o' := 0) (u := .string ⟨#[]⟩) O2 (Or.inr (by decide)))).1
  have gf : Gr w ((w2.setCell ⟨w.heap.size, 0, none⟩ (.string ⟨#[]⟩)).setCell ⟨w.heap.size, 1, none⟩ (.slice none 0 0)) := Gr.setCell (Gr.setCell g2 (by simp) _) (by simp) _
  replace u0 := u0.1
  go_wp2_with fail
  refine bodyPost_ret (by simp [results, Try.results27, go_sem, u1, u2]; try rfl) rfl ?_
  exact ⟨rfl, gf⟩

set_option maxRecDepth 100000 in
set_option maxHeartbeats 4000000 in
theorem rdry_n6 (nd : ByteArray) (A : Option Addr) (n c : Nat) (daily step kk : Int) (w : World) (HN : Hid (∀ W, Calls Try.prog 56 #[.string nd] W fun e w' => e = .returned (.bool true) ∧ W = w')) (HV : Hid (∀ W, Gr w W → Calls Try.prog 45 #[.slice A n c] W fun e w' => e = .returned (.bool true) ∧ Gr W w')) (hn1 : 1 ≤ n) (hn : n ≤ 1000) (hd : (86400 % (n : Int) != 0) = false) (g0 : 0 ≤ daily) (g1 : daily ≤ 1099511627776) (hbad : step < 1) : Calls Try.prog 27 #[.string nd, .int .i64 daily, .slice A n c, .int .i64 step, .int .i64 kk] w fun e w' => e = .returned (.tuple #[.agg #[.string ⟨#[]⟩, .slice none 0 0], .int .i64 2]) ∧ Gr w w' := by
  have nz : (n : Int) ≠ 0 := by omega
  go_enter Try.func27, Try.ntmps27
  go_wp2_with fail
  (first | refine name_world ?_ | refine (show (∀ W, W = _ → Calls _ _ _ W _) → Calls _ _ _ _ _ from fun h => h _ rfl) ?_); intro W1 hW1
  have g1 : Gr w W1 := by rw [hW1]; exact gr_auto
  have O1 : Own W1 (w.heap.size) 0 (.string ⟨#[]⟩) := ⟨by rw [hW1]; simp [go_sem], by rw [hW1]; simp [go_sem]⟩
  have O2 : Own W1 (w.heap.size) 1 (.slice none 0 0) := ⟨by rw [hW1]; simp [go_sem], by rw [hW1]; simp [go_sem]⟩
  clear hW1
  refine (HN.out _).mono ?_
  rintro e w2 ⟨rfl, rfl⟩
  go_wp2_with fail
  refine (HV.out _ (by exact g1)).mono ?_
  rintro e w2 ⟨rfl, hb2⟩
  have g2 := g1.trans hb2
  replace O1 := O1.gr hb2; replace O2 := O2.gr hb2
  have o10 := O1.1; have o11 := O1.2; have o20 := O2.1; have o21 := O2.2
  have u0 := Own.set (u := .string ⟨#[]⟩) O1
  have u1 := (Own.other (b' := w.heap.size) (o' := 1) (u := .slice none 0 0) u0 (Or.inr (by decide))).1
  have u2 := (Own.set (u := .slice none 0 0) (Own.other (b' := w.heap.size) (o' := 0) (u := .string ⟨#[]⟩) O2 (Or.inr (by decide)))).1
  have gf : Gr w ((w2.setCell ⟨w.heap.size, 0, none⟩ (.string ⟨#[]⟩)).setCell ⟨w.heap.size, 1, none⟩ (.slice none 0 0)) := Gr.setCell (Gr.setCell g2 (by simp) _) (by simp) _
  replace u0 := u0.1
  go_wp2_with fail
  refine bodyPost_ret (by simp [results, Try.results27, go_sem, u1, u2]; try rfl) rfl ?_
  exact ⟨rfl, gf⟩

set_option maxRecDepth 100000 in
set_option maxHeartbeats 4000000 in
theorem rdry_n7 (nd : ByteArray) (A : Option Addr) (n c : Nat) (daily step kk : Int) (w : World) (HN : Hid (∀ W, Calls Try.prog 56 #[.string nd] W fun e w' => e = .returned (.bool true) ∧ W = w')) (HV : Hid (∀ W, Gr w W → Calls Try.prog 45 #[.slice A n c] W fun e w' => e = .returned (.bool true) ∧ Gr W w')) (hn1 : 1 ≤ n) (hn : n ≤ 1000) (hd : (86400 % (n : Int) != 0) = false) (g0 : 0 ≤ daily) (g1 : daily ≤ 1099511627776) (g2 : 1 ≤ step) (hbad : 86400 < step) : Calls Try.prog 27 #[.string nd, .int .i64 daily, .slice A n c, .int .i64 step, .int .i64 kk] w fun e w' => e = .returned (.tuple #[.agg #[.string ⟨#[]⟩, .slice none 0 0], .int .i64 2]) ∧ Gr w w' := by
  have nz : (n : Int) ≠ 0 := by omega
  go_enter Try.func27, Try.ntmps27
  go_wp2_with fail
  (first | refine name_world ?_ | refine (show (∀ W, W = _ → Calls _ _ _ W _) → Calls _ _ _ _ _ from fun h => h _ rfl) ?_); intro W1 hW1
  have g1 : Gr w W1 := by rw [hW1]; exact gr_auto
  have O1 : Own W1 (w.heap.size) 0 (.string ⟨#[]⟩) := ⟨by rw [hW1]; simp [go_sem], by rw [hW1]; simp [go_sem]⟩
  have O2 : Own W1 (w.heap.size) 1 (.slice none 0 0) := ⟨by rw [hW1]; simp [go_sem], by rw [hW1]; simp [go_sem]⟩
  clear hW1
  refine (HN.out _).mono ?_
  rintro e w2 ⟨rfl, rfl⟩
  go_wp2_with fail
  refine (HV.out _ (by exact g1)).mono ?_
  rintro e w2 ⟨rfl, hb2⟩
  have g2 := g1.trans hb2
  replace O1 := O1.gr hb2; replace O2 := O2.gr hb2
  have o10 := O1.1; have o11 := O1.2; have o20 := O2.1; have o21 := O2.2
  have u0 := Own.set (u := .string ⟨#[]⟩) O1
  have u1 := (Own.other (b' := w.heap.size) (o' := 1) (u := .slice none 0 0) u0 (Or.inr (by decide))).1
  have u2 := (Own.set (u := .slice none 0 0) (Own.other (b' := w.heap.size) (o' := 0) (u := .string ⟨#[]⟩) O2 (Or.inr (by decide)))).1
  have gf : Gr w ((w2.setCell ⟨w.heap.size, 0, none⟩ (.string ⟨#[]⟩)).setCell ⟨w.heap.size, 1, none⟩ (.slice none 0 0)) := Gr.setCell (Gr.setCell g2 (by simp) _) (by simp) _
  replace u0 := u0.1
  go_wp2_with fail
  refine bodyPost_ret (by simp [results, Try.results27, go_sem, u1, u2]; try rfl) rfl ?_
  exact ⟨rfl, gf⟩

set_option maxRecDepth 100000 in
set_option maxHeartbeats 4000000 in
theorem rdry_n8 (nd : ByteArray) (A : Option Addr) (n c : Nat) (daily step kk : Int) (w : World) (HN : Hid (∀ W, Calls Try.prog 56 #[.string nd] W fun e w' => e = .returned (.bool true) ∧ W = w')) (HV : Hid (∀ W, Gr w W → Calls Try.prog 45 #[.slice A n c] W fun e w' => e = .returned (.bool true) ∧ Gr W w')) (hn1 : 1 ≤ n) (hn : n ≤ 1000) (hd : (86400 % (n : Int) != 0) = false) (g0 : 0 ≤ daily) (g1 : daily ≤ 1099511627776) (g2 : 1 ≤ step) (g3 : step ≤ 86400) (hbad : kk < 0) : Calls Try.prog 27 #[.string nd, .int .i64 daily, .slice A n c, .int .i64 step, .int .i64 kk] w fun e w' => e = .returned (.tuple #[.agg #[.string ⟨#[]⟩, .slice none 0 0], .int .i64 2]) ∧ Gr w w' := by
  have nz : (n : Int) ≠ 0 := by omega
  go_enter Try.func27, Try.ntmps27
  go_wp2_with fail
  (first | refine name_world ?_ | refine (show (∀ W, W = _ → Calls _ _ _ W _) → Calls _ _ _ _ _ from fun h => h _ rfl) ?_); intro W1 hW1
  have g1 : Gr w W1 := by rw [hW1]; exact gr_auto
  have O1 : Own W1 (w.heap.size) 0 (.string ⟨#[]⟩) := ⟨by rw [hW1]; simp [go_sem], by rw [hW1]; simp [go_sem]⟩
  have O2 : Own W1 (w.heap.size) 1 (.slice none 0 0) := ⟨by rw [hW1]; simp [go_sem], by rw [hW1]; simp [go_sem]⟩
  clear hW1
  refine (HN.out _).mono ?_
  rintro e w2 ⟨rfl, rfl⟩
  go_wp2_with fail
  refine (HV.out _ (by exact g1)).mono ?_
  rintro e w2 ⟨rfl, hb2⟩
  have g2 := g1.trans hb2
  replace O1 := O1.gr hb2; replace O2 := O2.gr hb2
  have o10 := O1.1; have o11 := O1.2; have o20 := O2.1; have o21 := O2.2
  have u0 := Own.set (u := .string ⟨#[]⟩) O1
  have u1 := (Own.other (b' := w.heap.size) (o' := 1) (u := .slice none 0 0) u0 (Or.inr (by decide))).1
  have u2 := (Own.set (u := .slice none 0 0) (Own.other (b' := w.heap.size) (o' := 0) (u := .string ⟨#[]⟩) O2 (Or.inr (by decide)))).1
  have gf : Gr w ((w2.setCell ⟨w.heap.size, 0, none⟩ (.string ⟨#[]⟩)).setCell ⟨w.heap.size, 1, none⟩ (.slice none 0 0)) := Gr.setCell (Gr.setCell g2 (by simp) _) (by simp) _
  replace u0 := u0.1
  go_wp2_with fail
  refine bodyPost_ret (by simp [results, Try.results27, go_sem, u1, u2]; try rfl) rfl ?_
  exact ⟨rfl, gf⟩

set_option maxRecDepth 100000 in
set_option maxHeartbeats 4000000 in
theorem rdry_n9 (nd : ByteArray) (A : Option Addr) (n c : Nat) (daily step kk : Int) (w : World) (HN : Hid (∀ W, Calls Try.prog 56 #[.string nd] W fun e w' => e = .returned (.bool true) ∧ W = w')) (HV : Hid (∀ W, Gr w W → Calls Try.prog 45 #[.slice A n c] W fun e w' => e = .returned (.bool true) ∧ Gr W w')) (hn1 : 1 ≤ n) (hn : n ≤ 1000) (hd : (86400 % (n : Int) != 0) = false) (g0 : 0 ≤ daily) (g1 : daily ≤ 1099511627776) (g2 : 1 ≤ step) (g3 : step ≤ 86400) (g4 : 0 ≤ kk) (hbad : 10000 < kk) : Calls Try.prog 27 #[.string nd, .int .i64 daily, .slice A n c, .int .i64 step, .int .i64 kk] w fun e w' => e = .returned (.tuple #[.agg #[.string ⟨#[]⟩, .slice none 0 0], .int .i64 2]) ∧ Gr w w' := by
  have nz : (n : Int) ≠ 0 := by omega
  go_enter Try.func27, Try.ntmps27
  go_wp2_with fail
  (first | refine name_world ?_ | refine (show (∀ W, W = _ → Calls _ _ _ W _) → Calls _ _ _ _ _ from fun h => h _ rfl) ?_); intro W1 hW1
  have g1 : Gr w W1 := by rw [hW1]; exact gr_auto
  have O1 : Own W1 (w.heap.size) 0 (.string ⟨#[]⟩) := ⟨by rw [hW1]; simp [go_sem], by rw [hW1]; simp [go_sem]⟩
  have O2 : Own W1 (w.heap.size) 1 (.slice none 0 0) := ⟨by rw [hW1]; simp [go_sem], by rw [hW1]; simp [go_sem]⟩
  clear hW1
  refine (HN.out _).mono ?_
  rintro e w2 ⟨rfl, rfl⟩
  go_wp2_with fail
  refine (HV.out _ (by exact g1)).mono ?_
  rintro e w2 ⟨rfl, hb2⟩
  have g2 := g1.trans hb2
  replace O1 := O1.gr hb2; replace O2 := O2.gr hb2
  have o10 := O1.1; have o11 := O1.2; have o20 := O2.1; have o21 := O2.2
  have u0 := Own.set (u := .string ⟨#[]⟩) O1
  have u1 := (Own.other (b' := w.heap.size) (o' := 1) (u := .slice none 0 0) u0 (Or.inr (by decide))).1
  have u2 := (Own.set (u := .slice none 0 0) (Own.other (b' := w.heap.size) (o' := 0) (u := .string ⟨#[]⟩) O2 (Or.inr (by decide)))).1
  have gf : Gr w ((w2.setCell ⟨w.heap.size, 0, none⟩ (.string ⟨#[]⟩)).setCell ⟨w.heap.size, 1, none⟩ (.slice none 0 0)) := Gr.setCell (Gr.setCell g2 (by simp) _) (by simp) _
  replace u0 := u0.1
  go_wp2_with fail
  refine bodyPost_ret (by simp [results, Try.results27, go_sem, u1, u2]; try rfl) rfl ?_
  exact ⟨rfl, gf⟩

theorem rdry_no (nd : ByteArray) (s : Ba.SlI) (daily step kk : Int) (w : World) (hm : nd.size ≤ 9223372036854775807) (hs : s.At w) (he : Ba.dryE nd daily step kk s ≠ 0) : Calls Try.prog 27 #[.string nd, .int .i64 daily, .slice s.A s.n s.c, .int .i64 step, .int .i64 kk] w fun e w' => e = .returned (.tuple #[.agg #[.string ⟨#[]⟩, .slice none 0 0], .int .i64 (Ba.dryE nd daily step kk s)]) ∧ Gr w w' := by
  have HN := Lib.hid (fun W => risname_all nd W hm)
  have HV := Lib.hid (fun W (hh : Gr w W) => runi_any s W (hs.gr hh))
  unfold Ba.dryE at he ⊢
  cases h1 : Dc.isName nd.data.toList
  · rw [h1] at HN
    exact rdry_n1 nd s.A s.n s.c daily step kk w HN
  rw [h1] at HN he
  rw [if_pos rfl] at he ⊢
  cases h2 : Ba.uniB s
  · rw [h2] at HV
    exact rdry_n2 nd s.A s.n s.c daily step kk w HN HV
  obtain ⟨u1, u2, -, -⟩ := Ba.uni_parts h2
  rw [h2] at HV he
  rw [if_pos rfl] at he ⊢
  by_cases h3 : 86400 % (s.n : Int) = 0
  rotate_left
  · rw [if_neg h3]
    exact rdry_n3 nd s.A s.n s.c daily step kk w HN HV u1 u2 (bne_iff_ne.2 h3)
  have h3' : (86400 % (s.n : Int) != 0) = false := by rw [h3]; rfl
  rw [if_pos h3] at he ⊢
  by_cases d1 : daily < 0
  · rw [if_neg (by rw [Ba.bet_iff]; omega)]
    exact rdry_n4 nd s.A s.n s.c daily step kk w HN HV u1 u2 h3' d1
  by_cases d2 : 1099511627776 < daily
  · rw [if_neg (by rw [Ba.bet_iff]; omega)]
    exact rdry_n5 nd s.A s.n s.c daily step kk w HN HV u1 u2 h3' (by omega) d2
  rw [if_pos (by rw [Ba.bet_iff]; omega)] at he ⊢
  by_cases d3 : step < 1
  · rw [if_neg (by rw [Ba.bet_iff]; omega)]
    exact rdry_n6 nd s.A s.n s.c daily step kk w HN HV u1 u2 h3' (by omega) (by omega) d3
  by_cases d4 : 86400 < step
  · rw [if_neg (by rw [Ba.bet_iff]; omega)]
    exact rdry_n7 nd s.A s.n s.c daily step kk w HN HV u1 u2 h3' (by omega) (by omega) (by omega) d4
  rw [if_pos (by rw [Ba.bet_iff]; omega)] at he ⊢
  by_cases d5 : kk < 0
  · rw [if_neg (by rw [Ba.bet_iff]; omega)]
    exact rdry_n8 nd s.A s.n s.c daily step kk w HN HV u1 u2 h3' (by omega) (by omega) (by omega) (by omega) d5
  by_cases d6 : 10000 < kk
  · rw [if_neg (by rw [Ba.bet_iff]; omega)]
    exact rdry_n9 nd s.A s.n s.c daily step kk w HN HV u1 u2 h3' (by omega) (by omega) (by omega) (by omega) (by omega) d6
  · exact absurd (if_pos (by rw [Ba.bet_iff]; omega)) he
set_option maxHeartbeats 1000000 in
theorem rdry_any (nd : ByteArray) (s : Ba.SlI) (daily step : Int) (kk : Nat) (w : World) (hm : nd.size ≤ 9223372036854775807) (hnm : Dc.isName nd.data.toList = true) (hs : s.At w) (hu : Ba.uniB s = true) (hd : 86400 % (s.n : Int) = 0) (h1 : 0 ≤ daily ∧ daily ≤ 1099511627776) (hst : 1 ≤ step ∧ step ≤ 86400) (hk : kk ≤ 10000) : Calls Try.prog 27 #[.string nd, .int .i64 daily, .slice s.A s.n s.c, .int .i64 step, .int .i64 (kk : Int)] w (RetDry nd s daily step kk w) := by
  obtain ⟨u1, u2, -, -⟩ := Ba.uni_parts hu
  have tb : ∀ j : Nat, j ≤ kk → 0 ≤ (j : Int) * step ∧ (j : Int) * step ≤ 864000000 := fun j hj => by
    have a := Int.mul_nonneg (a := (j : Int)) (b := step) (by omega) (by omega)
    have b : (j : Int) * step ≤ 10000 * 86400 := Int.mul_le_mul (by omega) hst.2 (by omega) (by omega)
    omega
  refine rdry_ok nd s.A s.n s.c kk daily step w u1 u2 (Lib.hid hd) h1 hst hk (Lib.hid fun W => ?_) (Lib.hid fun W hW => ?_) (fun j => Ba.upI s.X daily s.n ((j : Int) * step)) (Lib.hid fun j hj => ?_) (Lib.hid tb) (Lib.hid fun j => by rw [show ((j + 1 : Nat) : Int) = (j : Int) + 1 by omega]) (Lib.hid fun j hj W hW => upto_any s daily _ W (hs.gr hW) hu hd h1 (tb j hj))
  · have := risname_all nd W hm
    rw [hnm] at this; exact this
  · have := runi_any s W (hs.gr hW)
    rw [hu] at this; exact this
  · have H := Ba.hour_of hu hd h1 (tb j hj)
    have c := Ba.cut_le hu h1.1 (Nat.le_of_lt H.pn)
    have a := H.dd; have b := H.qv
    unfold Ba.upI; omega

end Go.Proofs.Ytjighhphadfoiaa
