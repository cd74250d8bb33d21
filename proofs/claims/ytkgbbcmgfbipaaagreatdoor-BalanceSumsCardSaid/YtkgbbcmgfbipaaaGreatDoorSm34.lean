/-
  Slices of bools that are all true: the reference's all, slices.Repeat.
-/
import Derived.Test.YtkgbbcmgfbipaaaGreatDoorSm11
import Derived.Test.YtkgbbcmgfbipaaaGreatDoorSm32
import Derived.Test.YtkgbbcmgfbipaaaGreatDoorSm29
import Derived.Test.YtkgbbcmgfbipaaaGreatDoorSm33
import Derived.Deep.RegionHeld3
import Derived.Deep.DrawnRows
set_option linter.unusedVariables false
set_option linter.unusedSimpArgs false
namespace Go.Proofs.YtkgbbcmgfbipaaaGreatDoor
open Go.RowKit
attribute [local go_sem ↓] Go.wp_at_zero Go.wp_at_succ
/-- What comes back is a slice of n bools, all true. -/
def RetB (n : Nat) (w : World) (e : Ending) (w' : World) : Prop := ∃ s : Ba.SlB, e = .returned (.slice s.A s.n s.c) ∧ s.n = n ∧ s.At w' ∧ (∀ i, s.X i = true) ∧ Gr w w'
theorem retB_own {n base E : Nat} {w w' : World} {v : Value} (h : w'.ownsRow base E 1 v n (List.replicate n (.bool true))) (hg : Gr w w') : RetB n w (.returned v) w' := by
  obtain ⟨A, c, b, rfl, h1, h2, h3, h4⟩ := ownsRow_at h
  refine ⟨⟨A, n, c, b, 0, fun _ => true⟩, rfl, rfl, ⟨h1, h2, h3, fun i hi => ?_⟩, fun _ => rfl, hg⟩
  simp only [Nat.zero_add]
  rw [h4 i hi, List.getElem?_replicate, if_pos hi]
theorem info_bool : (Tryz.prog.info? 4).map (fun i => (i.zero, i.size, i.bytes)) = some (some (.bool false), 1, 1) := by kernel_rfl
/-- What a copy asks of its source. -/
def Src (w : World) (g off : Nat) (dp sp : Option Addr) (cs : List Value) : Prop := 0 < cs.length → dp = some ⟨g, off, none⟩ ∧ ∃ ad, sp = some ad ∧ ∀ j v, cs[j]? = some v → w.cell? (ad.add j) = some v
/-- Some cells of a block are true. -/
def Half (w : World) (g n m : Nat) : Prop := w.heap[g]? = some (.cells (List.replicate m (Value.bool true) ++ List.replicate (n - m) (Value.bool false)).toArray 4 (0, 0))
theorem half_next {n m : Nat} (h1 : 1 ≤ m) (h : m < n) : splice (List.replicate m (Value.bool true) ++ List.replicate (n - m) (Value.bool false)) m (List.replicate (Nat.min m (n - m)) (Value.bool true)) = List.replicate (m + Nat.min m (n - m)) (Value.bool true) ++ List.replicate (n - (m + Nat.min m (n - m))) (Value.bool false) := by
  unfold splice
  have hm : Nat.min m (n - m) ≤ n - m := Nat.min_le_right _ _
  generalize Nat.min m (n - m) = k at *
  rw [List.take_left' (by simp), List.length_replicate, List.drop_append, List.length_replicate, List.drop_eq_nil_of_le (by simp), List.nil_append, List.drop_replicate, ← List.append_assoc, List.replicate_append_replicate]
  congr 2; omega
theorem half_first {n : Nat} (h : 1 ≤ n) : splice (List.replicate n (Value.bool false)) 0 [Value.bool true] = List.replicate 1 (Value.bool true) ++ List.replicate (n - 1) (Value.bool false) := by
  unfold splice
  simp
theorem Half.cell {w : World} {g n m i : Nat} (h : Half w g n m) (hi : i < m) : w.cell? ⟨g, i, none⟩ = some (.bool true) := by
  unfold Half at h
  simp only [World.cell?, h]
  simp [List.getElem?_append, List.getElem?_replicate, hi]
set_option maxRecDepth 100000 in
set_option maxHeartbeats 2000000 in
theorem repeat_any (X n : Nat) (w : World) (hx : w.cell? ⟨X, 0, none⟩ = some (.bool true)) (hn : n ≤ 400) : Calls Tryz.prog 42 #[.slice (some ⟨X, 0, none⟩) 1 1, .int .i64 (n : Int)] w (RetB n w) := by
  obtain ⟨i0, hi0, hz0, hz1, hz2⟩ := info_parts info_bool
  have HI := Lib.hid hi0; have HZ0 := Lib.hid hz0; have HZ1 := Lib.hid hz1; have HZ2 := Lib.hid hz2
  clear hi0 hz0 hz1 hz2
  have HM : ∀ w, Calls Tryz.prog 63 #[.int .u64 1, .int .u64 (n : Int)] w fun e w' => e = .returned (.tuple #[.int .u64 0, .int .u64 (n : Int)]) ∧ w' = w := by
    intro w
    have h := Tryz.bits_Mul 1 n (by omega) (by omega) w
    rw [Nat.one_mul, Nat.div_eq_of_lt (by omega), Nat.mod_eq_of_lt (by omega)] at h
    exact h
  have HM := Lib.hid HM
  have HX := Lib.hid hx
  have t0 : decide ((n : Int) < 0) = false := decide_eq_false (by omega)
  have t1 : decide ((9223372036854775807 : Int) < (n : Int)) = false := decide_eq_false (by omega)
  clear hx
  go_enter Tryz.func42, Tryz.ntmps42
  go_wp2_with fail
  refine (HM.out _).mono ?_
  rintro e w1 ⟨rfl, rfl⟩
  by_cases hn0 : n = 0
  · subst hn0
    go_wp2_with (at_make; refine wpList_make_full _ rfl _ _ _ rfl w1.heap.size 4 i0 (.bool false) 1 Tryz.underlying49 HI.out HZ0.out HZ1.out .i64 .i64 0 0 0 rfl rfl rfl rfl ?d1 ?d2 (Nat.le_refl _) ?_)
    case d1 => omega
    case d2 => unfold maxLen; omega
    intro w2 hown hgrow
    have g2 : Gr w1 w2 := Gr.own (base := w1.heap.size) (n := 0) (e := 4) (size := 1) (xs := []) (v := .slice none 0 0) (Gr.refl _) (Nat.le_refl _) ⟨rfl, Or.inl ⟨rfl, rfl⟩⟩ hgrow
    have HO := Lib.hid hown
    clear hown hgrow
    go_wp2_with (go_loud (refine wpList_copy_nothing (o := ⟨some 33, _, _, _, _, _⟩) rfl _ _ _ _ rfl 4 Tryz.underlying49 (by kernel_rfl) (some ⟨w1.heap.size, 0, none⟩) (some ⟨X, 0, none⟩) 0 0 1 1 (by rfl) (by rfl) (by decide) ?_))
    refine wp_loop_rounds 1 ?_
    rw [rounds_succ]
    go_wp2_with fail
    go_ret
    exact retB_own (n := 0) (by simpa [madeCells] using HO.out) g2
  go_wp2_with (at_make; refine wpList_make_full _ rfl _ _ _ rfl w1.heap.size 4 i0 (.bool false) 1 Tryz.underlying49 HI.out HZ0.out HZ1.out .i64 .i64 n n n rfl rfl rfl rfl ?d1 ?d2 (Nat.le_refl _) ?_)
  case d1 => rw [HZ2.out]; omega
  case d2 => unfold maxLen; omega
  intro w2 hown hgrow
  have g2 : Gr w1 w2 := Gr.own (base := w1.heap.size) (n := 0) (e := 4) (size := 1) (xs := []) (v := .slice none 0 0) (Gr.refl _) (Nat.le_refl _) ⟨rfl, Or.inl ⟨rfl, rfl⟩⟩ hgrow
  have hh : w2.heap[w1.heap.size]? = some (.cells (List.replicate n (Value.bool false)).toArray 4 (0, 0)) := by
    obtain ⟨hl, ⟨h1, h2⟩ | ⟨g, cap, cur, hv, hb, hc, h3, h4, h5, h6⟩⟩ := hown
    · omega
    · simp only [Value.slice.injEq, Option.some.injEq, Addr.mk.injEq] at hv
      obtain ⟨⟨rfl, -, -⟩, -, rfl⟩ := hv
      rw [hc]
      rw [Nat.mul_one] at h5 h6
      rw [List.take_of_length_le (by simp [h5])] at h6
      have : cur = (List.replicate n (Value.bool false)).toArray := by
        rw [← Array.toList_inj, h6]
        simp [madeCells, Value.cells, Nat.mod_one, List.map_const']
      rw [this]
  have HH := Lib.hid hh
  clear hown hgrow hh
  have hx2 := Gr.at g2 HX.out
  have E1 := Lib.hid (show [Value.bool true].length = Nat.min 1 n from (Nat.min_eq_left (show 1 ≤ n by omega)).symm)
  have E2 := Lib.hid (show Src w2 w1.heap.size 0 (some ⟨w1.heap.size, 0, none⟩) (some ⟨X, 0, none⟩) [Value.bool true] from fun _ => ⟨rfl, _, rfl, fun j v hj => by
    match j, hj with
    | 0, hj => simp at hj; subst hj; exact hx2⟩)
  have E3 := Lib.hid (show 0 + [Value.bool true].length ≤ (List.replicate n (Value.bool false)).length by rw [List.length_replicate]; show 0 + 1 ≤ n; omega)
  have E4 := Lib.hid (show ∀ v ∈ [Value.bool true], v.oneCell' = true by intro v hv; simp at hv; subst hv; rfl)
  go_wp2_with (refine wpList_copy_splice (o := ⟨some 33, _, _, _, _, _⟩) rfl _ _ _ _ rfl 4 Tryz.underlying49 (by kernel_rfl) (some ⟨w1.heap.size, 0, none⟩) (some ⟨X, 0, none⟩) n n 1 1 (by rfl) (by rfl) w1.heap.size 0 (List.replicate n (Value.bool false)) 4 HH.out [Value.bool true] E1.out E2.out E3.out E4.out w1.heap.size w1 g2 (Nat.le_refl _) ?_; intro w3 hw3 hb3)
  have H3 := Lib.hid (show Half w3 w1.heap.size n 1 by unfold Half; rw [← half_first (by omega)]; exact hw3.out)
  have g3 : Gr w1 w3 := hb3
  clear hw3 hb3 hx2 g2 HH HX E1 E2 E3 E4
  go_loopw [8] (fun q wr => ∃ m : Nat, 1 ≤ m ∧ m ≤ n ∧ q = .int .i64 (m : Int) ∧ Hid (Half wr w1.heap.size n m) ∧ Gr w1 wr) (fun q _ => n - (intOf q).toNat)
  case atStart => exact ⟨1, Nat.le_refl _, by omega, rfl, H3, g3⟩
  case round =>
    clear H3 g3
    obtain ⟨m, h1, hm, rfl, HF, hg⟩ := hrel
    by_cases hlt : m < n
    · obtain ⟨k, hk⟩ : ∃ k, k = Nat.min m (n - m) := ⟨_, rfl⟩
      have hk1 : 1 ≤ k := by rw [hk]; exact Nat.le_min.2 ⟨h1, by omega⟩
      have hk2 : m + k ≤ n := by have h5 : Nat.min m (n - m) ≤ n - m := Nat.min_le_right _ _; omega
      have HK2 := Lib.hid hk2
      have hk3 : k ≤ m := by rw [hk]; exact Nat.min_le_left _ _
      have hc := Lib.hid (fun (i : Nat) (hi : i < m) => HF.out.cell hi)
      have ib0 : (0 : Int) ≤ (m : Int) := by omega
      have ib1 : (m : Int) ≤ (n : Int) := by omega
      have E1 := Lib.hid (show (List.replicate k (Value.bool true)).length = Nat.min m (n - m) by rw [List.length_replicate, hk])
      have E2 := Lib.hid (show Src wr.drew w1.heap.size m (some ⟨w1.heap.size, m, none⟩) (some ⟨w1.heap.size, 0, none⟩) (List.replicate k (Value.bool true)) from fun _ => ⟨rfl, _, rfl, fun j v hj => by
        rw [List.getElem?_replicate] at hj
        split at hj
        · rename_i hj2
          cases hj
          have := hc.out j (by omega)
          by_cases h0 : j = 0
          · subst h0; simpa [Addr.add, go_sem] using this
          · simpa [Addr.add, go_sem, h0] using this
        · cases hj⟩)
      have E3 := Lib.hid (show m + (List.replicate k (Value.bool true)).length ≤ (List.replicate m (Value.bool true) ++ List.replicate (n - m) (Value.bool false)).length by
        simp only [List.length_replicate, List.length_append]; omega)
      have E4 := Lib.hid (show ∀ v ∈ List.replicate k (Value.bool true), v.oneCell' = true by intro v hv; have := (List.mem_replicate.1 hv).2; subst this; rfl)
      have HZ := Lib.hid (half_next h1 hlt)
      rw [← hk] at HZ
      clear hc hk
      have hnm : ¬ n = m := by omega
      go_wp2_with fail
      go_region_held3 (fun _ => True) (trivial) ((refine step_copy_splice (o := ⟨some 45, _, _, _, _, _⟩) rfl _ _ _ _ rfl 4 Tryz.underlying49 (by kernel_rfl) (some ⟨w1.heap.size, m, none⟩) (some ⟨w1.heap.size, 0, none⟩) (n - m) (n - m) m n (by rfl) (by rfl) w1.heap.size m (List.replicate m (Value.bool true) ++ List.replicate (n - m) (Value.bool false)) 4 HF.out (List.replicate k (Value.bool true)) E1.out E2.out E3.out E4.out w1.heap.size w1 (Gr.drew hg) (Nat.le_refl _) ?_; intro w3 hw3 hb3))
      clear E1 E2 E3 E4 HF hg hnm
      have HW := Lib.hid hw3.out
      clear hw3
      have wv : IntKind.i64.wrap ((m : Int) + (k : Int)) = (m : Int) + (k : Int) := IntWalk.i64_in _ (by omega)
      go_wp2_with fail
      go_roundw
      case rel => exact ⟨m + k, by omega, HK2.out, by go_num, Lib.hid (by unfold Half; rw [← HZ.out]; exact HW.out), hb3⟩
      case measure => have := HK2.out; simp [intOf]; omega
    · obtain rfl : m = n := by omega
      have hh := HF.out
      have h0 : List.replicate m (Value.bool true) ++ List.replicate (m - m) (Value.bool false) = List.replicate m (Value.bool true) := by rw [Nat.sub_self]; simp
      have HO := Lib.hid (show wr.ownsRow w1.heap.size 4 1 (.slice (some ⟨w1.heap.size, 0, none⟩) m m) m (List.replicate m (.bool true)) from ⟨by simp, Or.inr ⟨_, m, _, rfl, Nat.le_refl _, hh, Nat.le_refl _, by unfold maxLen; omega, by simp, by rw [h0]; simp⟩⟩)
      clear hh h0 HF
      go_wp2_with fail
      go_ret
      exact retB_own HO.out hg
end Go.Proofs.YtkgbbcmgfbipaaaGreatDoor
