/-
  Decimal numerals: the reference's Decimal; strconv.Itoa of numbers of at least 0; strings.Builder. (Printed by mkbsdec.py.)
-/
import Derived.Test.YtkgbbcmgfbipaaaGreatDoorSm01
import Derived.Test.YtkgbbcmgfbipaaaGreatDoorSm43
import Derived.Test.YtkgbbcmgfbipaaaGreatDoorSm32
import Derived.Test.YtkgbbcmgfbipaaaGreatDoorSm33
import Derived.Lib.AppendIntMem
import Derived.Maps.AppendAt
import Derived.OwnWalk
set_option linter.unusedVariables false
set_option linter.unusedSimpArgs false
namespace Go.Proofs.YtkgbbcmgfbipaaaGreatDoor
open Go.RowKit
namespace Dg
theorem nDigits_ge : ∀ n : Nat, 1 ≤ n → 10 ^ (Lib.nDigits n - 1) ≤ n := by
  intro n
  induction n using Nat.strongRecOn with
  | ind n ih =>
    intro h1
    rw [Lib.nDigits]
    split
    · simpa using h1
    · have := ih (n / 10) (by omega) (by omega)
      have p := nDigits_pos (n / 10)
      obtain ⟨j, hj⟩ : ∃ j, Lib.nDigits (n / 10) = j + 1 := ⟨Lib.nDigits (n / 10) - 1, by omega⟩
      rw [hj] at this ⊢
      simp only [Nat.add_sub_cancel] at this ⊢
      rw [Nat.pow_succ]; omega
theorem more {n c k : Nat} (hc : 1 ≤ c) : k < max c (Lib.nDigits n) ↔ (0 < n / 10 ^ k ∨ k < c) := by
  have hp : 0 < 10 ^ k := Nat.pow_pos (by omega)
  have e : 0 < n / 10 ^ k ↔ 10 ^ k ≤ n := by rw [Nat.div_pos_iff]; omega
  rw [e]
  constructor
  · intro h
    by_cases hk : k < c
    · exact Or.inr hk
    · left
      have hd : k < Lib.nDigits n := by omega
      by_cases h1 : 1 ≤ n
      · exact Nat.le_trans (Nat.pow_le_pow_right (by omega) (by omega)) (nDigits_ge n h1)
      · have : n = 0 := by omega
        subst this
        rw [Lib.nDigits] at hd; simp at hd; omega
  · intro h
    rcases h with h | h
    · have := nDigits_lt n
      have : k < Lib.nDigits n := by
        rcases Nat.lt_or_ge k (Lib.nDigits n) with a | a
        · exact a
        · have := Nat.pow_le_pow_right (show 0 < 10 by omega) a; omega
      omega
    · omega
end Dg
theorem one_byte (W : World) (x : Nat) (hx : x < 256) : (convert 76 9 (.slice (some ⟨W.heap.size, 0, none⟩) 1 1)).run Tryz.prog (W.alloc (.cells #[.int .u8 (x : Int)] 5)) = .ok (.string ⟨#[UInt8.ofNat x]⟩) (W.alloc (.cells #[.int .u8 (x : Int)] 5)) := by
  refine run_convert_bytes_back _ _ _ 5 _ _ [UInt8.ofNat x] Tryz.underlying76 Tryz.underlying5 Tryz.underlying9 fun j hj => ?_
  have : j = 0 := by simpa using hj
  subst this
  have hb : ((UInt8.ofNat x).toNat : Int) = x := by rw [UInt8.toNat_ofNat']; omega
  simp only [List.getElem_cons_zero, hb]
  show World.cell? _ ⟨W.heap.size, 0, none⟩ = _
  rw [World.cell?_alloc_at _ _ _ _ rfl]; rfl
/-- The table of powers of ten, as the program's text lays it. -/
def Tab (w : World) : Prop := Lib.TabIs Tryz.prog w "internal/strconv.uint64pow10" .u64 Lib.pow10Tab
theorem Tab.gr {w w' : World} (h : Tab w) (hg : Gr w w') : Tab w' := Lib.tabBelow_of_tabIs h w' hg
theorem itoa_any (x : Int) (w : World) (h0 : 0 ≤ x) (h1 : x ≤ 9223372036854775807) (ht : x < 100 ∨ Tab w) :
    Calls Tryz.prog 33 #[.int .i64 x] w fun e w' => e = .returned (.string ⟨(Lib.decDigits x.toNat).toArray⟩) ∧ Gr w w' := by
  obtain ⟨n, rfl⟩ := Int.eq_ofNat_of_zero_le h0
  by_cases hs : n < 100
  · exact (Tryz.strconv_Itoa_small n hs w).mono fun e w' ⟨he, hw⟩ => ⟨he, by rw [hw]; exact Gr.refl _⟩
  · have ht' : Tab w := by rcases ht with h | h; omega; exact h
    refine (Tryz.strconv_Itoa n (by omega) h1 w ht').mono fun e w' ⟨he, k, os, hw⟩ => ⟨?_, ?_⟩
    · rw [he, Lib.itoa_nonneg]; rfl
    · rw [hw]; exact Lib.below_grow _ w (Nat.le_refl _) k os
/-- A builder stays one when the world grows. -/
theorem builder_gr {w w' : World} {T e : TypeId} {B b : Nat} {bs : List Value} (h : Lib.IsBuilder T e B b bs w) (hg : Gr w w') : Lib.IsBuilder T e B b bs w' := by
  have one : ∀ {p : Value}, Lib.BuilderAt T e B b p bs w → Lib.BuilderAt T e B b p bs w' := fun {p} ⟨hB, v, hb, ho, hn⟩ => by
    have hlt : b < w.heap.size := (Array.getElem?_eq_some_iff.1 hb).1
    exact ⟨hB, v, (Below.block hg b hlt).trans hb, ownsRow_gr ho hg, hn⟩
  exact h.elim (fun x => .inl (one x)) (fun x => .inr (one x))
theorem byteCells_app (a b : List UInt8) : Lib.byteCells (a ++ b) = Lib.byteCells a ++ Lib.byteCells b := by unfold Lib.byteCells; rw [List.map_append]
/-- A new builder. -/
theorem builder_new (w : World) : Lib.IsBuilder 78 5 w.heap.size w.heap.size (Lib.byteCells []) (w.alloc (.cells #[.pointer none, .slice none 0 0] 78)) :=
  Or.inl ⟨Nat.le_refl _, .slice none 0 0, heap_alloc_new w _, ⟨rfl, Or.inl ⟨rfl, rfl⟩⟩, by simp [Value.ownBlock]⟩
theorem wstr_any (b : Nat) (l : List UInt8) (s : ByteArray) (w : World) (h : Lib.IsBuilder 78 5 b b (Lib.byteCells l) w) (hl : l.length ≤ 3000000) (hs : s.size ≤ 1000000) (hb : b ≤ w.heap.size) :
    Calls Tryz.prog 32 #[.pointer (some ⟨b, 0, none⟩), .string s] w fun e w' => e = .returned (.tuple #[.int .i64 (s.size : Int), .nilIface]) ∧ Hid (Lib.IsBuilder 78 5 b b (Lib.byteCells (l ++ s.data.toList)) w') ∧ Below b w w' := by
  refine (Tryz.Builder_WriteString b b (Lib.byteCells l) s w h (by rw [Lib.byteCells_length]; omega) hb).mono fun e w' ⟨he, hB, hw⟩ => ⟨he, ?_, hw⟩
  rw [byteCells_app]; exact Or.inr hB
set_option maxRecDepth 100000 in
set_option maxHeartbeats 4000000 in
theorem rdec4_any (n : Nat) (w : World) (hn : n < 9223372036854775808) : Calls Tryz.prog 38 #[.int .i64 (n : Int)] w fun e w' => e = .returned (.string ⟨(Lib.decDigits n).toArray⟩) ∧ Gr w w' := by
  by_cases h0 : n = 0
  · subst h0
    have e0 : Lib.decDigits 0 = [48] := by rw [Lib.decDigits]; rfl
    rw [e0]
    go_enter Tryz.func38, Tryz.ntmps38
    go_wp2_with fail
    go_ret
    exact ⟨rfl, gr_auto⟩
  have hm : max 1 (Lib.nDigits n) ≤ 20 := by have := Dg.nDigits_le (c := 19) (n := n) (by omega) (by omega); omega
  have HM := Lib.hid (fun k => Dg.more (n := n) (c := 1) (k := k) (Nat.le_refl _))
  have HP := Lib.hid (show Dg.pd n (max 1 (Lib.nDigits n)) = Lib.decDigits n from by rw [Dg.dec_pd, Nat.max_eq_right (Dg.nDigits_pos n)])
  have HL := Lib.hid (fun k => Dg.pd_len k n)
  generalize max 1 (Lib.nDigits n) = M at *
  have nz : ((n : Int) == 0) = false := beq_eq_false_iff_ne.2 (by omega)
  go_enter Tryz.func38, Tryz.ntmps38
  go_wp2_with fail
  go_loopw [3, 4] (fun s5 s0 wr => ∃ k q : Nat, k ≤ M ∧ Hid (q = n / 10 ^ k) ∧ s0 = .int .i64 q ∧ s5 = .string ⟨(Dg.pd n k).toArray⟩ ∧ Gr w wr ∧ q < 9223372036854775808) (fun s5 s0 _ => M - (match s5 with | .string s => s.size | _ => 0))
  case atStart => exact ⟨0, n, by omega, Lib.hid (by simp), rfl, rfl, gr_auto, hn⟩
  case round =>
    obtain ⟨k, q, hk, hq, rfl, rfl, hg, hq1⟩ := hrel
    have hl := HL.out k
    have hmk := HM.out k
    rw [← hq.out] at hmk
    have HPD := Lib.hid (Dg.pd_cons k n)
    rw [← hq.out] at HPD
    have hl' : (Dg.pd n k).length ≤ 20 := by omega
    have HLk := Lib.hid hl
    clear hl
    by_cases hkM : k < M
    · have hor := hmk.1 hkM
      have hq0 : 0 < q := by
        rcases hor with h | h
        · exact h
        · obtain rfl : k = 0 := by omega
          rw [hq.out]; simp; omega
      have HMK := Lib.hid hmk; clear hmk hor
      have hq10 : q / 10 < 9223372036854775808 := by omega
      have hqq : Hid (q / 10 = n / 10 ^ (k + 1)) := Lib.hid (by rw [hq.out, Nat.div_div_eq_div_mul, Nat.pow_succ])
      have hcv : ∀ W : World, (convert 76 9 (.slice (some ⟨W.heap.size, 0, none⟩) 1 1)).run Tryz.prog (W.alloc (.cells #[.int .u8 (48 + (q : Int) % 10)] 5)) = .ok (.string ⟨#[UInt8.ofNat (48 + q % 10)]⟩) (W.alloc (.cells #[.int .u8 (48 + (q : Int) % 10)] 5)) := fun W => by
        have := one_byte W (48 + q % 10) (by omega)
        rw [show ((48 + q % 10 : Nat) : Int) = 48 + (q : Int) % 10 by omega] at this
        exact this
      generalize UInt8.ofNat (48 + q % 10) = dc at *
      have t1 : ((q : Int) == 0) = false := beq_eq_false_iff_ne.2 (by omega)
      have t2 : ((q : Int) != 0) = true := bne_iff_ne.2 (by omega)
      go_wp2_with fail
      go_roundw
      case rel => exact ⟨k + 1, q / 10, by omega, hqq, by go_num, by rw [HPD.out]; exact congrArg Value.string (by apply ByteArray.ext; simp [ByteArray.data_append]), gr_auto, hq10⟩
      case measure => simp [ByteArray.size, Dg.pd_len]; omega
    · have hq0 : q = 0 := by
        rcases Nat.eq_zero_or_pos q with h | h
        · exact h
        · exact absurd (hmk.2 (.inl h)) hkM
      subst hq0
      obtain rfl : k = M := by omega
      clear hmk
      go_wp2_with fail
      go_ret
      exact ⟨by rw [← HP.out]; rfl, gr_auto⟩
end Go.Proofs.YtkgbbcmgfbipaaaGreatDoor
