/-
  Runoff: is a name there twice (runoff.twice).
-/
import Derived.Test.YtajhhplgcegodaaGreatDoorInf02
import Derived.Test.YtajhhplgcegodaaGreatDoorInf06
import Derived.Test.YtajhhplgcegodaaGreatDoorInf08

set_option linter.unusedVariables false
set_option linter.unusedSimpArgs false
namespace Go.Proofs.YtajhhplgcegodaaGreatDoor
open Go.RowKit Go.Maps
namespace Ba
structure SlS where
  A : Option Addr
  n : Nat
  c : Nat
  b : Nat
  o : Nat
  X : Nat → ByteArray
structure SlS.At (w : World) (s : SlS) : Prop where
  hA : 0 < s.n → s.A = some ⟨s.b, s.o, none⟩
  hc : s.n ≤ s.c
  hb : s.c ≤ 9223372036854775807
  hX : ∀ i, i < s.n → w.cell? ⟨s.b, s.o + i, none⟩ = some (.string (s.X i)) ∧ (s.X i).size ≤ 9223372036854775807
theorem SlS.At.gr {w w1 : World} {s : SlS} (h : s.At w) (hg : Gr w w1) : s.At w1 := ⟨h.hA, h.hc, h.hb, fun i hi => ⟨Gr.at hg (h.hX i hi).1, (h.hX i hi).2⟩⟩
/-- Is s among the first i names? Are two of the first i names alike? -/
def seenB (X : Nat → ByteArray) : Nat → ByteArray → Bool
  | 0, _ => false
  | i + 1, s => seenB X i s || decide (X i = s)
def twB (X : Nat → ByteArray) : Nat → Bool
  | 0 => false
  | i + 1 => twB X i || seenB X i (X i)
/-- The map of the first i names. -/
def seF (X : Nat → ByteArray) (i : Nat) : Value → Option Value
  | .string s => if seenB X i s = true then some (.bool true) else none
  | _ => none
theorem seF_zero (X : Nat → ByteArray) : seF X 0 = fun _ => none := by
  funext v; unfold seF; split <;> simp [seenB]
theorem seF_get (X : Nat → ByteArray) (i : Nat) (s : ByteArray) : (seF X i (.string s)).getD (.bool false) = .bool (seenB X i s) := by
  unfold seF; simp only; cases seenB X i s <;> rfl
theorem seF_add (X : Nat → ByteArray) (i : Nat) : seF X (i + 1) (.string (X i)) = some (.bool true) ∧ ∀ x, x ≠ .string (X i) → seF X (i + 1) x = seF X i x := by
  refine ⟨by unfold seF; simp [seenB], fun x hx => ?_⟩
  unfold seF
  split
  · rename_i s
    have e : decide (X i = s) = false := decide_eq_false (fun e => hx (by rw [e]))
    simp only [seenB, e, Bool.or_false]
  · rfl
theorem twB_mono {X : Nat → ByteArray} {i n : Nat} (h : twB X i = true) (hi : i ≤ n) : twB X n = true := by
  induction n with
  | zero => obtain rfl : i = 0 := by omega
            exact h
  | succ n ih =>
    by_cases q : i = n + 1
    · rw [← q]; exact h
    · rw [twB, ih (by omega)]; rfl
end Ba
theorem keyed_s : Keyed Tryz.prog 9 := string_keyed Tryz.underlying9
theorem zero_bl (w : World) : (zeroValue 4).run Tryz.prog w = .ok (.bool false) w := by kernel_rfl
theorem map_at {P : Program} {k : TypeId} {w : World} {b : Nat} (h : b = w.heap.size) : MapIs P k (w.alloc (.map #[] 0)) b 0 (fun _ => none) := h ▸ MapIs.made P k w
set_option maxRecDepth 100000 in
set_option maxHeartbeats 4000000 in
theorem twice_any (s : Ba.SlS) (w : World) (h : s.At w) : Calls Tryz.prog 103 #[.slice s.A s.n s.c] w fun e w' => e = .returned (.bool (Ba.twB s.X s.n)) ∧ Gr w w' := by
  have HA := Lib.hid h.hA; have HX := Lib.hid h.hX
  have hm := Nat.le_trans h.hc h.hb
  have HG := Lib.hid (Ba.seF_get s.X); have HAd := Lib.hid (Ba.seF_add s.X); have HT := Lib.hid (fun i => show Ba.twB s.X (i + 1) = (Ba.twB s.X i || Ba.seenB s.X i (s.X i)) from rfl)
  have HM := Lib.hid (fun i (hi : i ≤ s.n) (q : Ba.twB s.X i = true) => Ba.twB_mono q hi)
  have ht0 : Ba.twB s.X 0 = false := rfl
  obtain ⟨A, n, c, b, o, X⟩ := s
  simp only at *
  clear h
  have hz0 := Ba.seF_zero X
  generalize Ba.twB X = tw at *
  generalize Ba.seF X = sf at *
  generalize Ba.seenB X = sn at *
  have hmm := @run_makeMap Tryz.prog
  go_enter Tryz.func103, Tryz.ntmps103
  go_wp2_with fail
  obtain ⟨W0, hW0⟩ : ∃ W, w.alloc (.map #[] 0) = W := ⟨_, rfl⟩
  rw [hW0]
  have hm0 : MapIs Tryz.prog 9 W0 w.heap.size 0 (sf 0) := by rw [← hW0, hz0]; exact map_at rfl
  have g0 : Gr w W0 := hW0 ▸ Gr.alloc (Gr.refl _) _
  obtain ⟨MB, hMB⟩ : ∃ MB, w.heap.size = MB := ⟨_, rfl⟩
  have HB := Lib.hid hMB
  rw [hMB] at hm0 ⊢
  clear hW0 hMB
  go_loopw [9] (fun x wr => ∃ i : Nat, i ≤ n ∧ x = .int .i64 (i : Int) ∧ tw i = false ∧ GrX MB W0 wr ∧ MapIs Tryz.prog 9 wr MB i (sf i)) (fun x _ => n - (intOf x).toNat)
  case atStart => exact ⟨0, Nat.zero_le _, rfl, ht0, GrX.refl _ _, hm0⟩
  case round =>
    clear hm0 ht0
    obtain ⟨i, hi, rfl, hti, hg, hmp⟩ := hrel
    have hmb : w.heap.size ≤ MB := Nat.le_of_eq HB.out
    have gr : Gr w wr := GrX.gr g0 hmb hg
    by_cases hlt : i < n
    · obtain rfl := HA.out (by omega)
      have ib0 : (0 : Int) ≤ (i : Int) := by omega
      have ib1 : (i : Int) < (n : Int) := by omega
      obtain ⟨c0, sz⟩ := HX.out i hlt
      replace c0 := Gr.at gr c0
      have hs1 := HT.out i
      rw [hti, Bool.false_or] at hs1
      have hkl := Go.WideMaps.keyOf_string_mk (P := Tryz.prog) (k := 9) Tryz.underlying9 (s := X i) (by unfold maxLen; exact sz)
      have hlk : (Instr.lookup 192 (.map (some MB)) (.string (X i)) false).run Tryz.prog wr = .ok (.bool (sn i (X i))) wr := by
        have z := hmp.look false keyed_s Tryz.underlying192 (zero_bl wr) hkl
        rw [if_neg (by decide), HG.out] at z
        exact z
      cases q : sn i (X i)
      · rw [q] at hs1 hlk
        obtain ⟨w8, hrun, hst, -, hgx⟩ := hmp.store (val := .bool true) keyed_s Tryz.underlying192 hkl
        have hm8 := hst (sf (i + 1)) (HAd.out i).1 (HAd.out i).2
        have hg8 : GrX MB W0 w8 := hg.trans hgx
        have HS1 := Lib.hid hs1
        clear hst hgx hkl HX HG HAd HT HM sz q hs1 hti hmp
        generalize X i = x at *
        go_wp2_with fail
        go_roundw
        case rel => exact ⟨i + 1, by omega, by go_num, HS1.out, hg8, hm8⟩
        case measure => simp [intOf]; omega
      · rw [q] at hs1 hlk
        have HR := Lib.hid (HM.out (i + 1) hlt hs1)
        clear hkl HX HG HAd HT HM sz q hs1 hti hmp
        generalize X i = x at *
        go_wp2_with fail
        go_ret
        exact ⟨by rw [HR.out]; rfl, gr⟩
    · obtain rfl : n = i := by omega
      have HR := Lib.hid hti
      clear HX HG HAd HT HM hti hmp
      go_wp2_with fail
      go_ret
      exact ⟨by rw [HR.out]; rfl, gr⟩
end Go.Proofs.YtajhhplgcegodaaGreatDoor
