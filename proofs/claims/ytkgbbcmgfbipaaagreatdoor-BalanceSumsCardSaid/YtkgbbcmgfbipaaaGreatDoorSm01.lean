/-
  What the walks of this seat share: worlds that have grown.
  slices.IndexFunc and slices.ContainsFunc, whatever the closure: the first element that has a property.
-/
import Derived.Test.YtkgbbcmgfbipaaaGreatDoorRows
import Derived.WalkKit
import Derived.WalkSpells
import Derived.WalkLawsBesides
import Derived.Handy
import Derived.BigQuiet
import Derived.Deep.QuietTactic
import Derived.Deep.DeepCutAuto
import Derived.Lib.Hide
import Derived.RegionTactic
import Derived.BigRegion
import Derived.StillTailTactics
set_option linter.unusedVariables false
set_option linter.unusedSimpArgs false
namespace Go.Proofs.YtkgbbcmgfbipaaaGreatDoor
open Go.RowKit
/-- The world has grown: what was there is as it was. -/
def Gr (w w' : World) : Prop := Below w.heap.size w w'
theorem Gr.refl (w : World) : Gr w w := Below.refl _ _
theorem Gr.size {w w' : World} (h : Gr w w') : w.heap.size ≤ w'.heap.size := Below.size h
theorem Gr.trans {a b c : World} (h : Gr a b) (k : Gr b c) : Gr a c := Below.trans h (Below.mono k (Below.size h))
theorem Gr.alloc {a w : World} (h : Gr a w) (o : Obj) : Gr a (w.alloc o) := Below.alloc h (Below.size h) o
theorem Gr.drew {a w : World} (h : Gr a w) : Gr a w.drew := Below.drew h
theorem Gr.drewN {a w : World} (h : Gr a w) (n : Nat) : Gr a (w.drewN n) := below_drewN h n
theorem Gr.setCell {a w : World} (h : Gr a w) {p : Addr} (hp : a.heap.size ≤ p.block) (u : Value) : Gr a (w.setCell p u) := Below.setCell h hp u
theorem Gr.of {w w' : World} (h : Below w.heap.size w w') : Gr w w' := h
theorem Gr.cells {W w1 : World} (hb : Gr W w1) : (∀ b o, b < W.heap.size → w1.cell? ⟨b, o, none⟩ = W.cell? ⟨b, o, none⟩) ∧ (∀ b o, b < W.heap.size → w1.frozen? ⟨b, o, none⟩ = W.frozen? ⟨b, o, none⟩) :=
  ⟨fun b o h => Below.cell hb (p := ⟨b, o, none⟩) h, fun b o h => Below.frozen hb (p := ⟨b, o, none⟩) h⟩
theorem Gr.at {W w1 : World} (hb : Gr W w1) {b o : Nat} {v : Value} (h : W.cell? ⟨b, o, none⟩ = some v) : w1.cell? ⟨b, o, none⟩ = some v := cell_later (a := ⟨b, o, none⟩) hb h
theorem Gr.free {W w1 : World} (hb : Gr W w1) {b o : Nat} {v : Value} (h : W.cell? ⟨b, o, none⟩ = some v) (hf : W.frozen? ⟨b, o, none⟩ = false) : w1.frozen? ⟨b, o, none⟩ = false := ((Gr.cells hb).2 b o (World.block_lt_of_cell? W ⟨b, o, none⟩ h)).trans hf
/-- The world has grown: shown from what stands here. -/
theorem gr_auto {a b : World} (h : Gr a b := by repeat' (first | (with_reducible exact Gr.refl _) | (with_reducible assumption) | (with_reducible refine Gr.alloc ?_ _) | (with_reducible refine Gr.drew ?_) | (with_reducible refine Gr.drewN ?_ _) | (with_reducible refine Gr.setCell ?_ ?_ _) | (with_reducible refine Gr.trans ?_ (by with_reducible assumption)) | go_size)) : Gr a b := h
theorem ret_int {k : IntKind} {a b : Int} (h : a = b) : Ending.returned (.int k a) = .returned (.int k b) := by rw [h]
/-- What a cell holds. -/
def cellOf (w : World) (b o : Nat) : Value := (w.cell? ⟨b, o, none⟩).getD (.bool false)
/-- The world has grown, and nothing that was there has turned but for what block R holds. -/
structure GrX (R : Nat) (w w' : World) : Prop where
  os : w'.os = w.os
  tape : w'.tape = w.tape
  output : w'.output = w.output
  size : w.heap.size ≤ w'.heap.size
  block : ∀ k, k < w.heap.size → k ≠ R → w'.heap[k]? = w.heap[k]?
  row : ∀ o, (w.cell? ⟨R, o, none⟩).isSome = true → (w'.cell? ⟨R, o, none⟩).isSome = true
  free : ∀ o, (w.cell? ⟨R, o, none⟩).isSome = true → w'.frozen? ⟨R, o, none⟩ = w.frozen? ⟨R, o, none⟩
theorem GrX.refl (R : Nat) (w : World) : GrX R w w := ⟨rfl, rfl, rfl, Nat.le_refl _, fun _ _ _ => rfl, fun _ h => h, fun _ _ => rfl⟩
theorem GrX.grown {R : Nat} {a b c : World} (h : GrX R a b) (k : Gr b c) : GrX R a c := by
  have hcell : ∀ o, (b.cell? ⟨R, o, none⟩).isSome = true → c.cell? ⟨R, o, none⟩ = b.cell? ⟨R, o, none⟩ := fun o ho => by
    obtain ⟨v, hv⟩ := Option.isSome_iff_exists.1 ho
    rw [hv]; exact Gr.at k hv
  refine ⟨k.os.trans h.os, k.tape.trans h.tape, k.output.trans h.output, Nat.le_trans h.size (Gr.size k), fun i hi hR => (Below.block k i (Nat.lt_of_lt_of_le hi h.size)).trans (h.block i hi hR), fun o ho => ?_, fun o ho => ?_⟩
  · rw [hcell o (h.row o ho)]; exact h.row o ho
  · obtain ⟨v, hv⟩ := Option.isSome_iff_exists.1 (h.row o ho)
    exact ((Gr.cells k).2 R o (World.block_lt_of_cell? b ⟨R, o, none⟩ hv)).trans (h.free o ho)
theorem GrX.drew {R : Nat} {a b : World} (h : GrX R a b) : GrX R a b.drew := h.grown (Gr.drew (Gr.refl _))
theorem GrX.drewN {R : Nat} {a b : World} (h : GrX R a b) (n : Nat) : GrX R a (b.drewN n) := h.grown (Gr.drewN (Gr.refl _) n)
theorem GrX.alloc {R : Nat} {a b : World} (h : GrX R a b) (o : Obj) : GrX R a (b.alloc o) := h.grown (Gr.alloc (Gr.refl _) o)
theorem GrX.setCell {R : Nat} {a b : World} (h : GrX R a b) {p : Addr} (hp : p.block = R) (u : Value) : GrX R a (b.setCell p u) := by
  subst hp
  refine ⟨h.os, h.tape, h.output, by simpa [World.setCell] using h.size, fun i hi hR => (Below.heap_setCell _ _ _ _ hR).trans (h.block i hi hR), fun o ho => ?_, fun o ho => ?_⟩
  · by_cases e : (⟨p.block, o, none⟩ : Addr) = p
    · have hr := h.row o ho
      rw [e] at hr ⊢
      rw [World.cell?_setCell_same' _ _ _ hr]; rfl
    · rw [World.cell?_setCell_other _ _ _ _ (Ne.symm e)]; exact h.row o ho
  · rw [← h.free o ho]
    simp [go_sem]
theorem GrX.at {R : Nat} {w w' : World} (h : GrX R w w') {b o : Nat} {v : Value} (hb : b ≠ R) (hc : w.cell? ⟨b, o, none⟩ = some v) : w'.cell? ⟨b, o, none⟩ = some v := by
  have hlt := World.block_lt_of_cell? w ⟨b, o, none⟩ hc
  rw [← hc]; exact World.cell?_of_block (w := w) (h.block b hlt hb)
theorem GrX.own {R : Nat} {w w' : World} (h : GrX R w w') {o : Nat} (hc : (w.cell? ⟨R, o, none⟩).isSome = true) : w'.cell? ⟨R, o, none⟩ = some (cellOf w' R o) := by
  obtain ⟨v, hv⟩ := Option.isSome_iff_exists.1 (h.row o hc)
  unfold cellOf; rw [hv]; rfl
theorem GrX.gr {R : Nat} {w W0 w' : World} (g : Gr w W0) (hR : w.heap.size ≤ R) (h : GrX R W0 w') : Gr w w' :=
  ⟨h.os.trans g.os, h.tape.trans g.tape, h.output.trans g.output, Nat.le_trans (Gr.size g) h.size, fun k hk => (h.block k (Nat.lt_of_lt_of_le hk (Gr.size g)) (by omega)).trans (Below.block g k hk)⟩
theorem name_world {P : Program} {c : Code} {Q : Exit → Act → World → Prop} {a : Act} {w : World} (h : ∀ W, W = w → Code.wp P c Q a W) : Code.wp P c Q a w := h w rfl
end Go.Proofs.YtkgbbcmgfbipaaaGreatDoor
set_option linter.unusedVariables false
set_option linter.unusedSimpArgs false
namespace Go.Proofs.YtkgbbcmgfbipaaaGreatDoor
open Go.RowKit
theorem ret_bool {a b : Bool} (h : a = b) : Ending.returned (.bool a) = .returned (.bool b) := by rw [h]
namespace Ba
/-- The first index below n that has a property. -/
def fst (p : Nat → Bool) : Nat → Option Nat
  | 0 => none
  | k + 1 => match fst p k with
    | some i => some i
    | none => if p k then some k else none
def fstI (p : Nat → Bool) (n : Nat) : Int := match fst p n with
  | some i => (i : Int)
  | none => -1
theorem fst_hit {p : Nat → Bool} {i : Nat} (h : fst p i = none) (hp : p i = true) : ∀ k, fst p (i + 1 + k) = some i
  | 0 => by rw [Nat.add_zero, fst, h]; simp [hp]
  | k + 1 => by rw [show i + 1 + (k + 1) = i + 1 + k + 1 by omega, fst, fst_hit h hp k]
theorem fst_miss {p : Nat → Bool} {i : Nat} (h : fst p i = none) (hp : p i = false) : fst p (i + 1) = none := by rw [fst, h]; simp [hp]
theorem fstI_hit {p : Nat → Bool} {i n : Nat} (h : fst p i = none) (hp : p i = true) (hi : i < n) : fstI p n = (i : Int) := by
  unfold fstI
  rw [show n = i + 1 + (n - (i + 1)) by omega, fst_hit h hp]
theorem fstI_none {p : Nat → Bool} {n : Nat} (h : fst p n = none) : fstI p n = -1 := by unfold fstI; rw [h]
theorem fst_some {p : Nat → Bool} : ∀ {n i : Nat}, fst p n = some i → i < n ∧ p i = true ∧ ∀ j, j < i → p j = false
  | 0, i, h => by cases h
  | n + 1, i, h => by
    rw [fst] at h
    cases e : fst p n with
    | some k =>
      rw [e] at h; simp only [Option.some.injEq] at h; subst h
      obtain ⟨a, b, c⟩ := fst_some e
      exact ⟨by omega, b, c⟩
    | none =>
      rw [e] at h
      simp only at h
      split at h
      · rename_i hp
        simp only [Option.some.injEq] at h; subst h
        refine ⟨by omega, hp, fun j hj => ?_⟩
        exact fst_no e j hj
      · cases h
where
  fst_no {p : Nat → Bool} : ∀ {n : Nat}, fst p n = none → ∀ j, j < n → p j = false
  | 0, _, j, hj => by omega
  | n + 1, h, j, hj => by
    rw [fst] at h
    cases e : fst p n with
    | some k => rw [e] at h; cases h
    | none =>
      rw [e] at h
      simp only at h
      split at h
      · cases h
      · rename_i hp
        by_cases e2 : j = n
        · subst e2; simpa using hp
        · exact fst_no e j (by omega)
/-- Has one of them the property? -/
def any (p : Nat → Bool) (n : Nat) : Bool := (fst p n).isSome
theorem fstI_ge (p : Nat → Bool) (n : Nat) : decide (0 ≤ fstI p n) = any p n := by
  unfold fstI any
  cases e : fst p n with
  | none => simp
  | some i => simp
end Ba
set_option maxRecDepth 100000 in
set_option maxHeartbeats 1000000 in
theorem idx_ints (f : FuncId) (cap : Array Value) (A : Option Addr) (n c b o : Nat) (X : Nat → Int) (p : Nat → Bool) (w : World) (hn : n ≤ 9223372036854775807) (hen : ∀ args w, (callFunc f args).run Tryz.prog w = .ok (.enter f args) w)
    (hA : 0 < n → A = some ⟨b, o, none⟩) (hX : ∀ i, i < n → w.cell? ⟨b, o + i, none⟩ = some (.int .i64 (X i)))
    (hp : ∀ i, i < n → ∀ W, Gr w W → Calls Tryz.prog f (#[.int .i64 (X i)] ++ cap) W fun e w' => e = .returned (.bool (p i)) ∧ Gr W w') :
    Calls Tryz.prog 87 #[.slice A n c, .func (.func f) #[] cap] w fun e w' => e = .returned (.int .i64 (Ba.fstI p n)) ∧ Gr w w' := by
  have HA := Lib.hid hA; have HX := Lib.hid hX; have HP := Lib.hid hp
  clear hA hX hp
  go_enter Tryz.func87, Tryz.ntmps87
  go_wp2_with fail
  go_loopw [8] (fun s8 wr => ∃ i : Nat, i ≤ n ∧ s8 = .int .i64 (i : Int) ∧ Gr w wr ∧ Hid (Ba.fst p i = none)) (fun s8 _ => n - (intOf s8).toNat)
  case atStart => exact ⟨0, Nat.zero_le _, rfl, Gr.refl _, rfl⟩
  case round =>
    obtain ⟨i, hi, rfl, hg, hf⟩ := hrel
    by_cases hlt : i < n
    · obtain rfl := HA.out (by omega)
      have a0 := Gr.at hg (HX.out i hlt)
      have HC := Lib.hid (HP.out i hlt)
      cases hpi : p i
      · rw [hpi] at HC
        have HF := Lib.hid (Ba.fst_miss hf.out hpi)
        clear hpi hi
        go_wp2_with fail
        refine (HC.out _ gr_auto).mono ?_
        rintro e w1 ⟨rfl, hb1⟩
        go_wp2_with fail
        go_roundw
        case rel => exact ⟨i + 1, by omega, by go_num, gr_auto, HF⟩
        case measure => simp [intOf]; omega
      · rw [hpi] at HC
        have HF := Lib.hid (Ba.fstI_hit hf.out hpi hlt)
        clear hpi hi
        go_wp2_with fail
        refine (HC.out _ gr_auto).mono ?_
        rintro e w1 ⟨rfl, hb1⟩
        go_wp2_with fail
        go_ret
        exact ⟨ret_int HF.out.symm, gr_auto⟩
    · obtain rfl : i = n := by omega
      have HF := Lib.hid (Ba.fstI_none hf.out)
      go_wp2_with fail
      go_ret
      exact ⟨ret_int HF.out.symm, hg⟩
end Go.Proofs.YtkgbbcmgfbipaaaGreatDoor
