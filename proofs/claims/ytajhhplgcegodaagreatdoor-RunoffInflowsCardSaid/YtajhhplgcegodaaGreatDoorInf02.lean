/-
  A region that draws its order, of loads and of calls that make memory: one walk in the order of the text serves every order, if each call answers alike in every world that has grown.
  A region that draws its order, of reads before one last operation that writes: the reads in the order of the text.
  And worlds in which two blocks alone have turned.
  A region that draws its order, by an invariant: whatever order is picked, each operation that comes up keeps it.
  A region that draws its order: reads and calls that make memory, and one last operation that waits for all of them.
  Slices that a call makes: kept while the world grows; read as they are.
  A row of one-cell elements that a call makes and writes: what it holds.
  Worlds in which, of what was there, the blocks of one range alone have turned.
  Maps that a call makes: what a map's block answers at each key, whatever its elements are.
-/
import Derived.Test.YtajhhplgcegodaaGreatDoorInf01
import Derived.Deep.Quiet
import Derived.BigQuiet
import Derived.StillTail
import Derived.Orders
import Derived.OwnWalk
import Derived.Laws.CopyOwn
import Derived.Maps.Own
import Derived.Maps.OwnOps
set_option linter.unusedVariables false
set_option linter.unusedSimpArgs false
namespace Go.Proofs.YtajhhplgcegodaaGreatDoor
open Go.RowKit
/-- The worlds that have grown from W. -/
structure GW (W : World) where
  val : World
  property : Gr W val
instance (W : World) : Nonempty (GW W) := ⟨⟨W, Gr.refl W⟩⟩
theorem wp_region_gr {P : Program} {id : Nat} {Q : Exit → Act → World → Prop} {a : Act} {w : World} {l : List Oper} (hm : P.follows .mixedOrders = true) (hB : Region.lexB .any l.toArray = true)
    (h : wpQuiet P l.toArray (fun w' => ∃ x : GW w, w' = x.1) (fun a' => ∀ w', Gr w w' → Q .normal a' w') l a) : (Code.region id l.toArray true).wp P Q a w := by
  have e : (fun a' => ∀ w', Gr w w' → Q .normal a' w') = (fun a' => ∀ w', (∃ x : GW w, w' = x.1) → Q .normal a' w') := by
    funext a'
    apply propext
    constructor
    · rintro h w' ⟨x, rfl⟩; exact h _ x.2
    · intro h w' hg; exact h w' ⟨⟨w', hg⟩, rfl⟩
  rw [e] at h
  exact wp_region_quiet (C := fun w' => ∃ x : GW w, w' = x.1) hm hB ⟨⟨w.drew, Gr.drew (Gr.refl w)⟩, rfl⟩ h
theorem gw_call {P : Program} {f : FuncId} {args : Array Value} {W : World} {x : GW W} {v : Value} (h : Calls P f args x.1 fun e w' => e = .returned v ∧ Gr x.1 w') : Calls P f args x.1 fun e w'' => e = .returned v ∧ ∃ y : GW W, w'' = y.1 :=
  h.mono fun _ w' ⟨he, hg⟩ => ⟨he, ⟨w', x.2.trans hg⟩, rfl⟩
theorem gw_same {P : Program} {f : FuncId} {args : Array Value} {W : World} {x : GW W} {v : Value} (h : Calls P f args x.1 fun e w' => e = .returned v ∧ x.1 = w') : Calls P f args x.1 fun e w'' => e = .returned v ∧ ∃ y : GW W, w'' = y.1 :=
  h.mono fun _ _ ⟨he, hw⟩ => ⟨he, x, hw.symm⟩
end Go.Proofs.YtajhhplgcegodaaGreatDoor
namespace Go.Proofs.YtajhhplgcegodaaGreatDoor
open Go.RowKit
theorem still_of_quiet {P : Program} {o : Oper} {a : Act} {W : World} {K K' : Act → Prop} (hn : ∀ a, K a → K' a) (h : o.quiet P a (fun w' => w' = W) K) : o.still P a W K' := by
  obtain ⟨v, h1, h2⟩ := h
  have h3 := h1 W rfl
  unfold Oper.quietAt at h3
  unfold Oper.still
  generalize (execOp a.eval o).run P W = r at *
  cases r with
  | halt x w' => simp only [Oper.quietUpon] at h3
  | ok n w' =>
    cases n with
    | value u =>
      simp only [Oper.quietUpon] at h3
      simp only [Oper.stillUpon]
      exact ⟨h3.1, by rw [h3.2]; exact hn _ h2⟩
    | skip =>
      simp only [Oper.quietUpon] at h3
      simp only [Oper.stillUpon]
      exact ⟨h3.1, by rw [← h3.2]; exact hn _ h2⟩
    | enter f args =>
      simp only [Oper.quietUpon] at h3
      simp only [Oper.stillUpon]
      exact ⟨h3.1, v, h3.2, hn _ h2⟩
    | _ => simp only [Oper.quietUpon] at h3
theorem wpStill_of_quiet {P : Program} {ops : Array Oper} {W : World} {Q : Act → Prop} : ∀ (l : List Oper) (a : Act), wpQuiet P ops (fun w' => w' = W) Q l a → wpStill P ops W Q l a
  | [], _, h => h
  | o :: l, a, h => by
    unfold wpQuiet at h
    unfold wpStill
    split
    · rename_i hw; rw [if_pos hw] at h; exact still_of_quiet (fun a' => wpStill_of_quiet l a') h
    · rename_i hw; rw [if_neg hw] at h; exact wpStill_of_quiet l _ h
theorem wp_region_tail {P : Program} {id : Nat} {Q : Exit → Act → World → Prop} {a : Act} {w : World} {l : List Oper} (n : Nat) (hm : P.follows .mixedOrders = true) (hB : Region.lexTailB .any l.toArray n = true)
    (h : wpQuiet P l.toArray (fun w' => w' = w.drew) (fun a' => wpList P l.toArray Q (l.drop n) a' w.drew) (l.take n) a) : (Code.region id l.toArray true).wp P Q a w :=
  wp_region_still_tail n hm hB (wpStill_of_quiet _ _ h)
/-- The world has grown; of what was there, the blocks R and M alone have turned. -/
structure GrY (R M : Nat) (w w' : World) : Prop where
  os : w'.os = w.os
  tape : w'.tape = w.tape
  output : w'.output = w.output
  size : w.heap.size ≤ w'.heap.size
  block : ∀ k, k < w.heap.size → k ≠ R → k ≠ M → w'.heap[k]? = w.heap[k]?
theorem GrY.refl (R M : Nat) (w : World) : GrY R M w w := ⟨rfl, rfl, rfl, Nat.le_refl _, fun _ _ _ _ => rfl⟩
theorem GrY.gr {R M : Nat} {a b c : World} (h : GrY R M a b) (k : Gr b c) : GrY R M a c :=
  ⟨k.os.trans h.os, k.tape.trans h.tape, k.output.trans h.output, Nat.le_trans h.size (Gr.size k), fun i hi hR hM => (Below.block k i (Nat.lt_of_lt_of_le hi h.size)).trans (h.block i hi hR hM)⟩
theorem GrY.drew {R M : Nat} {a b : World} (h : GrY R M a b) : GrY R M a b.drew := h.gr (Gr.drew (Gr.refl _))
theorem GrY.drewN {R M : Nat} {a b : World} (h : GrY R M a b) (n : Nat) : GrY R M a (b.drewN n) := h.gr (Gr.drewN (Gr.refl _) n)
theorem GrY.alloc {R M : Nat} {a b : World} (h : GrY R M a b) (o : Obj) : GrY R M a (b.alloc o) := h.gr (Gr.alloc (Gr.refl _) o)
theorem GrY.setCell {R M : Nat} {a b : World} (h : GrY R M a b) {p : Addr} (hp : p.block = R) (u : Value) : GrY R M a (b.setCell p u) := by
  subst hp
  exact ⟨h.os, h.tape, h.output, by simpa [World.setCell] using h.size, fun i hi hR hM => (Below.heap_setCell _ _ _ _ hR).trans (h.block i hi hR hM)⟩
theorem GrY.grx {R M : Nat} {a b c : World} (h : GrY R M a b) (k : GrX M b c) : GrY R M a c :=
  ⟨k.os.trans h.os, k.tape.trans h.tape, k.output.trans h.output, Nat.le_trans h.size k.size, fun i hi hR hM => (k.block i (Nat.lt_of_lt_of_le hi h.size) hM).trans (h.block i hi hR hM)⟩
theorem GrY.at {R M : Nat} {w w' : World} (h : GrY R M w w') {b o : Nat} {v : Value} (hR : b ≠ R) (hM : b ≠ M) (hc : w.cell? ⟨b, o, none⟩ = some v) : w'.cell? ⟨b, o, none⟩ = some v := by
  have hlt := World.block_lt_of_cell? w ⟨b, o, none⟩ hc
  rw [← hc]; exact World.cell?_of_block (w := w) (h.block b hlt hR hM)
theorem GrY.below {R M : Nat} {w W0 w' : World} (g : Gr w W0) (hR : w.heap.size ≤ R) (hM : w.heap.size ≤ M) (h : GrY R M W0 w') : Gr w w' :=
  ⟨h.os.trans g.os, h.tape.trans g.tape, h.output.trans g.output, Nat.le_trans (Gr.size g) h.size, fun k hk => (h.block k (Nat.lt_of_lt_of_le hk (Gr.size g)) (by omega) (by omega)).trans (Below.block g k hk)⟩
/-- A cell holds a value, and may be written. -/
def Own (w : World) (b o : Nat) (v : Value) : Prop := w.cell? ⟨b, o, none⟩ = some v ∧ w.frozen? ⟨b, o, none⟩ = false
theorem Own.gr {w w' : World} {b o : Nat} {v : Value} (h : Own w b o v) (g : Gr w w') : Own w' b o v := ⟨Gr.at g h.1, Gr.free g h.1 h.2⟩
theorem Own.grx {M : Nat} {w w' : World} {b o : Nat} {v : Value} (h : Own w b o v) (g : GrX M w w') (hb : b ≠ M) : Own w' b o v :=
  ⟨GrX.at g hb h.1, by
    have hlt := World.block_lt_of_cell? w ⟨b, o, none⟩ h.1
    have e := g.block b hlt hb
    have := h.2
    simp only [World.frozen?, e] at this ⊢
    exact this⟩
theorem Own.set {w : World} {b o : Nat} {v u : Value} (h : Own w b o v) : Own (w.setCell ⟨b, o, none⟩ u) b o u :=
  ⟨World.cell?_setCell_same' _ _ _ (by rw [h.1]; rfl), by have := h.2; simpa [go_sem] using this⟩
theorem Own.other {w : World} {b o b' o' : Nat} {v u : Value} (h : Own w b o v) (hne : b ≠ b' ∨ o ≠ o') : Own (w.setCell ⟨b', o', none⟩ u) b o v :=
  ⟨by rw [World.cell?_setCell_other _ _ _ _ (fun e => by simp only [Addr.mk.injEq] at e; omega)]; exact h.1, by have := h.2; simpa [go_sem] using this⟩
end Go.Proofs.YtajhhplgcegodaaGreatDoor
namespace Go.Proofs.YtajhhplgcegodaaGreatDoor
open Go.RowKit
/-- How many operations have not come up yet. -/
def todo (l : Array Bool) : Nat := l.toList.count false
theorem todo_zero {l : Array Bool} (h : todo l = 0) (i : Nat) (hi : i < l.size) : l.getD i false = true := by
  unfold todo at h
  rw [List.count_eq_zero] at h
  have hx : l[i]? = some l[i] := Array.getElem?_eq_getElem hi
  cases e : l[i] with
  | true => simp [Array.getD, hi, e]
  | false => exact absurd (by rw [← e]; simp) h
theorem count_set : ∀ (l : List Bool) (i : Nat), l[i]? = some false → (l.set i true).count false + 1 = l.count false
  | [], i, h => by simp at h
  | b :: l, 0, h => by
    simp at h; subst h; simp
  | b :: l, i + 1, h => by
    have ih := count_set l i (by simpa using h)
    simp only [List.set_cons_succ, List.count_cons]
    omega
theorem todo_set {l : Array Bool} {i : Nat} (h : l.getD i true = false) : todo (l.setIfInBounds i true) + 1 = todo l := by
  unfold todo
  have hi : i < l.size := by
    rcases Nat.lt_or_ge i l.size with q | q
    · exact q
    · simp [Array.getD] at h; exact h.1
  have : l.toList[i]? = some false := by
    simp [Array.getD, hi] at h
    simp [hi, h]
  rw [Array.toList_setIfInBounds]
  exact count_set _ _ this
/-- No operation waits for a later one. -/
def edgesB (ops : Array Oper) : Bool := (List.range ops.size).all fun i => ((ops[i]?).map fun o => o.after.all fun e => decide (e.on < i)).getD true
theorem ready_all {ops : Array Oper} {md : Region.Mode} {listed : Array Bool} (hE : edgesB ops = true) (hz : listed.size = ops.size) (h : Region.ready md ops listed = []) : ∀ i, i < ops.size → listed.getD i false = true := by
  intro i
  induction i using Nat.strongRecOn with
  | _ i ih =>
    intro hi
    cases e : listed.getD i false with
    | true => rfl
    | false =>
      have hm : i ∈ Region.ready md ops listed := by
        rw [mem_ready]
        have hi' : i < listed.size := by omega
        have e2 : listed.getD i true = false := by
          simp [Array.getD, hi'] at e ⊢; exact e
        refine ⟨e2, ops[i], Array.getElem?_eq_getElem hi, fun x hx _ => ih x.on ?_ ?_⟩
        · unfold edgesB at hE
          rw [List.all_eq_true] at hE
          have := hE i (List.mem_range.2 hi)
          rw [Array.getElem?_eq_getElem hi] at this
          simp only [Option.map_some, Option.getD_some] at this
          have := Array.all_eq_true_iff_forall_mem.1 this x hx
          simpa using this
        · unfold edgesB at hE
          rw [List.all_eq_true] at hE
          have := hE i (List.mem_range.2 hi)
          rw [Array.getElem?_eq_getElem hi] at this
          simp only [Option.map_some, Option.getD_some] at this
          have := Array.all_eq_true_iff_forall_mem.1 this x hx
          have : x.on < i := by simpa using this
          omega
      rw [h] at hm
      cases hm
theorem wpOp_of {P : Program} {ops : Array Oper} {Q : Exit → Act → World → Prop} {i : Nat} {K : Act → World → Prop} {a : Act} {w : World} {o : Oper} (ho : ops[i]? = some o) (hg : o.guard = none) (h : o.wp P a w K Q) : wpOp P ops Q i K a w := by
  unfold wpOp
  simp only [ho]
  rw [if_pos (by simp [Region.wanted, hg])]
  exact .inl h
end Go.Proofs.YtajhhplgcegodaaGreatDoor
namespace Go.Proofs.YtajhhplgcegodaaGreatDoor
open Go.RowKit
theorem getD_replicate_false' {n i : Nat} : (Array.replicate n false).getD i false = false := by
  unfold Array.getD
  split <;> simp
theorem todo_some {l : Array Bool} (h : todo l ≠ 0) : ∃ j, j < l.size ∧ l.getD j false = false := by
  unfold todo at h
  have hp : false ∈ l.toList := by
    rcases Nat.lt_or_ge 0 (l.toList.count false) with q | q
    · exact List.count_pos_iff.1 q
    · omega
  obtain ⟨j, hj, e⟩ := List.getElem_of_mem hp
  refine ⟨j, by simpa using hj, ?_⟩
  have hj' : j < l.size := by simpa using hj
  simp [Array.getD, hj'] at e ⊢
  exact e
theorem push_set {l : Array Bool} {i : Nat} (h : i < l.size) : (l.push false).setIfInBounds i true = (l.setIfInBounds i true).push false := by
  apply Array.ext'
  simp [List.set_append, h]
theorem getD_push {l : Array Bool} {i : Nat} (d : Bool) (h : i < l.size) : (l.push false).getD i d = l.getD i d := by
  have h2 : i < l.size + 1 := by omega
  simp [Array.getD, h, h2, Array.getElem_push]
theorem getD_last {l : Array Bool} {d : Bool} : (l.push false).getD l.size d = false := by
  simp [Array.getD]
theorem edges_lt {ops : Array Oper} (hE : edgesB ops = true) {i : Nat} {o : Oper} (ho : ops[i]? = some o) {e : Edge} (he : e ∈ o.after) : e.on < i := by
  have hi : i < ops.size := (Array.getElem?_eq_some_iff.1 ho).1
  unfold edgesB at hE
  rw [List.all_eq_true] at hE
  have := hE i (List.mem_range.2 hi)
  rw [ho] at this
  simp only [Option.map_some, Option.getD_some] at this
  have := Array.all_eq_true_iff_forall_mem.1 this e he
  simpa using this
/-- Does the last operation wait for operation i, itself or through others? -/
def waitsB (md : Region.Mode) (l : List Oper) (t : Oper) : Nat → Nat → Bool
  | 0, i => t.after.toList.any fun e => decide (e.on = i) && Region.binds md e
  | f + 1, i => waitsB md l t f i || (l.zipIdx.any fun p => p.1.after.toList.any (fun e => decide (e.on = i) && Region.binds md e) && waitsB md l t f p.2)
/-- What has come up has all come up that it waits for. -/
def Closed (md : Region.Mode) (ops : Array Oper) (listed : Array Bool) : Prop := ∀ (i : Nat) (o : Oper), ops[i]? = some o → listed.getD i false = true → ∀ e ∈ o.after, Region.binds md e = true → listed.getD e.on false = true
theorem waits_listed {md : Region.Mode} {ops : Array Oper} {t : Oper} {listed : Array Bool} (hc : Closed md ops listed) (ht : ∀ e ∈ t.after, Region.binds md e = true → listed.getD e.on false = true) : ∀ (f i : Nat), waitsB md ops.toList t f i = true → listed.getD i false = true
  | 0, i, h => by
    unfold waitsB at h
    obtain ⟨e, he, h2⟩ := List.any_eq_true.1 h
    simp only [Bool.and_eq_true, decide_eq_true_eq] at h2
    have := ht e (by simpa using he) h2.2
    rw [h2.1] at this; exact this
  | f + 1, i, h => by
    unfold waitsB at h
    rw [Bool.or_eq_true] at h
    rcases h with h | h
    · exact waits_listed hc ht f i h
    · obtain ⟨⟨o, j⟩, hm, h2⟩ := List.any_eq_true.1 h
      rw [Bool.and_eq_true] at h2
      obtain ⟨h3, h4⟩ := h2
      obtain ⟨e, he, h5⟩ := List.any_eq_true.1 h3
      simp only [Bool.and_eq_true, decide_eq_true_eq] at h5
      have hj := waits_listed hc ht f j h4
      have ho : ops[j]? = some o := by
        have := List.mem_zipIdx_iff_getElem?.1 hm
        simpa using this
      have := hc j o ho hj e (by simpa using he) h5.2
      rw [h5.1] at this; exact this
theorem tail_sim {P : Program} {md : Region.Mode} {ops' ops : Array Oper} {t : Oper} {C : World → Prop} {Q : Act → Prop} {Qx : Exit → Act → World → Prop} (h1 : ∀ i, i < ops'.size → ops[i]? = ops'[i]?) (hsz : ops.size = ops'.size + 1) (ht : ops[ops'.size]? = some t)
    (hw : ∀ i, i < ops'.size → waitsB md ops'.toList t 2 i = true) (hg : ∀ (i : Nat) (o : Oper), ops'[i]? = some o → o.guard = none) (hE : edgesB ops = true)
    (hlast : ∀ a w, C w → Q a → wpOp P ops Qx ops'.size (fun a' w' => Qx .normal a' w') a w) :
    ∀ (fuel : Nat) (listed : Array Bool) (a : Act) (w : World), listed.size = ops'.size → Closed md ops' listed → todo listed = fuel → C w → wpAnyQ P md ops' C Q fuel listed a → wpAny P md ops Qx (fuel + 1) (listed.push false) a w := by
  have none : ∀ (listed : Array Bool), listed.size = ops'.size → Region.ready md ops (listed.push false) = [] → False := fun listed hz hr => by
    have := ready_all hE (by simp [hz, hsz]) hr ops'.size (by omega)
    rw [← hz, getD_last] at this
    cases this
  intro fuel
  induction fuel with
  | zero =>
    intro listed a w hz hcl h0 hC h
    refine ⟨fun hr => (none listed hz hr).elim, fun i hi => ?_⟩
    obtain ⟨hl, o, ho, -⟩ := mem_ready.1 hi
    have hlt : i < ops.size := (Array.getElem?_eq_some_iff.1 ho).1
    have hi2 : i = ops'.size := by
      rcases Nat.lt_or_ge i ops'.size with q | q
      · exfalso
        have := todo_zero h0 i (by omega)
        rw [getD_push true (by omega)] at hl
        have := off_true' hl
        simp_all
      · omega
    subst hi2
    refine wpOp_mono (fun a' w' hq => ⟨?_, hq⟩) (hlast a w hC h.2)
    cases hr : Region.ready md ops ((listed.push false).setIfInBounds ops'.size true) with
    | nil => rfl
    | cons x xs =>
      have hx : x ∈ Region.ready md ops ((listed.push false).setIfInBounds ops'.size true) := by rw [hr]; simp
      obtain ⟨hf, o', ho', -⟩ := mem_ready.1 hx
      have hxl : x < ops.size := (Array.getElem?_eq_some_iff.1 ho').1
      by_cases e : x = ops'.size
      · subst e
        simp [Array.getD, hz] at hf
      · rw [getD_set_ne true (Ne.symm e), getD_push true (by omega)] at hf
        have := todo_zero h0 x (by omega)
        have := off_true' hf
        simp_all
  | succ fuel ih =>
    intro listed a w hz hcl h0 hC h
    refine ⟨fun hr => (none listed hz hr).elim, fun i hi => ?_⟩
    obtain ⟨hl, o, ho, hd⟩ := mem_ready.1 hi
    have hlt : i < ops.size := (Array.getElem?_eq_some_iff.1 ho).1
    have hi2 : i < ops'.size := by
      rcases Nat.lt_or_ge i ops'.size with q | q
      · exact q
      · exfalso
        obtain rfl : i = ops'.size := by omega
        obtain rfl : t = o := by rw [ht] at ho; exact Option.some.inj ho
        obtain ⟨j, hj, hf⟩ := todo_some (l := listed) (by omega)
        have := waits_listed (t := t) hcl (fun e he hb => by
          have h1 := hd e he hb
          have hlt2 := edges_lt hE ht he
          rw [getD_push false (by omega)] at h1
          exact h1) 2 j (hw j (by omega))
        rw [hf] at this
        cases this
    have ho2 : ops'[i]? = some o := by rw [← h1 i hi2]; exact ho
    rw [getD_push true (by omega)] at hl
    have hr : i ∈ Region.ready md ops' listed := mem_ready.2 ⟨hl, o, ho2, fun e he hb => by
      have := hd e he hb
      have hlt2 := edges_lt hE ho he
      rw [getD_push false (by omega)] at this
      exact this⟩
    have hq := h.2 i hr
    unfold qOp at hq
    simp only [ho2] at hq
    have hgo := hg i o ho2
    rw [if_pos (by simp [Region.wanted, hgo])] at hq
    refine wpOp_of ho hgo (Oper.wp_of_quiet hC (fun a' w' hC' hh => ?_) hq)
    rw [push_set (by omega)]
    have := todo_set hl
    refine ih _ a' w' (by simp [hz]) ?_ (by omega) hC' hh
    intro j o2 ho3 hlj e he hb
    by_cases q : i = j
    · subst q
      rw [ho2] at ho3
      obtain rfl := Option.some.inj ho3
      have h1 := hd e he hb
      have hlt2 := edges_lt hE ho he
      rw [getD_push false (by omega)] at h1
      exact getD_set_true h1
    · rw [getD_set_ne false q] at hlj
      exact getD_set_true (hcl j o2 ho3 hlj e he hb)
where
  off_true' {l : Array Bool} {i : Nat} (h : l.getD i true = false) : l.getD i false = false := by
    unfold Array.getD at *
    split at h
    · rename_i q; simp only [q, dif_pos]; exact h
    · cases h
def tailQ (l : List Oper) (n : Nat) : Bool := decide (n + 1 = l.length) && (edgesB l.toArray && (l.all (fun o => o.guard.isNone) && (Region.lexB .any (l.take n).toArray && ((l[n]?).map fun t => (List.range n).all fun i => waitsB .any (l.take n) t 2 i).getD false)))
theorem wpQuiet_ops {P : Program} {ops ops' : Array Oper} {C : World → Prop} {Q : Act → Prop} : ∀ (l : List Oper) (a : Act), (∀ o ∈ l, o.guard = none) → wpQuiet P ops C Q l a → wpQuiet P ops' C Q l a
  | [], _, _, h => h
  | o :: l, a, hg, h => by
    have hgo := hg o (by simp)
    unfold wpQuiet at *
    rw [if_pos (by simp [Region.wanted, hgo])] at h ⊢
    exact Oper.quiet_mono (fun a' => wpQuiet_ops l a' fun o ho => hg o (by simp [ho])) h
theorem wp_region_gr_tail {P : Program} {id : Nat} {Q : Exit → Act → World → Prop} {a : Act} {w : World} {l : List Oper} (n : Nat) (hm : P.follows .mixedOrders = true) (hB : tailQ l n = true)
    (h : wpQuiet P l.toArray (fun w' => ∃ x : GW w, w' = x.1) (fun a' => ∀ w', Gr w w' → wpList P l.toArray Q (l.drop n) a' w') (l.take n) a) : (Code.region id l.toArray true).wp P Q a w := by
  unfold tailQ at hB
  simp only [Bool.and_eq_true, decide_eq_true_eq] at hB
  obtain ⟨hn, hE, hg, hL, ht⟩ := hB
  have hg' : ∀ o ∈ l, o.guard = none := fun o ho => by
    have := List.all_eq_true.1 hg o ho
    simpa using this
  have hnl : n < l.length := by omega
  have htl : (l.take n).length = n := by simp; omega
  have hgt : l[n]? = some l[n] := List.getElem?_eq_getElem hnl
  rw [hgt] at ht
  simp only [Option.map_some, Option.getD_some] at ht
  simp only [Region.lexB, Bool.and_eq_true] at hL
  have hq := wpAnyQ_lex (P := P) (ops := (l.take n).toArray) (C := fun w' => ∃ x : GW w, w' = x.1) (md := .any) hL.1 (l.take n) 0 (Array.replicate (l.take n).toArray.size false) a (by simp) (by simpa using hL.2) (wpQuiet_ops (ops := l.toArray) (l.take n) a (fun o ho => hg' o (List.mem_of_mem_take ho)) h)
  have hdrop : l.drop n = [l[n]] := by
    rw [List.drop_eq_getElem_cons hnl, List.drop_eq_nil_of_le (by omega)]
  refine wp_region_any hm ?_
  have hsz : l.toArray.size = (l.take n).toArray.size + 1 := by simp; omega
  rw [hsz, Array.replicate_succ]
  have hs := tail_sim (P := P) (md := .any) (ops' := (l.take n).toArray) (ops := l.toArray) (t := l[n]) (C := fun w' => ∃ x : GW w, w' = x.1) (Q := fun a' => ∀ w', Gr w w' → wpList P l.toArray Q (l.drop n) a' w') (Qx := Q)
    (fun i hi => by have hi' : i < n := by (simp at hi; omega)
                    simp [List.getElem?_take_of_lt hi']) hsz (by simp only [List.size_toArray, htl]; simp)
    (fun i hi => by
      have hi' : i < n := by (simp at hi; omega)
      exact List.all_eq_true.1 ht i (List.mem_range.2 hi'))
    (fun i o ho => hg' o (by
      have := Array.mem_of_getElem? ho
      exact List.mem_of_mem_take (by simpa using this))) hE
    (fun a' w' hC hQ => by
      obtain ⟨x, rfl⟩ := hC
      have h3 := hQ x.1 x.2
      rw [hdrop] at h3
      unfold wpOp
      have : l.toArray[(l.take n).toArray.size]? = some l[n] := by simp only [List.size_toArray, htl]; simp
      simp only [this]
      exact h3)
  exact hs (l.take n).length _ a _ (by simp) (fun i o ho hl => by rw [getD_replicate_false'] at hl; cases hl) (by unfold todo; simp) ⟨⟨_, Gr.drew (Gr.refl _)⟩, rfl⟩ hq
end Go.Proofs.YtajhhplgcegodaaGreatDoor
namespace Go.Proofs.YtajhhplgcegodaaGreatDoor
open Go.RowKit
theorem ownsRow_gr {w w' : World} {base e size n : Nat} {v : Value} {xs : List Value} (h : w.ownsRow base e size v n xs) (hg : Gr w w') : w'.ownsRow base e size v n xs := by
  obtain ⟨hl, h | ⟨g, cap, cur, hv, hb, hc, r⟩⟩ := h
  · exact ⟨hl, Or.inl h⟩
  · refine ⟨hl, Or.inr ⟨g, cap, cur, hv, hb, ?_, r⟩⟩
    have hlt : g < w.heap.size := (Array.getElem?_eq_some_iff.1 hc).1
    rw [Below.block hg g hlt]; exact hc
theorem Gr.own {w W W1 : World} {base e size n : Nat} {v : Value} {xs : List Value} (hg : Gr w W) (hb : w.heap.size ≤ base) (ho : W.ownsRow base e size v n xs) (hgr : W.grownBy W1 v.ownBlock) : Gr w W1 :=
  Below.grown hg hgr (Gr.size hg) fun k hk => by have := (ho.lt k hk).1; omega
/-- Where a slice lies that a call has made, with elements of one cell. -/
theorem ownsRow_at {w : World} {base e n : Nat} {v : Value} {xs : List Value} (h : w.ownsRow base e 1 v n xs) : ∃ (A : Option Addr) (c b : Nat), v = .slice A n c ∧ (0 < n → A = some ⟨b, 0, none⟩) ∧ n ≤ c ∧ c ≤ 9223372036854775807 ∧ ∀ i, i < n → w.cell? ⟨b, i, none⟩ = xs[i]? := by
  have h' := h
  obtain ⟨hl, ⟨rfl, rfl⟩ | ⟨g, cap, cur, rfl, hb, hc, hn, hm, r⟩⟩ := h
  · exact ⟨none, 0, 0, rfl, fun h => absurd h (by omega), Nat.le_refl _, by omega, fun i hi => absurd hi (by omega)⟩
  · exact ⟨some ⟨g, 0, none⟩, cap, g, rfl, fun _ => rfl, hn, by unfold maxLen at hm; exact hm, fun i hi => h'.cellAt i (by omega)⟩
end Go.Proofs.YtajhhplgcegodaaGreatDoor
namespace Go.Proofs.YtajhhplgcegodaaGreatDoor
open Go.RowKit
/-- A row of n cells, each of which may be written. -/
def Row (w : World) (g n : Nat) (X : Nat → Value) : Prop := ∀ j, j < n → Own w g j (X j)
theorem Row.gr {w w' : World} {g n : Nat} {X : Nat → Value} (h : Row w g n X) (hg : Gr w w') : Row w' g n X := fun j hj => (h j hj).gr hg
theorem Row.set {w : World} {g n : Nat} {X Y : Nat → Value} {k : Nat} {u : Value} (h : Row w g n X) (hu : Y k = u) (ho : ∀ j, j < n → j ≠ k → Y j = X j) : Row (w.setCell ⟨g, k, none⟩ u) g n Y := fun j hj => by
  by_cases e : j = k
  · subst e; rw [hu]; exact (h j hj).set
  · rw [ho j hj e]; exact (h j hj).other (Or.inr e)
theorem made_row {w : World} {base e g n : Nat} {z : Value} (h : w.ownsRow base e 1 (.slice (some ⟨g, 0, none⟩) n n) n (madeCells #[z] n).toList) : Row w g n (fun _ => z) := by
  obtain ⟨hl, ⟨h1, -⟩ | ⟨g', cap, cur, hv, hb, hc, h3, h4, h5, h6⟩⟩ := h
  · cases h1
  · simp only [Value.slice.injEq, Option.some.injEq, Addr.mk.injEq] at hv
    obtain ⟨⟨rfl, -, -⟩, -, rfl⟩ := hv
    rw [Nat.mul_one] at h5 h6
    rw [List.take_of_length_le (by simp [h5])] at h6
    intro j hj
    have hz : cur.toList[j]? = some z := by rw [h6]; simp [madeCells, Nat.mod_one, hj]
    refine ⟨?_, ?_⟩
    · simp only [World.cell?, hc]; simpa using hz
    · simp only [World.frozen?, hc]; simp
end Go.Proofs.YtajhhplgcegodaaGreatDoor
namespace Go.Proofs.YtajhhplgcegodaaGreatDoor
open Go.RowKit
/-- The world has grown; of what was there, the blocks from lo to hi, hi left out, alone have turned. -/
structure GrZ (lo hi : Nat) (w w' : World) : Prop where
  os : w'.os = w.os
  tape : w'.tape = w.tape
  output : w'.output = w.output
  size : w.heap.size ≤ w'.heap.size
  block : ∀ k, k < w.heap.size → (k < lo ∨ hi ≤ k) → w'.heap[k]? = w.heap[k]?
theorem GrZ.refl (lo hi : Nat) (w : World) : GrZ lo hi w w := ⟨rfl, rfl, rfl, Nat.le_refl _, fun _ _ _ => rfl⟩
theorem GrZ.gr {lo hi : Nat} {a b c : World} (h : GrZ lo hi a b) (k : Gr b c) : GrZ lo hi a c :=
  ⟨k.os.trans h.os, k.tape.trans h.tape, k.output.trans h.output, Nat.le_trans h.size (Gr.size k), fun i hi' hR => (Below.block k i (Nat.lt_of_lt_of_le hi' h.size)).trans (h.block i hi' hR)⟩
theorem GrZ.drew {lo hi : Nat} {a b : World} (h : GrZ lo hi a b) : GrZ lo hi a b.drew := h.gr (Gr.drew (Gr.refl _))
theorem GrZ.drewN {lo hi : Nat} {a b : World} (h : GrZ lo hi a b) (n : Nat) : GrZ lo hi a (b.drewN n) := h.gr (Gr.drewN (Gr.refl _) n)
theorem GrZ.alloc {lo hi : Nat} {a b : World} (h : GrZ lo hi a b) (o : Obj) : GrZ lo hi a (b.alloc o) := h.gr (Gr.alloc (Gr.refl _) o)
theorem GrZ.setCell {lo hi : Nat} {a b : World} (h : GrZ lo hi a b) {p : Addr} (hp : lo ≤ p.block ∧ p.block < hi) (u : Value) : GrZ lo hi a (b.setCell p u) :=
  ⟨h.os, h.tape, h.output, by simpa [World.setCell] using h.size, fun i hi' hR => (Below.heap_setCell _ _ _ _ (by omega)).trans (h.block i hi' hR)⟩
theorem GrZ.at {lo hi : Nat} {w w' : World} (h : GrZ lo hi w w') {b o : Nat} {v : Value} (hb : b < lo ∨ hi ≤ b) (hc : w.cell? ⟨b, o, none⟩ = some v) : w'.cell? ⟨b, o, none⟩ = some v := by
  have hlt := World.block_lt_of_cell? w ⟨b, o, none⟩ hc
  rw [← hc]; exact World.cell?_of_block (w := w) (h.block b hlt hb)
theorem GrZ.below {lo hi : Nat} {w W0 w' : World} (g : Gr w W0) (hl : w.heap.size ≤ lo) (h : GrZ lo hi W0 w') : Gr w w' :=
  ⟨h.os.trans g.os, h.tape.trans g.tape, h.output.trans g.output, Nat.le_trans (Gr.size g) h.size, fun k hk => (h.block k (Nat.lt_of_lt_of_le hk (Gr.size g)) (by omega)).trans (Below.block g k hk)⟩
end Go.Proofs.YtajhhplgcegodaaGreatDoor
namespace Go.Proofs.YtajhhplgcegodaaGreatDoor
open Go.RowKit Go.Maps Go.ChangeShapes Go.WideShapes Go.MapKept
open Go.ChangeMaps (setBlock heap_setBlock_same heap_setBlock_other modify_eq_set)
/-- Block b is a map of at most n entries that answers f at keys of type k. -/
def MapIs (P : Program) (k : TypeId) (w : World) (b n : Nat) (f : Value → Option Value) : Prop :=
  ∃ es clock, w.heap[b]? = some (.map es clock) ∧ es.size ≤ n ∧ Stamped es clock ∧ (∀ x ∈ es.toList, ∃ l, keyOf P k x.key = some l) ∧
    (∀ key v, f key = some v → ∃ x ∈ es.toList, x.key = key ∧ x.val = v) ∧ (∀ key, f key = none → ∀ x ∈ es.toList, x.key ≠ key)
theorem MapIs.lt {P : Program} {k : TypeId} {w : World} {b n : Nat} {f : Value → Option Value} (h : MapIs P k w b n f) : b < w.heap.size := by
  obtain ⟨es, clock, hb, _⟩ := h
  exact (Array.getElem?_eq_some_iff.1 hb).1
theorem MapIs.made (P : Program) (k : TypeId) (w : World) : MapIs P k (w.alloc (.map #[] 0)) w.heap.size 0 (fun _ => none) :=
  ⟨#[], 0, (MapKept.heap_alloc w _).1, Nat.le_refl _, stamped_empty 0, by simp, by simp, by simp⟩
theorem MapIs.gr {P : Program} {k : TypeId} {w w' : World} {b n : Nat} {f : Value → Option Value} (h : MapIs P k w b n f) (g : Gr w w') : MapIs P k w' b n f := by
  have hlt := h.lt
  obtain ⟨es, clock, hb, r⟩ := h
  exact ⟨es, clock, (Below.block g b hlt).trans hb, r⟩
theorem MapIs.grx {P : Program} {k : TypeId} {w w' : World} {R b n : Nat} {f : Value → Option Value} (h : MapIs P k w b n f) (g : GrX R w w') (hR : b ≠ R) : MapIs P k w' b n f := by
  have hlt := h.lt
  obtain ⟨es, clock, hb, r⟩ := h
  exact ⟨es, clock, (g.block b hlt hR).trans hb, r⟩
theorem MapIs.grownBy {P : Program} {k : TypeId} {w w' : World} {b n : Nat} {row : Option Nat} {f : Value → Option Value} (h : MapIs P k w b n f) (g : w.grownBy w' row) (hR : some b ≠ row) : MapIs P k w' b n f := by
  have hlt := h.lt
  obtain ⟨es, clock, hb, r⟩ := h
  exact ⟨es, clock, (g.block b hlt hR).trans hb, r⟩
theorem MapIs.mono {P : Program} {k : TypeId} {w : World} {b n m : Nat} {f : Value → Option Value} (h : MapIs P k w b n f) (hm : n ≤ m) : MapIs P k w b m f := by
  obtain ⟨es, clock, hb, hs, r⟩ := h
  exact ⟨es, clock, hb, Nat.le_trans hs hm, r⟩
theorem MapIs.as {P : Program} {k : TypeId} {w : World} {b n : Nat} {f g : Value → Option Value} (h : MapIs P k w b n f) (e : ∀ key l, keyOf P k key = some l → f key = g key) (hg : ∀ key, keyOf P k key = none → g key = none) : MapIs P k w b n g := by
  obtain ⟨es, clock, hb, hs, ht, hk, h1, h2⟩ := h
  refine ⟨es, clock, hb, hs, ht, hk, fun key v hv => ?_, fun key hv x hx hxk => ?_⟩
  · cases hl : keyOf P k key with
    | none => rw [hg key hl] at hv; cases hv
    | some l => exact h1 key v ((e key l hl).trans hv)
  · obtain ⟨l, hl⟩ := hk x hx
    rw [hxk] at hl
    exact h2 key ((e key l hl).trans hv) x hx hxk
section
variable {P : Program} {w : World} {t k e : TypeId} {b n : Nat} {f : Value → Option Value}
/-- A look-up. -/
theorem MapIs.look (c : Bool) (h : MapIs P k w b n f) (K : Keyed P k) (ht : P.underlying t = some (.map k e)) {z : Value} (hz : (zeroValue e).run P w = .ok z w) {key : Value} {kl : Lit} (hkey : keyOf P k key = some kl) :
    (Instr.lookup t (.map (some b)) key c).run P w = .ok (if c then .tuple #[(f key).getD z, .bool (f key).isSome] else (f key).getD z) w := by
  obtain ⟨es, clock, hb, hs, hst, hk, h1, h2⟩ := h
  rcases K.find w hkey es.toList hk with ⟨r1, r2⟩ | ⟨j, e0, r1, r2, r3⟩
  · have hf : f key = none := by
      cases hf : f key with
      | none => rfl
      | some v =>
        obtain ⟨x, hx, hxk, -⟩ := h1 key v hf
        exact absurd hxk (r2 x hx)
    rw [hf]
    simp [Instr.lookup, run_underlying ht, MapKept.run_getObj_map hb, K.check w _ hkey, r1, hz, Result.andThen]
  · have hm0 : e0 ∈ es.toList := List.mem_of_getElem? r2
    have hf : f key = some e0.val := by
      cases hf : f key with
      | none => exact absurd r3 (h2 key hf e0 hm0)
      | some v =>
        obtain ⟨x, hx, hxk, hxv⟩ := h1 key v hf
        have hp := ((stamped_iff es clock).1 hst).2.2
        have : x = e0 := by
          obtain ⟨i, hi, hxi⟩ := List.getElem_of_mem hx
          obtain ⟨hj, hej⟩ := List.getElem?_eq_some_iff.1 r2
          rcases Nat.lt_trichotomy i j with q | q | q
          · have := List.pairwise_iff_getElem.1 hp i j hi hj q
            rw [hxi, hej] at this
            exact absurd (hxk.trans r3.symm) this
          · subst q; rw [← hxi, ← hej]
          · have := List.pairwise_iff_getElem.1 hp j i hj hi q
            rw [hxi, hej] at this
            exact absurd (r3.trans hxk.symm) this
        rw [← hxv, this]
    rw [hf]
    simp [Instr.lookup, run_underlying ht, MapKept.run_getObj_map hb, K.check w _ hkey, r1, Result.andThen]
/-- A store. -/
theorem MapIs.store (h : MapIs P k w b n f) (K : Keyed P k) (ht : P.underlying t = some (.map k e)) {key val : Value} {kl : Lit} (hkey : keyOf P k key = some kl) :
    ∃ w', (Instr.mapUpdate t (.map (some b)) key val).run P w = .ok () w' ∧ (∀ g : Value → Option Value, g key = some val → (∀ x, x ≠ key → g x = f x) → MapIs P k w' b (n + 1) g) ∧ w.grownBy w' (some b) ∧ GrX b w w' := by
  obtain ⟨es, clock, hb, hs, hst, hk, h1, h2⟩ := h
  have hgx : ∀ es' clock', GrX b w (setBlock w b (.map es' clock')) := fun es' clock' =>
    ⟨rfl, rfl, rfl, by simp [setBlock], fun i _ hi => heap_setBlock_other hb _ hi, fun o ho => by simp [World.cell?, hb] at ho, fun o ho => by simp [World.cell?, hb] at ho⟩
  have hgb : ∀ es' clock', w.grownBy (setBlock w b (.map es' clock')) (some b) := fun es' clock' =>
    ⟨rfl, rfl, rfl, by simp [setBlock], fun i _ hi => heap_setBlock_other hb _ (fun e => hi (by rw [e]))⟩
  rcases K.find w hkey es.toList hk with ⟨r1, r2⟩ | ⟨j, e0, r1, r2, r3⟩
  · refine ⟨setBlock w b (.map (es.push ⟨key, val, clock⟩) (clock + 1)), ?_, fun g hg hg' => ?_, hgb _ _, hgx _ _⟩
    · simp [Instr.mapUpdate, run_underlying ht, MapKept.run_getObj_map hb, K.check w false hkey, r1, MapKept.run_setObj_map _ hb, Result.andThen, setBlock]
    · refine ⟨_, _, heap_setBlock_same hb _, by simp; omega, stamped_push hst r2, ?_, ?_, ?_⟩
      · intro x hx
        simp only [Array.toList_push, List.mem_append, List.mem_singleton] at hx
        rcases hx with hx | rfl
        · exact hk x hx
        · exact ⟨kl, hkey⟩
      · intro key' v hv
        simp only [Array.toList_push, List.mem_append, List.mem_singleton]
        by_cases q : key' = key
        · subst q
          rw [hg] at hv
          cases hv
          exact ⟨_, Or.inr rfl, rfl, rfl⟩
        · rw [hg' key' q] at hv
          obtain ⟨x, hx, hxx⟩ := h1 key' v hv
          exact ⟨x, Or.inl hx, hxx⟩
      · intro key' hv x hx
        simp only [Array.toList_push, List.mem_append, List.mem_singleton] at hx
        have q : key' ≠ key := fun q => by rw [q, hg] at hv; cases hv
        rw [hg' key' q] at hv
        rcases hx with hx | rfl
        · exact h2 key' hv x hx
        · exact Ne.symm q
  · have hj : es[j]? = some e0 := by simpa using r2
    have hjl : j < es.toList.length := (List.getElem?_eq_some_iff.1 r2).1
    have hkeyf : ∀ e', es[j]? = some e' → ({ e' with key := key, val := val } : MapEntry).key = e'.key := fun e' he' => by rw [hj] at he'; cases he'; exact r3.symm
    have hlist : (es.modify j (fun e' => { e' with key := key, val := val })).toList = es.toList.set j { e0 with key := key, val := val } := by rw [Array.toList_modify, modify_eq_set _ _ _ _ r2]
    have hp := ((stamped_iff es clock).1 hst).2.2
    have other : ∀ (i : Nat) (hi : i < es.toList.length), i ≠ j → (es.toList[i]).key ≠ key := by
      intro i hi hij hkk
      obtain ⟨hj', hej⟩ := List.getElem?_eq_some_iff.1 r2
      rcases Nat.lt_or_gt_of_ne hij with q | q
      · have := List.pairwise_iff_getElem.1 hp i j hi hj' q
        rw [hej] at this
        exact this (hkk.trans r3.symm)
      · have := List.pairwise_iff_getElem.1 hp j i hj' hi q
        rw [hej] at this
        exact this (r3.trans hkk.symm)
    have who : ∀ x ∈ es.toList.set j { e0 with key := key, val := val }, x = { e0 with key := key, val := val } ∨ (x ∈ es.toList ∧ x.key ≠ key) := by
      intro x hx
      obtain ⟨i, hi, ex⟩ := List.getElem_of_mem hx
      rw [List.getElem_set] at ex
      split at ex
      · exact Or.inl ex.symm
      · rename_i hne
        have hi' : i < es.toList.length := by simpa using hi
        exact Or.inr ⟨ex ▸ List.getElem_mem hi', by rw [← ex]; exact other i hi' (Ne.symm hne)⟩
    refine ⟨setBlock w b (.map (es.modify j (fun e' => { e' with key := key, val := val })) clock), ?_, fun g hg hg' => ?_, hgb _ _, hgx _ _⟩
    · simp [Instr.mapUpdate, run_underlying ht, MapKept.run_getObj_map hb, K.check w false hkey, r1, hj, r3, K.stays w hkey, MapKept.run_setObj_map _ hb, Result.andThen, setBlock]
    · refine ⟨_, _, heap_setBlock_same hb _, by simp; omega, stamped_modify hst _ _ (fun _ _ => rfl) (fun e' _ he' => hkeyf e' he'), ?_, ?_, ?_⟩
      · intro x hx
        rw [hlist] at hx
        rcases who x hx with rfl | ⟨hx', -⟩
        · exact ⟨kl, hkey⟩
        · exact hk x hx'
      · intro key' v hv
        rw [hlist]
        by_cases q : key' = key
        · subst q
          rw [hg] at hv
          cases hv
          exact ⟨_, List.mem_iff_getElem.2 ⟨j, by simpa using hjl, by simp; rfl⟩, rfl, rfl⟩
        · rw [hg' key' q] at hv
          obtain ⟨x, hx, hxk, hxv⟩ := h1 key' v hv
          obtain ⟨i, hi, hxi⟩ := List.getElem_of_mem hx
          have hij : i ≠ j := fun q2 => by
            subst q2
            obtain ⟨_, hej⟩ := List.getElem?_eq_some_iff.1 r2
            rw [hej] at hxi
            subst hxi
            exact q (hxk.symm.trans r3)
          refine ⟨x, List.mem_iff_getElem.2 ⟨i, by simpa using hi, ?_⟩, hxk, hxv⟩
          rw [List.getElem_set_ne (Ne.symm hij)]; exact hxi
      · intro key' hv x hx
        rw [hlist] at hx
        have q : key' ≠ key := fun q => by rw [q, hg] at hv; cases hv
        rcases who x hx with rfl | ⟨hx', hxk⟩
        · exact Ne.symm q
        · rw [hg' key' q] at hv
          exact h2 key' hv x hx'
end
end Go.Proofs.YtajhhplgcegodaaGreatDoor
