/-
  A region that draws its order, by an invariant: whatever order is picked, each operation that comes up keeps it.
  A region that draws its order: reads and calls that make memory, and one last operation that waits for all of them.
-/
import Derived.Test.YtajhhplgcegodaaDoorGr
import Derived.Orders
import Derived.Test.YtajhhplgcegodaaDoorGA4
set_option linter.unusedVariables false
set_option linter.unusedSimpArgs false
namespace Go.Proofs.YtajhhplgcegodaaDoor
open Go.RowKit
/-- How many operations have not come up yet. -/
def todo (l : Array Bool) : Nat := l.toList.count false
theorem todo_zero {l : Array Bool} (h : todo l = 0) (i : Nat) (hi : i < l.size) : l.getD i false = true := by
  unfold todo at h
  rw [List.count_eq_zero] at h
  have hx : l[i]? = some l[i] := Array.getElem?_eq_getElem hi
  cases e : l[i] with
  | true => simp [Array.getD, hi, e]
  | false => exact absurd (by rw [← e]; simp) h
theorem count_set : ∀ (l : List Bool) (i : Nat), l[i]? = some false → (l.set i true).count false + 1 = l.count false
  | [], i, h => by simp at h
  | b :: l, 0, h => by
    simp at h; subst h; simp
  | b :: l, i + 1, h => by
    have ih := count_set l i (by simpa using h)
    simp only [List.set_cons_succ, List.count_cons]
    omega
theorem todo_set {l : Array Bool} {i : Nat} (h : l.getD i true = false) : todo (l.setIfInBounds i true) + 1 = todo l := by
  unfold todo
  have hi : i < l.size := by
    rcases Nat.lt_or_ge i l.size with q | q
    · exact q
    · simp [Array.getD] at h; exact h.1
  have : l.toList[i]? = some false := by
    simp [Array.getD, hi] at h
    simp [hi, h]
  rw [Array.toList_setIfInBounds]
  exact count_set _ _ this
/-- No operation waits for a later one. -/
def edgesB (ops : Array Oper) : Bool := (List.range ops.size).all fun i => ((ops[i]?).map fun o => o.after.all fun e => decide (e.on < i)).getD true
theorem ready_all {ops : Array Oper} {md : Region.Mode} {listed : Array Bool} (hE : edgesB ops = true) (hz : listed.size = ops.size) (h : Region.ready md ops listed = []) : ∀ i, i < ops.size → listed.getD i false = true := by
  intro i
  induction i using Nat.strongRecOn with
  | _ i ih =>
    intro hi
    cases e : listed.getD i false with
    | true => rfl
    | false =>
      have hm : i ∈ Region.ready md ops listed := by
        rw [mem_ready]
        have hi' : i < listed.size := by omega
        have e2 : listed.getD i true = false := by
          simp [Array.getD, hi'] at e ⊢; exact e
        refine ⟨e2, ops[i], Array.getElem?_eq_getElem hi, fun x hx _ => ih x.on ?_ ?_⟩
        · unfold edgesB at hE
          rw [List.all_eq_true] at hE
          have := hE i (List.mem_range.2 hi)
          rw [Array.getElem?_eq_getElem hi] at this
          simp only [Option.map_some, Option.getD_some] at this
          have := Array.all_eq_true_iff_forall_mem.1 this x hx
          simpa using this
        · unfold edgesB at hE
          rw [List.all_eq_true] at hE
          have := hE i (List.mem_range.2 hi)
          rw [Array.getElem?_eq_getElem hi] at this
          simp only [Option.map_some, Option.getD_some] at this
          have := Array.all_eq_true_iff_forall_mem.1 this x hx
          have : x.on < i := by simpa using this
          omega
      rw [h] at hm
      cases hm
theorem wpAny_inv {P : Program} {ops : Array Oper} {md : Region.Mode} {Q : Exit → Act → World → Prop} (hE : edgesB ops = true) (I : Array Bool → Act → World → Prop)
    (hs : ∀ listed a w i, listed.size = ops.size → I listed a w → i ∈ Region.ready md ops listed → wpOp P ops Q i (fun a' w' => I (listed.setIfInBounds i true) a' w') a w)
    (hq : ∀ listed a w, (∀ i, i < ops.size → listed.getD i false = true) → I listed a w → Q .normal a w) :
    ∀ (fuel : Nat) (listed : Array Bool) (a : Act) (w : World), listed.size = ops.size → todo listed = fuel → I listed a w → wpAny P md ops Q fuel listed a w
  | 0, listed, a, w, hz, ht, h => by
    have hall : ∀ i, i < ops.size → listed.getD i false = true := fun i hi => todo_zero ht i (by omega)
    refine ⟨?_, hq _ _ _ hall h⟩
    cases hr : Region.ready md ops listed with
    | nil => rfl
    | cons x xs =>
      have hx : x ∈ Region.ready md ops listed := by rw [hr]; simp
      obtain ⟨h0, o, ho, -⟩ := mem_ready.1 hx
      have hlt : x < ops.size := (Array.getElem?_eq_some_iff.1 ho).1
      have := hall x hlt
      have hi' : x < listed.size := by omega
      simp [Array.getD, hi'] at this h0
      rw [this] at h0; cases h0
  | fuel + 1, listed, a, w, hz, ht, h => by
    refine ⟨fun hr => hq _ _ _ (ready_all hE hz hr) h, fun i hi => ?_⟩
    obtain ⟨h0, -⟩ := mem_ready.1 hi
    refine wpOp_mono (fun a' w' hI => wpAny_inv hE I hs hq fuel _ a' w' (by simp [hz]) ?_ hI) (hs listed a w i hz h hi)
    have := todo_set h0
    omega
theorem wp_region_inv {P : Program} {id : Nat} {Q : Exit → Act → World → Prop} {a : Act} {w : World} {ops : Array Oper} (hm : P.follows .mixedOrders = true) (hE : edgesB ops = true) (I : Array Bool → Act → World → Prop)
    (h0 : I (Array.replicate ops.size false) a w.drew)
    (hs : ∀ listed a w i o, ops[i]? = some o → I listed a w → listed.getD i true = false → (∀ e ∈ o.after, Region.binds .any e = true → listed.getD e.on false = true) → wpOp P ops Q i (fun a' w' => I (listed.setIfInBounds i true) a' w') a w)
    (hq : ∀ listed a w, (∀ i, i < ops.size → listed.getD i false = true) → I listed a w → Q .normal a w) : (Code.region id ops true).wp P Q a w := by
  refine wp_region_any hm (wpAny_inv hE I (fun listed a w i _ hI hi => ?_) hq ops.size _ a _ (by simp) ?_ h0)
  · obtain ⟨h1, o, ho, h2⟩ := mem_ready.1 hi
    exact hs listed a w i o ho hI h1 h2
  · unfold todo; simp
theorem wpOp_of {P : Program} {ops : Array Oper} {Q : Exit → Act → World → Prop} {i : Nat} {K : Act → World → Prop} {a : Act} {w : World} {o : Oper} (ho : ops[i]? = some o) (hg : o.guard = none) (h : o.wp P a w K Q) : wpOp P ops Q i K a w := by
  unfold wpOp
  simp only [ho]
  rw [if_pos (by simp [Region.wanted, hg])]
  exact .inl h
theorem oper_value {P : Program} {o : Oper} {Q : Exit → Act → World → Prop} {K : Act → World → Prop} {a : Act} {w w' : World} {v : Value} (h : (execOp a.eval o).run P w = .ok (.value v) w') (hk : K (a.put o.dst v) w') : o.wp P a w K Q := by
  unfold Oper.wp; rw [h]; exact hk
theorem oper_skip {P : Program} {o : Oper} {Q : Exit → Act → World → Prop} {K : Act → World → Prop} {a : Act} {w w' : World} (h : (execOp a.eval o).run P w = .ok .skip w') (hk : K (a.put o.dst undef) w') : o.wp P a w K Q := by
  unfold Oper.wp; rw [h]; exact hk
end Go.Proofs.YtajhhplgcegodaaDoor
namespace Go.Proofs.YtajhhplgcegodaaDoor
open Go.RowKit
theorem getD_replicate_false' {n i : Nat} : (Array.replicate n false).getD i false = false := by
  unfold Array.getD
  split <;> simp
theorem todo_some {l : Array Bool} (h : todo l ≠ 0) : ∃ j, j < l.size ∧ l.getD j false = false := by
  unfold todo at h
  have hp : false ∈ l.toList := by
    rcases Nat.lt_or_ge 0 (l.toList.count false) with q | q
    · exact List.count_pos_iff.1 q
    · omega
  obtain ⟨j, hj, e⟩ := List.getElem_of_mem hp
  refine ⟨j, by simpa using hj, ?_⟩
  have hj' : j < l.size := by simpa using hj
  simp [Array.getD, hj'] at e ⊢
  exact e
theorem push_set {l : Array Bool} {i : Nat} (h : i < l.size) : (l.push false).setIfInBounds i true = (l.setIfInBounds i true).push false := by
  apply Array.ext'
  simp [List.set_append, h]
theorem getD_push {l : Array Bool} {i : Nat} (d : Bool) (h : i < l.size) : (l.push false).getD i d = l.getD i d := by
  have h2 : i < l.size + 1 := by omega
  simp [Array.getD, h, h2, Array.getElem_push]
theorem getD_last {l : Array Bool} {d : Bool} : (l.push false).getD l.size d = false := by
  simp [Array.getD]
theorem edges_lt {ops : Array Oper} (hE : edgesB ops = true) {i : Nat} {o : Oper} (ho : ops[i]? = some o) {e : Edge} (he : e ∈ o.after) : e.on < i := by
  have hi : i < ops.size := (Array.getElem?_eq_some_iff.1 ho).1
  unfold edgesB at hE
  rw [List.all_eq_true] at hE
  have := hE i (List.mem_range.2 hi)
  rw [ho] at this
  simp only [Option.map_some, Option.getD_some] at this
  have := Array.all_eq_true_iff_forall_mem.1 this e he
  simpa using this
/-- Does the last operation wait for operation i, itself or through others? -/
def waitsB (md : Region.Mode) (l : List Oper) (t : Oper) : Nat → Nat → Bool
  | 0, i => t.after.toList.any fun e => decide (e.on = i) && Region.binds md e
  | f + 1, i => waitsB md l t f i || (l.zipIdx.any fun p => p.1.after.toList.any (fun e => decide (e.on = i) && Region.binds md e) && waitsB md l t f p.2)
/-- What has come up has all come up that it waits for. -/
def Closed (md : Region.Mode) (ops : Array Oper) (listed : Array Bool) : Prop := ∀ (i : Nat) (o : Oper), ops[i]? = some o → listed.getD i false = true → ∀ e ∈ o.after, Region.binds md e = true → listed.getD e.on false = true
theorem waits_listed {md : Region.Mode} {ops : Array Oper} {t : Oper} {listed : Array Bool} (hc : Closed md ops listed) (ht : ∀ e ∈ t.after, Region.binds md e = true → listed.getD e.on false = true) : ∀ (f i : Nat), waitsB md ops.toList t f i = true → listed.getD i false = true
  | 0, i, h => by
    unfold waitsB at h
    obtain ⟨e, he, h2⟩ := List.any_eq_true.1 h
    simp only [Bool.and_eq_true, decide_eq_true_eq] at h2
    have := ht e (by simpa using he) h2.2
    rw [h2.1] at this; exact this
  | f + 1, i, h => by
    unfold waitsB at h
    rw [Bool.or_eq_true] at h
    rcases h with h | h
    · exact waits_listed hc ht f i h
    · obtain ⟨⟨o, j⟩, hm, h2⟩ := List.any_eq_true.1 h
      rw [Bool.and_eq_true] at h2
      obtain ⟨h3, h4⟩ := h2
      obtain ⟨e, he, h5⟩ := List.any_eq_true.1 h3
      simp only [Bool.and_eq_true, decide_eq_true_eq] at h5
      have hj := waits_listed hc ht f j h4
      have ho : ops[j]? = some o := by
        have := List.mem_zipIdx_iff_getElem?.1 hm
        simpa using this
      have := hc j o ho hj e (by simpa using he) h5.2
      rw [h5.1] at this; exact this
theorem tail_sim {P : Program} {md : Region.Mode} {ops' ops : Array Oper} {t : Oper} {C : World → Prop} {Q : Act → Prop} {Qx : Exit → Act → World → Prop} (h1 : ∀ i, i < ops'.size → ops[i]? = ops'[i]?) (hsz : ops.size = ops'.size + 1) (ht : ops[ops'.size]? = some t)
    (hw : ∀ i, i < ops'.size → waitsB md ops'.toList t 2 i = true) (hg : ∀ (i : Nat) (o : Oper), ops'[i]? = some o → o.guard = none) (hE : edgesB ops = true)
    (hlast : ∀ a w, C w → Q a → wpOp P ops Qx ops'.size (fun a' w' => Qx .normal a' w') a w) :
    ∀ (fuel : Nat) (listed : Array Bool) (a : Act) (w : World), listed.size = ops'.size → Closed md ops' listed → todo listed = fuel → C w → wpAnyQ P md ops' C Q fuel listed a → wpAny P md ops Qx (fuel + 1) (listed.push false) a w := by
  have none : ∀ (listed : Array Bool), listed.size = ops'.size → Region.ready md ops (listed.push false) = [] → False := fun listed hz hr => by
    have := ready_all hE (by simp [hz, hsz]) hr ops'.size (by omega)
    rw [← hz, getD_last] at this
    cases this
  intro fuel
  induction fuel with
  | zero =>
    intro listed a w hz hcl h0 hC h
    refine ⟨fun hr => (none listed hz hr).elim, fun i hi => ?_⟩
    obtain ⟨hl, o, ho, -⟩ := mem_ready.1 hi
    have hlt : i < ops.size := (Array.getElem?_eq_some_iff.1 ho).1
    have hi2 : i = ops'.size := by
      rcases Nat.lt_or_ge i ops'.size with q | q
      · exfalso
        have := todo_zero h0 i (by omega)
        rw [getD_push true (by omega)] at hl
        have := off_true' hl
        simp_all
      · omega
    subst hi2
    refine wpOp_mono (fun a' w' hq => ⟨?_, hq⟩) (hlast a w hC h.2)
    cases hr : Region.ready md ops ((listed.push false).setIfInBounds ops'.size true) with
    | nil => rfl
    | cons x xs =>
      have hx : x ∈ Region.ready md ops ((listed.push false).setIfInBounds ops'.size true) := by rw [hr]; simp
      obtain ⟨hf, o', ho', -⟩ := mem_ready.1 hx
      have hxl : x < ops.size := (Array.getElem?_eq_some_iff.1 ho').1
      by_cases e : x = ops'.size
      · subst e
        simp [Array.getD, hz] at hf
      · rw [getD_set_ne true (Ne.symm e), getD_push true (by omega)] at hf
        have := todo_zero h0 x (by omega)
        have := off_true' hf
        simp_all
  | succ fuel ih =>
    intro listed a w hz hcl h0 hC h
    refine ⟨fun hr => (none listed hz hr).elim, fun i hi => ?_⟩
    obtain ⟨hl, o, ho, hd⟩ := mem_ready.1 hi
    have hlt : i < ops.size := (Array.getElem?_eq_some_iff.1 ho).1
    have hi2 : i < ops'.size := by
      rcases Nat.lt_or_ge i ops'.size with q | q
      · exact q
      · exfalso
        obtain rfl : i = ops'.size := by omega
        obtain rfl : t = o := by rw [ht] at ho; exact Option.some.inj ho
        obtain ⟨j, hj, hf⟩ := todo_some (l := listed) (by omega)
        have := waits_listed (t := t) hcl (fun e he hb => by
          have h1 := hd e he hb
          have hlt2 := edges_lt hE ht he
          rw [getD_push false (by omega)] at h1
          exact h1) 2 j (hw j (by omega))
        rw [hf] at this
        cases this
    have ho2 : ops'[i]? = some o := by rw [← h1 i hi2]; exact ho
    rw [getD_push true (by omega)] at hl
    have hr : i ∈ Region.ready md ops' listed := mem_ready.2 ⟨hl, o, ho2, fun e he hb => by
      have := hd e he hb
      have hlt2 := edges_lt hE ho he
      rw [getD_push false (by omega)] at this
      exact this⟩
    have hq := h.2 i hr
    unfold qOp at hq
    simp only [ho2] at hq
    have hgo := hg i o ho2
    rw [if_pos (by simp [Region.wanted, hgo])] at hq
    refine wpOp_of ho hgo (Oper.wp_of_quiet hC (fun a' w' hC' hh => ?_) hq)
    rw [push_set (by omega)]
    have := todo_set hl
    refine ih _ a' w' (by simp [hz]) ?_ (by omega) hC' hh
    intro j o2 ho3 hlj e he hb
    by_cases q : i = j
    · subst q
      rw [ho2] at ho3
      obtain rfl := Option.some.inj ho3
      have h1 := hd e he hb
      have hlt2 := edges_lt hE ho he
      rw [getD_push false (by omega)] at h1
      exact getD_set_true h1
    · rw [getD_set_ne false q] at hlj
      exact getD_set_true (hcl j o2 ho3 hlj e he hb)
where
  off_true' {l : Array Bool} {i : Nat} (h : l.getD i true = false) : l.getD i false = false := by
    unfold Array.getD at *
    split at h
    · rename_i q; simp only [q, dif_pos]; exact h
    · cases h
def tailQ (l : List Oper) (n : Nat) : Bool := decide (n + 1 = l.length) && (edgesB l.toArray && (l.all (fun o => o.guard.isNone) && (Region.lexB .any (l.take n).toArray && ((l[n]?).map fun t => (List.range n).all fun i => waitsB .any (l.take n) t 2 i).getD false)))
theorem wpQuiet_ops {P : Program} {ops ops' : Array Oper} {C : World → Prop} {Q : Act → Prop} : ∀ (l : List Oper) (a : Act), (∀ o ∈ l, o.guard = none) → wpQuiet P ops C Q l a → wpQuiet P ops' C Q l a
  | [], _, _, h => h
  | o :: l, a, hg, h => by
    have hgo := hg o (by simp)
    unfold wpQuiet at *
    rw [if_pos (by simp [Region.wanted, hgo])] at h ⊢
    exact Oper.quiet_mono (fun a' => wpQuiet_ops l a' fun o ho => hg o (by simp [ho])) h
theorem wp_region_gr_tail {P : Program} {id : Nat} {Q : Exit → Act → World → Prop} {a : Act} {w : World} {l : List Oper} (n : Nat) (hm : P.follows .mixedOrders = true) (hB : tailQ l n = true)
    (h : wpQuiet P l.toArray (fun w' => ∃ x : GW w, w' = x.1) (fun a' => ∀ w', Gr w w' → wpList P l.toArray Q (l.drop n) a' w') (l.take n) a) : (Code.region id l.toArray true).wp P Q a w := by
  unfold tailQ at hB
  simp only [Bool.and_eq_true, decide_eq_true_eq] at hB
  obtain ⟨hn, hE, hg, hL, ht⟩ := hB
  have hg' : ∀ o ∈ l, o.guard = none := fun o ho => by
    have := List.all_eq_true.1 hg o ho
    simpa using this
  have hnl : n < l.length := by omega
  have htl : (l.take n).length = n := by simp; omega
  have hgt : l[n]? = some l[n] := List.getElem?_eq_getElem hnl
  rw [hgt] at ht
  simp only [Option.map_some, Option.getD_some] at ht
  simp only [Region.lexB, Bool.and_eq_true] at hL
  have hq := wpAnyQ_lex (P := P) (ops := (l.take n).toArray) (C := fun w' => ∃ x : GW w, w' = x.1) (md := .any) hL.1 (l.take n) 0 (Array.replicate (l.take n).toArray.size false) a (by simp) (by simpa using hL.2) (wpQuiet_ops (ops := l.toArray) (l.take n) a (fun o ho => hg' o (List.mem_of_mem_take ho)) h)
  have hdrop : l.drop n = [l[n]] := by
    rw [List.drop_eq_getElem_cons hnl, List.drop_eq_nil_of_le (by omega)]
  refine wp_region_any hm ?_
  have hsz : l.toArray.size = (l.take n).toArray.size + 1 := by simp; omega
  rw [hsz, Array.replicate_succ]
  have hs := tail_sim (P := P) (md := .any) (ops' := (l.take n).toArray) (ops := l.toArray) (t := l[n]) (C := fun w' => ∃ x : GW w, w' = x.1) (Q := fun a' => ∀ w', Gr w w' → wpList P l.toArray Q (l.drop n) a' w') (Qx := Q)
    (fun i hi => by have hi' : i < n := by (simp at hi; omega)
                    simp [List.getElem?_take_of_lt hi']) hsz (by simp only [List.size_toArray, htl]; simp)
    (fun i hi => by
      have hi' : i < n := by (simp at hi; omega)
      exact List.all_eq_true.1 ht i (List.mem_range.2 hi'))
    (fun i o ho => hg' o (by
      have := Array.mem_of_getElem? ho
      exact List.mem_of_mem_take (by simpa using this))) hE
    (fun a' w' hC hQ => by
      obtain ⟨x, rfl⟩ := hC
      have h3 := hQ x.1 x.2
      rw [hdrop] at h3
      unfold wpOp
      have : l.toArray[(l.take n).toArray.size]? = some l[n] := by simp only [List.size_toArray, htl]; simp
      simp only [this]
      exact h3)
  exact hs (l.take n).length _ a _ (by simp) (fun i o ho hl => by rw [getD_replicate_false'] at hl; cases hl) (by unfold todo; simp) ⟨⟨_, Gr.drew (Gr.refl _)⟩, rfl⟩ hq
end Go.Proofs.YtajhhplgcegodaaDoor
