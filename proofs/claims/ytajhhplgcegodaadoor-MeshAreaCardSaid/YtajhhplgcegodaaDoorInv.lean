/-
  A region that draws its order, by an invariant: whatever order is picked, each operation that comes up keeps it.
-/
import Derived.Test.YtajhhplgcegodaaDoorGr
import Derived.Orders
set_option linter.unusedVariables false
set_option linter.unusedSimpArgs false
namespace Go.Proofs.YtajhhplgcegodaaDoor
open Go.RowKit
/-- How many operations have not come up yet. -/
def todo (l : Array Bool) : Nat := l.toList.count false
theorem todo_zero {l : Array Bool} (h : todo l = 0) (i : Nat) (hi : i < l.size) : l.getD i false = true := by
  unfold todo at h
  rw [List.count_eq_zero] at h
  have hx : l[i]? = some l[i] := Array.getElem?_eq_getElem hi
  cases e : l[i] with
  | true => simp [Array.getD, hi, e]
  | false => exact absurd (by rw [← e]; simp) h
theorem count_set : ∀ (l : List Bool) (i : Nat), l[i]? = some false → (l.set i true).count false + 1 = l.count false
  | [], i, h => by simp at h
  | b :: l, 0, h => by
    simp at h; subst h; simp
  | b :: l, i + 1, h => by
    have ih := count_set l i (by simpa using h)
    simp only [List.set_cons_succ, List.count_cons]
    omega
theorem todo_set {l : Array Bool} {i : Nat} (h : l.getD i true = false) : todo (l.setIfInBounds i true) + 1 = todo l := by
  unfold todo
  have hi : i < l.size := by
    rcases Nat.lt_or_ge i l.size with q | q
    · exact q
    · simp [Array.getD] at h; exact h.1
  have : l.toList[i]? = some false := by
    simp [Array.getD, hi] at h
    simp [hi, h]
  rw [Array.toList_setIfInBounds]
  exact count_set _ _ this
/-- No operation waits for a later one. -/
def edgesB (ops : Array Oper) : Bool := (List.range ops.size).all fun i => ((ops[i]?).map fun o => o.after.all fun e => decide (e.on < i)).getD true
theorem ready_all {ops : Array Oper} {md : Region.Mode} {listed : Array Bool} (hE : edgesB ops = true) (hz : listed.size = ops.size) (h : Region.ready md ops listed = []) : ∀ i, i < ops.size → listed.getD i false = true := by
  intro i
  induction i using Nat.strongRecOn with
  | _ i ih =>
    intro hi
    cases e : listed.getD i false with
    | true => rfl
    | false =>
      have hm : i ∈ Region.ready md ops listed := by
        rw [mem_ready]
        have hi' : i < listed.size := by omega
        have e2 : listed.getD i true = false := by
          simp [Array.getD, hi'] at e ⊢; exact e
        refine ⟨e2, ops[i], Array.getElem?_eq_getElem hi, fun x hx _ => ih x.on ?_ ?_⟩
        · unfold edgesB at hE
          rw [List.all_eq_true] at hE
          have := hE i (List.mem_range.2 hi)
          rw [Array.getElem?_eq_getElem hi] at this
          simp only [Option.map_some, Option.getD_some] at this
          have := Array.all_eq_true_iff_forall_mem.1 this x hx
          simpa using this
        · unfold edgesB at hE
          rw [List.all_eq_true] at hE
          have := hE i (List.mem_range.2 hi)
          rw [Array.getElem?_eq_getElem hi] at this
          simp only [Option.map_some, Option.getD_some] at this
          have := Array.all_eq_true_iff_forall_mem.1 this x hx
          have : x.on < i := by simpa using this
          omega
      rw [h] at hm
      cases hm
theorem wpAny_inv {P : Program} {ops : Array Oper} {md : Region.Mode} {Q : Exit → Act → World → Prop} (hE : edgesB ops = true) (I : Array Bool → Act → World → Prop)
    (hs : ∀ listed a w i, listed.size = ops.size → I listed a w → i ∈ Region.ready md ops listed → wpOp P ops Q i (fun a' w' => I (listed.setIfInBounds i true) a' w') a w)
    (hq : ∀ listed a w, (∀ i, i < ops.size → listed.getD i false = true) → I listed a w → Q .normal a w) :
    ∀ (fuel : Nat) (listed : Array Bool) (a : Act) (w : World), listed.size = ops.size → todo listed = fuel → I listed a w → wpAny P md ops Q fuel listed a w
  | 0, listed, a, w, hz, ht, h => by
    have hall : ∀ i, i < ops.size → listed.getD i false = true := fun i hi => todo_zero ht i (by omega)
    refine ⟨?_, hq _ _ _ hall h⟩
    cases hr : Region.ready md ops listed with
    | nil => rfl
    | cons x xs =>
      have hx : x ∈ Region.ready md ops listed := by rw [hr]; simp
      obtain ⟨h0, o, ho, -⟩ := mem_ready.1 hx
      have hlt : x < ops.size := (Array.getElem?_eq_some_iff.1 ho).1
      have := hall x hlt
      have hi' : x < listed.size := by omega
      simp [Array.getD, hi'] at this h0
      rw [this] at h0; cases h0
  | fuel + 1, listed, a, w, hz, ht, h => by
    refine ⟨fun hr => hq _ _ _ (ready_all hE hz hr) h, fun i hi => ?_⟩
    obtain ⟨h0, -⟩ := mem_ready.1 hi
    refine wpOp_mono (fun a' w' hI => wpAny_inv hE I hs hq fuel _ a' w' (by simp [hz]) ?_ hI) (hs listed a w i hz h hi)
    have := todo_set h0
    omega
theorem wp_region_inv {P : Program} {id : Nat} {Q : Exit → Act → World → Prop} {a : Act} {w : World} {ops : Array Oper} (hm : P.follows .mixedOrders = true) (hE : edgesB ops = true) (I : Array Bool → Act → World → Prop)
    (h0 : I (Array.replicate ops.size false) a w.drew)
    (hs : ∀ listed a w i o, ops[i]? = some o → I listed a w → listed.getD i true = false → (∀ e ∈ o.after, Region.binds .any e = true → listed.getD e.on false = true) → wpOp P ops Q i (fun a' w' => I (listed.setIfInBounds i true) a' w') a w)
    (hq : ∀ listed a w, (∀ i, i < ops.size → listed.getD i false = true) → I listed a w → Q .normal a w) : (Code.region id ops true).wp P Q a w := by
  refine wp_region_any hm (wpAny_inv hE I (fun listed a w i _ hI hi => ?_) hq ops.size _ a _ (by simp) ?_ h0)
  · obtain ⟨h1, o, ho, h2⟩ := mem_ready.1 hi
    exact hs listed a w i o ho hI h1 h2
  · unfold todo; simp
theorem wpOp_of {P : Program} {ops : Array Oper} {Q : Exit → Act → World → Prop} {i : Nat} {K : Act → World → Prop} {a : Act} {w : World} {o : Oper} (ho : ops[i]? = some o) (hg : o.guard = none) (h : o.wp P a w K Q) : wpOp P ops Q i K a w := by
  unfold wpOp
  simp only [ho]
  rw [if_pos (by simp [Region.wanted, hg])]
  exact .inl h
theorem oper_value {P : Program} {o : Oper} {Q : Exit → Act → World → Prop} {K : Act → World → Prop} {a : Act} {w w' : World} {v : Value} (h : (execOp a.eval o).run P w = .ok (.value v) w') (hk : K (a.put o.dst v) w') : o.wp P a w K Q := by
  unfold Oper.wp; rw [h]; exact hk
theorem oper_skip {P : Program} {o : Oper} {Q : Exit → Act → World → Prop} {K : Act → World → Prop} {a : Act} {w w' : World} (h : (execOp a.eval o).run P w = .ok .skip w') (hk : K (a.put o.dst undef) w') : o.wp P a w K Q := by
  unfold Oper.wp; rw [h]; exact hk
end Go.Proofs.YtajhhplgcegodaaDoor
