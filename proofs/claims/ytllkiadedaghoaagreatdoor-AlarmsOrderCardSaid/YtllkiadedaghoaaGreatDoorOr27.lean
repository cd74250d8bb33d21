/-
  A loop over a map that a call has made, whatever its elements are: which keys have come up. Typed. (After mesh/XMsMp.)
-/
import Derived.Test.YtllkiadedaghoaaGreatDoorOr22
import Derived.WideKeyEntry
import Derived.Maps.RangeRun
set_option linter.unusedVariables false
set_option linter.unusedSimpArgs false
namespace Go.Proofs.YtllkiadedaghoaaGreatDoor
open Go.RowKit Go.Maps Go.ChangeShapes Go.WideShapes Go.MapKept
open Go.ChangeMaps (setBlock heap_setBlock_same heap_setBlock_other modify_eq_set)
section
variable {P : Program} {w : World} {t k e : TypeId} {b n : Nat} {f : Value → Option Value}
/-- A loop over the map in block b, by the iterator in block r: the keys ks have come up, cnt entries are left. -/
def ItF (w : World) (b r cnt : Nat) (f : Value → Option Value) (ks : List Value) : Prop :=
  ∃ es clock since seen, w.heap[r]? = some (.mapIter (some b) since seen clock) ∧ w.heap[b]? = some (.map es clock) ∧ (∀ x ∈ es.toList, x.born < since) ∧ since ≤ clock ∧ (es.toList.map (·.born)).Nodup ∧
    (∀ x ∈ es.toList, ∀ y ∈ es.toList, x.key = y.key → x = y) ∧ (leftOf es seen).size = cnt ∧ (∀ x ∈ es.toList, seen.contains x.born = true ↔ x.key ∈ ks) ∧
    (∀ key v, f key = some v → ∃ x ∈ es.toList, x.key = key ∧ x.val = v) ∧ (∀ x ∈ es.toList, f x.key = some x.val) ∧ ks.Nodup ∧ ∀ key ∈ ks, (f key).isSome = true
theorem ItF.keep {w w' : World} {b r cnt : Nat} {f : Value → Option Value} {ks : List Value} (h : ItF w b r cnt f ks) (hb : w'.heap[b]? = w.heap[b]?) (hr : w'.heap[r]? = w.heap[r]?) : ItF w' b r cnt f ks := by
  obtain ⟨es, clock, since, seen, h1, h2, h3⟩ := h
  exact ⟨es, clock, since, seen, hr.trans h1, hb.trans h2, h3⟩
theorem ItF.lt {b r cnt : Nat} {ks : List Value} (h : ItF w b r cnt f ks) : b < w.heap.size ∧ r < w.heap.size := by
  obtain ⟨es, clock, since, seen, h1, h2, h3⟩ := h
  exact ⟨(Array.getElem?_eq_some_iff.1 h2).1, (Array.getElem?_eq_some_iff.1 h1).1⟩
theorem ItF.gr {w' : World} {b r cnt : Nat} {ks : List Value} (h : ItF w b r cnt f ks) (g : Gr w w') : ItF w' b r cnt f ks :=
  h.keep (Below.block g b h.lt.1) (Below.block g r h.lt.2)
theorem ItF.grownBy {w' : World} {b r cnt : Nat} {row : Option Nat} {ks : List Value} (h : ItF w b r cnt f ks) (g : w.grownBy w' row) (hb : some b ≠ row) (hr : some r ≠ row) : ItF w' b r cnt f ks :=
  h.keep (g.block b h.lt.1 hb) (g.block r h.lt.2 hr)
/-- Keys that differ, in a list of entries. -/
theorem keys_inj {es : List MapEntry} (hp : es.Pairwise fun x y => x.key ≠ y.key) : ∀ x ∈ es, ∀ y ∈ es, x.key = y.key → x = y := by
  intro x hx y hy he
  obtain ⟨i, hi, hxi⟩ := List.getElem_of_mem hx
  obtain ⟨j, hj, hej⟩ := List.getElem_of_mem hy
  rcases Nat.lt_trichotomy i j with q | q | q
  · have := List.pairwise_iff_getElem.1 hp i j hi hj q
    rw [hxi, hej] at this
    exact absurd he this
  · subst q; rw [← hxi, ← hej]
  · have := List.pairwise_iff_getElem.1 hp j i hj hi q
    rw [hxi, hej] at this
    exact absurd he.symm this
theorem ItF.start (h : MapIs P k w b n f) (ht : P.underlying t = some (.map k e)) : ∃ w' cnt, (Instr.range t (.map (some b))).run P w = .ok (.pointer (some ⟨w.heap.size, 0, none⟩)) w' ∧ Gr w w' ∧ w'.heap.size = w.heap.size + 1 ∧ ItF w' b w.heap.size cnt f [] := by
  obtain ⟨es, clock, hb, hs, hst, hk, h1, h2⟩ := h
  obtain ⟨s1, s2, s3⟩ := (stamped_iff es clock).1 hst
  have hlt := (Array.getElem?_eq_some_iff.1 hb).1
  have hinj := keys_inj s3
  refine ⟨_, _, run_range_map w t k e b es clock ht hb, Gr.alloc (Gr.refl w) _, by simp, es, clock, clock, #[], heap_alloc_new _ _, by rw [heap_alloc_old _ _ hlt]; exact hb, s1, Nat.le_refl _, s2, hinj, rfl, fun x hx => by simp, h1, fun x hx => ?_, List.nodup_nil, fun key hx => by simp at hx⟩
  cases hf : f x.key with
  | none => exact absurd rfl (h2 _ hf x hx)
  | some v =>
    obtain ⟨y, hy, hyk, hyv⟩ := h1 _ v hf
    rw [← hinj y hy x hx hyk, hyv]
theorem ItF.step {r cnt : Nat} {ks : List Value} (h : ItF w b r cnt f ks) (hr : r ≠ b) (ty : TypeId) : ((∀ key, (f key).isSome = true → key ∈ ks) ∧ (Instr.next (.pointer (some ⟨r, 0, none⟩)) false ty).run P w = .ok (.tuple #[.bool false]) w) ∨
    ∃ key v w' cnt', cnt' < cnt ∧ f key = some v ∧ key ∉ ks ∧ (Instr.next (.pointer (some ⟨r, 0, none⟩)) false ty).run P w = .ok (.tuple #[.bool true, key, v]) w' ∧ ItF w' b r cnt' f (ks ++ [key]) ∧ (Instr.entry (.pointer (some ⟨r, 0, none⟩))).run P w' = .ok (.tuple #[key, v]) w' ∧ GrX r w w' := by
  obtain ⟨es, clock, since, seen, h1, h2, h3, h4, h5, h6, h7, h8, h9, h10, h11, h12⟩ := h
  rcases run_next_at w ty r b since clock seen es clock h1 h2 h3 h4 with ⟨q1, q2⟩ | ⟨x, hx, w1, hw1, hrun⟩
  · refine Or.inl ⟨fun key hkey => ?_, q2⟩
    obtain ⟨v, hv⟩ := Option.isSome_iff_exists.1 hkey
    obtain ⟨x, hx, rfl, -⟩ := h9 key v hv
    rw [← h8 x hx]
    cases hc : seen.contains x.born with
    | true => rfl
    | false =>
      have : x ∈ (leftOf es seen).toList := by unfold leftOf; simp; exact ⟨by simpa using hx, by simpa using hc⟩
      have := List.length_pos_of_mem this
      rw [Array.length_toList] at this
      omega
  · right
    have hxm : x ∈ es.toList ∧ seen.contains x.born = false := by
      unfold leftOf at hx
      simp at hx
      exact ⟨by simpa using hx.1, by simpa using hx.2⟩
    have hb1 : w1.heap[b]? = some (.map es clock) := by rcases hw1 with rfl | rfl <;> exact h2
    have hr1 : w1.heap[r]? = some (.mapIter (some b) since seen clock) := by rcases hw1 with rfl | rfl <;> exact h1
    have hlt := (Array.getElem?_eq_some_iff.1 hr1).1
    have hnr : (setBlock w1 r (.mapIter (some b) since (seen.push x.born) clock)).heap[r]? = some (.mapIter (some b) since (seen.push x.born) clock) := by simp [setBlock, hlt]
    have hnb : (setBlock w1 r (.mapIter (some b) since (seen.push x.born) clock)).heap[b]? = some (.map es clock) := by
      simp only [setBlock, Array.getElem?_setIfInBounds]
      rw [if_neg hr]; exact hb1
    have hgx : GrX r w (setBlock w1 r (.mapIter (some b) since (seen.push x.born) clock)) := by
      have hcell : ∀ o, w.cell? ⟨r, o, none⟩ = none := fun o => by simp [World.cell?, h1]
      rcases hw1 with rfl | rfl
      · exact ⟨rfl, rfl, rfl, by simp [setBlock], fun i hi hne => by simp only [setBlock, Array.getElem?_setIfInBounds]; rw [if_neg (Ne.symm hne)], fun o ho => (by rw [hcell] at ho; cases ho), fun o ho => (by rw [hcell] at ho; cases ho)⟩
      · exact ⟨rfl, rfl, rfl, by simp [setBlock, World.drew, -World.drew_eq], fun i hi hne => by simp only [setBlock, Array.getElem?_setIfInBounds]; rw [if_neg (Ne.symm hne)]; rfl, fun o ho => (by rw [hcell] at ho; cases ho), fun o ho => (by rw [hcell] at ho; cases ho)⟩
    have hen := run_entry_at (P := P) _ r b since seen es clock x hnr hnb hxm.1 h5
    have hnk : x.key ∉ ks := fun q => by rw [← h8 x hxm.1, hxm.2] at q; cases q
    refine ⟨x.key, x.val, _, (leftOf es (seen.push x.born)).size, ?_, h10 x hxm.1, hnk, hrun, ⟨es, clock, since, seen.push x.born, hnr, hnb, h3, h4, h5, h6, rfl, fun y hy => ?_, h9, h10, ?_, fun key hkey => ?_⟩, hen, hgx⟩
    · rw [← h7]
      unfold leftOf
      have e1 : (es.filter fun e => !(seen.push x.born).contains e.born) = (es.filter fun e => !seen.contains e.born).filter fun e => !(e.born == x.born) := by
        rw [Array.filter_filter]
        congr 1
        funext e
        simp only [Array.contains_push]
        cases seen.contains e.born <;> cases h : (e.born == x.born) <;> simp_all
      rw [e1, ← Array.length_toList, ← Array.length_toList, Array.toList_filter]
      exact List.length_filter_lt_length_iff_exists.2 ⟨x, by simpa [leftOf] using hx, by simp⟩
    · rw [Array.contains_push, Bool.or_eq_true, h8 y hy, List.mem_append, List.mem_singleton]
      constructor
      · rintro (q | q)
        · exact Or.inl q
        · right
          have hborn : y.born = x.born := by simpa using q
          have : y = x := by
            obtain ⟨i, hi, hxi⟩ := List.getElem_of_mem hy
            obtain ⟨j, hj, hej⟩ := List.getElem_of_mem hxm.1
            have hp := List.pairwise_iff_getElem.1 (List.nodup_iff_pairwise_ne.1 h5)
            rcases Nat.lt_trichotomy i j with q | q | q
            · have := hp i j (by simpa using hi) (by simpa using hj) q
              simp only [List.getElem_map] at this
              rw [hxi, hej] at this
              exact absurd hborn this
            · subst q; rw [← hxi, ← hej]
            · have := hp j i (by simpa using hj) (by simpa using hi) q
              simp only [List.getElem_map] at this
              rw [hxi, hej] at this
              exact absurd hborn.symm this
          rw [this]
      · rintro (q | q)
        · exact Or.inl q
        · right
          rw [h6 y hy x hxm.1 q]
          simp
    · rw [List.nodup_append]
      exact ⟨h11, by simp, fun a ha c hc e => by simp only [List.mem_singleton] at hc; exact hnk (by rw [← hc, ← e]; exact ha)⟩
    · rcases List.mem_append.1 hkey with q | q
      · exact h12 key q
      · simp only [List.mem_singleton] at q
        rw [q, h10 x hxm.1]; rfl
end
theorem ItF.nodup {w : World} {b r cnt : Nat} {f : Value → Option Value} {ks : List Value} (h : ItF w b r cnt f ks) : ks.Nodup ∧ ∀ key ∈ ks, (f key).isSome = true := by
  obtain ⟨es, clock, since, seen, h1, h2, h3, h4, h5, h6, h7, h8, h9, h10, h11, h12⟩ := h
  exact ⟨h11, h12⟩
theorem ItF.notcells {w : World} {b r cnt : Nat} {f : Value → Option Value} {ks : List Value} (h : ItF w b r cnt f ks) : ∀ cur t fr, w.heap[r]? ≠ some (.cells cur t fr) := by
  obtain ⟨es, clock, since, seen, h1, -⟩ := h
  intro cur t fr e
  rw [h1] at e; cases e
theorem nodup_str {ss : List ByteArray} (h : (ss.map Value.string).Nodup) : ss.Nodup := (List.pairwise_map.1 h).imp fun h e => h (by rw [e])
/-- How many entries of the map in block b the iterator in block r has left. -/
def itLeft (w : World) (r b : Nat) : Nat := match w.heap[r]?, w.heap[b]? with
  | some (.mapIter _ _ seen _), some (.map es _) => (leftOf es seen).size
  | _, _ => 0
theorem ItF.left {w : World} {b r cnt : Nat} {f : Value → Option Value} {ks : List Value} (h : ItF w b r cnt f ks) : itLeft w r b = cnt := by
  obtain ⟨es, clock, since, seen, h1, h2, h3, h4, h5, h6, h7, -⟩ := h
  unfold itLeft
  rw [h1, h2]
  exact h7
end Go.Proofs.YtllkiadedaghoaaGreatDoor
