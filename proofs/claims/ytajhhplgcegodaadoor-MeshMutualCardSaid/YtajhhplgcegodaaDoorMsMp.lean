/-
  Maps that a call makes: m[k] += c in two operations; a loop over a map whose elements are all the same. No condition.
-/
import Derived.Test.YtajhhplgcegodaaDoorMap
import Derived.WideKeyEntry
import Derived.Maps.RangeRun
set_option linter.unusedVariables false
set_option linter.unusedSimpArgs false
namespace Go.Proofs.YtajhhplgcegodaaDoor
open Go.RowKit Go.Maps Go.ChangeShapes Go.WideShapes Go.MapKept
open Go.ChangeMaps (setBlock heap_setBlock_same heap_setBlock_other modify_eq_set)
open Go.WideElems (findIdx_born findIdx_arr modify_last set_self)
theorem grx_setBlock {w : World} {b : Nat} {es : Array MapEntry} {clock : Nat} (hb : w.heap[b]? = some (.map es clock)) (es' : Array MapEntry) (clock' : Nat) : GrX b w (setBlock w b (.map es' clock')) :=
  ⟨rfl, rfl, rfl, by simp [setBlock], fun i _ hi => heap_setBlock_other hb _ hi, fun o ho => by simp [World.cell?, hb] at ho, fun o ho => by simp [World.cell?, hb] at ho⟩
section
variable {P : Program} {w : World} {t k e : TypeId} {b n : Nat} {f : Value → Option Value}
/-- The two operations of m[k] = v, where v hangs on m[k]. -/
theorem MapIs.bump (h : MapIs P k w b n f) (K : Keyed P k) (ht : P.underlying t = some (.map k e)) {z : Value} (hz : ∀ u : World, (zeroValue e).run P u = .ok z u) {key : Value} {kl : Lit} (hkey : keyOf P k key = some kl) :
    ∃ (st : Nat) (w1 : World), (Instr.mapEntry t (.map (some b)) key).run P w = .ok (.tuple #[(f key).getD z, goInt st]) w1 ∧ GrX b w w1 ∧
      (∀ g : Value → Option Value, g key = some ((f key).getD z) → (∀ x, x ≠ key → g x = f x) → MapIs P k w1 b (n + 1) g) ∧
      ∀ val, ∃ w2, (Instr.entryStore t (.map (some b)) (goInt st) val).run P w1 = .ok () w2 ∧ GrX b w w2 ∧ ∀ g : Value → Option Value, g key = some val → (∀ x, x ≠ key → g x = f x) → MapIs P k w2 b (n + 1) g := by
  have hM := h
  obtain ⟨es, clock, hb, hs, hst, hk, h1, h2⟩ := h
  obtain ⟨s1, s2, s3⟩ := (stamped_iff es clock).1 hst
  rcases K.find w hkey es.toList hk with ⟨r1, r2⟩ | ⟨j, e0, r1, r2, r3⟩
  · have hf : f key = none := by
      cases hf : f key with
      | none => rfl
      | some v =>
        obtain ⟨x, hx, hxk, -⟩ := h1 key v hf
        exact absurd hxk (r2 x hx)
    have put : ∀ val, ∃ w', (Instr.mapUpdate t (.map (some b)) key val).run P w = .ok () w' ∧ w' = setBlock w b (.map (es.push ⟨key, val, clock⟩) (clock + 1)) := fun val =>
      ⟨_, by simp [Instr.mapUpdate, run_underlying ht, MapKept.run_getObj_map hb, K.check w false hkey, r1, MapKept.run_setObj_map _ hb, Result.andThen, setBlock], rfl⟩
    have good : ∀ val (g : Value → Option Value), g key = some val → (∀ x, x ≠ key → g x = f x) → MapIs P k (setBlock w b (.map (es.push ⟨key, val, clock⟩) (clock + 1))) b (n + 1) g := fun val g hg hg' => by
      obtain ⟨w', hr, hw⟩ := put val
      obtain ⟨w'', hr', hm, -⟩ := hM.store (val := val) K ht hkey
      rw [hr] at hr'
      cases hr'
      rw [← hw]; exact hm g hg hg'
    refine ⟨clock, setBlock w b (.map (es.push ⟨key, z, clock⟩) (clock + 1)), ?_, grx_setBlock hb _ _, fun g hg hg' => good z g (by rw [hg, hf]; rfl) hg', fun val => ?_⟩
    · rw [hf]
      simp [Instr.mapEntry, run_underlying ht, MapKept.run_getObj_map hb, K.check w false hkey, r1, hz, MapKept.run_setObj_map _ hb, Result.andThen, setBlock]
    · have hw2 : (setBlock w b (.map (es.push ⟨key, z, clock⟩) (clock + 1))).heap[b]? = some (.map (es.push ⟨key, z, clock⟩) (clock + 1)) := heap_setBlock_same hb _
      have hidx : (es.push ⟨key, z, clock⟩).findIdx? (fun e => ((e.born : Nat) : Int) == ((clock : Nat) : Int)) = some es.size := by
        rw [findIdx_arr]
        have := findIdx_born (l := (es.push ⟨key, z, clock⟩).toList) (j := es.size) (e0 := ⟨key, z, clock⟩) (by
          simp only [Array.toList_push, List.map_append, List.map_cons, List.map_nil]
          refine List.nodup_append.2 ⟨s2, by simp, fun a ha c hc e1 => ?_⟩
          simp only [List.mem_singleton] at hc
          obtain ⟨x, hx, rfl⟩ := List.mem_map.1 ha
          have := s1 x hx
          omega) (by simp)
        exact this
      have hmod : (es.push ⟨key, z, clock⟩).modify es.size (fun e => { e with val := val }) = es.push ⟨key, val, clock⟩ := by
        apply Array.ext'
        rw [Array.toList_modify, Array.toList_push, Array.toList_push, ← Array.length_toList, modify_last]
      have hsb : setBlock (setBlock w b (.map (es.push ⟨key, z, clock⟩) (clock + 1))) b (.map (es.push ⟨key, val, clock⟩) (clock + 1)) = setBlock w b (.map (es.push ⟨key, val, clock⟩) (clock + 1)) := by
        simp [setBlock]
      refine ⟨setBlock w b (.map (es.push ⟨key, val, clock⟩) (clock + 1)), ?_, grx_setBlock hb _ _, fun g hg hg' => good val g hg hg'⟩
      have stp : ∀ u : World, u.heap[b]? = some (.map (es.push ⟨key, z, clock⟩) (clock + 1)) → (Instr.entryStore t (.map (some b)) (goInt clock) val).run P u = .ok () (setBlock u b (.map (es.push ⟨key, val, clock⟩) (clock + 1))) := fun u hu => by
        simp [Instr.entryStore, MapKept.run_getObj_map hu, asInt, asIntOf, goInt, hidx, hmod, MapKept.run_setObj_map _ hu, Result.andThen, setBlock]
      rw [stp _ hw2, hsb]
  · have hj : es[j]? = some e0 := by simpa using r2
    have hm0 : e0 ∈ es.toList := List.mem_of_getElem? r2
    have hlk := hM.look false K ht (hz w) hkey
    have hf : (f key).getD z = e0.val := by
      rw [if_neg (by decide)] at hlk
      simp [Instr.lookup, run_underlying ht, MapKept.run_getObj_map hb, K.check w _ hkey, r1, Result.andThen] at hlk
      exact hlk.symm
    have hsame : es.modify j (fun e => { e with key := key }) = es := by
      apply Array.ext'
      rw [Array.toList_modify, modify_eq_set _ _ _ _ r2]
      have : ({ e0 with key := key } : MapEntry) = e0 := by rw [← r3]
      rw [this]
      exact set_self _ _ _ r2
    have put : ∀ val, (Instr.mapUpdate t (.map (some b)) key val).run P w = .ok () (setBlock w b (.map (es.modify j (fun e' => { e' with key := key, val := val })) clock)) := fun val => by
      simp [Instr.mapUpdate, run_underlying ht, MapKept.run_getObj_map hb, K.check w false hkey, r1, hj, r3, K.stays w hkey, MapKept.run_setObj_map _ hb, Result.andThen, setBlock]
    have good : ∀ val (g : Value → Option Value), g key = some val → (∀ x, x ≠ key → g x = f x) → MapIs P k (setBlock w b (.map (es.modify j (fun e' => { e' with key := key, val := val })) clock)) b (n + 1) g := fun val g hg hg' => by
      obtain ⟨w'', hr', hm, -⟩ := hM.store (val := val) K ht hkey
      rw [put val] at hr'
      cases hr'
      exact hm g hg hg'
    have hself : setBlock w b (.map es clock) = w := by
      simp only [setBlock]
      have hlt := (Array.getElem?_eq_some_iff.1 hb).1
      have he := (Array.getElem?_eq_some_iff.1 hb).2
      have : w.heap.setIfInBounds b (.map es clock) = w.heap := by
        apply Array.ext
        · simp
        · intro i h1 h2
          by_cases q : i = b
          · subst q; simp [he]
          · rw [Array.getElem_setIfInBounds_ne (by simpa using h2) (Ne.symm q)]
      rw [this]
    refine ⟨e0.born, w, ?_, GrX.refl _ _, fun g hg hg' => ?_, fun val => ?_⟩
    · rw [hf]
      have : (Instr.mapEntry t (.map (some b)) key).run P w = .ok (.tuple #[e0.val, goInt e0.born]) (setBlock w b (.map es clock)) := by
        simp [Instr.mapEntry, run_underlying ht, MapKept.run_getObj_map hb, K.check w false hkey, r1, hj, r3, K.stays w hkey, hsame, MapKept.run_setObj_map _ hb, Result.andThen, setBlock]
      rw [hself] at this; exact this
    · have hfs : f key = some e0.val := by
        cases hk2 : f key with
        | none => exact absurd r3 (h2 key hk2 e0 hm0)
        | some v => rw [hk2] at hf; simpa using hf
      have hgf : g = f := by
        funext x
        by_cases q : x = key
        · subst q; rw [hg, hfs]; rfl
        · exact hg' x q
      rw [hgf]; exact hM.mono (Nat.le_succ n)
    · have hidx : es.findIdx? (fun e => ((e.born : Nat) : Int) == ((e0.born : Nat) : Int)) = some j := by
        rw [findIdx_arr]
        exact findIdx_born s2 r2
      have hmod : es.modify j (fun e => { e with val := val }) = es.modify j (fun e' => { e' with key := key, val := val }) := by
        apply Array.ext'
        rw [Array.toList_modify, Array.toList_modify, modify_eq_set _ _ _ _ r2, modify_eq_set _ _ _ _ r2, ← r3]
      refine ⟨setBlock w b (.map (es.modify j (fun e' => { e' with key := key, val := val })) clock), ?_, grx_setBlock hb _ _, fun g hg hg' => good val g hg hg'⟩
      simp [Instr.entryStore, MapKept.run_getObj_map hb, asInt, asIntOf, goInt, hidx, hmod, MapKept.run_setObj_map _ hb, Result.andThen, setBlock]
/-- A loop over map b whose elements are all c; cnt entries are left. -/
def ItM (w : World) (b r cnt : Nat) (c : Value) : Prop :=
  ∃ es clock since seen c0, w.heap[r]? = some (.mapIter (some b) since seen c0) ∧ w.heap[b]? = some (.map es clock) ∧ (∀ x ∈ es.toList, x.born < since) ∧ since ≤ c0 ∧ (es.toList.map (·.born)).Nodup ∧ (leftOf es seen).size = cnt ∧ (∀ x ∈ es.toList, x.val = c) ∧ clock = c0
theorem MapIs.vals (h : MapIs P k w b n f) {c : Value} (hc : ∀ key v, f key = some v → v = c) : ∃ es clock, w.heap[b]? = some (.map es clock) ∧ Stamped es clock ∧ ∀ x ∈ es.toList, x.val = c := by
  obtain ⟨es, clock, hb, hs, hst, hk, h1, h2⟩ := h
  refine ⟨es, clock, hb, hst, fun x hx => ?_⟩
  have hp := ((stamped_iff es clock).1 hst).2.2
  cases hf : f x.key with
  | none => exact absurd rfl (h2 _ hf x hx)
  | some v =>
    obtain ⟨y, hy, hyk, hyv⟩ := h1 _ v hf
    have : y = x := by
      obtain ⟨i, hi, hxi⟩ := List.getElem_of_mem hy
      obtain ⟨j, hj, hej⟩ := List.getElem_of_mem hx
      rcases Nat.lt_trichotomy i j with q | q | q
      · have := List.pairwise_iff_getElem.1 hp i j hi hj q
        rw [hxi, hej] at this
        exact absurd hyk this
      · subst q; rw [← hxi, ← hej]
      · have := List.pairwise_iff_getElem.1 hp j i hj hi q
        rw [hxi, hej] at this
        exact absurd hyk.symm this
    rw [← this, hyv]; exact hc _ _ hf
theorem ItM.start (h : MapIs P k w b n f) (ht : P.underlying t = some (.map k e)) {c : Value} (hc : ∀ key v, f key = some v → v = c) : ∃ w' cnt, (Instr.range t (.map (some b))).run P w = .ok (.pointer (some ⟨w.heap.size, 0, none⟩)) w' ∧ Gr w w' ∧ ItM w' b w.heap.size cnt c := by
  obtain ⟨es, clock, hb, hst, hv⟩ := h.vals hc
  obtain ⟨s1, s2, -⟩ := (stamped_iff es clock).1 hst
  have hlt := (Array.getElem?_eq_some_iff.1 hb).1
  exact ⟨_, _, run_range_map w t k e b es clock ht hb, Gr.alloc (Gr.refl w) _, es, clock, clock, #[], clock, heap_alloc_new _ _, by rw [heap_alloc_old _ _ hlt]; exact hb, s1, Nat.le_refl _, s2, rfl, hv, rfl⟩
theorem ItM.step {r cnt : Nat} {c : Value} (h : ItM w b r cnt c) (hr : r ≠ b) (ty : TypeId) : (cnt = 0 ∧ (Instr.next (.pointer (some ⟨r, 0, none⟩)) false ty).run P w = .ok (.tuple #[.bool false]) w) ∨
    ∃ key w' cnt', cnt' < cnt ∧ (Instr.next (.pointer (some ⟨r, 0, none⟩)) false ty).run P w = .ok (.tuple #[.bool true, key, c]) w' ∧ ItM w' b r cnt' c ∧ (Instr.entry (.pointer (some ⟨r, 0, none⟩))).run P w' = .ok (.tuple #[key, c]) w' ∧ GrX r w w' := by
  obtain ⟨es, clock, since, seen, c0, h1, h2, h3, h4, h5, h6, h7, h8⟩ := h
  subst h8
  rcases run_next_at w ty r b since clock seen es clock h1 h2 h3 h4 with ⟨q1, q2⟩ | ⟨x, hx, w1, hw1, hrun⟩
  · exact Or.inl ⟨by omega, q2⟩
  · right
    have hxm : x ∈ es.toList ∧ seen.contains x.born = false := by
      unfold leftOf at hx
      simp at hx
      exact ⟨by simpa using hx.1, by simpa using hx.2⟩
    have hb1 : w1.heap[b]? = some (.map es clock) := by rcases hw1 with rfl | rfl <;> exact h2
    have hr1 : w1.heap[r]? = some (.mapIter (some b) since seen clock) := by rcases hw1 with rfl | rfl <;> exact h1
    have hlt := (Array.getElem?_eq_some_iff.1 hr1).1
    have hnr : (setBlock w1 r (.mapIter (some b) since (seen.push x.born) clock)).heap[r]? = some (.mapIter (some b) since (seen.push x.born) clock) := by simp [setBlock, hlt]
    have hnb : (setBlock w1 r (.mapIter (some b) since (seen.push x.born) clock)).heap[b]? = some (.map es clock) := by
      simp only [setBlock, Array.getElem?_setIfInBounds]
      rw [if_neg hr]; exact hb1
    have hgx : GrX r w (setBlock w1 r (.mapIter (some b) since (seen.push x.born) clock)) := by
      have hcell : ∀ o, w.cell? ⟨r, o, none⟩ = none := fun o => by simp [World.cell?, h1]
      rcases hw1 with rfl | rfl
      · exact ⟨rfl, rfl, rfl, by simp [setBlock], fun i hi hne => by simp only [setBlock, Array.getElem?_setIfInBounds]; rw [if_neg (Ne.symm hne)], fun o ho => (by rw [hcell] at ho; cases ho), fun o ho => (by rw [hcell] at ho; cases ho)⟩
      · exact ⟨rfl, rfl, rfl, by simp [setBlock, World.drew, -World.drew_eq], fun i hi hne => by simp only [setBlock, Array.getElem?_setIfInBounds]; rw [if_neg (Ne.symm hne)]; rfl, fun o ho => (by rw [hcell] at ho; cases ho), fun o ho => (by rw [hcell] at ho; cases ho)⟩
    rw [h7 x hxm.1] at hrun
    have hen := run_entry_at (P := P) _ r b since seen es clock x hnr hnb hxm.1 h5
    rw [h7 x hxm.1] at hen
    refine ⟨x.key, _, (leftOf es (seen.push x.born)).size, ?_, hrun, ⟨es, clock, since, seen.push x.born, clock, hnr, hnb, h3, h4, h5, rfl, h7, rfl⟩, hen, hgx⟩
    rw [← h6]
    unfold leftOf
    have e1 : (es.filter fun e => !(seen.push x.born).contains e.born) = (es.filter fun e => !seen.contains e.born).filter fun e => !(e.born == x.born) := by
      rw [Array.filter_filter]
      congr 1
      funext e
      simp only [Array.contains_push]
      cases seen.contains e.born <;> cases h : (e.born == x.born) <;> simp_all
    rw [e1, ← Array.length_toList, ← Array.length_toList, Array.toList_filter]
    exact List.length_filter_lt_length_iff_exists.2 ⟨x, by simpa [leftOf] using hx, by simp⟩
end
end Go.Proofs.YtajhhplgcegodaaDoor
