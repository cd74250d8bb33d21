/-
  Alarms, plain: the messages of the core alone have the alarm. Typed.
-/
import Derived.Test.YtllkiadedaghoaaGreatAnA
set_option linter.unusedVariables false
set_option linter.unusedSimpArgs false
namespace Go.Proofs.YtllkiadedaghoaaGreat
namespace Al
/-- The messages that explain an alarm. -/
def inC (a : C) (m : M) : Bool := Ba.eqS m.nd a.nd && a.bc.contains m.nu
def aloC (a : C) (l : List M) : List M := l.filter (inC a)
theorem jmp_core {most : Int} : ∀ l : List M, ∀ c ∈ jmp most l, ∃ x y, [x, y].Sublist l ∧ c = alm 3 [x, y] ∧ c ∈ jmp most [x, y]
  | [], c, hc => by simp [jmp] at hc
  | [x], c, hc => by simp [jmp] at hc
  | x :: y :: r, c, hc => by
    rw [jmp, List.mem_append] at hc
    rcases hc with hc | hc
    · refine ⟨x, y, ((List.nil_sublist r).cons_cons y).cons_cons x, ?_, ?_⟩
      · split at hc
        · exact List.mem_singleton.1 hc
        · cases hc
      · rw [jmp, List.mem_append]; exact .inl hc
    · obtain ⟨u, v, h1, h2, h3⟩ := jmp_core (y :: r) c hc
      exact ⟨u, v, h1.cons x, h2, h3⟩
theorem tw_self {α : Type} (p : α → Bool) : ∀ r : List α, (r.takeWhile p).takeWhile p = r.takeWhile p
  | [] => rfl
  | a :: r => by
    rw [List.takeWhile_cons]
    split
    · rw [List.takeWhile_cons, if_pos (by assumption), tw_self p r]
    · rfl
theorem run_core {k : Int} : ∀ (n : Nat) (l : List M), l.length ≤ n → ∀ c ∈ run k l, ∃ ms, ms ≠ [] ∧ ms.Sublist l ∧ c = alm 4 ms ∧ c ∈ run k ms
  | _, [], _, c, hc => by simp [run] at hc
  | 0, x :: r, hl, c, hc => by simp at hl
  | n + 1, x :: r, hl, c, hc => by
    rw [run, List.mem_append] at hc
    rcases hc with hc | hc
    · refine ⟨x :: r.takeWhile fun m => m.lv == x.lv, by simp, (List.takeWhile_sublist _).cons_cons x, ?_, ?_⟩
      · split at hc
        · exact List.mem_singleton.1 hc
        · cases hc
      · rw [run, List.mem_append, tw_self]; exact .inl hc
    · have hle := (List.dropWhile_sublist (fun m : M => m.lv == x.lv) (l := r)).length_le
      obtain ⟨ms, h1, h2, h3, h4⟩ := run_core n _ (by rw [List.length_cons] at hl; omega) c hc
      exact ⟨ms, h1, (h2.trans (List.dropWhile_sublist _)).cons x, h3, h4⟩
theorem limI_bc {N : Ba.SlNode} {m : M} : ∀ c ∈ limI N m, c.bc = [m.nu] := by
  intro c hc
  have key : ∀ k, c ∈ [alm k [m]] → c.bc = [m.nu] := fun k h => by rw [List.mem_singleton] at h; subst h; rfl
  unfold limI at hc
  split at hc
  · exact key _ hc
  · split at hc
    · exact key _ hc
    · split at hc
      · exact key _ hc
      · cases hc
theorem alm_bc (k : Int) (ms : List M) : (alm k ms).bc = ms.map M.nu := rfl
/-- The messages of an alarm. -/
theorem allC_core {N : Ba.SlNode} {L : List M} {most k : Int} {a : C} (ha : a ∈ allC N L most k) : ∃ ms, ms ≠ [] ∧ ms.Sublist (ofN L a.nd) ∧ a.bc = ms.map M.nu ∧ ((∃ m, ms = [m] ∧ a ∈ limI N m) ∨ a ∈ jmp most ms ∨ a ∈ run k ms) := by
  unfold allC at ha
  rw [(srt_perm _).mem_iff, List.mem_append, List.mem_append] at ha
  rcases ha with ha | ha | ha
  · unfold limC at ha
    obtain ⟨m, hm, h⟩ := List.mem_flatMap.1 ha
    refine ⟨[m], by simp, ?_, limI_bc a h, .inl ⟨m, rfl, h⟩⟩
    rw [limI_nd a h, List.singleton_sublist]
    exact List.mem_filter.2 ⟨(srtM_perm L).mem_iff.2 hm, (eqS_iff' _ _).2 rfl⟩
  · unfold jmpC at ha
    obtain ⟨s, hs, h⟩ := List.mem_flatMap.1 ha
    obtain ⟨x, y, h1, h2, h3⟩ := jmp_core _ a h
    refine ⟨[x, y], by simp, ?_, by rw [h2, alm_bc], .inr (.inl h3)⟩
    rw [jmp_nd _ ofN_all a h]; exact h1
  · unfold runC at ha
    obtain ⟨s, hs, h⟩ := List.mem_flatMap.1 ha
    obtain ⟨ms, h1, h2, h3, h4⟩ := run_core _ _ (Nat.le_refl _) a h
    refine ⟨ms, h1, ?_, by rw [h3, alm_bc], .inr (.inr h4)⟩
    rw [run_nd _ _ (Nat.le_refl _) ofN_all a h]; exact h2
theorem Dist.nodup {l : List M} (h : Dist l) : l.Nodup := List.Pairwise.imp (fun h e => h (by rw [e])) h
theorem ofN_sub {L : List M} {s : ByteArray} {m : M} (h : m ∈ ofN L s) : m ∈ L := (srtM_perm L).mem_iff.1 (List.mem_filter.1 h).1
theorem Dist.same {l : List M} (h : Dist l) {a b : M} (ha : a ∈ l) (hb : b ∈ l) (hk : kM a.nd a.nu = kM b.nd b.nu) : a = b := by
  obtain ⟨i, hi, rfl⟩ := List.getElem_of_mem ha
  obtain ⟨j, hj, rfl⟩ := List.getElem_of_mem hb
  rcases Nat.lt_trichotomy i j with q | q | q
  · exact absurd hk (List.pairwise_iff_getElem.1 h i j hi hj q)
  · subst q; rfl
  · exact absurd hk.symm (List.pairwise_iff_getElem.1 h j i hj hi q)
theorem core_perm {L : List M} (hd : Dist L) {a : C} {ms : List M} (h1 : ms.Sublist (ofN L a.nd)) (h2 : a.bc = ms.map M.nu) : (aloC a L).Perm ms := by
  have hs : Dist ms := (hd.perm (srtM_perm L).symm).sub (h1.trans List.filter_sublist)
  refine perm_of_mem (hd.sub List.filter_sublist).nodup hs.nodup fun m => ?_
  unfold aloC inC
  rw [List.mem_filter, Bool.and_eq_true, List.contains_iff_mem, h2, eqS_iff']
  constructor
  · rintro ⟨hm, he, hn⟩
    obtain ⟨x, hx, hxn⟩ := List.mem_map.1 hn
    have hx' := h1.subset hx
    have hnd := ofN_all x hx'
    have : x = m := hd.same (ofN_sub hx') hm (by rw [hnd, he, hxn])
    rw [← this]; exact hx
  · intro hm
    have hm' := h1.subset hm
    exact ⟨ofN_sub hm', ofN_all m hm', List.mem_map.2 ⟨m, hm, rfl⟩⟩
theorem core_len {N : Ba.SlNode} {L : List M} {most k : Int} (hd : Dist L) {a : C} (ha : a ∈ allC N L most k) : (aloC a L).length = a.bc.length ∧ a.bc ≠ [] := by
  obtain ⟨ms, h0, h1, h2, -⟩ := allC_core ha
  rw [(core_perm hd h1 h2).length_eq, h2, List.length_map]
  exact ⟨rfl, by simpa using h0⟩
theorem core_alone {N : Ba.SlNode} {L : List M} {most k : Int} (hd : Dist L) {a : C} (ha : a ∈ allC N L most k) : a ∈ allC N (aloC a L) most k := by
  obtain ⟨ms, h0, h1, h2, h3⟩ := allC_core ha
  have hp := core_perm hd h1 h2
  have hda : Dist (aloC a L) := hd.sub List.filter_sublist
  have hsort : ms = srtM (aloC a L) := srtM_of hda hp (List.Pairwise.sublist (h1.trans List.filter_sublist) (srtM_ok L))
  have hof : ofN (aloC a L) a.nd = ms := by
    unfold ofN
    rw [← hsort, List.filter_eq_self]
    intro m hm
    exact (eqS_iff' _ _).2 (ofN_all m (h1.subset hm))
  have hnd : a.nd ∈ nds (aloC a L) := by
    obtain ⟨m, r, rfl⟩ : ∃ m r, ms = m :: r := by cases ms with
      | nil => exact absurd rfl h0
      | cons m r => exact ⟨m, r, rfl⟩
    exact mem_nds.2 ⟨m, hp.mem_iff.2 (by simp), ofN_all m (h1.subset (by simp))⟩
  unfold allC
  rw [(srt_perm _).mem_iff, List.mem_append, List.mem_append]
  rcases h3 with ⟨m, e, h⟩ | h | h
  · left
    exact List.mem_flatMap.2 ⟨m, hp.mem_iff.2 (by rw [e]; simp), h⟩
  · right; left
    exact List.mem_flatMap.2 ⟨a.nd, hnd, by rw [hof]; exact h⟩
  · right; right
    exact List.mem_flatMap.2 ⟨a.nd, hnd, by rw [hof]; exact h⟩
theorem core_less {N : Ba.SlNode} {L X : List M} {most k : Int} (hd : Dist L) {a : C} (ha : a ∈ allC N L most k) (hX : X.length < (aloC a L).length) : a ∉ allC N X most k := by
  intro h
  obtain ⟨ms, -, h1, h2, -⟩ := allC_core h
  have e1 := h1.length_le
  have e2 : (ofN X a.nd).length ≤ X.length := by
    rw [← (srtM_perm X).length_eq]; exact List.filter_sublist.length_le
  have e3 := (core_len hd ha).1
  rw [h2, List.length_map] at e3
  omega
end Al
end Go.Proofs.YtllkiadedaghoaaGreat
