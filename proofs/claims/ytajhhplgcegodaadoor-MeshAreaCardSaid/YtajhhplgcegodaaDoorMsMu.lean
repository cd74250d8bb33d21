/-
  Surfaces: plain, for MeshMutual: rings have three sides at least, and have each border side once; sides that are no border sides come in pairs. No condition.
-/
import Derived.Test.YtajhhplgcegodaaDoorMsTb
set_option linter.unusedVariables false
set_option linter.unusedSimpArgs false
namespace Go.Proofs.YtajhhplgcegodaaDoor
namespace Ms
theorem op_sides {m : Mesh} {y u : Nat} (h : op m y = some u) : u < 3 * m.F.n ∧ st m u = en m y ∧ en m u = st m y := sdO_some h
theorem op_back {m : Mesh} (hv : vlB m = true) {y u : Nat} (hy : y < 3 * m.F.n) (h : op m y = some u) : op m u = some y := (hed hv).inv y u hy h
theorem st_ne_en {m : Mesh} (hv : vlB m = true) {t : Nat} (ht : t < 3 * m.F.n) : st m t ≠ en m t := by
  intro e
  unfold st en at e
  rw [← cor_mod _ (t % 3 + 1)] at e
  have := cor_ne (vl_fc hv (i := t / 3) (by omega)) (k := t % 3) (l := (t % 3 + 1) % 3) (by omega) (by omega) e
  omega
/-- A side and its opposite lie in two faces. -/
theorem op_face {m : Mesh} (hv : vlB m = true) {y u : Nat} (hy : y < 3 * m.F.n) (h : op m y = some u) : u / 3 ≠ y / 3 := by
  intro e
  obtain ⟨hu, h1, h2⟩ := op_sides h
  unfold st en at h1 h2
  rw [e] at h1 h2
  rw [← cor_mod _ (y % 3 + 1)] at h1
  rw [← cor_mod _ (u % 3 + 1)] at h2
  have hf := vl_fc hv (i := y / 3) (by omega)
  have a := cor_ne hf (k := u % 3) (l := (y % 3 + 1) % 3) (by omega) (by omega) h1
  have b := cor_ne hf (k := (u % 3 + 1) % 3) (l := y % 3) (by omega) (by omega) h2
  omega
theorem st_last {m : Mesh} : ∀ (n y : Nat), st m (last (rt (op m) nx) n y) = st m y
  | 0, _ => rfl
  | n + 1, y => by
    rw [last]
    cases e : rt (op m) nx y with
    | none => rfl
    | some z =>
      show st m (last (rt (op m) nx) n z) = st m y
      rw [st_last n z]
      obtain ⟨u, hu, rfl⟩ := Hed.some e
      rw [nx_st]
      exact (op_sides hu).2.2
/-- The next border side starts where a border side ends. -/
theorem st_ph (m : Mesh) (t : Nat) : st m (ph m t) = en m t := by
  show st m (last (rt (op m) nx) (3 * m.F.n) (nx t)) = en m t
  rw [st_last, nx_st]
theorem rings {m : Mesh} (hv : vlB m = true) : Rings (ph m) (fun t => (op m t).isNone) (3 * m.F.n) (3 * m.F.n) (bS m (3 * m.F.n)).1 (bS m (3 * m.F.n)).2 := brS_rings (hed hv).per (3 * m.F.n) (Nat.le_refl _)
theorem ring3 {m : Mesh} (hv : vlB m = true) {l : List Nat} (hl : l ∈ (bS m (3 * m.F.n)).2) : 3 ≤ l.length := by
  have R := (rings hv).ring l hl
  have hp := R.pos
  by_cases h : 3 ≤ l.length
  · exact h
  exfalso
  rcases (by omega : l.length = 1 ∨ l.length = 2) with e | e
  · obtain ⟨x, hx, hN, hP, hn⟩ := R.all 0 (by omega)
    rw [e] at hn
    rw [show (0 + 1) % 1 = 0 from rfl, hx] at hn
    have e2 : x = ph m x := by simpa using hn
    have := st_ph m x
    rw [← e2] at this
    exact st_ne_en hv hN this
  · obtain ⟨x, hx, hN, hP, hn⟩ := R.all 0 (by omega)
    obtain ⟨y, hy, hM, hQ, hk⟩ := R.all 1 (by omega)
    rw [e] at hn hk
    rw [show (0 + 1) % 2 = 1 from rfl, hy] at hn
    rw [show (1 + 1) % 2 = 0 from rfl, hx] at hk
    have e1 : y = ph m x := by simpa using hn
    have e2 : x = ph m y := by simpa using hk
    have a := st_ph m x; have b := st_ph m y
    rw [← e1] at a; rw [← e2] at b
    have : op m x = some y := by rw [op_eq]; exact sdO_uni hv hM a b.symm
    have hP : (op m x).isNone = true := hP
    rw [this] at hP; cases hP
/-- A list without repetitions of numbers below N is as long as the numbers that are in it. -/
theorem nodup_len : ∀ (N : Nat) (L : List Nat) (p : Nat → Bool), L.Nodup → (∀ x, x ∈ L ↔ x < N ∧ p x = true) → L.length = (idx p N).length
  | 0, L, p, _, h => by
    cases L with
    | nil => rfl
    | cons a l => have := ((h a).1 (by simp)).1; omega
  | N + 1, L, p, hn, h => by
    cases e : p N with
    | false =>
      rw [idx_no e]
      refine nodup_len N L p hn fun x => ?_
      rw [h x]
      constructor
      · rintro ⟨a, b⟩
        refine ⟨?_, b⟩
        by_cases q : x = N
        · subst q; rw [e] at b; cases b
        · omega
      · rintro ⟨a, b⟩; exact ⟨by omega, b⟩
    | true =>
      rw [idx_yes e, List.length_append]
      have hm : N ∈ L := (h N).2 ⟨by omega, e⟩
      have hl := List.length_erase_of_mem hm
      have hpos := List.length_pos_of_mem hm
      have := nodup_len N (L.erase N) p (hn.erase N) fun x => by
        rw [hn.mem_erase_iff, h x]
        constructor
        · rintro ⟨a, b, c⟩; exact ⟨by omega, c⟩
        · rintro ⟨a, b⟩; exact ⟨by omega, by omega, b⟩
      show L.length = (idx p N).length + 1
      omega
/-- How many border sides there are. -/
def bdN (m : Mesh) : Nat := (idx (fun t => (op m t).isNone) (3 * m.F.n)).length
theorem rings_len {m : Mesh} (hv : vlB m = true) : (bS m (3 * m.F.n)).2.flatten.length = bdN m := by
  have R := rings hv
  refine nodup_len _ _ _ R.nodup fun x => ?_
  constructor
  · intro hx
    obtain ⟨l, hl, hxl⟩ := List.mem_flatten.1 hx
    obtain ⟨i, hi, e⟩ := List.getElem_of_mem hxl
    obtain ⟨y, hy, hN, hP, -⟩ := (R.ring l hl).all i hi
    rw [List.getElem?_eq_getElem hi, e] at hy
    obtain rfl : x = y := by simpa using hy
    exact ⟨hN, hP⟩
  · rintro ⟨hN, hP⟩
    exact (R.done x).1 (R.have_ x hN hN hP)
theorem idx_nodup (p : Nat → Bool) : ∀ n, (idx p n).Nodup
  | 0 => List.nodup_nil
  | n + 1 => by
    rw [idx]
    split
    · rw [List.nodup_append]
      refine ⟨idx_nodup p n, by simp, fun a ha b hb => ?_⟩
      have := (idx_mem.1 ha).1
      simp at hb
      omega
    · exact idx_nodup p n
theorem idx_split (p q : Nat → Bool) : ∀ n, (idx p n).length = (idx (fun x => p x && q x) n).length + (idx (fun x => p x && !q x) n).length
  | 0 => rfl
  | n + 1 => by
    have ih := idx_split p q n
    rw [idx, idx, idx]
    cases p n <;> cases q n <;> simp <;> omega
/-- Sides with an opposite side come in pairs. -/
theorem pairs {m : Mesh} (hv : vlB m = true) : ∃ k, (idx (fun t => (op m t).isSome) (3 * m.F.n)).length = 2 * k := by
  obtain ⟨N, hN⟩ : ∃ N, 3 * m.F.n = N := ⟨_, rfl⟩
  have hs := idx_split (fun t => (op m t).isSome) (fun t => decide (t < (op m t).getD 0)) N
  have hb : ((idx (fun t => (op m t).isSome && decide (t < (op m t).getD 0)) N).map fun t => (op m t).getD 0).length = (idx (fun t => (op m t).isSome && !decide (t < (op m t).getD 0)) N).length := by
    have get : ∀ t, t ∈ idx (fun t => (op m t).isSome && decide (t < (op m t).getD 0)) N → ∃ u, op m t = some u ∧ t < N ∧ t < u ∧ u < N := by
      intro t ht
      obtain ⟨h1, h2⟩ := idx_mem.1 ht
      rw [Bool.and_eq_true, decide_eq_true_eq] at h2
      obtain ⟨u, hu⟩ := Option.isSome_iff_exists.1 h2.1
      rw [hu] at h2
      exact ⟨u, hu, h1, h2.2, by rw [← hN]; exact (op_sides hu).1⟩
    refine nodup_len _ _ _ ?_ fun x => ?_
    · refine List.pairwise_map.2 (List.Pairwise.imp_of_mem (fun {a b} ha hb hne e => hne ?_) (idx_nodup _ _))
      obtain ⟨u, hu, h1, -, -⟩ := get a ha
      obtain ⟨v, hv2, h2, -, -⟩ := get b hb
      rw [hu, hv2] at e
      have e : u = v := e
      subst e
      have p := op_back hv (by omega) hu
      rw [op_back hv (by omega) hv2] at p
      simpa using p.symm
    · constructor
      · intro hx
        obtain ⟨t, ht, e⟩ := List.mem_map.1 hx
        obtain ⟨u, hu, h1, h2, h3⟩ := get t ht
        rw [hu] at e
        have e : u = x := e
        subst e
        refine ⟨h3, ?_⟩
        rw [op_back hv (by omega) hu]
        show (true && !decide (u < t)) = true
        rw [decide_eq_false (by omega)]; rfl
      · rintro ⟨h1, h2⟩
        rw [Bool.and_eq_true] at h2
        obtain ⟨t, ht⟩ := Option.isSome_iff_exists.1 h2.1
        rw [ht] at h2
        have h3 : ¬ x < t := by simpa using h2.2
        have hne : t / 3 ≠ x / 3 := op_face hv (by omega) ht
        have hb := op_back hv (by omega) ht
        have htN : t < N := by rw [← hN]; exact (op_sides ht).1
        refine List.mem_map.2 ⟨t, idx_mem.2 ⟨htN, ?_⟩, by rw [hb]; rfl⟩
        rw [hb]
        show (true && decide (t < x)) = true
        rw [decide_eq_true (by omega)]; rfl
  rw [List.length_map] at hb
  rw [hN]
  exact ⟨(idx (fun x => (op m x).isSome && !decide (x < (op m x).getD 0)) N).length, by omega⟩
theorem idx_comp (p : Nat → Bool) : ∀ n, (idx p n).length + (idx (fun x => !p x) n).length = n
  | 0 => rfl
  | n + 1 => by
    have ih := idx_comp p n
    rw [idx, idx]
    cases p n <;> simp <;> omega
/-- Three times the faces: the border sides, and twice half of the others. -/
theorem side_count {m : Mesh} (hv : vlB m = true) : 3 * m.F.n = bdN m + 2 * ((3 * m.F.n - bdN m) / 2) := by
  obtain ⟨k, hk⟩ := pairs hv
  have hc := idx_comp (fun t => (op m t).isNone) (3 * m.F.n)
  have e : (fun x => !(op m x).isNone) = fun x => (op m x).isSome := by funext x; cases op m x <;> rfl
  rw [e, hk] at hc
  unfold bdN
  omega
end Ms
end Go.Proofs.YtajhhplgcegodaaDoor
