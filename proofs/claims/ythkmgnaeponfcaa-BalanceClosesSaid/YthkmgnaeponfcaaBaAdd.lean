/-
  Residuals of sets add up: the plain law. (No program is in sight.)
-/
import Derived.Test.YthkmgnaeponfcaaBaSets
import Derived.Test.YthkmgnaeponfcaaBaResid
import Derived.Test.YthkmgnaeponfcaaBaStrs
set_option linter.unusedVariables false
set_option linter.unusedSimpArgs false
namespace Go.Proofs.Ythkmgnaeponfcaa
open Go.RowKit
namespace Ba
theorem node_first {N : SlNode} {L : SlLink} (h : netB N L = true) {i : Nat} (hi : i < N.n) : nix N (N.D i).nm = (i : Int) := by
  unfold netB at h
  simp only [Bool.and_eq_true] at h
  have h1 := allB_at h.2.2.1 hi
  unfold nodeB at h1
  simp only [Bool.and_eq_true] at h1
  exact eq_of_beq h1.2
theorem node_inj {N : SlNode} {L : SlLink} (h : netB N L = true) {i j : Nat} (hi : i < N.n) (hj : j < N.n) (e : (N.D i).nm = (N.D j).nm) : i = j := by
  have a := node_first h hi; have b := node_first h hj
  rw [e, b] at a; omega
section
variable {N : SlNode} {L : SlLink} {s1 s2 : State} {I P : SlI}
theorem ndL_congr {m m' : Nat → Bool} {i : Nat} (h : m i = m' i) : ndL N m I i = ndL N m' I i := by unfold ndL; rw [h]
theorem resI_congr (hv : netB N L = true) {m m' : Nat → Bool} (h : ∀ j, j < N.n → m j = m' j) : resI N L m s1 s2 I P = resI N L m' s1 s2 I P := by
  unfold resI lostI
  have a : sumI (ndL N m I) N.n = sumI (ndL N m' I) N.n := sumI_congr fun i hi => by unfold ndL; rw [h i hi]
  have b : sumI (lkL N L m P) L.n = sumI (lkL N L m' P) L.n := sumI_congr fun k hk => by unfold lkL; rw [h _ (net_ends hv hk).2.2.2]
  have c : sumI (ndT m s1 s2 I) N.n = sumI (ndT m' s1 s2 I) N.n := sumI_congr fun i hi => by unfold ndT; rw [h i hi]
  have d : sumI (lkT N L m P) L.n = sumI (lkT N L m' P) L.n := sumI_congr fun k hk => by unfold lkT; rw [h _ (net_ends hv hk).2.2.2, h _ (net_ends hv hk).2.1]
  rw [a, b, c, d]
theorem resI_add (hv : netB N L = true) {m m1 m2 : Nat → Bool} (h : ∀ j, j < N.n → m j = (m1 j || m2 j) ∧ (m1 j && m2 j) = false) : resI N L m s1 s2 I P = resI N L m1 s1 s2 I P + resI N L m2 s1 s2 I P := by
  unfold resI lostI
  have a : sumI (ndL N m I) N.n = sumI (ndL N m1 I) N.n + sumI (ndL N m2 I) N.n := by
    rw [← sumI_add]
    refine sumI_congr fun i hi => ?_
    obtain ⟨h1, h2⟩ := h i hi
    unfold ndL; rw [h1]
    revert h2
    cases m1 i <;> cases m2 i <;> simp
  have b : sumI (lkL N L m P) L.n = sumI (lkL N L m1 P) L.n + sumI (lkL N L m2 P) L.n := by
    rw [← sumI_add]
    refine sumI_congr fun k hk => ?_
    obtain ⟨h1, h2⟩ := h _ (net_ends hv hk).2.2.2
    unfold lkL; rw [h1]
    revert h2
    cases m1 (tx N L k) <;> cases m2 (tx N L k) <;> simp
  have c : sumI (ndT m s1 s2 I) N.n = sumI (ndT m1 s1 s2 I) N.n + sumI (ndT m2 s1 s2 I) N.n := by
    rw [← sumI_add]
    refine sumI_congr fun i hi => ?_
    obtain ⟨h1, h2⟩ := h i hi
    unfold ndT; rw [h1]
    revert h2
    cases m1 i <;> cases m2 i <;> simp
  have d : sumI (lkT N L m P) L.n = sumI (lkT N L m1 P) L.n + sumI (lkT N L m2 P) L.n := by
    rw [← sumI_add]
    refine sumI_congr fun k hk => ?_
    obtain ⟨h1, h2⟩ := h _ (net_ends hv hk).2.2.2
    obtain ⟨h3, h4⟩ := h _ (net_ends hv hk).2.1
    unfold lkT; rw [h1, h3]
    revert h2 h4
    cases m1 (tx N L k) <;> cases m2 (tx N L k) <;> cases m1 (fx N L k) <;> cases m2 (fx N L k) <;> simp <;> omega
  omega
theorem resI_none : resI N L (fun _ => false) s1 s2 I P = 0 := by
  unfold resI lostI
  rw [sumI_zero fun i _ => by simp [ndL], sumI_zero fun i _ => by simp [lkL], sumI_zero fun i _ => by simp [ndT], sumI_zero fun i _ => by simp [lkT]]
  rfl
theorem sumI_one {X : Nat → Int} {i : Nat} : ∀ {n : Nat}, (∀ j, j ≠ i → X j = 0) → sumI X n = if i < n then X i else 0
  | 0, _ => by simp [sumI]
  | n + 1, h => by
    rw [sumI, sumI_one h]
    by_cases e : n = i
    · subst e; rw [if_neg (by omega), if_pos (by omega)]; omega
    · rw [h n e]
      by_cases q : i < n
      · rw [if_pos q, if_pos (by omega)]; omega
      · rw [if_neg q, if_neg (by omega)]; omega
/-- What a node that is no outfall keeps too much is the residual of its set. -/
theorem res_node (F : Fine N L s1 s2 I P) {i : Nat} (hi : i < N.n) (hk : ((N.D i).kd == 3) = false) : resE N L (N.D i).nm (s1.vs.X i + s1.ps.X i) (s2.vs.X i + s2.ps.X i) (I.X i) P = 0 ∧ resV N L (N.D i).nm (s1.vs.X i + s1.ps.X i) (s2.vs.X i + s2.ps.X i) (I.X i) P = resI N L (fun j => decide (j = i)) s1 s2 I P := by
  have hv := F.net
  have hn := node_first hv hi
  have e : resE N L (N.D i).nm (s1.vs.X i + s1.ps.X i) (s2.vs.X i + s2.ps.X i) (I.X i) P = 0 := by
    unfold resE
    rw [if_neg (by rw [hv]; decide), hn, if_neg (by omega), Int.toNat_natCast, if_neg (by rw [hk]; decide), if_neg (fun h => h F.p)]
    have b1 := F.bv1 i hi; have b2 := F.bp1 i hi; have b3 := F.bv2 i hi; have b4 := F.bp2 i hi; have b5 := F.bi i hi
    have w1 : wiB P 9007199254740992 = true := by
      unfold wiB; rw [allB_iff]
      intro k hk'
      rw [bet_iff]; exact F.bp k (by have := F.p; omega)
    have w2 : resOk (s1.vs.X i + s1.ps.X i) (s2.vs.X i + s2.ps.X i) (I.X i) = true := by
      unfold resOk
      simp only [Bool.and_eq_true, bet_iff]
      omega
    rw [w1, w2]; rfl
  refine ⟨e, ?_⟩
  unfold resV
  rw [if_pos e]
  unfold resI lostI
  have a : sumI (ndL N (fun j => decide (j = i)) I) N.n = 0 := sumI_zero fun j hj => by
    unfold ndL isO
    by_cases q : j = i
    · subst q; rw [hk]; simp
    · simp [q]
  have b : sumI (lkL N L (fun j => decide (j = i)) P) L.n = 0 := sumI_zero fun k hk' => by
    unfold lkL isO
    by_cases q : tx N L k = i
    · rw [q, hk]; simp
    · simp [q]
  have c : sumI (ndT (fun j => decide (j = i)) s1 s2 I) N.n = hol s1 s2 I i := by
    rw [sumI_one (i := i) fun j hj => by unfold ndT; simp [hj], if_pos hi]
    unfold ndT; simp
  have d : sumI (lkT N L (fun j => decide (j = i)) P) L.n = sumI (rT L (N.D i).nm P) L.n := by
    refine sumI_congr fun k hk' => ?_
    obtain ⟨e1, e2, e3, e4⟩ := net_ends hv hk'
    have t1 : eqS (L.D k).tt (N.D i).nm = decide (tx N L k = i) := by
      rw [Bool.eq_iff_iff, decide_eq_true_eq]
      constructor
      · intro h
        rw [eqS_true.1 h] at e3
        omega
      · intro h
        rw [eqS_true]
        rcases nix_cases N (L.D k).tt with q | ⟨j, hj, q1, q2, -⟩
        · omega
        · obtain rfl : j = i := by omega
          exact (eqS_true.1 q2).symm
    have t2 : eqS (L.D k).fr (N.D i).nm = decide (fx N L k = i) := by
      rw [Bool.eq_iff_iff, decide_eq_true_eq]
      constructor
      · intro h
        rw [eqS_true.1 h] at e1
        omega
      · intro h
        rw [eqS_true]
        rcases nix_cases N (L.D k).fr with q | ⟨j, hj, q1, q2, -⟩
        · omega
        · obtain rfl : j = i := by omega
          exact (eqS_true.1 q2).symm
    unfold lkT rT
    rw [t1, t2]
    by_cases q1 : tx N L k = i <;> by_cases q2 : fx N L k = i <;> simp [q1, q2] <;> omega
  rw [a, b, c, d]
  unfold hol
  omega
end
/-- Slices of nodes' names. -/
structure Named (N : SlNode) (l : List Nat) (T : SlS) : Prop where
  nd : l.Nodup
  lt : ∀ i, i ∈ l → i < N.n
  n : T.n = l.length
  x : ∀ k, k < T.n → (l.map fun i => (N.D i).nm)[k]? = some (T.X k)
theorem Named.ix {N : SlNode} {L : SlLink} {l : List Nat} {T : SlS} (hv : netB N L = true) (h : Named N l T) {k : Nat} (hk : k < T.n) : ∃ hl : k < l.length, ixs N T k = (l[k] : Int) := by
  have hl : k < l.length := by rw [← h.n]; exact hk
  refine ⟨hl, ?_⟩
  have hx := h.x k hk
  rw [List.getElem?_map, List.getElem?_eq_getElem hl] at hx
  have e : (N.D l[k]).nm = T.X k := by simpa using hx
  unfold ixs
  rw [← e]
  exact node_first hv (h.lt _ (List.getElem_mem hl))
theorem Named.set {N : SlNode} {L : SlLink} {l : List Nat} {T : SlS} (hv : netB N L = true) (h : Named N l T) : setE N T = 0 ∧ ∀ j, setX (ixs N T) T.n j = decide (j ∈ l) := by
  have hk : knoB N T = true := by
    unfold knoB
    rw [allB_iff]
    intro k hk
    obtain ⟨hl, e⟩ := h.ix hv hk
    rw [e]; exact decide_eq_true (by omega)
  have hw : ∀ k, k ≤ T.n → twB (ixs N T) k = false := by
    intro k
    induction k with
    | zero => intro _; rfl
    | succ k ih =>
      intro hk'
      rw [twB, ih (by omega), Bool.false_or]
      cases e : setX (ixs N T) k (ixs N T k).toNat
      · rfl
      · obtain ⟨j, hj, e2⟩ := (setX_iff _ _ _).1 e
        obtain ⟨h1, e3⟩ := h.ix hv (k := k) (by omega)
        obtain ⟨h2, e4⟩ := h.ix hv (k := j) (by omega)
        rw [e3, e4] at e2
        have := List.pairwise_iff_getElem.1 h.nd j k h2 h1 hj
        exact absurd (Int.ofNat_inj.1 (by simpa using e2)) this
  constructor
  · unfold setE
    rw [hk, if_neg (by decide), hw _ (Nat.le_refl _), if_neg (by decide)]
  · intro j
    rw [Bool.eq_iff_iff, setX_iff, decide_eq_true_eq, List.mem_iff_getElem]
    constructor
    · rintro ⟨k, hk', e⟩
      obtain ⟨hl, e2⟩ := h.ix hv hk'
      exact ⟨k, hl, by omega⟩
    · rintro ⟨k, hl, e⟩
      obtain ⟨_, e2⟩ := h.ix hv (k := k) (by rw [h.n]; exact hl)
      exact ⟨k, by rw [h.n]; exact hl, by rw [e2, e]⟩
/-- The residual of nodes by their numbers. -/
def resL (N : SlNode) (L : SlLink) (s1 s2 : State) (I P : SlI) (l : List Nat) : Int := resI N L (fun j => decide (j ∈ l)) s1 s2 I P
theorem part_named {N : SlNode} {L : SlLink} {s1 s2 : State} {I : SlI} {g : Ledger} {l : List Nat} {T : SlS} (he : givE N L s1 s2 I g = 0) (hv : netB N L = true) (h : Named N l T) : partR N L s1 s2 I g T = resL N L s1 s2 I g.ps l ∧ partE N L s1 s2 I g T = 0 := by
  obtain ⟨a, b⟩ := h.set hv
  unfold partR partE
  rw [if_pos he, if_pos he, if_pos a]
  refine ⟨?_, a⟩
  unfold resL
  exact resI_congr hv fun j _ => b j
theorem resL_snoc {N : SlNode} {L : SlLink} {s1 s2 : State} {I P : SlI} (hv : netB N L = true) {l : List Nat} {i : Nat} (h : i ∉ l) : resL N L s1 s2 I P (l ++ [i]) = resL N L s1 s2 I P l + resL N L s1 s2 I P [i] := by
  unfold resL
  refine resI_add hv fun j _ => ⟨by simp, ?_⟩
  by_cases q : j = i
  · subst q; simp [h]
  · simp [q]
theorem resL_append {N : SlNode} {L : SlLink} {s1 s2 : State} {I P : SlI} (hv : netB N L = true) {l k : List Nat} (h : ∀ i, i ∈ l → i ∉ k) : resL N L s1 s2 I P (l ++ k) = resL N L s1 s2 I P l + resL N L s1 s2 I P k := by
  unfold resL
  refine resI_add hv fun j _ => ⟨by simp, ?_⟩
  by_cases q : j ∈ l
  · simp [q, h j q]
  · simp [q]
/-- The numbers of the first nodes that are chosen. -/
def idx (p : Nat → Bool) (n : Nat) : List Nat := (List.range n).filter p
theorem idx_succ (p : Nat → Bool) (n : Nat) : idx p (n + 1) = if p n = true then idx p n ++ [n] else idx p n := by
  unfold idx
  rw [List.range_succ, List.filter_append]
  cases h : p n <;> simp [h]
theorem idx_mem {p : Nat → Bool} {n i : Nat} : i ∈ idx p n ↔ i < n ∧ p i = true := by simp [idx]
theorem idx_nd (p : Nat → Bool) (n : Nat) : (idx p n).Nodup := List.Pairwise.filter _ List.nodup_range
theorem idx_len (p : Nat → Bool) (n : Nat) : (idx p n).length ≤ n := by
  have := List.length_filter_le p (List.range n)
  simpa [idx] using this
end Ba
end Go.Proofs.Ythkmgnaeponfcaa
