/-
  BalanceCloses: states that are made by passing volumes along the links. (No program is in sight.)
-/
import Derived.Test.YthkmgnaeponfcaaBaAdd
set_option linter.unusedVariables false
set_option linter.unusedSimpArgs false
namespace Go.Proofs.Ythkmgnaeponfcaa
open Go.RowKit
namespace Ba
/-- A place of a row of numbers is written. -/
def upI (h : Nat → Int) (a : Nat) (x : Int) : Nat → Int := fun j => if j = a then x else h j
/-- The lesser one. -/
def mn (a b : Int) : Int := if b < a then b else a
/-- What passes along a link, if the nodes hold h and q may pass; what they hold then. -/
def ps1 (N : SlNode) (L : SlLink) (Q : Nat → Int) (h : Nat → Int) (k : Nat) : Int := mn (h (fx N L k)) (Q k)
def st1 (N : SlNode) (L : SlLink) (Q : Nat → Int) (h : Nat → Int) (k : Nat) : Nat → Int := upI h (fx N L k) (h (fx N L k) - ps1 N L Q h k)
def st2 (N : SlNode) (L : SlLink) (Q : Nat → Int) (h : Nat → Int) (k : Nat) : Nat → Int := upI (st1 N L Q h k) (tx N L k) (st1 N L Q h k (tx N L k) + ps1 N L Q h k)
/-- What the nodes hold when volumes have passed along the first k links; what passed along a link. -/
def heldK (N : SlNode) (L : SlLink) (H Q : Nat → Int) : Nat → Nat → Int
  | 0 => H
  | k + 1 => st2 N L Q (heldK N L H Q k) k
def passK (N : SlNode) (L : SlLink) (H Q : Nat → Int) (k : Nat) : Int := ps1 N L Q (heldK N L H Q k) k
theorem heldK_succ (N : SlNode) (L : SlLink) (H Q : Nat → Int) (k j : Nat) : heldK N L H Q (k + 1) j = heldK N L H Q k j - (if j = fx N L k then passK N L H Q k else 0) + (if j = tx N L k then passK N L H Q k else 0) := by
  show st2 N L Q (heldK N L H Q k) k j = _
  unfold passK st2 st1 upI
  generalize ps1 N L Q (heldK N L H Q k) k = p
  by_cases a : j = tx N L k
  · subst a
    rw [if_pos rfl, if_pos rfl]
    by_cases b : tx N L k = fx N L k
    · rw [if_pos b, if_pos b, ← b]
    · rw [if_neg b, if_neg b]; omega
  · rw [if_neg a, if_neg a]
    by_cases b : j = fx N L k
    · rw [if_pos b, if_pos b, ← b]; omega
    · rw [if_neg b, if_neg b]; omega
theorem held_nn {N : SlNode} {L : SlLink} {H Q : Nat → Int} (hv : netB N L = true) (hH : ∀ i, i < N.n → 0 ≤ H i) (hQ : ∀ k, k < L.n → 0 ≤ Q k) : ∀ k, k ≤ L.n → ∀ i, i < N.n → 0 ≤ heldK N L H Q k i
  | 0, _ => hH
  | k + 1, hk => fun i hi => by
    have ih := held_nn hv hH hQ k (by omega)
    obtain ⟨-, ha, -, hb⟩ := net_ends hv (k := k) (by omega)
    have h1 := ih i hi; have h2 := ih _ ha; have h3 := hQ k (by omega)
    have hp : 0 ≤ passK N L H Q k ∧ passK N L H Q k ≤ heldK N L H Q k (fx N L k) := by unfold passK ps1 mn; split <;> omega
    rw [heldK_succ]
    generalize passK N L H Q k = p at *
    by_cases a : i = fx N L k
    · rw [if_pos a]; rw [← a] at hp; split <;> omega
    · rw [if_neg a]; split <;> omega
theorem pass_le {N : SlNode} {L : SlLink} {H Q : Nat → Int} (hv : netB N L = true) (hH : ∀ i, i < N.n → 0 ≤ H i) (hQ : ∀ k, k < L.n → 0 ≤ Q k) {k : Nat} (hk : k < L.n) : 0 ≤ passK N L H Q k ∧ passK N L H Q k ≤ Q k := by
  obtain ⟨-, ha, -, hb⟩ := net_ends hv (k := k) (by omega)
  have h1 := held_nn hv hH hQ k (by omega) _ ha
  have h2 := hQ k hk
  unfold passK ps1 mn
  split <;> omega
/-- What some nodes hold together. -/
def sumC (c : Nat → Bool) (X : Nat → Int) (n : Nat) : Int := sumI (fun i => if c i = true then X i else 0) n
theorem sumC_succ {N : SlNode} {L : SlLink} {H Q : Nat → Int} (hv : netB N L = true) (c : Nat → Bool) {k : Nat} (hk : k < L.n) : sumC c (heldK N L H Q (k + 1)) N.n = sumC c (heldK N L H Q k) N.n - (if c (fx N L k) = true then passK N L H Q k else 0) + (if c (tx N L k) = true then passK N L H Q k else 0) := by
  obtain ⟨-, ha, -, hb⟩ := net_ends hv (k := k) (by omega)
  have one : ∀ a, a < N.n → sumI (fun i => if c i = true then (if i = a then passK N L H Q k else 0) else 0) N.n = if c a = true then passK N L H Q k else 0 := fun a ha => by
    rw [sumI_one (i := a) (fun j hj => by simp only [hj, if_false]; split <;> rfl), if_pos ha]
    simp
  unfold sumC
  rw [← one _ ha, ← one _ hb, ← sumI_sub, ← sumI_add]
  refine sumI_congr fun i _ => ?_
  rw [heldK_succ]
  cases c i <;> simp
theorem sumC_all {N : SlNode} {L : SlLink} {H Q : Nat → Int} (hv : netB N L = true) (c : Nat → Bool) : ∀ k, k ≤ L.n → sumC c (heldK N L H Q k) N.n = sumC c H N.n + sumI (fun j => (if c (tx N L j) = true then passK N L H Q j else 0) - (if c (fx N L j) = true then passK N L H Q j else 0)) k
  | 0, _ => by show _ = _ + 0; rw [heldK]; omega
  | k + 1, hk => by
    rw [sumC_succ hv c (by omega), sumC_all hv c k (by omega), sumI]
    omega
theorem sumC_true (X : Nat → Int) (n : Nat) : sumC (fun _ => true) X n = sumI X n := by
  unfold sumC; exact sumI_congr fun i _ => by simp
/-- What is held altogether does not turn. -/
theorem held_sum {N : SlNode} {L : SlLink} {H Q : Nat → Int} (hv : netB N L = true) (k : Nat) (hk : k ≤ L.n) : sumI (heldK N L H Q k) N.n = sumI H N.n := by
  have h := sumC_all (H := H) (Q := Q) hv (fun _ => true) k hk
  rw [sumC_true, sumC_true] at h
  simp only [reduceIte, Int.sub_self] at h
  rw [sumI_zero (X := fun _ => (0 : Int)) fun _ _ => rfl] at h
  omega
theorem sumI_ge {X : Nat → Int} {n : Nat} (hx : ∀ i, i < n → 0 ≤ X i) : ∀ k, k ≤ n → 0 ≤ sumI X k
  | 0, _ => by show (0 : Int) ≤ 0; omega
  | k + 1, hk => by
    rw [sumI]
    have := sumI_ge hx k (by omega); have := hx k (by omega)
    omega
theorem one_le {X : Nat → Int} : ∀ {n : Nat}, (∀ i, i < n → 0 ≤ X i) → ∀ {i}, i < n → X i ≤ sumI X n
  | 0, _, _, h => by omega
  | n + 1, hx, i, hi => by
    rw [sumI]
    have h1 := hx n (by omega)
    by_cases e : i = n
    · subst e
      have := sumI_ge hx i (by omega)
      omega
    · have := one_le (n := n) (fun j hj => hx j (by omega)) (i := i) (by omega)
      omega
/-- The volumes that lie ahead; what each node keeps; what the outfalls have got. -/
def volH (s1 : State) (I : SlI) (i : Nat) : Int := s1.vs.X i + s1.ps.X i + I.X i
def keptI (N : SlNode) (L : SlLink) (H Q : Nat → Int) (i : Nat) : Int := if isO N i = true then 0 else heldK N L H Q L.n i
def volV (N : SlNode) (L : SlLink) (H Q : Nat → Int) (i : Nat) : Int := mn (keptI N L H Q i) (capy (N.D i))
def volP (N : SlNode) (L : SlLink) (H Q : Nat → Int) (i : Nat) : Int := keptI N L H Q i - volV N L H Q i
def gone (N : SlNode) (L : SlLink) (H Q : Nat → Int) (i : Nat) : Int := sumC (isO N) (heldK N L H Q L.n) i
/-- The state and the ledger that the law makes. -/
structure Mk (N : SlNode) (L : SlLink) (s1 : State) (I : SlI) (Q : Nat → Int) (s2 : State) (g : Ledger) : Prop where
  vn : s2.vs.n = N.n
  pn : s2.ps.n = N.n
  sn : s2.st.n = L.n
  on : s2.on.n = L.n
  sx : ∀ k, k < L.n → s2.st.X k = s1.st.X k
  ox : ∀ k, k < L.n → s2.on.X k = s1.on.X k
  vx : ∀ i, i < N.n → s2.vs.X i = volV N L (volH s1 I) Q i
  px : ∀ i, i < N.n → s2.ps.X i = volP N L (volH s1 I) Q i
  pb : ∀ i, i < N.n → volP N L (volH s1 I) Q i ≤ 1125899906842624
  gi : g.inn = sumI I.X N.n
  go : g.out = gone N L (volH s1 I) Q N.n
  gn : g.ps.n = L.n
  gx : ∀ k, k < L.n → g.ps.X k = passK N L (volH s1 I) Q k
theorem vs_of {N : SlNode} {L : SlLink} {s : State} (h : netB N L = true) (h1 : s.vs.n = N.n) (h2 : s.ps.n = N.n) (h3 : s.st.n = L.n) (h4 : s.on.n = L.n) (h5 : ∀ i, i < N.n → 0 ≤ s.vs.X i ∧ s.vs.X i ≤ capy (N.D i)) (h6 : ∀ i, i < N.n → 0 ≤ s.ps.X i ∧ s.ps.X i ≤ 1125899906842624 ∧ ((N.D i).kd = 3 → s.ps.X i = 0)) (h7 : ∀ k, k < L.n → 0 ≤ s.st.X k ∧ s.st.X k ≤ 1000 ∧ (s.on.X k = true → (L.D k).kd = 4)) : vs N L s = true := by
  unfold vs stateB sizB
  rw [h, h1, h2, h3, h4]
  simp only [decide_true, Bool.true_and, Bool.and_eq_true, allB_iff]
  refine ⟨fun i hi => ?_, fun k hk => ?_⟩
  · obtain ⟨a, b, c⟩ := h6 i hi
    unfold stN
    simp only [Bool.and_eq_true, bet_iff]
    refine ⟨h5 i hi, ⟨a, b⟩, ?_⟩
    by_cases e : (N.D i).kd = 3
    · rw [c e]; simp
    · simp [e]
  · obtain ⟨a, b, c⟩ := h7 k hk
    unfold stL
    simp only [Bool.and_eq_true, bet_iff]
    refine ⟨⟨a, b⟩, ?_⟩
    cases e : s.on.X k
    · simp
    · simp [c e]
/-- What is known of the step that is given. -/
structure Giv (N : SlNode) (L : SlLink) (s1 : State) (I : SlI) (Q : Nat → Int) : Prop where
  v : vs N L s1 = true
  nn : N.n ≤ 12
  ll : L.n ≤ 20
  i : I.n = N.n
  w : wiB I 1125899906842624 = true
  q : ∀ k, k < L.n → 0 ≤ Q k ∧ Q k ≤ 9007199254740992
section
variable {N : SlNode} {L : SlLink} {s1 s2 : State} {I : SlI} {Q : Nat → Int} {g : Ledger} (G : Giv N L s1 I Q)
include G
theorem Giv.net : netB N L = true := (vs_parts G.v).1
theorem Giv.bi {i : Nat} (hi : i < N.n) : 0 ≤ I.X i ∧ I.X i ≤ 1125899906842624 := by
  have h := G.w
  unfold wiB at h
  have := allB_at h (k := i) (by have := G.i; omega)
  rw [bet_iff] at this
  exact this
theorem Giv.bh {i : Nat} (hi : i < N.n) : 0 ≤ volH s1 I i ∧ volH s1 I i ≤ 3377699720527872 := by
  obtain ⟨-, -, -, -, -, a, b, -⟩ := vs_parts G.v
  have := a i hi; have := b i hi; have := G.bi hi
  unfold volH; omega
theorem Giv.sum : 0 ≤ sumI (volH s1 I) N.n ∧ sumI (volH s1 I) N.n ≤ 40532396646334464 := by
  have := sumI_le (X := volH s1 I) (n := N.n) (lo := 0) (hi := 3377699720527872) fun i hi => G.bh hi
  have := G.nn
  omega
theorem Giv.held {k : Nat} (hk : k ≤ L.n) {i : Nat} (hi : i < N.n) : 0 ≤ heldK N L (volH s1 I) Q k i ∧ heldK N L (volH s1 I) Q k i ≤ 40532396646334464 := by
  have h := held_nn G.net (fun i hi => (G.bh hi).1) (fun k hk => (G.q k hk).1) k hk
  have h2 := one_le h hi
  rw [held_sum G.net k hk] at h2
  have := G.sum; have := h i hi
  omega
theorem Giv.pass {k : Nat} (hk : k < L.n) : 0 ≤ passK N L (volH s1 I) Q k ∧ passK N L (volH s1 I) Q k ≤ 9007199254740992 := by
  have := pass_le G.net (fun i hi => (G.bh hi).1) (fun k hk => (G.q k hk).1) hk
  have := (G.q k hk).2
  omega
theorem Giv.ins {i : Nat} (hi : i ≤ N.n) : 0 ≤ sumI I.X i ∧ sumI I.X i ≤ 13510798882111488 := by
  have := sumI_le (X := I.X) (n := i) (lo := 0) (hi := 1125899906842624) fun j hj => G.bi (by omega)
  have := G.nn
  omega
theorem Giv.outs {i : Nat} (hi : i ≤ N.n) : 0 ≤ gone N L (volH s1 I) Q i ∧ gone N L (volH s1 I) Q i ≤ 486388759756013568 := by
  have := sumI_le (X := fun j => if isO N j = true then heldK N L (volH s1 I) Q L.n j else 0) (n := i) (lo := 0) (hi := 40532396646334464) fun j hj => by
    have := G.held (Nat.le_refl _) (i := j) (by omega)
    split <;> omega
  have := G.nn
  unfold gone sumC
  omega
theorem Giv.cap {i : Nat} (hi : i < N.n) : 0 ≤ capy (N.D i) ∧ capy (N.D i) ≤ 1125899906842624 ∧ ((N.D i).kd = 3 → capy (N.D i) = 0) := by
  obtain ⟨hn, -, -, -, -, a, -, -⟩ := vs_parts G.v
  have := a i hi
  unfold netB at hn
  simp only [Bool.and_eq_true] at hn
  have b := allB_at hn.2.2.1 hi
  unfold nodeB at b
  rw [Bool.and_eq_true] at b
  have := rnode_cap b.1 (by omega)
  exact ⟨by omega, by omega, fun h => by unfold capy; rw [if_pos h]⟩
theorem Giv.kept {i : Nat} (hi : i < N.n) : 0 ≤ keptI N L (volH s1 I) Q i ∧ keptI N L (volH s1 I) Q i ≤ 40532396646334464 := by
  have := G.held (Nat.le_refl _) hi
  unfold keptI
  split <;> omega
theorem Giv.two {i : Nat} (hi : i < N.n) : (0 ≤ volV N L (volH s1 I) Q i ∧ volV N L (volH s1 I) Q i ≤ capy (N.D i) ∧ volV N L (volH s1 I) Q i ≤ 1125899906842624) ∧ 0 ≤ volP N L (volH s1 I) Q i ∧ volP N L (volH s1 I) Q i ≤ 40532396646334464 ∧ volV N L (volH s1 I) Q i + volP N L (volH s1 I) Q i = keptI N L (volH s1 I) Q i ∧ ((N.D i).kd = 3 → volP N L (volH s1 I) Q i = 0) := by
  obtain ⟨a, b, c⟩ := G.cap hi
  have d := G.kept hi
  have e : (N.D i).kd = 3 → keptI N L (volH s1 I) Q i = 0 := fun h => by unfold keptI isO; rw [h]; rfl
  unfold volP volV mn
  split
  · exact ⟨by omega, by omega, by omega, by omega, fun h => by have := c h; have := e h; omega⟩
  · exact ⟨by omega, by omega, by omega, by omega, fun h => by have := e h; omega⟩
theorem Giv.ledg (M : Mk N L s1 I Q s2 g) : ledgB L g = true := by
  have h1 := G.ins (Nat.le_refl _); have h2 := G.outs (Nat.le_refl _)
  unfold ledgB passB
  rw [M.gi, M.go, M.gn]
  simp only [decide_true, Bool.true_and, Bool.and_eq_true, bet_iff, allB_iff]
  refine ⟨by omega, by omega, fun k hk => ?_⟩
  rw [M.gx k hk]
  exact G.pass hk
theorem giv_of {s3 : State} (h2 : vs N L s3 = true) (h3 : ledgB L g = true) : givE N L s1 s3 I g = 0 := by
  unfold givE
  rw [G.v, h2, h3, if_neg (by decide), if_pos G.i, if_pos G.w]
theorem Giv.st (M : Mk N L s1 I Q s2 g) : ∀ k, k < L.n → 0 ≤ s2.st.X k ∧ s2.st.X k ≤ 1000 ∧ (s2.on.X k = true → (L.D k).kd = 4) := fun k hk => by
  obtain ⟨-, -, -, -, -, -, -, a⟩ := vs_parts G.v
  rw [M.sx k hk, M.ox k hk]
  exact a k hk
theorem Giv.made (M : Mk N L s1 I Q s2 g) : givE N L s1 s2 I g = 0 :=
  giv_of G (vs_of G.net M.vn M.pn M.sn M.on (fun i hi => by rw [M.vx i hi]; have := (G.two hi).1; omega) (fun i hi => by rw [M.px i hi]; exact ⟨(G.two hi).2.1, M.pb i hi, (G.two hi).2.2.2.2⟩) (G.st M)) (G.ledg M)
theorem Giv.out0 {i : Nat} (hi : i < N.n) (h : isO N i = true) : volH s1 I i = I.X i := by
  have hk : (N.D i).kd = 3 := eq_of_beq h
  obtain ⟨-, -, -, -, -, a, b, -⟩ := vs_parts G.v
  have h1 := a i hi; have h2 := (b i hi).2.2 hk; have h3 := (G.cap hi).2.2 hk
  unfold volH
  omega
theorem Giv.from_ {k : Nat} (hk : k < L.n) : isO N (fx N L k) = false := by
  have h := G.net
  unfold netB at h
  simp only [Bool.and_eq_true] at h
  have h1 := allB_at h.2.2.2 hk
  unfold linkB at h1
  simp only [Bool.and_eq_true, decide_eq_true_eq] at h1
  obtain ⟨-, -, -, -, a⟩ := h1
  unfold isO fx
  simpa using a
/-- Every set of nodes closes. -/
theorem Giv.res (M : Mk N L s1 I Q s2 g) (m : Nat → Bool) : resI N L m s1 s2 I g.ps = 0 := by
  have h1 := sumC_all (H := volH s1 I) (Q := Q) G.net (fun i => m i && !isO N i) L.n (Nat.le_refl _)
  have h2 : sumI (ndT m s1 s2 I) N.n - sumI (ndL N m I) N.n = sumC (fun i => m i && !isO N i) (volH s1 I) N.n - sumC (fun i => m i && !isO N i) (heldK N L (volH s1 I) Q L.n) N.n := by
    unfold sumC
    rw [← sumI_sub, ← sumI_sub]
    refine sumI_congr fun i hi => ?_
    have e1 := (G.two hi).2.2.2.1
    show ndT m s1 s2 I i - ndL N m I i = (if (m i && !isO N i) = true then volH s1 I i else 0) - (if (m i && !isO N i) = true then heldK N L (volH s1 I) Q L.n i else 0)
    unfold ndT ndL hol
    rw [M.vx i hi, M.px i hi]
    cases hm : m i
    · simp
    cases ho : isO N i
    · have e2 : keptI N L (volH s1 I) Q i = heldK N L (volH s1 I) Q L.n i := by unfold keptI; rw [ho]; simp
      simp only [Bool.and_false, Bool.and_true, Bool.not_false, if_true, Bool.false_eq_true, if_false]
      rw [← e2]
      unfold volH at *
      omega
    · have e2 : keptI N L (volH s1 I) Q i = 0 := by unfold keptI; rw [ho]; simp
      have e3 := G.out0 hi ho
      simp only [Bool.and_true, Bool.not_true, Bool.and_false, if_true, Bool.false_eq_true, if_false]
      unfold volH at *
      omega
  have h3 : sumI (lkT N L m g.ps) L.n - sumI (lkL N L m g.ps) L.n = sumI (fun j => (if (m (tx N L j) && !isO N (tx N L j)) = true then passK N L (volH s1 I) Q j else 0) - (if (m (fx N L j) && !isO N (fx N L j)) = true then passK N L (volH s1 I) Q j else 0)) L.n := by
    rw [← sumI_sub]
    refine sumI_congr fun k hk => ?_
    unfold lkT lkL
    rw [M.gx k hk, G.from_ hk]
    generalize passK N L (volH s1 I) Q k = p
    cases m (tx N L k) <;> cases m (fx N L k) <;> cases isO N (tx N L k) <;> simp <;> omega
  unfold resI lostI
  omega
theorem Giv.heldI_ : heldI s1 = sumI (volH s1 I) N.n - sumI I.X N.n := by
  unfold heldI
  rw [(vs_parts G.v).2.1, ← sumI_sub]
  exact sumI_congr fun i _ => by unfold volH; omega
theorem Giv.left (M : Mk N L s1 I Q s2 g) : leftI s1 s2 g = 0 := by
  have h1 := G.heldI_
  have h2 := held_sum (H := volH s1 I) (Q := Q) G.net L.n (Nat.le_refl _)
  have h3 : heldI s2 = sumI (heldK N L (volH s1 I) Q L.n) N.n - gone N L (volH s1 I) Q N.n := by
    unfold heldI gone sumC
    rw [M.vn, ← sumI_sub]
    refine sumI_congr fun i hi => ?_
    rw [M.vx i hi, M.px i hi, (G.two hi).2.2.2.1]
    unfold keptI
    split <;> omega
  unfold leftI
  rw [M.gi, M.go]
  omega
theorem Giv.ok (M : Mk N L s1 I Q s2 g) : stepB N L s1 s2 I g = true ∧ stepL N L s1 s2 I g = 0 := by
  have h0 := G.made M
  have h1 := G.left M
  have h2 := G.res M (fun _ => true)
  unfold stepB stepL okB
  rw [if_pos h0, if_pos h0, h1, M.gi, G.i]
  refine ⟨?_, rfl⟩
  have h3 : sumI (ndT (fun _ => true) s1 s2 I) N.n = gone N L (volH s1 I) Q N.n := by
    have h4 := held_sum (H := volH s1 I) (Q := Q) G.net L.n (Nat.le_refl _)
    have h5 : sumI (ndT (fun _ => true) s1 s2 I) N.n = sumI (volH s1 I) N.n - (sumI (heldK N L (volH s1 I) Q L.n) N.n - gone N L (volH s1 I) Q N.n) := by
      unfold gone sumC
      rw [← sumI_sub, ← sumI_sub]
      refine sumI_congr fun i hi => ?_
      have e := (G.two hi).2.2.2.1
      unfold ndT hol
      rw [M.vx i hi, M.px i hi, if_pos rfl]
      unfold keptI at e
      unfold volH at *
      split at e <;> rename_i q <;> simp only [q, if_true, if_false, Bool.false_eq_true] <;> omega
    omega
  have h4 : sumI (lkT N L (fun _ => true) g.ps) L.n = 0 := sumI_zero fun k _ => by unfold lkT; simp
  unfold resI at h2
  rw [h3, h4] at h2
  rw [M.go]
  simp only [beq_self_eq_true, Bool.true_and, beq_iff_eq]
  omega
/-- One millilitre is lost. -/
theorem Giv.lose (M : Mk N L s1 I Q s2 g) {s3 : State} {i0 : Nat} (hi0 : i0 < N.n) (hpos : s2.vs.X i0 ≠ 0) (n1 : s3.vs.n = N.n) (n2 : s3.ps.n = N.n) (n3 : s3.st.n = L.n) (n4 : s3.on.n = L.n) (x1 : ∀ i, i < N.n → s3.vs.X i = if i = i0 then s2.vs.X i0 - 1 else s2.vs.X i) (x2 : ∀ i, i < N.n → s3.ps.X i = s2.ps.X i) (x3 : ∀ k, k < L.n → s3.st.X k = s1.st.X k) (x4 : ∀ k, k < L.n → s3.on.X k = s1.on.X k) :
    givE N L s1 s3 I g = 0 ∧ stepB N L s1 s3 I g = false ∧ stepL N L s1 s3 I g = 1 := by
  have e0 := M.vx i0 hi0
  have hg : givE N L s1 s3 I g = 0 := by
    refine giv_of G (vs_of G.net n1 n2 n3 n4 (fun i hi => ?_) (fun i hi => ?_) (fun k hk => ?_)) (G.ledg M)
    · rw [x1 i hi]
      have := (G.two hi).1; have := M.vx i hi
      split
      · rename_i e; subst e; omega
      · omega
    · rw [x2 i hi, M.px i hi]; exact ⟨(G.two hi).2.1, M.pb i hi, (G.two hi).2.2.2.2⟩
    · have := G.st M k hk
      rw [M.sx k hk, M.ox k hk] at this
      rw [x3 k hk, x4 k hk]; exact this
  have hl : leftI s1 s3 g = 1 := by
    have h1 := G.left M
    have h2 : heldI s3 = heldI s2 - 1 := by
      have h3 : sumI (fun i => if i = i0 then (1 : Int) else 0) N.n = 1 := by
        rw [sumI_one (i := i0) (fun j hj => by simp [hj]), if_pos hi0]; simp
      unfold heldI
      rw [n1, M.vn, ← h3, ← sumI_sub]
      refine sumI_congr fun i hi => ?_
      rw [x1 i hi, x2 i hi]
      by_cases e : i = i0
      · subst e; rw [if_pos rfl, if_pos rfl]; omega
      · rw [if_neg e, if_neg e]; omega
    unfold leftI at *
    omega
  unfold stepB stepL okB
  rw [if_pos hg, if_pos hg, hl]
  exact ⟨hg, by simp, rfl⟩
end
end Ba
end Go.Proofs.Ythkmgnaeponfcaa
