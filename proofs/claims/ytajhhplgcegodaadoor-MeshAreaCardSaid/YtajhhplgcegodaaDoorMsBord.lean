/-
  Plain: the sides of a surface: around the end of a border side comes the next one; borders are rings, and have each border side once. No condition.
-/
import Derived.Test.YtajhhplgcegodaaDoorMsChain
set_option linter.unusedVariables false
set_option linter.unusedSimpArgs false
namespace Go.Proofs.YtajhhplgcegodaaDoor
namespace Ms
/-- Opposite sides, and the next side of a face. -/
structure Hed (op : Nat → Option Nat) (nx : Nat → Nat) (N : Nat) : Prop where
  lt : ∀ x y, x < N → op x = some y → y < N
  inv : ∀ x y, x < N → op x = some y → op y = some x
  nlt : ∀ x, x < N → nx x < N
  ninj : ∀ x x', x < N → x' < N → nx x = nx x' → x = x'
def rt (op : Nat → Option Nat) (nx : Nat → Nat) (x : Nat) : Option Nat := (op x).map nx
def phi (op : Nat → Option Nat) (nx : Nat → Nat) (N h : Nat) : Nat := last (rt op nx) N (nx h)
section
variable {op : Nat → Option Nat} {nx : Nat → Nat} {N : Nat}
theorem Hed.some {x y : Nat} (h : rt op nx x = some y) : ∃ a, op x = Option.some a ∧ nx a = y := by
  unfold rt at h
  cases e : op x with
  | none => rw [e] at h; cases h
  | some a => rw [e] at h; exact ⟨a, rfl, by simpa using h⟩
theorem Hed.rinj (H : Hed op nx N) : Inj (rt op nx) N := by
  refine ⟨fun x y hx h => ?_, fun x x' y hx hx' h h' => ?_⟩
  · obtain ⟨a, ha, rfl⟩ := Hed.some h
    exact H.nlt a (H.lt x a hx ha)
  · obtain ⟨a, ha, ea⟩ := Hed.some h
    obtain ⟨b, hb, eb⟩ := Hed.some h'
    have := H.ninj a b (H.lt x a hx ha) (H.lt x' b hx' hb) (ea.trans eb.symm)
    subst this
    have p := H.inv x a hx ha; have q := H.inv x' a hx' hb
    rw [p] at q; simpa using q
theorem Hed.first (H : Hed op nx N) {h : Nat} (hh : h < N) (ho : op h = none) : ∀ z, z < N → rt op nx z ≠ Option.some (nx h) := by
  intro z hz e
  obtain ⟨a, ha, ea⟩ := Hed.some e
  have := H.ninj a h (H.lt z a hz ha) hh ea
  subst this
  rw [H.inv z a hz ha] at ho; cases ho
theorem Hed.ends (H : Hed op nx N) {h : Nat} (hh : h < N) (ho : op h = none) : it (rt op nx) (nx h) N = none := it_ends H.rinj (H.nlt h hh) (H.first hh ho)
theorem Hed.phi_it (H : Hed op nx N) {h : Nat} (hh : h < N) (ho : op h = none) : ∃ k, it (rt op nx) (nx h) k = Option.some (phi op nx N h) ∧ op (phi op nx N h) = none ∧ phi op nx N h < N := by
  obtain ⟨a, b, -⟩ := last_it (H.ends hh ho)
  refine ⟨_, a, ?_, it_lt H.rinj (H.nlt h hh) a⟩
  unfold phi
  cases e : op (last (rt op nx) N (nx h)) with
  | none => rfl
  | some q =>
    have b2 : (op (last (rt op nx) N (nx h))).map nx = none := b
    rw [e] at b2; cases b2
theorem Hed.phi_inj (H : Hed op nx N) {h h' : Nat} (hh : h < N) (ho : op h = none) (hh' : h' < N) (ho' : op h' = none) (e : phi op nx N h = phi op nx N h') : h = h' := by
  obtain ⟨i, hi, -, -⟩ := H.phi_it hh ho
  obtain ⟨j, hj, -, -⟩ := H.phi_it hh' ho'
  rw [← e] at hj
  have main : ∀ {x x' : Nat} {i j y : Nat}, x < N → op x = none → x' < N → op x' = none → it (rt op nx) (nx x) i = Option.some y → it (rt op nx) (nx x') j = Option.some y → i ≤ j → x = x' := by
    intro x x' i j y hx hox hx' hox' hi hj hij
    have hb := it_back (j := j - i) H.rinj (H.nlt x hx) (H.nlt x' hx') hi (by rw [show i + (j - i) = j by omega]; exact hj)
    cases hd : j - i with
    | zero =>
      rw [hd] at hb
      simp only [it, Option.some.injEq] at hb
      exact (H.ninj x' x hx' hx hb).symm
    | succ d =>
      exfalso
      rw [hd] at hb
      simp only [it] at hb
      cases e : it (rt op nx) (nx x') d with
      | none => rw [e] at hb; cases hb
      | some z => rw [e] at hb; exact H.first hx hox z (it_lt H.rinj (H.nlt x' hx') e) hb
  by_cases c : i ≤ j
  · exact main hh ho hh' ho' hi hj c
  · exact (main hh' ho' hh ho hj hi (by omega)).symm
end
/-- A function that is injective on the numbers below N with P, and stays there. -/
structure Per (f : Nat → Nat) (P : Nat → Prop) (N : Nat) : Prop where
  lt : ∀ x, x < N → P x → f x < N ∧ P (f x)
  inj : ∀ x x', x < N → P x → x' < N → P x' → f x = f x' → x = x'
def itr (f : Nat → Nat) (x : Nat) : Nat → Nat
  | 0 => x
  | k + 1 => f (itr f x k)
section
variable {f : Nat → Nat} {P : Nat → Prop} {N : Nat}
theorem itr_succ' (f : Nat → Nat) (x : Nat) : ∀ k, itr f x (k + 1) = itr f (f x) k
  | 0 => rfl
  | k + 1 => by rw [itr, itr_succ' f x k]; rfl
theorem Per.itr (H : Per f P N) {x : Nat} (hx : x < N) (hp : P x) : ∀ k, itr f x k < N ∧ P (itr f x k)
  | 0 => ⟨hx, hp⟩
  | k + 1 => H.lt _ (H.itr hx hp k).1 (H.itr hx hp k).2
theorem Per.back (H : Per f P N) {x : Nat} (hx : x < N) (hp : P x) : ∀ i j, Ms.itr f x i = Ms.itr f x (i + j) → Ms.itr f x j = x
  | 0, j, h => by rw [Nat.zero_add] at h; exact h.symm
  | i + 1, j, h => by
    rw [show i + 1 + j = (i + j) + 1 by omega] at h
    exact H.back hx hp i j (H.inj _ _ (H.itr hx hp i).1 (H.itr hx hp i).2 (H.itr hx hp (i + j)).1 (H.itr hx hp (i + j)).2 h)
theorem least (Q : Nat → Prop) : ∀ n, Q n → ∃ p, p ≤ n ∧ Q p ∧ ∀ k, k < p → ¬ Q k := by
  intro n
  induction n using Nat.strongRecOn with
  | _ n ih =>
    intro h
    by_cases c : ∃ k, k < n ∧ Q k
    · obtain ⟨k, hk, hq⟩ := c
      obtain ⟨p, a, b, d⟩ := ih k hk hq
      exact ⟨p, by omega, b, d⟩
    · exact ⟨n, Nat.le_refl _, h, fun k hk hq => c ⟨k, hk, hq⟩⟩
/-- The ring through a number: its length. -/
theorem Per.ring (H : Per f P N) {x : Nat} (hx : x < N) (hp : P x) : ∃ p, 0 < p ∧ p ≤ N ∧ Ms.itr f x p = x ∧ ∀ k, 0 < k → k < p → Ms.itr f x k ≠ x := by
  obtain ⟨i, j, hij, hj, he⟩ := php N (Ms.itr f x) fun i _ => (H.itr hx hp i).1
  have hb := H.back hx hp i (j - i) (by rw [show i + (j - i) = j by omega]; exact he)
  obtain ⟨p, a, ⟨b, c⟩, d⟩ := least (fun k => 0 < k ∧ Ms.itr f x k = x) (j - i) ⟨by omega, hb⟩
  exact ⟨p, b, by omega, c, fun k h1 h2 h3 => d k h2 ⟨h1, h3⟩⟩
end
def mk (d : Nat → Bool) (h x : Nat) : Bool := d x || decide (x = h)
/-- The way through numbers that are not done. -/
def trc (f : Nat → Nat) : Nat → (Nat → Bool) → Nat → List Nat
  | 0, _, _ => []
  | m + 1, d, h => if d h then [] else h :: trc f m (mk d h) (f h)
def mkL (d : Nat → Bool) : List Nat → Nat → Bool
  | [] => d
  | h :: l => mkL (mk d h) l
theorem mkL_iff : ∀ (l : List Nat) (d : Nat → Bool) (x : Nat), mkL d l x = true ↔ (d x = true ∨ x ∈ l)
  | [], d, x => by simp [mkL]
  | h :: l, d, x => by
    rw [mkL, mkL_iff l (mk d h) x]
    simp only [mk, Bool.or_eq_true, decide_eq_true_eq, List.mem_cons]
    exact or_assoc
def rng (f : Nat → Nat) (x : Nat) : Nat → List Nat
  | 0 => []
  | k + 1 => x :: rng f (f x) k
theorem rng_len (f : Nat → Nat) : ∀ k x, (rng f x k).length = k
  | 0, _ => rfl
  | k + 1, x => by rw [rng, List.length_cons, rng_len f k]
theorem rng_get (f : Nat → Nat) : ∀ k x i, i < k → (rng f x k)[i]? = some (itr f x i)
  | 0, x, i, h => absurd h (by omega)
  | k + 1, x, 0, h => by rw [rng]; rfl
  | k + 1, x, i + 1, h => by rw [rng, List.getElem?_cons_succ, rng_get f k (f x) i (by omega), ← itr_succ']
theorem rng_mem (f : Nat → Nat) (k x y : Nat) : y ∈ rng f x k ↔ ∃ i, i < k ∧ itr f x i = y := by
  constructor
  · intro h
    obtain ⟨i, hi, e⟩ := List.mem_iff_getElem.1 h
    rw [rng_len] at hi
    have := rng_get f k x i hi
    rw [List.getElem?_eq_getElem (by rw [rng_len]; exact hi)] at this
    exact ⟨i, hi, by simpa [e] using this.symm⟩
  · rintro ⟨i, hi, rfl⟩
    exact List.mem_of_getElem? (rng_get f k x i hi)
theorem rng_nodup (f : Nat → Nat) : ∀ (k x : Nat), (∀ a b, a < b → b < k → itr f x a ≠ itr f x b) → (rng f x k).Nodup
  | 0, _, _ => List.nodup_nil
  | k + 1, x, h => by
    rw [rng, List.nodup_cons]
    refine ⟨fun hm => ?_, rng_nodup f k (f x) fun a b hab hb => by rw [← itr_succ', ← itr_succ']; exact h (a + 1) (b + 1) (by omega) (by omega)⟩
    obtain ⟨i, hi, e⟩ := (rng_mem f k (f x) x).1 hm
    rw [← itr_succ'] at e
    exact h 0 (i + 1) (by omega) (by omega) e.symm
theorem trc_rng (f : Nat → Nat) : ∀ (k m : Nat) (d : Nat → Bool) (x : Nat), k ≤ m → (∀ i, i < k → d (itr f x i) = false) → (∀ i j, i < j → j < k → itr f x i ≠ itr f x j) → (d (itr f x k) = true ∨ ∃ i, i < k ∧ itr f x i = itr f x k) → trc f m d x = rng f x k
  | 0, m, d, x, hm, h1, h2, h3 => by
    have e : d x = true := by
      rcases h3 with h | ⟨i, hi, -⟩
      · exact h
      · omega
    cases m with
    | zero => rfl
    | succ m => rw [trc, if_pos e]; rfl
  | k + 1, 0, d, x, hm, h1, h2, h3 => absurd hm (by omega)
  | k + 1, m + 1, d, x, hm, h1, h2, h3 => by
    rw [trc, if_neg (by rw [show d x = false from h1 0 (by omega)]; decide), rng]
    congr 1
    refine trc_rng f k m (mk d x) (f x) (by omega) (fun i hi => ?_) (fun i j hij hj => ?_) ?_
    · rw [← itr_succ']
      unfold mk
      rw [h1 (i + 1) (by omega), decide_eq_false (fun e => h2 0 (i + 1) (by omega) (by omega) e.symm)]
      rfl
    · rw [← itr_succ', ← itr_succ']; exact h2 (i + 1) (j + 1) (by omega) (by omega)
    · rw [← itr_succ']
      rcases h3 with h | ⟨i, hi, he⟩
      · left; unfold mk; rw [h]; rfl
      · cases i with
        | zero => left; unfold mk; rw [decide_eq_true (show itr f x (k + 1) = x from he.symm), Bool.or_true]
        | succ i => right; exact ⟨i, by omega, by rw [← itr_succ']; exact he⟩
/-- The done numbers and the rings, up to a number. -/
def brS (f : Nat → Nat) (B : Nat → Bool) (N : Nat) : Nat → (Nat → Bool) × List (List Nat)
  | 0 => (fun _ => false, [])
  | i + 1 => if B i && !(brS f B N i).1 i then (mkL (brS f B N i).1 (trc f N (brS f B N i).1 i), (brS f B N i).2 ++ [trc f N (brS f B N i).1 i]) else brS f B N i
theorem brS_succ (f : Nat → Nat) (B : Nat → Bool) (N i : Nat) : brS f B N (i + 1) = if B i && !(brS f B N i).1 i then (mkL (brS f B N i).1 (trc f N (brS f B N i).1 i), (brS f B N i).2 ++ [trc f N (brS f B N i).1 i]) else brS f B N i := rfl
/-- A list is a ring of f. -/
structure Ring (f : Nat → Nat) (P : Nat → Prop) (N : Nat) (l : List Nat) : Prop where
  pos : 0 < l.length
  le : l.length ≤ N
  all : ∀ i, i < l.length → ∃ x : Nat, l[i]? = some x ∧ x < N ∧ P x ∧ l[(i + 1) % l.length]? = some (f x)
  apart : ∀ (i j x : Nat), i < j → l[i]? = some x → l[j]? ≠ some x
structure Rings (f : Nat → Nat) (B : Nat → Bool) (N i : Nat) (d : Nat → Bool) (L : List (List Nat)) : Prop where
  ring : ∀ l, l ∈ L → Ring f (fun x => B x = true) N l
  done : ∀ x, d x = true ↔ x ∈ L.flatten
  nodup : L.flatten.Nodup
  have_ : ∀ x, x < i → x < N → B x = true → d x = true
  closed : ∀ x, x < N → B x = true → (d (f x) = true ↔ d x = true)
theorem brS_rings {f : Nat → Nat} {B : Nat → Bool} {N : Nat} (H : Per f (fun x => B x = true) N) : ∀ i, i ≤ N → Rings f B N i (brS f B N i).1 (brS f B N i).2
  | 0, _ => ⟨by intro l h; simp [brS] at h, by intro x; simp [brS], by simp [brS], by intro x h; omega, by intro x _ _; simp [brS]⟩
  | i + 1, hi => by
    have ih := brS_rings H i (by omega)
    rw [brS_succ]
    generalize brS f B N i = q at *
    obtain ⟨d, L⟩ := q
    simp only at ih ⊢
    by_cases hc : (B i && !d i) = true
    · rw [if_pos hc]
      simp only [Bool.and_eq_true, Bool.not_eq_true'] at hc
      obtain ⟨hB, hd⟩ := hc
      have hiN : i < N := by omega
      obtain ⟨p, p0, pN, pe, pm⟩ := H.ring hiN hB
      have hI := H.itr hiN hB
      have hdf : ∀ k, d (itr f i k) = false := by
        intro k
        induction k with
        | zero => exact hd
        | succ k ihk =>
          cases e : d (itr f i (k + 1)) with
          | false => rfl
          | true => rw [(ih.closed _ (hI k).1 (hI k).2).1 e] at ihk; cases ihk
      have hne : ∀ a b, a < b → b < p → itr f i a ≠ itr f i b := by
        intro a b hab hb e
        have := H.back hiN hB a (b - a) (by rw [show a + (b - a) = b by omega]; exact e)
        exact pm (b - a) (by omega) (by omega) this
      have hl : trc f N d i = rng f i p := trc_rng f p N d i pN (fun k _ => hdf k) hne (Or.inr ⟨0, p0, by rw [pe]; rfl⟩)
      rw [hl]
      have hmem : ∀ y, y ∈ rng f i p ↔ ∃ k, k < p ∧ itr f i k = y := rng_mem f p i
      refine ⟨?_, ?_, ?_, ?_, ?_⟩
      · intro l hl
        simp only [List.mem_append, List.mem_singleton] at hl
        rcases hl with hl | rfl
        · exact ih.ring l hl
        · refine ⟨by rw [rng_len]; exact p0, by rw [rng_len]; exact pN, fun k hk => ?_, fun a b x hab ha hb => ?_⟩
          · rw [rng_len] at hk ⊢
            refine ⟨itr f i k, rng_get f p i k hk, (hI k).1, (hI k).2, ?_⟩
            by_cases e : k + 1 = p
            · rw [e, Nat.mod_self, rng_get f p i 0 p0]
              congr 1
              show i = itr f i (k + 1)
              rw [e, pe]
            · rw [Nat.mod_eq_of_lt (by omega), rng_get f p i (k + 1) (by omega)]; rfl
          · have hbl : b < p := by
              obtain ⟨q, -⟩ := List.getElem?_eq_some_iff.1 hb
              rwa [rng_len] at q
            rw [rng_get f p i a (by omega)] at ha
            rw [rng_get f p i b hbl] at hb
            exact hne a b hab hbl (by rw [← hb] at ha; simpa using ha)
      · intro x
        rw [mkL_iff, ih.done x]
        simp
      · rw [List.flatten_append, List.nodup_append]
        refine ⟨ih.nodup, ?_, ?_⟩
        · simp only [List.flatten_cons, List.flatten_nil, List.append_nil]
          exact rng_nodup f p i hne
        · intro a ha b hb e
          subst e
          simp only [List.flatten_cons, List.flatten_nil, List.append_nil] at hb
          obtain ⟨k, -, rfl⟩ := (hmem a).1 hb
          have := hdf k
          rw [(ih.done _).2 ha] at this; cases this
      · intro x hx hxN hxB
        rw [mkL_iff]
        by_cases e : x = i
        · right; rw [hmem]; exact ⟨0, p0, by rw [e]; rfl⟩
        · left; exact ih.have_ x (by omega) hxN hxB
      · intro x hx hxB
        rw [mkL_iff, mkL_iff, ih.closed x hx hxB, hmem, hmem]
        constructor
        · rintro (h | ⟨k, hk, e⟩)
          · exact Or.inl h
          · right
            cases k with
            | zero =>
              refine ⟨p - 1, by omega, ?_⟩
              refine H.inj _ _ (hI _).1 (hI _).2 hx hxB ?_
              show itr f i (p - 1 + 1) = f x
              rw [show p - 1 + 1 = p by omega, pe]; exact e
            | succ k => exact ⟨k, by omega, H.inj _ _ (hI _).1 (hI _).2 hx hxB e⟩
        · rintro (h | ⟨k, hk, rfl⟩)
          · exact Or.inl h
          · right
            by_cases e : k + 1 = p
            · exact ⟨0, p0, by show i = itr f i (k + 1); rw [e, pe]⟩
            · exact ⟨k + 1, by omega, rfl⟩
    · rw [if_neg hc]
      refine ⟨ih.ring, ih.done, ih.nodup, fun x hx hxN hxB => ?_, ih.closed⟩
      by_cases e : x = i
      · subst e
        rw [hxB] at hc
        cases q : d x with
        | true => exact q
        | false => rw [q] at hc; exact absurd rfl hc
      · exact ih.have_ x (by omega) hxN hxB
/-- Border sides: the next one is a border side, and no two have the same next one. -/
theorem Hed.per {op : Nat → Option Nat} {nx : Nat → Nat} {N : Nat} (H : Hed op nx N) : Per (phi op nx N) (fun x => (op x).isNone = true) N := by
  refine ⟨fun x hx hp => ?_, fun x x' hx hp hx' hp' e => ?_⟩
  · obtain ⟨k, -, a, b⟩ := H.phi_it hx (Option.isNone_iff_eq_none.1 hp)
    exact ⟨b, by rw [a]; rfl⟩
  · exact H.phi_inj hx (Option.isNone_iff_eq_none.1 hp) hx' (Option.isNone_iff_eq_none.1 hp') e
end Ms
end Go.Proofs.YtajhhplgcegodaaDoor
