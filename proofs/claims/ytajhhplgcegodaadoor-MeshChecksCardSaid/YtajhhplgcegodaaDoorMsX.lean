/-
  Surfaces: plain: what validity says of the sides; the sides and their opposites. No condition.
-/
import Derived.Test.YtajhhplgcegodaaDoorMsV
import Derived.Test.YtajhhplgcegodaaDoorMsBord
import Derived.Test.YtajhhplgcegodaaDoorMsK
set_option linter.unusedVariables false
set_option linter.unusedSimpArgs false
namespace Go.Proofs.YtajhhplgcegodaaDoor
namespace Ms
theorem idx_nil {p : Nat → Bool} {n : Nat} (h : idx p n = []) (i : Nat) (hi : i < n) : p i = false := by
  cases e : p i with
  | false => rfl
  | true =>
    have := idx_mem.2 ⟨hi, e⟩
    rw [h] at this; cases this
theorem fnd_nil {m : Mesh} : ∀ {K k : Nat}, fnd m K = [] → k < K → ∀ i, i < num m k → kd m k i = false
  | 0, k, _, h => absurd h (by omega)
  | K + 1, k, h, hk => by
    rw [fnd, List.append_eq_nil_iff] at h
    by_cases e : k = K
    · subst e
      intro i hi
      exact idx_nil (List.map_eq_nil_iff.1 h.2) i hi
    · exact fnd_nil h.1 (by omega)
theorem vl_kd {m : Mesh} (h : vlB m = true) {k i : Nat} (hk : k < 7) (hi : i < num m k) : kd m k i = false := by
  unfold vlB at h
  rw [Bool.and_eq_true, List.isEmpty_iff] at h
  exact fnd_nil h.2 hk i hi
theorem vl_fc {m : Mesh} (h : vlB m = true) {i : Nat} (hi : i < m.F.n) : fcB m (m.F.D i) = true := by
  have h3 := vl_kd h (k := 3) (i := i) (by omega) (by unfold num; rw [if_neg (by omega)]; exact hi)
  simpa [kd] using h3
theorem vl_tn {m : Mesh} (h : vlB m = true) {i : Nat} (hi : i < m.F.n) : 0 < tTn (tri m (m.F.D i)) := by
  have h4 := vl_kd h (k := 4) (i := i) (by omega) (by unfold num; rw [if_neg (by omega)]; exact hi)
  have h3 := vl_fc h hi
  simpa [kd, h3] using h4
theorem vl_snd {m : Mesh} (h : vlB m = true) {i : Nat} (hi : i < m.F.n) : sndB m (m.F.D i) = true := by
  unfold sndB
  rw [vl_fc h hi, decide_eq_true (vl_tn h hi)]; rfl
theorem vl_ss {m : Mesh} (h : vlB m = true) {i j : Nat} (hj : j < i) (hi : i < m.F.n) : ssB (m.F.D i) (m.F.D j) = false := by
  have h5 : (sndB m (m.F.D i) && Ba.any (fun j => sndB m (m.F.D j) && ssB (m.F.D i) (m.F.D j)) i) = false := vl_kd h (k := 5) (i := i) (by omega) (by unfold num; rw [if_neg (by omega)]; exact hi)
  rw [vl_snd h hi, Bool.true_and] at h5
  cases e : ssB (m.F.D i) (m.F.D j) with
  | false => rfl
  | true =>
    have := any_hit (p := fun j => sndB m (m.F.D j) && ssB (m.F.D i) (m.F.D j)) (i := j) (n := i) (by rw [vl_snd h (by omega), e]; rfl) hj
    rw [this] at h5; cases h5
theorem cor_0 (f : Ba.Face) : cor f 0 = f.a := rfl
theorem cor_1 (f : Ba.Face) : cor f 1 = f.b := rfl
theorem cor_2 (f : Ba.Face) : cor f 2 = f.c := rfl
theorem cor_3 (f : Ba.Face) : cor f 3 = f.a := rfl
theorem cor_mod (f : Ba.Face) (k : Nat) : cor f (k % 3) = cor f k := by unfold cor; rw [Nat.mod_mod]
theorem cor_ne {m : Mesh} {f : Ba.Face} (h : fcB m f = true) {k l : Nat} (hk : k < 3) (hl : l < 3) (e : cor f k = cor f l) : k = l := by
  unfold fcB at h
  simp only [Bool.and_eq_true, Bool.not_eq_true', beq_eq_false_iff_ne, ne_eq] at h
  obtain ⟨-, -, -, h1, h2, h3, -⟩ := h
  rcases (by omega : k = 0 ∨ k = 1 ∨ k = 2) with rfl | rfl | rfl <;> rcases (by omega : l = 0 ∨ l = 1 ∨ l = 2) with rfl | rfl | rfl <;> simp only [cor_0, cor_1, cor_2] at e <;> first | rfl | exact absurd e h1 | exact absurd e h2 | exact absurd e h3 | exact absurd e.symm h1 | exact absurd e.symm h2 | exact absurd e.symm h3
/-- The start and the end of side t. -/
def st (m : Mesh) (t : Nat) : Int := cor (m.F.D (t / 3)) (t % 3)
def en (m : Mesh) (t : Nat) : Int := cor (m.F.D (t / 3)) (t % 3 + 1)
theorem st_at (m : Mesh) {i k : Nat} (hk : k < 3) : st m (3 * i + k) = cor (m.F.D i) k := by
  unfold st; rw [show (3 * i + k) / 3 = i by omega, show (3 * i + k) % 3 = k by omega]
theorem en_at (m : Mesh) {i k : Nat} (hk : k < 3) : en m (3 * i + k) = cor (m.F.D i) (k + 1) := by
  unfold en; rw [show (3 * i + k) / 3 = i by omega, show (3 * i + k) % 3 = k by omega]
theorem ss_of {f g : Ba.Face} {k l : Nat} (hk : k < 3) (hl : l < 3) (h1 : cor f k = cor g l) (h2 : cor f (k + 1) = cor g (l + 1)) : ssB f g = true := by
  unfold ssB
  refine any_hit (i := k) ?_ hk
  refine any_hit (i := l) ?_ hl
  unfold sdB
  rw [h1, h2, beq_self_eq_true, beq_self_eq_true]; rfl
/-- Each directed side occurs once. -/
theorem vl_uni {m : Mesh} (h : vlB m = true) {s t : Nat} (hs : s < 3 * m.F.n) (ht : t < 3 * m.F.n) (e1 : st m s = st m t) (e2 : en m s = en m t) : s = t := by
  unfold st at e1; unfold en at e2
  rcases Nat.lt_trichotomy (s / 3) (t / 3) with q | q | q
  · have a := vl_ss h q (by omega)
    rw [ss_of (Nat.mod_lt t (by omega)) (Nat.mod_lt s (by omega)) e1.symm e2.symm] at a; cases a
  · rw [q] at e1
    have := cor_ne (vl_fc h (i := t / 3) (by omega)) (Nat.mod_lt s (by omega)) (Nat.mod_lt t (by omega)) e1
    omega
  · have a := vl_ss h q (by omega)
    rw [ss_of (Nat.mod_lt s (by omega)) (Nat.mod_lt t (by omega)) e1 e2] at a; cases a
theorem sdA_iff {m : Mesh} {a b : Int} {t : Nat} : sdA m a b t = true ↔ st m t = a ∧ en m t = b := by
  unfold sdA st en
  rw [Bool.and_eq_true, beq_iff_eq, beq_iff_eq]
theorem sdO_some {m : Mesh} {a b : Int} {t : Nat} (h : sdO m a b = some t) : t < 3 * m.F.n ∧ st m t = a ∧ en m t = b := by
  obtain ⟨p, q, -⟩ := Ba.fst_some h
  exact ⟨p, sdA_iff.1 q⟩
theorem sdO_none {m : Mesh} {a b : Int} (h : sdO m a b = none) {t : Nat} (ht : t < 3 * m.F.n) (e1 : st m t = a) (e2 : en m t = b) : False := by
  have := Ba.fst_some.fst_no h t ht
  rw [sdA_iff.2 ⟨e1, e2⟩] at this; cases this
theorem sdO_uni {m : Mesh} (hv : vlB m = true) {a b : Int} {t : Nat} (ht : t < 3 * m.F.n) (e1 : st m t = a) (e2 : en m t = b) : sdO m a b = some t := by
  cases h : sdO m a b with
  | none => exact (sdO_none h ht e1 e2).elim
  | some s =>
    obtain ⟨p, q, r⟩ := sdO_some h
    rw [vl_uni hv p ht (q.trans e1.symm) (r.trans e2.symm)]
/-- The opposite side. -/
def op (m : Mesh) (t : Nat) : Option Nat := acO m (t / 3) (t % 3)
theorem op_eq (m : Mesh) (t : Nat) : op m t = sdO m (en m t) (st m t) := rfl
theorem op_at (m : Mesh) {i k : Nat} (hk : k < 3) : op m (3 * i + k) = acO m i k := by
  unfold op; rw [show (3 * i + k) / 3 = i by omega, show (3 * i + k) % 3 = k by omega]
/-- The next side of the face. -/
def nx (t : Nat) : Nat := 3 * (t / 3) + (t % 3 + 1) % 3
theorem nx_st (m : Mesh) (t : Nat) : st m (nx t) = en m t := by
  unfold nx
  rw [st_at m (Nat.mod_lt _ (by omega)), cor_mod]; rfl
theorem hed {m : Mesh} (hv : vlB m = true) : Hed (op m) nx (3 * m.F.n) := by
  refine ⟨fun x y _ h => (sdO_some h).1, fun x y hx h => ?_, fun x hx => ?_, fun x x' _ _ e => ?_⟩
  · obtain ⟨p, q, r⟩ := sdO_some h
    rw [op_eq, q, r]
    exact sdO_uni hv hx rfl rfl
  · unfold nx; omega
  · unfold nx at e; omega
theorem nb_iff (m : Mesh) (i k : Nat) : nb m i k = -1 ↔ acO m i k = none := by
  unfold nb
  cases acO m i k with
  | none => simp
  | some t => simp; omega
/-- The sides of the first t, as a map's contents. -/
noncomputable def sdF (m : Mesh) : Nat → Value → Option Value
  | 0, _ => none
  | t + 1, x => open Classical in if x = k2 (st m t) (en m t) then some (.int .i64 ((t / 3 : Nat) : Int)) else sdF m t x
theorem sdF_same (m : Mesh) {i k : Nat} (hk : k < 3) : sdF m (3 * i + (k + 1)) (k2 (cor (m.F.D i) k) (cor (m.F.D i) (k + 1))) = some (.int .i64 (i : Int)) := by
  show sdF m (3 * i + k + 1) _ = _
  rw [sdF, st_at m hk, en_at m hk, if_pos rfl, show (3 * i + k) / 3 = i by omega]
theorem sdF_ne (m : Mesh) {i k : Nat} (hk : k < 3) (x : Value) (h : x ≠ k2 (cor (m.F.D i) k) (cor (m.F.D i) (k + 1))) : sdF m (3 * i + (k + 1)) x = sdF m (3 * i + k) x := by
  show sdF m (3 * i + k + 1) _ = _
  rw [sdF, st_at m hk, en_at m hk, if_neg h]
theorem sdF_fst {m : Mesh} (hv : vlB m = true) (a b : Int) : ∀ N, N ≤ 3 * m.F.n → sdF m N (k2 a b) = (Ba.fst (sdA m a b) N).map fun t => Value.int .i64 ((t / 3 : Nat) : Int)
  | 0, _ => rfl
  | t + 1, ht => by
    rw [sdF]
    have ih := sdF_fst hv a b t (by omega)
    by_cases c : k2 a b = k2 (st m t) (en m t)
    · rw [if_pos c]
      obtain ⟨e1, e2⟩ := k2_inj c
      have hn : Ba.fst (sdA m a b) t = none := by
        cases e : Ba.fst (sdA m a b) t with
        | none => rfl
        | some s =>
          obtain ⟨p, q, -⟩ := Ba.fst_some e
          obtain ⟨q1, q2⟩ := sdA_iff.1 q
          have := vl_uni hv (s := s) (t := t) (by omega) (by omega) (q1.trans e1) (q2.trans e2)
          omega
      have := Ba.fst_hit hn (sdA_iff.2 ⟨e1.symm, e2.symm⟩) 0
      rw [show t + 1 + 0 = t + 1 from rfl] at this
      rw [this]; rfl
    · rw [if_neg c, ih]
      have hp : sdA m a b t = false := by
        cases e : sdA m a b t with
        | false => rfl
        | true =>
          obtain ⟨q1, q2⟩ := sdA_iff.1 e
          exact absurd (by rw [q1, q2]) c
      rw [Ba.fst]
      cases e : Ba.fst (sdA m a b) t with
      | none => simp [hp]
      | some s => rfl
/-- What the map answers at a side's other direction. -/
theorem sdF_nb {m : Mesh} (hv : vlB m = true) (i k : Nat) : sdF m (3 * m.F.n) (k2 (cor (m.F.D i) (k + 1)) (cor (m.F.D i) k)) = (acO m i k).map fun t => Value.int .i64 ((t / 3 : Nat) : Int) := sdF_fst hv _ _ _ (Nat.le_refl _)
end Ms
end Go.Proofs.YtajhhplgcegodaaDoor
