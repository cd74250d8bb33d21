/-
  Surfaces: plain: what validity says of the sides; the sides and their opposites. No condition.
  Surfaces: plain: how the borders are found, step by step. No condition.
  Surfaces: the state of Border's loops in memory. No condition.
  Arrays of ints, compared.
  Surfaces: mesh.opposite and mesh.neighbours.
  Surfaces: mesh.neighbours.
  Surfaces: mesh.Neighbours, twice, isFace, Twice, Total. (Printed by mknb.py.)
-/
import Derived.Test.YtajhhplgcegodaaDoorMsV
import Derived.Test.YtajhhplgcegodaaDoorMsBord
import Derived.Test.YtajhhplgcegodaaDoorMsK
import Derived.Test.YtajhhplgcegodaaDoorMsG
import Derived.Test.YtajhhplgcegodaaDoorGr
import Derived.Laws.StructEq
import Derived.Test.YtajhhplgcegodaaDoorMsI
set_option linter.unusedVariables false
set_option linter.unusedSimpArgs false
namespace Go.Proofs.YtajhhplgcegodaaDoor
namespace Ms
theorem idx_nil {p : Nat → Bool} {n : Nat} (h : idx p n = []) (i : Nat) (hi : i < n) : p i = false := by
  cases e : p i with
  | false => rfl
  | true =>
    have := idx_mem.2 ⟨hi, e⟩
    rw [h] at this; cases this
theorem fnd_nil {m : Mesh} : ∀ {K k : Nat}, fnd m K = [] → k < K → ∀ i, i < num m k → kd m k i = false
  | 0, k, _, h => absurd h (by omega)
  | K + 1, k, h, hk => by
    rw [fnd, List.append_eq_nil_iff] at h
    by_cases e : k = K
    · subst e
      intro i hi
      exact idx_nil (List.map_eq_nil_iff.1 h.2) i hi
    · exact fnd_nil h.1 (by omega)
theorem vl_kd {m : Mesh} (h : vlB m = true) {k i : Nat} (hk : k < 7) (hi : i < num m k) : kd m k i = false := by
  unfold vlB at h
  rw [Bool.and_eq_true, List.isEmpty_iff] at h
  exact fnd_nil h.2 hk i hi
theorem vl_fc {m : Mesh} (h : vlB m = true) {i : Nat} (hi : i < m.F.n) : fcB m (m.F.D i) = true := by
  have h3 := vl_kd h (k := 3) (i := i) (by omega) (by unfold num; rw [if_neg (by omega)]; exact hi)
  simpa [kd] using h3
theorem vl_tn {m : Mesh} (h : vlB m = true) {i : Nat} (hi : i < m.F.n) : 0 < tTn (tri m (m.F.D i)) := by
  have h4 := vl_kd h (k := 4) (i := i) (by omega) (by unfold num; rw [if_neg (by omega)]; exact hi)
  have h3 := vl_fc h hi
  simpa [kd, h3] using h4
theorem vl_snd {m : Mesh} (h : vlB m = true) {i : Nat} (hi : i < m.F.n) : sndB m (m.F.D i) = true := by
  unfold sndB
  rw [vl_fc h hi, decide_eq_true (vl_tn h hi)]; rfl
theorem vl_ss {m : Mesh} (h : vlB m = true) {i j : Nat} (hj : j < i) (hi : i < m.F.n) : ssB (m.F.D i) (m.F.D j) = false := by
  have h5 : (sndB m (m.F.D i) && Ba.any (fun j => sndB m (m.F.D j) && ssB (m.F.D i) (m.F.D j)) i) = false := vl_kd h (k := 5) (i := i) (by omega) (by unfold num; rw [if_neg (by omega)]; exact hi)
  rw [vl_snd h hi, Bool.true_and] at h5
  cases e : ssB (m.F.D i) (m.F.D j) with
  | false => rfl
  | true =>
    have := any_hit (p := fun j => sndB m (m.F.D j) && ssB (m.F.D i) (m.F.D j)) (i := j) (n := i) (by rw [vl_snd h (by omega), e]; rfl) hj
    rw [this] at h5; cases h5
theorem cor_0 (f : Ba.Face) : cor f 0 = f.a := rfl
theorem cor_1 (f : Ba.Face) : cor f 1 = f.b := rfl
theorem cor_2 (f : Ba.Face) : cor f 2 = f.c := rfl
theorem cor_3 (f : Ba.Face) : cor f 3 = f.a := rfl
theorem cor_mod (f : Ba.Face) (k : Nat) : cor f (k % 3) = cor f k := by unfold cor; rw [Nat.mod_mod]
theorem cor_ne {m : Mesh} {f : Ba.Face} (h : fcB m f = true) {k l : Nat} (hk : k < 3) (hl : l < 3) (e : cor f k = cor f l) : k = l := by
  unfold fcB at h
  simp only [Bool.and_eq_true, Bool.not_eq_true', beq_eq_false_iff_ne, ne_eq] at h
  obtain ⟨-, -, -, h1, h2, h3, -⟩ := h
  rcases (by omega : k = 0 ∨ k = 1 ∨ k = 2) with rfl | rfl | rfl <;> rcases (by omega : l = 0 ∨ l = 1 ∨ l = 2) with rfl | rfl | rfl <;> simp only [cor_0, cor_1, cor_2] at e <;> first | rfl | exact absurd e h1 | exact absurd e h2 | exact absurd e h3 | exact absurd e.symm h1 | exact absurd e.symm h2 | exact absurd e.symm h3
/-- The start and the end of side t. -/
def st (m : Mesh) (t : Nat) : Int := cor (m.F.D (t / 3)) (t % 3)
def en (m : Mesh) (t : Nat) : Int := cor (m.F.D (t / 3)) (t % 3 + 1)
theorem st_at (m : Mesh) {i k : Nat} (hk : k < 3) : st m (3 * i + k) = cor (m.F.D i) k := by
  unfold st; rw [show (3 * i + k) / 3 = i by omega, show (3 * i + k) % 3 = k by omega]
theorem en_at (m : Mesh) {i k : Nat} (hk : k < 3) : en m (3 * i + k) = cor (m.F.D i) (k + 1) := by
  unfold en; rw [show (3 * i + k) / 3 = i by omega, show (3 * i + k) % 3 = k by omega]
theorem ss_of {f g : Ba.Face} {k l : Nat} (hk : k < 3) (hl : l < 3) (h1 : cor f k = cor g l) (h2 : cor f (k + 1) = cor g (l + 1)) : ssB f g = true := by
  unfold ssB
  refine any_hit (i := k) ?_ hk
  refine any_hit (i := l) ?_ hl
  unfold sdB
  rw [h1, h2, beq_self_eq_true, beq_self_eq_true]; rfl
/-- Each directed side occurs once. -/
theorem vl_uni {m : Mesh} (h : vlB m = true) {s t : Nat} (hs : s < 3 * m.F.n) (ht : t < 3 * m.F.n) (e1 : st m s = st m t) (e2 : en m s = en m t) : s = t := by
  unfold st at e1; unfold en at e2
  rcases Nat.lt_trichotomy (s / 3) (t / 3) with q | q | q
  · have a := vl_ss h q (by omega)
    rw [ss_of (Nat.mod_lt t (by omega)) (Nat.mod_lt s (by omega)) e1.symm e2.symm] at a; cases a
  · rw [q] at e1
    have := cor_ne (vl_fc h (i := t / 3) (by omega)) (Nat.mod_lt s (by omega)) (Nat.mod_lt t (by omega)) e1
    omega
  · have a := vl_ss h q (by omega)
    rw [ss_of (Nat.mod_lt s (by omega)) (Nat.mod_lt t (by omega)) e1 e2] at a; cases a
theorem sdA_iff {m : Mesh} {a b : Int} {t : Nat} : sdA m a b t = true ↔ st m t = a ∧ en m t = b := by
  unfold sdA st en
  rw [Bool.and_eq_true, beq_iff_eq, beq_iff_eq]
theorem sdO_some {m : Mesh} {a b : Int} {t : Nat} (h : sdO m a b = some t) : t < 3 * m.F.n ∧ st m t = a ∧ en m t = b := by
  obtain ⟨p, q, -⟩ := Ba.fst_some h
  exact ⟨p, sdA_iff.1 q⟩
theorem sdO_none {m : Mesh} {a b : Int} (h : sdO m a b = none) {t : Nat} (ht : t < 3 * m.F.n) (e1 : st m t = a) (e2 : en m t = b) : False := by
  have := Ba.fst_some.fst_no h t ht
  rw [sdA_iff.2 ⟨e1, e2⟩] at this; cases this
theorem sdO_uni {m : Mesh} (hv : vlB m = true) {a b : Int} {t : Nat} (ht : t < 3 * m.F.n) (e1 : st m t = a) (e2 : en m t = b) : sdO m a b = some t := by
  cases h : sdO m a b with
  | none => exact (sdO_none h ht e1 e2).elim
  | some s =>
    obtain ⟨p, q, r⟩ := sdO_some h
    rw [vl_uni hv p ht (q.trans e1.symm) (r.trans e2.symm)]
/-- The opposite side. -/
def op (m : Mesh) (t : Nat) : Option Nat := acO m (t / 3) (t % 3)
theorem op_eq (m : Mesh) (t : Nat) : op m t = sdO m (en m t) (st m t) := rfl
theorem op_at (m : Mesh) {i k : Nat} (hk : k < 3) : op m (3 * i + k) = acO m i k := by
  unfold op; rw [show (3 * i + k) / 3 = i by omega, show (3 * i + k) % 3 = k by omega]
/-- The next side of the face. -/
def nx (t : Nat) : Nat := 3 * (t / 3) + (t % 3 + 1) % 3
theorem nx_st (m : Mesh) (t : Nat) : st m (nx t) = en m t := by
  unfold nx
  rw [st_at m (Nat.mod_lt _ (by omega)), cor_mod]; rfl
theorem hed {m : Mesh} (hv : vlB m = true) : Hed (op m) nx (3 * m.F.n) := by
  refine ⟨fun x y _ h => (sdO_some h).1, fun x y hx h => ?_, fun x hx => ?_, fun x x' _ _ e => ?_⟩
  · obtain ⟨p, q, r⟩ := sdO_some h
    rw [op_eq, q, r]
    exact sdO_uni hv hx rfl rfl
  · unfold nx; omega
  · unfold nx at e; omega
theorem nb_iff (m : Mesh) (i k : Nat) : nb m i k = -1 ↔ acO m i k = none := by
  unfold nb
  cases acO m i k with
  | none => simp
  | some t => simp; omega
/-- The sides of the first t, as a map's contents. -/
noncomputable def sdF (m : Mesh) : Nat → Value → Option Value
  | 0, _ => none
  | t + 1, x => open Classical in if x = k2 (st m t) (en m t) then some (.int .i64 ((t / 3 : Nat) : Int)) else sdF m t x
theorem sdF_same (m : Mesh) {i k : Nat} (hk : k < 3) : sdF m (3 * i + (k + 1)) (k2 (cor (m.F.D i) k) (cor (m.F.D i) (k + 1))) = some (.int .i64 (i : Int)) := by
  show sdF m (3 * i + k + 1) _ = _
  rw [sdF, st_at m hk, en_at m hk, if_pos rfl, show (3 * i + k) / 3 = i by omega]
theorem sdF_ne (m : Mesh) {i k : Nat} (hk : k < 3) (x : Value) (h : x ≠ k2 (cor (m.F.D i) k) (cor (m.F.D i) (k + 1))) : sdF m (3 * i + (k + 1)) x = sdF m (3 * i + k) x := by
  show sdF m (3 * i + k + 1) _ = _
  rw [sdF, st_at m hk, en_at m hk, if_neg h]
theorem sdF_fst {m : Mesh} (hv : vlB m = true) (a b : Int) : ∀ N, N ≤ 3 * m.F.n → sdF m N (k2 a b) = (Ba.fst (sdA m a b) N).map fun t => Value.int .i64 ((t / 3 : Nat) : Int)
  | 0, _ => rfl
  | t + 1, ht => by
    rw [sdF]
    have ih := sdF_fst hv a b t (by omega)
    by_cases c : k2 a b = k2 (st m t) (en m t)
    · rw [if_pos c]
      obtain ⟨e1, e2⟩ := k2_inj c
      have hn : Ba.fst (sdA m a b) t = none := by
        cases e : Ba.fst (sdA m a b) t with
        | none => rfl
        | some s =>
          obtain ⟨p, q, -⟩ := Ba.fst_some e
          obtain ⟨q1, q2⟩ := sdA_iff.1 q
          have := vl_uni hv (s := s) (t := t) (by omega) (by omega) (q1.trans e1) (q2.trans e2)
          omega
      have := Ba.fst_hit hn (sdA_iff.2 ⟨e1.symm, e2.symm⟩) 0
      rw [show t + 1 + 0 = t + 1 from rfl] at this
      rw [this]; rfl
    · rw [if_neg c, ih]
      have hp : sdA m a b t = false := by
        cases e : sdA m a b t with
        | false => rfl
        | true =>
          obtain ⟨q1, q2⟩ := sdA_iff.1 e
          exact absurd (by rw [q1, q2]) c
      rw [Ba.fst]
      cases e : Ba.fst (sdA m a b) t with
      | none => simp [hp]
      | some s => rfl
/-- What the map answers at a side's other direction. -/
theorem sdF_nb {m : Mesh} (hv : vlB m = true) (i k : Nat) : sdF m (3 * m.F.n) (k2 (cor (m.F.D i) (k + 1)) (cor (m.F.D i) k)) = (acO m i k).map fun t => Value.int .i64 ((t / 3 : Nat) : Int) := sdF_fst hv _ _ _ (Nat.le_refl _)
end Ms
end Go.Proofs.YtajhhplgcegodaaDoor
namespace Go.Proofs.YtajhhplgcegodaaDoor
namespace Ms
theorem mkL_snoc : ∀ (l : List Nat) (d : Nat → Bool) (h : Nat), mkL d (l ++ [h]) = mk (mkL d l) h
  | [], _, _ => rfl
  | a :: l, d, h => by rw [List.cons_append, mkL, mkL_snoc l (mk d a) h]; rfl
theorem rng_snoc (f : Nat → Nat) : ∀ (k x : Nat), rng f x (k + 1) = rng f x k ++ [itr f x k]
  | 0, _ => rfl
  | k + 1, x => by
    rw [rng, rng_snoc f k (f x), ← itr_succ']; rfl
theorem mkL_rng (f : Nat → Nat) (d : Nat → Bool) (x k t : Nat) : mkL d (rng f x (k + 1)) t = (mkL d (rng f x k) t || decide (t = itr f x k)) := by rw [rng_snoc, mkL_snoc]; rfl
/-- A ring that is not done goes round. -/
theorem brS_go {f : Nat → Nat} {B : Nat → Bool} {N i : Nat} (H : Per f (fun x => B x = true) N) (hi : i < N) (hB : B i = true) (hd : (brS f B N i).1 i = false) :
    ∃ p, 0 < p ∧ p ≤ N ∧ (∀ j, j < p → mkL (brS f B N i).1 (rng f i j) (itr f i j) = false) ∧ mkL (brS f B N i).1 (rng f i p) (itr f i p) = true ∧
      brS f B N (i + 1) = (mkL (brS f B N i).1 (rng f i p), (brS f B N i).2 ++ [rng f i p]) ∧ (∀ j, itr f i j < N ∧ B (itr f i j) = true) := by
  have ih := brS_rings H i (by omega)
  obtain ⟨p, p0, pN, pe, pm⟩ := H.ring hi hB
  have hI := H.itr hi hB
  have hdf : ∀ k, (brS f B N i).1 (itr f i k) = false := by
    intro k
    induction k with
    | zero => exact hd
    | succ k ihk =>
      cases e : (brS f B N i).1 (itr f i (k + 1)) with
      | false => rfl
      | true => rw [(ih.closed _ (hI k).1 (hI k).2).1 e] at ihk; cases ihk
  have hne : ∀ a b, a < b → b < p → itr f i a ≠ itr f i b := by
    intro a b hab hb e
    have := H.back hi hB a (b - a) (by rw [show a + (b - a) = b by omega]; exact e)
    exact pm (b - a) (by omega) (by omega) this
  have hl : trc f N (brS f B N i).1 i = rng f i p := trc_rng f p N _ i pN (fun k _ => hdf k) hne (Or.inr ⟨0, p0, by rw [pe]; rfl⟩)
  refine ⟨p, p0, pN, fun j hj => ?_, ?_, ?_, hI⟩
  · cases e : mkL (brS f B N i).1 (rng f i j) (itr f i j) with
    | false => rfl
    | true =>
      rcases (mkL_iff _ _ _).1 e with h | h
      · rw [hdf j] at h; cases h
      · obtain ⟨q, hq, e2⟩ := (rng_mem f j i _).1 h
        exact absurd e2 (hne q j hq hj)
  · rw [mkL_iff]; right
    rw [rng_mem]
    exact ⟨0, p0, by rw [pe]; rfl⟩
  · rw [brS_succ, hB, hd, hl]; rfl
theorem brS_skip {f : Nat → Nat} {B : Nat → Bool} {N i : Nat} (h : (B i && !(brS f B N i).1 i) = false) : brS f B N (i + 1) = brS f B N i := by rw [brS_succ, h]; rfl
/-- One more step of a chain that ends: fewer are left. -/
theorem steps_lt {g : Nat → Option Nat} {x y N : Nat} (h : it g x N = none) (e : g x = some y) : steps g N y < steps g N x ∧ it g y N = none ∧ last g N y = last g N x := by
  cases N with
  | zero => cases h
  | succ n =>
    rw [it_succ', e] at h
    have h : it g y n = none := h
    have k : it g y (n + 1) = none := by rw [it, h]; rfl
    obtain ⟨a, b⟩ := last_more h (Nat.le_succ n)
    refine ⟨?_, k, ?_⟩
    · rw [b]; simp only [steps, e]; omega
    · rw [a]; simp only [last, e]
theorem last_none {g : Nat → Option Nat} {x N : Nat} (e : g x = none) : last g N x = x := by
  cases N with
  | zero => rfl
  | succ n => simp only [last, e]
/-- The done sides and the rings, up to a side. -/
def bS (m : Mesh) (i : Nat) : (Nat → Bool) × List (List Nat) := brS (phi (op m) nx (3 * m.F.n)) (fun t => (op m t).isNone) (3 * m.F.n) i
/-- The chain behind a border side. -/
theorem bd_ends {m : Mesh} (hv : vlB m = true) {t : Nat} (ht : t < 3 * m.F.n) (ho : op m t = none) : it (rt (op m) nx) (nx t) (3 * m.F.n) = none := (hed hv).ends ht ho
end Ms
end Go.Proofs.YtajhhplgcegodaaDoor
namespace Go.Proofs.YtajhhplgcegodaaDoor
open Go.RowKit
/-- The starts of sides, as cells. -/
def stl (m : Ms.Mesh) (l : List Nat) : List Value := l.map fun t => Value.int .i64 (Ms.st m t)
theorem stl_len (m : Ms.Mesh) (l : List Nat) : (stl m l).length = l.length := by unfold stl; rw [List.length_map]
theorem stl_app (m : Ms.Mesh) (l : List Nat) (t : Nat) : stl m (l ++ [t]) = stl m l ++ [.int .i64 (Ms.st m t)] := by unfold stl; rw [List.map_append]; rfl
/-- The first K values of a family. -/
def vs (V : Nat → Value) : Nat → List Value
  | 0 => []
  | k + 1 => vs V k ++ [V k]
theorem vs_len (V : Nat → Value) : ∀ K, (vs V K).length = K
  | 0 => rfl
  | k + 1 => by rw [vs, List.length_append, vs_len V k]; rfl
theorem vs_congr {V U : Nat → Value} : ∀ {K : Nat}, (∀ k, k < K → V k = U k) → vs V K = vs U K
  | 0, _ => rfl
  | k + 1, h => by rw [vs, vs, vs_congr fun j hj => h j (by omega), h k (by omega)]
theorem vs_get (V : Nat → Value) : ∀ {K k : Nat}, k < K → (vs V K)[k]? = some (V k)
  | 0, k, h => absurd h (by omega)
  | K + 1, k, h => by
    rw [vs]
    by_cases e : k = K
    · subst e; rw [List.getElem?_append_right (by rw [vs_len]; omega), vs_len, Nat.sub_self]; rfl
    · rw [List.getElem?_append_left (by rw [vs_len]; omega)]; exact vs_get V (by omega)
/-- Rows of rows, and the row that is being made. -/
structure Brd (m : Ms.Mesh) (base : Nat) (W : World) (v b : Value) (V : Nat → Value) (L : List (List Nat)) (bl : List Nat) : Prop where
  out : W.ownsRow base 44 1 v L.length (vs V L.length)
  row : ∀ k l, L[k]? = some l → W.ownsRow base 3 1 (V k) l.length (stl m l)
  cur : W.ownsRow base 3 1 b bl.length (stl m bl)
  a1 : Apt v b
  a2 : ∀ k, k < L.length → Apt (V k) v ∧ Apt (V k) b
section
variable {m : Ms.Mesh} {base : Nat} {W W1 : World} {v b : Value} {V : Nat → Value} {L : List (List Nat)} {bl : List Nat}
theorem Brd.nil (m : Ms.Mesh) (base : Nat) (W : World) : Brd m base W (.slice none 0 0) (.slice none 0 0) (fun _ => .slice none 0 0) [] [] :=
  ⟨World.ownsRow_nil _ _ _ _, fun k l h => by simp at h, World.ownsRow_nil _ _ _ _, .inl rfl, fun k h => absurd h (by simp)⟩
theorem Brd.gr (h : Brd m base W v b V L bl) (hg : Gr W W1) : Brd m base W1 v b V L bl :=
  ⟨ownsRow_gr h.out hg, fun k l hl => ownsRow_gr (h.row k l hl) hg, ownsRow_gr h.cur hg, h.a1, h.a2⟩
theorem Brd.grx {D : Nat} (h : Brd m base W v b V L bl) (hg : GrX D W W1) (hD : D < base) : Brd m base W1 v b V L bl :=
  ⟨ownsRow_grx h.out hg (own_ne h.out hD), fun k l hl => ownsRow_grx (h.row k l hl) hg (own_ne (h.row k l hl) hD), ownsRow_grx h.cur hg (own_ne h.cur hD), h.a1, h.a2⟩
theorem Brd.lower (h : Brd m base W v b V L bl) {B : Nat} (hB : B ≤ base) : Brd m B W v b V L bl :=
  ⟨ownsRow_base h.out hB, fun k l hl => ownsRow_base (h.row k l hl) hB, ownsRow_base h.cur hB, h.a1, h.a2⟩
/-- The row that is being made is begun anew. -/
theorem Brd.fresh (h : Brd m base W v b V L bl) : Brd m base W v (.slice none 0 0) V L [] :=
  ⟨h.out, h.row, World.ownsRow_nil _ _ _ _, Apt.symm (.inl rfl), fun k hk => ⟨(h.a2 k hk).1, Apt.symm (.inl rfl)⟩⟩
/-- A side has been appended. -/
theorem Brd.push {g cap t n : Nat} (h : Brd m base W v b V L bl) (ho : W1.ownsRow base 3 1 (.slice (some ⟨g, 0, none⟩) n cap) n (stl m bl ++ [.int .i64 (Ms.st m t)])) (hn : n = (bl ++ [t]).length) (hgr : W.grownBy W1 b.ownBlock) (hat : b.ownBlock = some g ∨ g = W.heap.size) :
    Brd m base W1 v (.slice (some ⟨g, 0, none⟩) n cap) V L (bl ++ [t]) := by
  refine ⟨h.out.kept hgr h.a1, fun k l hl => (h.row k l hl).kept hgr (h.a2 k (List.getElem?_eq_some_iff.1 hl).1).2, ?_, ?_, fun k hk => ⟨(h.a2 k hk).1, ?_⟩⟩
  · rw [← hn, stl_app]; exact ho
  · exact apt_new h.out h.a1 hat
  · obtain ⟨l, hl⟩ : ∃ l, L[k]? = some l := ⟨_, List.getElem?_eq_getElem hk⟩
    exact apt_new (h.row k l hl) (h.a2 k hk).2 hat
/-- The row that was made has been appended. -/
theorem Brd.done {g cap n : Nat} (h : Brd m base W v b V L bl) (ho : W1.ownsRow base 44 1 (.slice (some ⟨g, 0, none⟩) n cap) n (vs V L.length ++ [b])) (hn : n = (L ++ [bl]).length) (hgr : W.grownBy W1 v.ownBlock) (hat : v.ownBlock = some g ∨ g = W.heap.size) :
    Brd m base W1 (.slice (some ⟨g, 0, none⟩) n cap) (.slice none 0 0) (upd V L.length b) (L ++ [bl]) [] := by
  have hlen : (L ++ [bl]).length = L.length + 1 := by simp
  have hb := h.cur.kept hgr h.a1.symm
  refine ⟨?_, fun k l hl => ?_, World.ownsRow_nil _ _ _ _, Apt.symm (.inl rfl), fun k hk => ⟨?_, Apt.symm (.inl rfl)⟩⟩
  · rw [← hn, hn, hlen, vs, upd_same, vs_congr (U := V) (fun k hk => upd_ne _ _ (by omega)), ← hlen, ← hn]; exact ho
  · by_cases e : k = L.length
    · subst e
      rw [List.getElem?_append_right (Nat.le_refl _), Nat.sub_self] at hl
      obtain rfl : bl = l := by simpa using hl
      rw [upd_same]; exact hb
    · have hk : k < L.length := by have := (List.getElem?_eq_some_iff.1 hl).1; omega
      rw [List.getElem?_append_left hk] at hl
      rw [upd_ne _ _ e]
      exact (h.row k l hl).kept hgr (h.a2 k hk).1
  · by_cases e : k = L.length
    · subst e; rw [upd_same]; exact apt_new h.cur h.a1.symm hat
    · have hk' : k < L.length := by omega
      rw [upd_ne _ _ e]
      obtain ⟨l, hl⟩ : ∃ l, L[k]? = some l := ⟨_, List.getElem?_eq_getElem hk'⟩
      exact apt_new (h.row k l hl) (h.a2 k hk').1 hat
end
/-- A made row of elements of three cells. -/
theorem made_row3 {w : World} {base e g n : Nat} {z : Value} (h : w.ownsRow base e 3 (.slice (some ⟨g, 0, none⟩) n n) n (madeCells #[z, z, z] (n * 3)).toList) : Row w g (3 * n) (fun _ => z) := by
  obtain ⟨hl, ⟨h1, -⟩ | ⟨g', cap, cur, hv, hb, hc, h3, h4, h5, h6⟩⟩ := h
  · cases h1
  · simp only [Value.slice.injEq, Option.some.injEq, Addr.mk.injEq] at hv
    obtain ⟨⟨rfl, -, -⟩, -, rfl⟩ := hv
    rw [List.take_of_length_le (by simp [h5])] at h6
    intro j hj
    have hz : cur.toList[j]? = some z := by
      have hj' : j < n * 3 := by omega
      have e1 : (madeCells #[z, z, z] (n * 3)).toList[j]? = some (#[z, z, z][j % 3]!) := by simp [madeCells, hj']
      rw [h6, e1]
      have h3' : j % 3 = 0 ∨ j % 3 = 1 ∨ j % 3 = 2 := by omega
      rcases h3' with e | e | e <;> rw [e] <;> rfl
    refine ⟨?_, ?_⟩
    · simp only [World.cell?, hc]; simpa using hz
    · simp only [World.frozen?, hc]; simp
end Go.Proofs.YtajhhplgcegodaaDoor
namespace Go.Proofs.YtajhhplgcegodaaDoor
open Go.RowKit
theorem ms_eq2g : Tryd.prog.eqGuardType Tryd.prog.depth 48 = false := by kernel_rfl
theorem ms_eq3g : Tryd.prog.eqGuardType Tryd.prog.depth 47 = false := by kernel_rfl
theorem ms_eq2 (a b c d : Int) (w : World) : (binOp .eql 48 (.agg #[.int .i64 a, .int .i64 b]) (.agg #[.int .i64 c, .int .i64 d])).run Tryd.prog w = .ok (.bool (a == c && b == d)) w := by
  have hi : Tryd.prog.underlying 3 = some (.int .i64) := Tryd.underlying3
  rw [run_eql_struct, show (10000 : Nat) = 9998 + 1 + 1 from rfl]
  conv => lhs; unfold Op.equalIn
  simp only [Sem.run_bind, run_underlying Tryd.underlying48, Result.andThen_ok]
  simp only [Std.Legacy.Range.forIn_eq_forIn_range', Std.Legacy.Range.size, Nat.sub_zero, Nat.add_one_sub_one, Nat.div_one, List.range']
  go_simp
  by_cases h1 : a = c <;> by_cases h2 : b = d <;> simp [h1, h2]
theorem ms_eq3 (a b c d e f : Int) (w : World) : (binOp .eql 47 (.agg #[.int .i64 a, .int .i64 b, .int .i64 c]) (.agg #[.int .i64 d, .int .i64 e, .int .i64 f])).run Tryd.prog w = .ok (.bool (a == d && (b == e && c == f))) w := by
  have hi : Tryd.prog.underlying 3 = some (.int .i64) := Tryd.underlying3
  rw [run_eql_struct, show (10000 : Nat) = 9998 + 1 + 1 from rfl]
  conv => lhs; unfold Op.equalIn
  simp only [Sem.run_bind, run_underlying Tryd.underlying47, Result.andThen_ok]
  simp only [Std.Legacy.Range.forIn_eq_forIn_range', Std.Legacy.Range.size, Nat.sub_zero, Nat.add_one_sub_one, Nat.div_one, List.range']
  go_simp
  by_cases h1 : a = d <;> by_cases h2 : b = e <;> by_cases h3 : c = f <;> simp [h1, h2, h3]
end Go.Proofs.YtajhhplgcegodaaDoor
namespace Go.Proofs.YtajhhplgcegodaaDoor
open Go.RowKit
namespace Ms
def opB (f : Ba.Face) (a b : Int) (k : Nat) : Bool := cor f k == b && cor f (k + 1) == a
/-- The first side of a face that goes from b to a; -1 if there is none. -/
def opI (f : Ba.Face) (a b : Int) : Int := Ba.fstI (opB f a b) 3
end Ms
set_option maxRecDepth 100000 in
set_option maxHeartbeats 4000000 in
theorem ms_opp (f : Ba.Face) (a b : Int) (w : World) : Calls Tryd.prog 71 #[f.val, .agg #[.int .i64 a, .int .i64 b]] w fun e w' => e = .returned (.int .i64 (Ms.opI f a b)) ∧ Gr w w' := by
  have HHIT := Lib.hid (fun k (h : Ba.fst (Ms.opB f a b) k = none) hp (hk : k < 3) => show Ms.opI f a b = (k : Int) from Ba.fstI_hit h hp hk)
  have HMISS := Lib.hid (fun k (h : Ba.fst (Ms.opB f a b) k = none) hp => Ba.fst_miss (i := k) h hp)
  have HNO := Lib.hid (fun (h : Ba.fst (Ms.opB f a b) 3 = none) => show Ms.opI f a b = -1 from Ba.fstI_none h)
  have HS := Lib.hid (fun k hk W => ms_side f k hk W)
  have HP := Lib.hid (fun k => show Ms.opB f a b k = (Ms.cor f k == b && Ms.cor f (k + 1) == a) from rfl)
  have EP := Lib.hid (fun x y W => ms_eq2 x y b a W)
  unfold Ba.Face.val at *
  generalize Ms.opI f a b = RV at *
  generalize Ms.opB f a b = P at *
  go_enter Tryd.func71, Tryd.ntmps71
  go_wp2_with fail
  -- @a
  obtain ⟨W0, hW0⟩ : ∃ W, ((w.alloc (Obj.cells #[.int .i64 f.a, .int .i64 f.b, .int .i64 f.c, .int .i64 f.k] 43)).alloc (Obj.cells #[.int .i64 a, .int .i64 b] 48)) = W := ⟨_, rfl⟩
  have g0 : Gr w W0 := hW0 ▸ (Gr.trans (Gr.alloc (Gr.refl w) _) (Gr.alloc (Gr.refl _) _))
  have f0 : W0.cell? ⟨w.heap.size, 0, none⟩ = some (.int .i64 f.a) := by rw [← hW0]; simp [go_sem]
  have f1 : W0.cell? ⟨w.heap.size, 1, none⟩ = some (.int .i64 f.b) := by rw [← hW0]; simp [go_sem]
  have f2 : W0.cell? ⟨w.heap.size, 2, none⟩ = some (.int .i64 f.c) := by rw [← hW0]; simp [go_sem]
  have f3 : W0.cell? ⟨w.heap.size, 3, none⟩ = some (.int .i64 f.k) := by rw [← hW0]; simp [go_sem]
  have s0 : W0.cell? ⟨w.heap.size + 1, 0, none⟩ = some (.int .i64 a) := by rw [← hW0]; simp [go_sem]
  have s1 : W0.cell? ⟨w.heap.size + 1, 1, none⟩ = some (.int .i64 b) := by rw [← hW0]; simp [go_sem]
  rw [hW0]
  clear hW0
  -- @b
  go_loopw [6] (fun x wr => ∃ k : Nat, k ≤ 3 ∧ x = .int .i64 (k : Int) ∧ Hid (Ba.fst P k = none) ∧ Gr W0 wr) (fun x _ => 3 - (intOf x).toNat)
  case atStart => exact ⟨0, by omega, rfl, Lib.hid rfl, Gr.refl _⟩
  case round =>
    obtain ⟨k, hk, rfl, HQ, hg⟩ := hrel
    rename World => W1
    by_cases hlk : k < 3
    · have kb0 : (0 : Int) ≤ (k : Int) := by omega
      have kb1 : (k : Int) < 3 := by omega
      replace f0 := Gr.at hg f0; replace f1 := Gr.at hg f1; replace f2 := Gr.at hg f2; replace f3 := Gr.at hg f3; replace s0 := Gr.at hg s0; replace s1 := Gr.at hg s1
      have HC1 := Lib.hid (HS.out k hlk)
      have HPk := HP.out k
      generalize Ms.cor f k = x at *; generalize Ms.cor f (k + 1) = y at *
      have EPk := EP.out x y
      clear HS HP EP
      cases e1 : (x == b && y == a)
      · rw [e1] at HPk EPk
        have HN := Lib.hid (HMISS.out k HQ.out HPk)
        clear HPk HMISS HHIT HNO HQ e1
        have eg := ms_eq2g
        -- @c
        go_wp2_with fail
        -- @d
        (first | refine name_world ?_ | refine (show (∀ W, W = _ → Calls _ _ _ W _) → Calls _ _ _ _ _ from fun h => h _ rfl) ?_); intro W6 hW6
        have g6 : Gr w W6 := by rw [hW6]; exact gr_auto
        have gb6_W1 : Gr W1 W6 := by (try clear g6); rw [hW6]; exact gr_auto
        have k6_0 : W6.cell? ⟨w.heap.size, 0, none⟩ = some (.int .i64 f.a) := by rw [hW6]; first | (simp [go_sem, *]; done) | (refine Gr.at ?_ (by assumption); exact gr_auto)
        have b6_0 : w.heap.size < W6.heap.size := World.block_lt_of_cell? _ _ k6_0
        have k6_1 : W6.cell? ⟨w.heap.size, 1, none⟩ = some (.int .i64 f.b) := by rw [hW6]; first | (simp [go_sem, *]; done) | (refine Gr.at ?_ (by assumption); exact gr_auto)
        have k6_2 : W6.cell? ⟨w.heap.size, 2, none⟩ = some (.int .i64 f.c) := by rw [hW6]; first | (simp [go_sem, *]; done) | (refine Gr.at ?_ (by assumption); exact gr_auto)
        have k6_3 : W6.cell? ⟨w.heap.size, 3, none⟩ = some (.int .i64 f.k) := by rw [hW6]; first | (simp [go_sem, *]; done) | (refine Gr.at ?_ (by assumption); exact gr_auto)
        have k6_4 : W6.cell? ⟨w.heap.size + 1, 0, none⟩ = some (.int .i64 a) := by rw [hW6]; first | (simp [go_sem, *]; done) | (refine Gr.at ?_ (by assumption); exact gr_auto)
        have b6_4 : w.heap.size + 1 < W6.heap.size := World.block_lt_of_cell? _ _ k6_4
        have k6_5 : W6.cell? ⟨w.heap.size + 1, 1, none⟩ = some (.int .i64 b) := by rw [hW6]; first | (simp [go_sem, *]; done) | (refine Gr.at ?_ (by assumption); exact gr_auto)
        clear hW6
        have s6_0 : ∀ gw : GW W6, gw.1.cell? ⟨w.heap.size, 0, none⟩ = some (.int .i64 f.a) := fun gw => Gr.at gw.2 k6_0
        have s6_1 : ∀ gw : GW W6, gw.1.cell? ⟨w.heap.size, 1, none⟩ = some (.int .i64 f.b) := fun gw => Gr.at gw.2 k6_1
        have s6_2 : ∀ gw : GW W6, gw.1.cell? ⟨w.heap.size, 2, none⟩ = some (.int .i64 f.c) := fun gw => Gr.at gw.2 k6_2
        have s6_3 : ∀ gw : GW W6, gw.1.cell? ⟨w.heap.size, 3, none⟩ = some (.int .i64 f.k) := fun gw => Gr.at gw.2 k6_3
        have s6_4 : ∀ gw : GW W6, gw.1.cell? ⟨w.heap.size + 1, 0, none⟩ = some (.int .i64 a) := fun gw => Gr.at gw.2 k6_4
        have s6_5 : ∀ gw : GW W6, gw.1.cell? ⟨w.heap.size + 1, 1, none⟩ = some (.int .i64 b) := fun gw => Gr.at gw.2 k6_5
        have Q1 := Lib.hid (fun gw : GW W6 => gw_call (HC1.out gw.1))
        refine wp_region_gr (by kernel_rfl) (by kernel_rfl) ?_
        repeat (go_big_quiet_step ((go_at_call 58; with_reducible exact Q1.out _)))
        refine wpQuiet_nil ?_
        intro w7 hb7
        clear s6_0 s6_1 s6_2 s6_3 s6_4 s6_5
        have g7 : Gr w w7 := g6.trans hb7
        have k6_0 := Gr.at hb7 k6_0
        have k6_1 := Gr.at hb7 k6_1
        have k6_2 := Gr.at hb7 k6_2
        have k6_3 := Gr.at hb7 k6_3
        have k6_4 := Gr.at hb7 k6_4
        have k6_5 := Gr.at hb7 k6_5
        -- @e
        clear EPk eg
        go_wp2_with fail
        go_roundw
        case rel => exact ⟨k + 1, by omega, by go_num, HN, hg.trans (gb6_W1.trans hb7)⟩
        case measure => simp [intOf]; omega
      · rw [e1] at HPk EPk
        have HN := Lib.hid (HHIT.out k HQ.out HPk hlk)
        clear HPk HMISS HHIT HNO HQ e1
        have eg := ms_eq2g
        go_wp2_with fail
        (first | refine name_world ?_ | refine (show (∀ W, W = _ → Calls _ _ _ W _) → Calls _ _ _ _ _ from fun h => h _ rfl) ?_); intro W6 hW6
        have g6 : Gr w W6 := by rw [hW6]; exact gr_auto
        have gb6_W1 : Gr W1 W6 := by (try clear g6); rw [hW6]; exact gr_auto
        have k6_0 : W6.cell? ⟨w.heap.size, 0, none⟩ = some (.int .i64 f.a) := by rw [hW6]; first | (simp [go_sem, *]; done) | (refine Gr.at ?_ (by assumption); exact gr_auto)
        have b6_0 : w.heap.size < W6.heap.size := World.block_lt_of_cell? _ _ k6_0
        have k6_1 : W6.cell? ⟨w.heap.size, 1, none⟩ = some (.int .i64 f.b) := by rw [hW6]; first | (simp [go_sem, *]; done) | (refine Gr.at ?_ (by assumption); exact gr_auto)
        have k6_2 : W6.cell? ⟨w.heap.size, 2, none⟩ = some (.int .i64 f.c) := by rw [hW6]; first | (simp [go_sem, *]; done) | (refine Gr.at ?_ (by assumption); exact gr_auto)
        have k6_3 : W6.cell? ⟨w.heap.size, 3, none⟩ = some (.int .i64 f.k) := by rw [hW6]; first | (simp [go_sem, *]; done) | (refine Gr.at ?_ (by assumption); exact gr_auto)
        have k6_4 : W6.cell? ⟨w.heap.size + 1, 0, none⟩ = some (.int .i64 a) := by rw [hW6]; first | (simp [go_sem, *]; done) | (refine Gr.at ?_ (by assumption); exact gr_auto)
        have b6_4 : w.heap.size + 1 < W6.heap.size := World.block_lt_of_cell? _ _ k6_4
        have k6_5 : W6.cell? ⟨w.heap.size + 1, 1, none⟩ = some (.int .i64 b) := by rw [hW6]; first | (simp [go_sem, *]; done) | (refine Gr.at ?_ (by assumption); exact gr_auto)
        clear hW6
        have s6_0 : ∀ gw : GW W6, gw.1.cell? ⟨w.heap.size, 0, none⟩ = some (.int .i64 f.a) := fun gw => Gr.at gw.2 k6_0
        have s6_1 : ∀ gw : GW W6, gw.1.cell? ⟨w.heap.size, 1, none⟩ = some (.int .i64 f.b) := fun gw => Gr.at gw.2 k6_1
        have s6_2 : ∀ gw : GW W6, gw.1.cell? ⟨w.heap.size, 2, none⟩ = some (.int .i64 f.c) := fun gw => Gr.at gw.2 k6_2
        have s6_3 : ∀ gw : GW W6, gw.1.cell? ⟨w.heap.size, 3, none⟩ = some (.int .i64 f.k) := fun gw => Gr.at gw.2 k6_3
        have s6_4 : ∀ gw : GW W6, gw.1.cell? ⟨w.heap.size + 1, 0, none⟩ = some (.int .i64 a) := fun gw => Gr.at gw.2 k6_4
        have s6_5 : ∀ gw : GW W6, gw.1.cell? ⟨w.heap.size + 1, 1, none⟩ = some (.int .i64 b) := fun gw => Gr.at gw.2 k6_5
        have Q1 := Lib.hid (fun gw : GW W6 => gw_call (HC1.out gw.1))
        refine wp_region_gr (by kernel_rfl) (by kernel_rfl) ?_
        repeat (go_big_quiet_step ((go_at_call 58; with_reducible exact Q1.out _)))
        refine wpQuiet_nil ?_
        intro w7 hb7
        clear s6_0 s6_1 s6_2 s6_3 s6_4 s6_5
        have g7 : Gr w w7 := g6.trans hb7
        have k6_0 := Gr.at hb7 k6_0
        have k6_1 := Gr.at hb7 k6_1
        have k6_2 := Gr.at hb7 k6_2
        have k6_3 := Gr.at hb7 k6_3
        have k6_4 := Gr.at hb7 k6_4
        have k6_5 := Gr.at hb7 k6_5
        clear EPk eg
        go_wp2_with fail
        -- @f
        go_ret
        exact ⟨by rw [HN.out]; rfl, g0.trans (hg.trans (gb6_W1.trans hb7))⟩
    · obtain rfl : k = 3 := by omega
      have HN := Lib.hid (HNO.out HQ.out)
      go_wp2_with fail
      -- @g
      go_ret
      exact ⟨by rw [HN.out]; rfl, g0.trans hg⟩
end Go.Proofs.YtajhhplgcegodaaDoor
namespace Go.Proofs.YtajhhplgcegodaaDoor
open Go.RowKit
/-- The neighbours of a surface's faces, in a new block. -/
def RetNear (m : Ms.Mesh) (w : World) (w' : World) (v : Value) : Prop := ∃ G, v = .slice (some ⟨G, 0, none⟩) m.F.n m.F.n ∧ w.heap.size ≤ G ∧ (∀ t, t < 3 * m.F.n → w'.cell? ⟨G, t, none⟩ = some (.int .i64 (Ms.nb m (t / 3) (t % 3)))) ∧ Gr w w'
theorem zero_int (w : World) : (zeroValue 3).run Tryd.prog w = .ok (.int .i64 0) w := by kernel_rfl
/-- The neighbours ahead of side t0; zeros behind. -/
def nbX (m : Ms.Mesh) (t0 t : Nat) : Value := .int .i64 (if t < t0 then Ms.nb m (t / 3) (t % 3) else 0)
theorem nbX_none (m : Ms.Mesh) : (fun _ => Value.int .i64 0) = nbX m 0 := by funext t; unfold nbX; rw [if_neg (by omega)]
theorem nbX_zero (m : Ms.Mesh) {t0 t : Nat} (h : t0 ≤ t) : nbX m t0 t = .int .i64 0 := by unfold nbX; rw [if_neg (by omega)]
theorem nbX_new (m : Ms.Mesh) (i k : Nat) (hk : k < 3) : nbX m (3 * i + (k + 1)) (i * 3 + k) = .int .i64 (Ms.nb m i k) := by unfold nbX; rw [if_pos (by omega), show (i * 3 + k) / 3 = i by omega, show (i * 3 + k) % 3 = k by omega]
theorem nbX_old (m : Ms.Mesh) (i k j : Nat) (h : j ≠ i * 3 + k) : nbX m (3 * i + (k + 1)) j = nbX m (3 * i + k) j := by
  unfold nbX
  by_cases c : j < 3 * i + k
  · rw [if_pos c, if_pos (by omega)]
  · rw [if_neg c, if_neg (by omega)]
set_option maxRecDepth 100000 in
set_option maxHeartbeats 4000000 in
theorem ms_near (m : Ms.Mesh) (w : World) (h : m.F.At w) (hv : Ms.vlB m = true) (hn : m.F.n ≤ 61) : Calls Tryd.prog 70 #[m.val] w fun e w' => ∃ v, e = .returned v ∧ RetNear m w w' v := by
  have HFP := Lib.hid (fun i (hi : i < m.F.n) => h.hD i hi)
  have HFA := Lib.hid h.hA
  have hfc := h.hc; have hfb := h.hb
  have HSD := Lib.hid (fun i k (hk : k < 3) W => ms_side (m.F.D i) k hk W)
  have HSAME := Lib.hid (fun i k (hk : k < 3) => Ms.sdF_same m (i := i) hk)
  have HNE := Lib.hid (fun i k (hk : k < 3) => Ms.sdF_ne m (i := i) hk)
  have HNB := Lib.hid (fun i k => Ms.sdF_nb hv i k)
  obtain ⟨ig, hi0, hz0, hz1, hz2⟩ := info_parts info_nb
  have GI := Lib.hid hi0; have GI0 := Lib.hid hz0; have GI1 := Lib.hid hz1; have GI2 := Lib.hid hz2
  clear hi0 hz0 hz1 hz2 h
  unfold Ms.Mesh.val at *
  unfold RetNear
  generalize m.S.A = sA at *; generalize m.S.n = sn at *; generalize m.S.c = sc at *
  obtain ⟨fA, hfA⟩ : ∃ A, m.F.A = A := ⟨_, rfl⟩; obtain ⟨fn, hfn⟩ : ∃ n, m.F.n = n := ⟨_, rfl⟩; obtain ⟨fc', hfc'⟩ : ∃ c, m.F.c = c := ⟨_, rfl⟩
  rw [hfA, hfn, hfc']
  rw [hfA, hfn] at HFA
  rw [hfn] at HFP hfc HNB hn
  rw [hfc'] at hfc hfb
  clear hfA hfn hfc'
  have hmm := @run_makeMap Tryd.prog
  go_enter Tryd.func70, Tryd.ntmps70
  go_wp2_with fail
  -- @a
  obtain ⟨MB, hMB⟩ : ∃ B, w.heap.size + 1 = B := ⟨_, rfl⟩
  obtain ⟨W0, hW0⟩ : ∃ W, ((w.alloc (Obj.cells #[.slice sA sn sc, .slice fA fn fc'] 25)).alloc (.map #[] 0)) = W := ⟨_, rfl⟩
  have g0 : Gr w W0 := hW0 ▸ (Gr.trans (Gr.alloc (Gr.refl w) _) (Gr.alloc (Gr.refl _) _))
  have d1 : W0.cell? ⟨w.heap.size, 1, none⟩ = some (.slice fA fn fc') := by rw [← hW0]; simp [go_sem]
  have HM0 := Lib.hid (show MapIs Tryd.prog 48 W0 MB 0 (Ms.sdF m 0) from by
    have e : (fun _ => none) = Ms.sdF m 0 := rfl
    rw [← hW0, ← hMB, ← e]
    exact map_made (by simp))
  rw [hW0, hMB]
  have hMw : w.heap.size < MB := by omega
  clear hW0 hMB hmm
  -- @b
  go_loopw [18] (fun x wr => ∃ i : Nat, i ≤ fn ∧ x = .int .i64 (i : Int) ∧ Hid (MapIs Tryd.prog 48 wr MB (3 * i) (Ms.sdF m (3 * i))) ∧ GrX MB W0 wr) (fun x _ => fn - (intOf x).toNat)
  case atStart => exact ⟨0, Nat.zero_le _, rfl, HM0, GrX.refl _ _⟩
  case round =>
    clear HM0
    obtain ⟨i, hi, rfl, HM, hg⟩ := hrel
    rename World => W1
    have gw1 := GrX.gr g0 (by omega) hg
    by_cases hlt : i < fn
    · obtain rfl := HFA.out (by omega)
      have ib0 : (0 : Int) ≤ (i : Int) := by omega
      have ib1 : (i : Int) < (fn : Int) := by omega
      obtain ⟨⟨a0, a1, a2, a3⟩, fo⟩ := HFP.out i hlt
      replace a0 := Gr.at gw1 a0; replace a1 := Gr.at gw1 a1; replace a2 := Gr.at gw1 a2; replace a3 := Gr.at gw1 a3
      have hMl := HM.out.lt
      have HS := Lib.hid (fun k (hk : k < 3) W => HSD.out i k hk W)
      have HSm := Lib.hid (fun k hk => HSAME.out i k hk); have HNe := Lib.hid (fun k hk => HNE.out i k hk)
      clear HSD HSAME HNE HNB HFP HFA
      obtain ⟨f, hf⟩ : ∃ f, m.F.D i = f := ⟨_, rfl⟩
      simp only [hf] at a0 a1 a2 a3 fo HS HSm HNe
      unfold Ba.Face.val at HS
      have hci : ∀ r, Ba.i64 (Ms.cor f r) := fun r => by unfold Ms.cor; split; exact fo.1; exact fo.2.1; exact fo.2.2.1
      have HCI := Lib.hid hci
      clear hf fo hci
      -- @c
      go_wp2_with fail
      -- @d
      obtain ⟨W2, hW2⟩ : ∃ W, (W1.alloc (Obj.cells #[.int .i64 f.a, .int .i64 f.b, .int .i64 f.c, .int .i64 f.k] 43)) = W := ⟨_, rfl⟩
      have g12 : Gr W1 W2 := hW2 ▸ Gr.alloc (Gr.refl W1) _
      have b0 : W2.cell? ⟨W1.heap.size, 0, none⟩ = some (.int .i64 f.a) := by rw [← hW2]; simp [go_sem]
      have b1 : W2.cell? ⟨W1.heap.size, 1, none⟩ = some (.int .i64 f.b) := by rw [← hW2]; simp [go_sem]
      have b2 : W2.cell? ⟨W1.heap.size, 2, none⟩ = some (.int .i64 f.c) := by rw [← hW2]; simp [go_sem]
      have b3 : W2.cell? ⟨W1.heap.size, 3, none⟩ = some (.int .i64 f.k) := by rw [← hW2]; simp [go_sem]
      have HM2 := Lib.hid (HM.out.gr g12)
      have hg2 := hg.grown g12
      rw [hW2]
      clear hW2 a0 a1 a2 a3 HM hg
      go_loopw [23] (fun x wr => ∃ k : Nat, k ≤ 3 ∧ x = .int .i64 (k : Int) ∧ Hid (MapIs Tryd.prog 48 wr MB (3 * i + k) (Ms.sdF m (3 * i + k))) ∧ GrX MB W2 wr) (fun x _ => 3 - (intOf x).toNat)
      case atStart => exact ⟨0, by omega, rfl, HM2, GrX.refl _ _⟩
      case round =>
        clear HM2
        obtain ⟨k, hk, rfl, HM, hg3⟩ := hrel
        rename World => W3
        by_cases hlk : k < 3
        · have kb0 : (0 : Int) ≤ (k : Int) := by omega
          have kb1 : (k : Int) < 3 := by omega
          replace b0 := GrX.at hg3 (by omega) b0; replace b1 := GrX.at hg3 (by omega) b1; replace b2 := GrX.at hg3 (by omega) b2; replace b3 := GrX.at hg3 (by omega) b3
          have HC := Lib.hid (HS.out k hlk)
          obtain ⟨kl, hkl⟩ := key_side (HCI.out k) (HCI.out (k + 1))
          have HKL := Lib.hid hkl
          have HSm' := Lib.hid (HSm.out k hlk); have HNe' := Lib.hid (HNe.out k hlk)
          clear hkl HS HSm HNe HCI
          -- @e
          go_wp2_with fail
          refine (HC.out _).mono ?_
          rintro e w4 ⟨rfl, hb4⟩
          obtain ⟨w5, hrun, hst, -, hgx⟩ := (HM.out.gr hb4).store (val := .int .i64 (i : Int)) keyed_side Tryd.underlying46 HKL.out
          have HM5 := Lib.hid (hst (Ms.sdF m (3 * i + (k + 1))) HSm'.out HNe'.out)
          unfold Ms.k2 at hrun
          have hg5 := (hg3.grown hb4).trans hgx
          clear hst hgx HM HKL HSm' HNe' HC
          -- @f
          go_wp2_with fail
          -- @g
          go_roundw
          case rel => exact ⟨k + 1, by omega, by go_num, HM5, hg5⟩
          case measure => simp [intOf]; omega
        · obtain rfl : k = 3 := by omega
          have HM5 := Lib.hid (show MapIs Tryd.prog 48 W3 MB (3 * (i + 1)) (Ms.sdF m (3 * (i + 1))) from HM.out)
          have hg5 := hg2.trans hg3
          clear HM
          go_wp2_with fail
          -- @h
          go_roundw
          case rel => exact ⟨i + 1, by omega, by go_num, HM5, hg5⟩
          case measure => simp [intOf]; omega
    · obtain rfl : fn = i := by omega
      replace d1 := GrX.at hg (by omega) d1
      have hMl := HM.out.lt
      have z1 := Gr.size gw1
      clear HSAME HNE hg g0
      -- @j
      go_wp2_with (at_make; refine wpList_make_full _ rfl _ _ _ rfl w.heap.size 47 ig (.agg #[.int .i64 0, .int .i64 0, .int .i64 0]) 3 Tryd.underlying36 GI.out GI0.out GI1.out .i64 .i64 fn fn fn rfl rfl rfl rfl ?d1 ?d2 ?d3 ?_)
      case d1 => rw [GI2.out]; omega
      case d2 => unfold maxLen; omega
      case d3 => exact z1
      intro w2 hown hgrow
      -- @k
      have hg12 : Gr W1 w2 := grown_gr hgrow
      obtain ⟨G, hG⟩ : ∃ B, W1.heap.size = B := ⟨_, rfl⟩
      have HR0 := Lib.hid (made_row3 hown)
      rw [hG] at HR0 ⊢
      have g2 := gw1.trans hg12
      have HM2 := Lib.hid (HM.out.gr hg12)
      replace d1 := Gr.at hg12 d1
      have hGb : G < w2.heap.size := hG ▸ (hown.lt _ rfl).2
      have hMG : MB < G := by omega
      have hwG : w.heap.size < G := by omega
      rw [nbX_none m] at HR0
      have HNX := Lib.hid (fun i k hk => nbX_new m i k hk); have HNO := Lib.hid (fun i k j h => nbX_old m i k j h); have HNZ := Lib.hid (fun i k => nbX_zero m (t0 := 3 * i + k) (t := i * 3 + k) (by omega))
      clear hown hgrow hg12 HM hG z1 gw1 hMl hMw hi
      -- @l
      go_wp2_with fail
      go_loopw [40] (fun x wr => ∃ i : Nat, i ≤ fn ∧ x = .int .i64 (i : Int) ∧ Hid (Row wr G (3 * fn) (nbX m (3 * i))) ∧ GrX G w2 wr) (fun x _ => fn - (intOf x).toNat)
      case atStart => exact ⟨0, Nat.zero_le _, rfl, HR0, GrX.refl _ _⟩
      case round =>
        clear HR0
        obtain ⟨i, hi, rfl, HR, hg⟩ := hrel
        rename World => W3
        have gw3 := GrX.gr g2 (by omega) hg
        have zg := hg.size
        by_cases hlt : i < fn
        · obtain rfl := HFA.out (by omega)
          have ib0 : (0 : Int) ≤ (i : Int) := by omega
          have ib1 : (i : Int) < (fn : Int) := by omega
          obtain ⟨⟨a0, a1, a2, a3⟩, fo⟩ := HFP.out i hlt
          replace a0 := Gr.at gw3 a0; replace a1 := Gr.at gw3 a1; replace a2 := Gr.at gw3 a2; replace a3 := Gr.at gw3 a3
          have HS := Lib.hid (fun k (hk : k < 3) W => HSD.out i k hk W)
          have HB := Lib.hid (fun k => HNB.out i k)
          have HM3 := Lib.hid (HM2.out.grx hg (by omega))
          clear HSD HNB HFP HFA HM2
          obtain ⟨f, hf⟩ : ∃ f, m.F.D i = f := ⟨_, rfl⟩
          simp only [hf] at a0 a1 a2 a3 fo HS HB
          unfold Ba.Face.val at HS
          have hci : ∀ r, Ba.i64 (Ms.cor f r) := fun r => by unfold Ms.cor; split; exact fo.1; exact fo.2.1; exact fo.2.2.1
          have HCI := Lib.hid hci
          clear hf fo hci
          -- @m
          go_wp2_with fail
          obtain ⟨W4, hW4⟩ : ∃ W, (W3.alloc (Obj.cells #[.int .i64 f.a, .int .i64 f.b, .int .i64 f.c, .int .i64 f.k] 43)) = W := ⟨_, rfl⟩
          have g34 : Gr W3 W4 := hW4 ▸ Gr.alloc (Gr.refl W3) _
          have b0 : W4.cell? ⟨W3.heap.size, 0, none⟩ = some (.int .i64 f.a) := by rw [← hW4]; simp [go_sem]
          have b1 : W4.cell? ⟨W3.heap.size, 1, none⟩ = some (.int .i64 f.b) := by rw [← hW4]; simp [go_sem]
          have b2 : W4.cell? ⟨W3.heap.size, 2, none⟩ = some (.int .i64 f.c) := by rw [← hW4]; simp [go_sem]
          have b3 : W4.cell? ⟨W3.heap.size, 3, none⟩ = some (.int .i64 f.k) := by rw [← hW4]; simp [go_sem]
          have HM4 := Lib.hid (HM3.out.gr g34)
          have HR4 := Lib.hid (HR.out.gr g34)
          have hg4 := hg.grown g34
          have hGW : G < W3.heap.size := by omega
          rw [hW4]
          clear hW4 a0 a1 a2 a3 HM3 HR hg g34 gw3 zg
          -- @n
          go_loopw [45] (fun x wr => ∃ k : Nat, k ≤ 3 ∧ x = .int .i64 (k : Int) ∧ Hid (Row wr G (3 * fn) (nbX m (3 * i + k))) ∧ GrX G W4 wr) (fun x _ => 3 - (intOf x).toNat)
          case atStart => exact ⟨0, by omega, rfl, HR4, GrX.refl _ _⟩
          case round =>
            clear HR4
            obtain ⟨k, hk, rfl, HR, hg5⟩ := hrel
            rename World => W5
            by_cases hlk : k < 3
            · have kb0 : (0 : Int) ≤ (k : Int) := by omega
              have kb1 : (k : Int) < 3 := by omega
              replace b0 := GrX.at hg5 (by omega) b0; replace b1 := GrX.at hg5 (by omega) b1; replace b2 := GrX.at hg5 (by omega) b2; replace b3 := GrX.at hg5 (by omega) b3
              have HC := Lib.hid (HS.out k hlk)
              obtain ⟨kl, hkl⟩ := key_side (HCI.out (k + 1)) (HCI.out k)
              have HKL := Lib.hid hkl
              have hNX := HNX.out i k hlk
              have hNB := HB.out k
              have HM5 := Lib.hid (HM4.out.grx hg5 (by omega))
              have og : Own W5 G (i * 3 + k) (.int .i64 0) := by rw [← HNZ.out i k]; exact HR.out (i * 3 + k) (by omega)
              have HOL := Lib.hid (fun j (hj : j ≠ i * 3 + k) => HNO.out i k j hj)
              clear hkl HS HB HCI HNX HNO HNZ HM4
              generalize Ms.cor f k = x at *; generalize Ms.cor f (k + 1) = y at *
              -- @o
              go_wp2_with fail
              refine (HC.out _).mono ?_
              rintro e w5 ⟨rfl, hb5⟩
              clear HC
              obtain ⟨W6, hW6⟩ : ∃ W, w5.alloc (Obj.cells #[.int .i64 x, .int .i64 y] 48) = W := ⟨_, rfl⟩
              have g56 : Gr W5 W6 := hb5.trans (hW6 ▸ Gr.alloc (Gr.refl w5) _)
              have s0 : W6.cell? ⟨w5.heap.size, 0, none⟩ = some (.int .i64 x) := by rw [← hW6]; simp [go_sem]
              have s1 : W6.cell? ⟨w5.heap.size, 1, none⟩ = some (.int .i64 y) := by rw [← hW6]; simp [go_sem]
              have og6 := og.gr g56
              have x6 := og6.1; have y6 := og6.2
              have HR6 := Lib.hid (HR.out.gr g56)
              have hg6 := hg5.grown g56
              have HM6 := Lib.hid (HM5.out.gr g56)
              clear og og6 HR HM5 b0 b1 b2 b3 hb5 g56 hg5
              -- @p
              cases hq : Ms.acO m i k with
              | none =>
                rw [hq] at hNB
                have hv : Ms.nb m i k = -1 := by unfold Ms.nb; rw [hq]
                rw [hv] at hNX
                have hlk : (Instr.lookup 46 (.map (some MB)) (.agg #[.int .i64 y, .int .i64 x]) true).run Tryd.prog W6 = .ok (.tuple #[.int .i64 0, .bool false]) W6 := by
                  have z := HM6.out.look true keyed_side Tryd.underlying46 (zero_int W6) HKL.out
                  rw [if_pos rfl, hNB] at z
                  exact z
                have HRn := Lib.hid (Row.set (k := i * 3 + k) (u := .int .i64 (-1)) HR6.out hNX (fun j _ hj => HOL.out j hj))
                have hgn := GrX.setCell hg6 (p := ⟨G, i * 3 + k, none⟩) rfl (.int .i64 (-1))
                clear hNB hNX HM6 HKL HOL HR6 hv hq hg6
                -- @q
                go_wp2_with fail
                -- @r
                go_roundw
                case rel => exact ⟨k + 1, by omega, by go_num, HRn, hgn⟩
                case measure => simp [intOf]; omega
              | some t =>
                rw [hq] at hNB
                have hv : Ms.nb m i k = ((t / 3 : Nat) : Int) := by unfold Ms.nb; rw [hq]
                rw [hv] at hNX
                have hlk : (Instr.lookup 46 (.map (some MB)) (.agg #[.int .i64 y, .int .i64 x]) true).run Tryd.prog W6 = .ok (.tuple #[.int .i64 ((t / 3 : Nat) : Int), .bool true]) W6 := by
                  have z := HM6.out.look true keyed_side Tryd.underlying46 (zero_int W6) HKL.out
                  rw [if_pos rfl, hNB] at z
                  exact z
                generalize ((t / 3 : Nat) : Int) = tv at *
                have HRn := Lib.hid (Row.set (k := i * 3 + k) (u := .int .i64 tv) HR6.out hNX (fun j _ hj => HOL.out j hj))
                have hgn := GrX.setCell hg6 (p := ⟨G, i * 3 + k, none⟩) rfl (.int .i64 tv)
                clear hNB hNX HM6 HKL HOL HR6 hv hq hg6
                go_wp2_with fail
                -- @s
                go_roundw
                case rel => exact ⟨k + 1, by omega, by go_num, HRn, hgn⟩
                case measure => simp [intOf]; omega
            · obtain rfl : k = 3 := by omega
              have HRn := Lib.hid (show Row W5 G (3 * fn) (nbX m (3 * (i + 1))) from HR.out)
              have hgn := hg4.trans hg5
              clear HR
              go_wp2_with fail
              -- @t
              go_roundw
              case rel => exact ⟨i + 1, by omega, by go_num, HRn, hgn⟩
              case measure => simp [intOf]; omega
        · obtain rfl : fn = i := by omega
          have HL := Lib.hid (fun t (ht : t < 3 * fn) => show W3.cell? ⟨G, t, none⟩ = some (.int .i64 (Ms.nb m (t / 3) (t % 3))) from by
            have e := (HR.out t ht).1
            unfold nbX at e
            rw [if_pos ht] at e; exact e)
          clear HR
          go_wp2_with fail
          -- @u
          go_ret
          exact ⟨_, rfl, G, rfl, by omega, HL.out, gw3⟩
end Go.Proofs.YtajhhplgcegodaaDoor
namespace Go.Proofs.YtajhhplgcegodaaDoor
open Go.RowKit
set_option maxRecDepth 100000 in
set_option maxHeartbeats 4000000 in
theorem ms_Neighbours_no (m : Ms.Mesh) (w : World) (h : m.At w) (hs : Ms.smB m = false ∨ (m.S.n ≤ 61 ∧ m.F.n ≤ 61)) (hv : Ms.vlB m = false) : Calls Tryd.prog 17 #[m.val] w fun e w' => e = .returned (.tuple #[.slice none 0 0, .int .i64 1]) ∧ Gr w w' := by
  have HV := Lib.hid (fun W (hW : Gr w W) => ms_valid m W ⟨h.s.gr hW, h.f.gr hW⟩ hs)
  rw [hv] at HV
  clear h hs hv
  unfold Ms.Mesh.val at *
  generalize m.S.A = sA at *; generalize m.S.n = sn at *; generalize m.S.c = sc at *; generalize m.F.A = fA at *; generalize m.F.n = fn at *; generalize m.F.c = fc at *
  go_enter Tryd.func17, Tryd.ntmps17
  go_wp2_with fail
  refine (HV.out _ (by exact gr_auto)).mono ?_
  rintro e w1 ⟨rfl, hb1⟩
  clear HV
  have g1 : Gr w w1 := Gr.trans (by exact gr_auto) hb1
  go_wp2_with fail
  go_ret2
  exact ⟨rfl, g1⟩
set_option maxRecDepth 100000 in
set_option maxHeartbeats 4000000 in
theorem ms_Total_no (m : Ms.Mesh) (w : World) (h : m.At w) (hs : Ms.smB m = false ∨ (m.S.n ≤ 61 ∧ m.F.n ≤ 61)) (hv : Ms.vlB m = false) : Calls Tryd.prog 34 #[m.val] w fun e w' => e = .returned (.tuple #[.int .i64 0, .int .i64 1]) ∧ Gr w w' := by
  have HV := Lib.hid (fun W (hW : Gr w W) => ms_valid m W ⟨h.s.gr hW, h.f.gr hW⟩ hs)
  rw [hv] at HV
  clear h hs hv
  unfold Ms.Mesh.val at *
  generalize m.S.A = sA at *; generalize m.S.n = sn at *; generalize m.S.c = sc at *; generalize m.F.A = fA at *; generalize m.F.n = fn at *; generalize m.F.c = fc at *
  go_enter Tryd.func34, Tryd.ntmps34
  go_wp2_with fail
  refine (HV.out _ (by exact gr_auto)).mono ?_
  rintro e w1 ⟨rfl, hb1⟩
  clear HV
  have g1 : Gr w w1 := Gr.trans (by exact gr_auto) hb1
  go_wp2_with fail
  go_ret2
  exact ⟨rfl, g1⟩
set_option maxRecDepth 100000 in
set_option maxHeartbeats 4000000 in
theorem ms_Twice_no (m : Ms.Mesh) (q : Int) (w : World) (h : m.At w) (hs : Ms.smB m = false ∨ (m.S.n ≤ 61 ∧ m.F.n ≤ 61)) (hv : Ms.vlB m = false) : Calls Tryd.prog 33 #[m.val, .int .i64 q] w fun e w' => e = .returned (.tuple #[.int .i64 0, .int .i64 1]) ∧ Gr w w' := by
  have HV := Lib.hid (fun W (hW : Gr w W) => ms_valid m W ⟨h.s.gr hW, h.f.gr hW⟩ hs)
  rw [hv] at HV
  clear h hs hv
  unfold Ms.Mesh.val at *
  generalize m.S.A = sA at *; generalize m.S.n = sn at *; generalize m.S.c = sc at *; generalize m.F.A = fA at *; generalize m.F.n = fn at *; generalize m.F.c = fc at *
  go_enter Tryd.func33, Tryd.ntmps33
  go_wp2_with fail
  refine (HV.out _ (by exact gr_auto)).mono ?_
  rintro e w1 ⟨rfl, hb1⟩
  clear HV
  have g1 : Gr w w1 := Gr.trans (by exact gr_auto) hb1
  go_wp2_with fail
  go_ret2
  exact ⟨rfl, g1⟩
set_option maxRecDepth 100000 in
set_option maxHeartbeats 4000000 in
theorem ms_neigh (m : Ms.Mesh) (w : World) (h : m.At w) (hs : m.S.n ≤ 61 ∧ m.F.n ≤ 61) (hv : Ms.vlB m = true) : Calls Tryd.prog 17 #[m.val] w fun e w' => ∃ v, e = .returned (.tuple #[v, .int .i64 0]) ∧ RetNear m w w' v := by
  have HV := Lib.hid (fun W (hW : Gr w W) => ms_valid m W ⟨h.s.gr hW, h.f.gr hW⟩ (Or.inr hs))
  rw [hv] at HV
  have HN := Lib.hid (fun W (hW : Gr w W) => ms_near m W (h.f.gr hW) hv hs.2)
  clear h hs hv
  unfold RetNear at *
  generalize Ms.nb m = NB at *
  unfold Ms.Mesh.val at *
  generalize m.S.A = sA at *; generalize m.S.n = sn at *; generalize m.S.c = sc at *; generalize m.F.A = fA at *; generalize m.F.n = fn at *; generalize m.F.c = fc at *
  go_enter Tryd.func17, Tryd.ntmps17
  go_wp2_with fail
  refine (HV.out _ (by exact gr_auto)).mono ?_
  rintro e w1 ⟨rfl, hb1⟩
  clear HV
  have g1 : Gr w w1 := Gr.trans (by exact gr_auto) hb1
  have d0 := Gr.at hb1 (b := w.heap.size) (o := 0) (v := .slice sA sn sc) (by simp [go_sem])
  have d1 := Gr.at hb1 (b := w.heap.size) (o := 1) (v := .slice fA fn fc) (by simp [go_sem])
  have z1 := Gr.size g1
  clear hb1
  go_wp2_with fail
  refine (HN.out _ g1).mono ?_
  rintro e w2 ⟨v, rfl, G, rfl, hG, hc, hb2⟩
  clear HN
  go_wp2_with fail
  go_ret2
  exact ⟨_, rfl, G, rfl, by omega, hc, g1.trans hb2⟩
set_option maxRecDepth 100000 in
set_option maxHeartbeats 4000000 in
theorem ms_twice (m : Ms.Mesh) (f : Ba.Face) (w : World) (h : m.S.At w) (hf : Ms.fcB m f = true) : Calls Tryd.prog 77 #[m.val, f.val] w fun e w' => e = .returned (.int .i64 (Ms.tTn (Ms.tri m f))) ∧ Gr w w' := by
  have HT := Lib.hid (fun W (hW : Gr w W) => ms_tri m f W (h.gr hW) hf)
  have htk := Ms.tri_ok hf
  clear h hf
  obtain ⟨t, ht⟩ : ∃ t, Ms.tri m f = t := ⟨_, rfl⟩
  rw [ht] at HT htk ⊢
  unfold Ba.Tri.val at HT
  unfold Ms.tOk at htk
  have HU := Lib.hid (fun W => ms_turn t.x0 t.y0 t.x1 t.y1 t.x2 t.y2 W htk.1 htk.2.1 htk.2.2.1 htk.2.2.2.1 htk.2.2.2.2.1 htk.2.2.2.2.2)
  clear ht htk
  unfold Ms.tTn
  generalize Ms.tr2 t.x0 t.y0 t.x1 t.y1 t.x2 t.y2 = v at *
  unfold Ba.Face.val at *
  unfold Ms.Mesh.val at *
  generalize m.S.A = sA at *; generalize m.S.n = sn at *; generalize m.S.c = sc at *; generalize m.F.A = fA at *; generalize m.F.n = fn at *; generalize m.F.c = fc at *
  obtain ⟨a, b, c, k⟩ := f
  simp only at *
  go_enter Tryd.func77, Tryd.ntmps77
  go_wp2_with fail
  refine (HT.out _ (by exact gr_auto)).mono ?_
  rintro e w1 ⟨rfl, hb1⟩
  clear HT
  have g1 : Gr w w1 := Gr.trans (by exact gr_auto) hb1
  -- @ta
  go_wp2_with fail
  -- @tb
  refine (HU.out _).mono ?_
  rintro e w2 ⟨rfl, hb2⟩
  go_wp2_with fail
  -- @tc
  go_ret
  exact ⟨rfl, by exact gr_auto⟩
set_option maxRecDepth 100000 in
set_option maxHeartbeats 4000000 in
theorem ms_isface (m : Ms.Mesh) (q : Int) (w : World) : Calls Tryd.prog 76 #[m.val, .int .i64 q] w fun e w' => e = .returned (.bool (decide (0 ≤ q) && decide (q < (m.F.n : Int)))) ∧ Gr w w' := by
  unfold Ms.Mesh.val at *
  generalize m.S.A = sA at *; generalize m.S.n = sn at *; generalize m.S.c = sc at *; generalize m.F.A = fA at *; generalize m.F.n = fn at *; generalize m.F.c = fc at *
  go_enter Tryd.func76, Tryd.ntmps76
  cases h1 : decide (0 ≤ q)
  · have := of_decide_eq_false h1
    go_wp2_with fail
    go_ret
    exact ⟨rfl, by exact gr_auto⟩
  · have := of_decide_eq_true h1
    go_wp2_with fail
    go_ret
    exact ⟨rfl, by exact gr_auto⟩
set_option maxRecDepth 100000 in
set_option maxHeartbeats 4000000 in
theorem ms_Twice_range (m : Ms.Mesh) (q : Int) (w : World) (h : m.At w) (hs : m.S.n ≤ 61 ∧ m.F.n ≤ 61) (hv : Ms.vlB m = true) (hq : (decide (0 ≤ q) && decide (q < (m.F.n : Int))) = false) : Calls Tryd.prog 33 #[m.val, .int .i64 q] w fun e w' => e = .returned (.tuple #[.int .i64 0, .int .i64 2]) ∧ Gr w w' := by
  have HV := Lib.hid (fun W (hW : Gr w W) => ms_valid m W ⟨h.s.gr hW, h.f.gr hW⟩ (Or.inr hs))
  rw [hv] at HV
  have HI := Lib.hid (fun W => ms_isface m q W)
  rw [hq] at HI
  clear h hs hv hq
  unfold Ms.Mesh.val at *
  generalize m.S.A = sA at *; generalize m.S.n = sn at *; generalize m.S.c = sc at *; generalize m.F.A = fA at *; generalize m.F.n = fn at *; generalize m.F.c = fc at *
  -- @e0
  go_enter Tryd.func33, Tryd.ntmps33
  -- @e1
  go_wp2_with fail
  -- @e2
  refine (HV.out _ (by exact gr_auto)).mono ?_
  rintro e w1 ⟨rfl, hb1⟩
  clear HV
  have g1 : Gr w w1 := Gr.trans (by exact gr_auto) hb1
  have d0 := Gr.at hb1 (b := w.heap.size) (o := 0) (v := .slice sA sn sc) (by simp [go_sem])
  have d1 := Gr.at hb1 (b := w.heap.size) (o := 1) (v := .slice fA fn fc) (by simp [go_sem])
  clear hb1
  -- @e3
  go_wp2_with fail
  -- @e4
  refine (HI.out _).mono ?_
  rintro e w2 ⟨rfl, hb2⟩
  clear HI
  go_wp2_with fail
  go_ret2
  exact ⟨rfl, g1.trans hb2⟩
set_option maxRecDepth 100000 in
set_option maxHeartbeats 4000000 in
theorem ms_Twice (m : Ms.Mesh) (i : Nat) (w : World) (h : m.At w) (hs : m.S.n ≤ 61 ∧ m.F.n ≤ 61) (hv : Ms.vlB m = true) (hi : i < m.F.n) : Calls Tryd.prog 33 #[m.val, .int .i64 (i : Int)] w fun e w' => e = .returned (.tuple #[.int .i64 (Ms.tTn (Ms.tri m (m.F.D i))), .int .i64 0]) ∧ Gr w w' := by
  obtain ⟨q, hq'⟩ : ∃ q : Int, (i : Int) = q := ⟨_, rfl⟩
  have HV := Lib.hid (fun W (hW : Gr w W) => ms_valid m W ⟨h.s.gr hW, h.f.gr hW⟩ (Or.inr hs))
  rw [hv] at HV
  have HI := Lib.hid (fun W => ms_isface m (i : Int) W)
  rw [decide_eq_true (by omega), decide_eq_true (by omega), Bool.and_self] at HI
  have HT := Lib.hid (fun W (hW : Gr w W) => ms_twice m (m.F.D i) W (h.s.gr hW) (Ms.vl_fc hv hi))
  obtain ⟨⟨a0, a1, a2, a3⟩, -⟩ := h.f.hD i hi
  have HFA := h.f.hA (by omega)
  have hfc := h.f.hc; have hfb := h.f.hb
  have hbb := World.block_lt_of_cell? _ _ a0
  have ib0 : (0 : Int) ≤ (i : Int) := by omega
  have ib1 : (i : Int) < (m.F.n : Int) := by omega
  clear h hs hv hq' q
  generalize Ms.tTn (Ms.tri m (m.F.D i)) = TV at *
  unfold Ba.Face.val at HT
  generalize m.F.D i = f at *
  unfold Ms.Mesh.val at *
  rw [HFA] at HV HI HT ⊢
  generalize m.S.A = sA at *; generalize m.S.n = sn at *; generalize m.S.c = sc at *; generalize m.F.n = fn at *; generalize m.F.c = fc at *
  generalize m.F.b = fb at *; generalize m.F.o = fo at *
  clear HFA
  -- @e0
  go_enter Tryd.func33, Tryd.ntmps33
  -- @e1
  go_wp2_with fail
  -- @e2
  refine (HV.out _ (by exact gr_auto)).mono ?_
  rintro e w1 ⟨rfl, hb1⟩
  clear HV
  have g1 : Gr w w1 := Gr.trans (by exact gr_auto) hb1
  have d0 := Gr.at hb1 (b := w.heap.size) (o := 0) (v := .slice sA sn sc) (by simp [go_sem])
  have d1 := Gr.at hb1 (b := w.heap.size) (o := 1) (v := .slice (some ⟨fb, fo, none⟩) fn fc) (by simp [go_sem])
  clear hb1
  -- @e3
  go_wp2_with fail
  -- @e4
  refine (HI.out _).mono ?_
  rintro e w2 ⟨rfl, hb2⟩
  clear HI
  replace a0 := Gr.at (g1.trans hb2) a0; replace a1 := Gr.at (g1.trans hb2) a1; replace a2 := Gr.at (g1.trans hb2) a2; replace a3 := Gr.at (g1.trans hb2) a3
  replace d0 := Gr.at hb2 d0; replace d1 := Gr.at hb2 d1
  have g2 := g1.trans hb2
  clear g1 hb2
  -- @wa
  go_wp2_with fail
  -- @wb
  (first | refine name_world ?_ | refine (show (∀ W, W = _ → Calls _ _ _ W _) → Calls _ _ _ _ _ from fun h => h _ rfl) ?_); intro W6 hW6
  have g6 : Gr w W6 := by rw [hW6]; exact gr_auto
  have gb6_w2 : Gr w2 W6 := by (try clear g6); rw [hW6]; exact gr_auto
  have k6_0 : W6.cell? ⟨w.heap.size, 0, none⟩ = some (.slice sA sn sc) := by rw [hW6]; first | (simp [go_sem, *]; done) | (refine Gr.at ?_ (by assumption); exact gr_auto)
  have b6_0 : w.heap.size < W6.heap.size := World.block_lt_of_cell? _ _ k6_0
  have k6_1 : W6.cell? ⟨w.heap.size, 1, none⟩ = some (.slice (some ⟨fb, fo, none⟩) fn fc) := by rw [hW6]; first | (simp [go_sem, *]; done) | (refine Gr.at ?_ (by assumption); exact gr_auto)
  have k6_2 : W6.cell? ⟨fb, fo + i * 4, none⟩ = some (.int .i64 f.a) := by rw [hW6]; first | (simp [go_sem, *]; done) | (refine Gr.at ?_ (by assumption); exact gr_auto)
  have b6_2 : fb < W6.heap.size := World.block_lt_of_cell? _ _ k6_2
  have k6_3 : W6.cell? ⟨fb, fo + i * 4 + 1, none⟩ = some (.int .i64 f.b) := by rw [hW6]; first | (simp [go_sem, *]; done) | (refine Gr.at ?_ (by assumption); exact gr_auto)
  have k6_4 : W6.cell? ⟨fb, fo + i * 4 + 2, none⟩ = some (.int .i64 f.c) := by rw [hW6]; first | (simp [go_sem, *]; done) | (refine Gr.at ?_ (by assumption); exact gr_auto)
  have k6_5 : W6.cell? ⟨fb, fo + i * 4 + 3, none⟩ = some (.int .i64 f.k) := by rw [hW6]; first | (simp [go_sem, *]; done) | (refine Gr.at ?_ (by assumption); exact gr_auto)
  clear hW6
  have s6_0 : ∀ gw : GW W6, gw.1.cell? ⟨w.heap.size, 0, none⟩ = some (.slice sA sn sc) := fun gw => Gr.at gw.2 k6_0
  have s6_1 : ∀ gw : GW W6, gw.1.cell? ⟨w.heap.size, 1, none⟩ = some (.slice (some ⟨fb, fo, none⟩) fn fc) := fun gw => Gr.at gw.2 k6_1
  have s6_2 : ∀ gw : GW W6, gw.1.cell? ⟨fb, fo + i * 4, none⟩ = some (.int .i64 f.a) := fun gw => Gr.at gw.2 k6_2
  have s6_3 : ∀ gw : GW W6, gw.1.cell? ⟨fb, fo + i * 4 + 1, none⟩ = some (.int .i64 f.b) := fun gw => Gr.at gw.2 k6_3
  have s6_4 : ∀ gw : GW W6, gw.1.cell? ⟨fb, fo + i * 4 + 2, none⟩ = some (.int .i64 f.c) := fun gw => Gr.at gw.2 k6_4
  have s6_5 : ∀ gw : GW W6, gw.1.cell? ⟨fb, fo + i * 4 + 3, none⟩ = some (.int .i64 f.k) := fun gw => Gr.at gw.2 k6_5
  have Q1 := Lib.hid (fun gw : GW W6 => gw_call (HT.out gw.1 (g2.trans (gb6_w2.trans gw.2))))
  refine wp_region_gr (by kernel_rfl) (by kernel_rfl) ?_
  repeat (go_big_quiet_step ((go_at_call 77; with_reducible exact Q1.out _)))
  refine wpQuiet_nil ?_
  intro w7 hb7
  clear s6_0 s6_1 s6_2 s6_3 s6_4 s6_5
  have g7 : Gr w w7 := g6.trans hb7
  have k6_0 := Gr.at hb7 k6_0
  have k6_1 := Gr.at hb7 k6_1
  have k6_2 := Gr.at hb7 k6_2
  have k6_3 := Gr.at hb7 k6_3
  have k6_4 := Gr.at hb7 k6_4
  have k6_5 := Gr.at hb7 k6_5
  -- @wc
  go_wp2_with fail
  go_ret2
  exact ⟨rfl, g2.trans (gb6_w2.trans hb7)⟩
namespace Ms
/-- The turns of the first i faces together. -/
def totI (m : Mesh) : Nat → Int
  | 0 => 0
  | i + 1 => totI m i + tTn (tri m (m.F.D i))
theorem tTn_bd {t : Tri} (h : tOk t) : -2251799813685248 ≤ tTn t ∧ tTn t ≤ 2251799813685248 := tr2_bd h.1 h.2.1 h.2.2.1 h.2.2.2.1 h.2.2.2.2.1 h.2.2.2.2.2
theorem totI_bd {m : Mesh} (hv : vlB m = true) : ∀ i, i ≤ m.F.n → -(2251799813685248 * (i : Int)) ≤ totI m i ∧ totI m i ≤ 2251799813685248 * (i : Int)
  | 0, _ => by simp [totI]
  | i + 1, h => by
    have a := totI_bd hv i (by omega)
    have b := tTn_bd (tri_ok (vl_fc hv (i := i) (by omega)))
    rw [totI]; omega
end Ms
set_option maxRecDepth 100000 in
set_option maxHeartbeats 4000000 in
theorem ms_total (m : Ms.Mesh) (w : World) (h : m.At w) (hs : m.S.n ≤ 61 ∧ m.F.n ≤ 61) (hv : Ms.vlB m = true) : Calls Tryd.prog 34 #[m.val] w fun e w' => e = .returned (.tuple #[.int .i64 (Ms.totI m m.F.n), .int .i64 0]) ∧ Gr w w' := by
  have HV := Lib.hid (fun W (hW : Gr w W) => ms_valid m W ⟨h.s.gr hW, h.f.gr hW⟩ (Or.inr hs))
  rw [hv] at HV
  have HT := Lib.hid (fun i (hi : i < m.F.n) W (hW : Gr w W) => ms_twice m (m.F.D i) W (h.s.gr hW) (Ms.vl_fc hv hi))
  have HFP := Lib.hid (fun i (hi : i < m.F.n) => h.f.hD i hi)
  have HFA := Lib.hid h.f.hA
  have hfc := h.f.hc; have hfb := h.f.hb
  have hn := hs.2
  have HBD := Lib.hid (fun i hi => Ms.totI_bd hv i hi)
  have HST := Lib.hid (fun i => show Ms.totI m (i + 1) = Ms.totI m i + Ms.tTn (Ms.tri m (m.F.D i)) from rfl)
  clear h hs hv
  unfold Ms.Mesh.val at *
  generalize m.S.A = sA at *; generalize m.S.n = sn at *; generalize m.S.c = sc at *
  obtain ⟨fA, hfA⟩ : ∃ A, m.F.A = A := ⟨_, rfl⟩; obtain ⟨fn, hfn⟩ : ∃ n, m.F.n = n := ⟨_, rfl⟩; obtain ⟨fc', hfc'⟩ : ∃ c, m.F.c = c := ⟨_, rfl⟩
  rw [hfA, hfn, hfc'] at HV HT ⊢
  rw [hfA, hfn] at HFA
  rw [hfn] at HFP hfc hn HBD
  rw [hfc'] at hfc hfb
  clear hfA hfn hfc'
  go_enter Tryd.func34, Tryd.ntmps34
  go_wp2_with fail
  refine (HV.out _ (by exact gr_auto)).mono ?_
  rintro e w1 ⟨rfl, hb1⟩
  clear HV
  have g1 : Gr w w1 := Gr.trans (by exact gr_auto) hb1
  have d0 := Gr.at hb1 (b := w.heap.size) (o := 0) (v := .slice sA sn sc) (by simp [go_sem])
  have d1 := Gr.at hb1 (b := w.heap.size) (o := 1) (v := .slice fA fn fc') (by simp [go_sem])
  clear hb1
  go_wp2_with fail
  go_loopw [4, 13] (fun v x wr => ∃ i : Nat, i ≤ fn ∧ x = .int .i64 (i : Int) ∧ v = .int .i64 (Ms.totI m i) ∧ Gr w1 wr) (fun _ x _ => fn - (intOf x).toNat)
  case atStart => exact ⟨0, Nat.zero_le _, rfl, rfl, Gr.refl _⟩
  case round =>
    obtain ⟨i, hi, rfl, rfl, hg⟩ := hrel
    rename World => W1
    replace d0 := Gr.at hg d0; replace d1 := Gr.at hg d1
    have gw := g1.trans hg
    by_cases hlt : i < fn
    · obtain rfl := HFA.out (by omega)
      have ib0 : (0 : Int) ≤ (i : Int) := by omega
      have ib1 : (i : Int) < (fn : Int) := by omega
      obtain ⟨⟨a0, a1, a2, a3⟩, fo⟩ := HFP.out i hlt
      replace a0 := Gr.at gw a0; replace a1 := Gr.at gw a1; replace a2 := Gr.at gw a2; replace a3 := Gr.at gw a3
      have HTi := Lib.hid (HT.out i hlt)
      have HSi := HST.out i
      have b1 := HBD.out i hi; have b2 := HBD.out (i + 1) hlt
      rw [HSi] at b2
      have HS2 := Lib.hid HSi
      clear HT HST HBD HFP HFA HSi
      generalize Ms.tTn (Ms.tri m (m.F.D i)) = tv at *
      unfold Ba.Face.val at HTi
      obtain ⟨f, hf⟩ : ∃ f, m.F.D i = f := ⟨_, rfl⟩
      simp only [hf] at a0 a1 a2 a3 HTi
      clear hf fo
      have bt1 : -9223372036854775808 ≤ Ms.totI m i + tv := by omega
      have bt2 : Ms.totI m i + tv ≤ 9223372036854775807 := by omega
      have zs := World.block_lt_of_cell? _ _ d0
      simp only at zs
      -- @a
      go_wp2_with fail
      -- @b
      refine (HTi.out _ (by exact gr_auto)).mono ?_
      rintro e w3 ⟨rfl, hb3⟩
      clear HTi
      have hg3 : Gr w1 w3 := hg.trans (Gr.trans (by exact gr_auto) hb3)
      clear b1 b2
      go_wp2_with fail
      -- @c
      go_roundw
      case rel => exact ⟨i + 1, by omega, by go_num, by rw [HS2.out], hg3⟩
      case measure => simp [intOf]; omega
    · obtain rfl : fn = i := by omega
      go_wp2_with fail
      -- @d
      go_ret2
      exact ⟨rfl, g1.trans hg⟩
end Go.Proofs.YtajhhplgcegodaaDoor
