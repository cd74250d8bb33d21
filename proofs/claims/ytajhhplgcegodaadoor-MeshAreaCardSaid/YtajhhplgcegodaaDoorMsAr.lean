/-
  Surfaces: plain, for MeshArea: the borders' areas add up to that of the faces; a surface that is moved is valid, and has the same areas. No condition.
-/
import Derived.Test.YtajhhplgcegodaaDoorMsMu
import Derived.Test.YtajhhplgcegodaaDoorMsOp
import Derived.Test.YtajhhplgcegodaaDoorMsMv
set_option linter.unusedVariables false
set_option linter.unusedSimpArgs false
namespace Go.Proofs.YtajhhplgcegodaaDoor
namespace Ms
/-- A sum over a list. -/
def smL (f : Nat → Int) : List Nat → Int
  | [] => 0
  | t :: l => f t + smL f l
theorem smL_app (f : Nat → Int) : ∀ l k, smL f (l ++ k) = smL f l + smL f k
  | [], k => by simp [smL]
  | t :: l, k => by rw [List.cons_append, smL, smL, smL_app f l k]; omega
theorem smL_perm (f : Nat → Int) {l k : List Nat} (h : l.Perm k) : smL f l = smL f k := by
  induction h with
  | nil => rfl
  | cons x _ ih => rw [smL, smL, ih]
  | swap x y l => rw [smL, smL, smL, smL]; omega
  | trans _ _ a b => exact a.trans b
theorem smL_map (f : Nat → Int) (g : Nat → Nat) : ∀ l, smL f (l.map g) = smL (fun t => f (g t)) l
  | [] => rfl
  | t :: l => by rw [List.map_cons, smL, smL, smL_map f g l]
theorem smL_neg {f g : Nat → Int} : ∀ {l : List Nat}, (∀ t, t ∈ l → g t = - f t) → smL g l = - smL f l
  | [], _ => rfl
  | t :: l, h => by
    rw [smL, smL, h t (List.mem_cons_self ..), smL_neg fun s hs => h s (List.mem_cons_of_mem _ hs)]; omega
theorem smL_bd {f : Nat → Int} {M : Int} : ∀ {l : List Nat}, (∀ t, t ∈ l → -M ≤ f t ∧ f t ≤ M) → -(M * (l.length : Int)) ≤ smL f l ∧ smL f l ≤ M * (l.length : Int)
  | [], _ => by simp [smL]
  | t :: l, h => by
    have a := h t (List.mem_cons_self ..)
    have b := smL_bd fun s hs => h s (List.mem_cons_of_mem _ hs)
    rw [smL, List.length_cons]
    have e : M * ((l.length + 1 : Nat) : Int) = M * (l.length : Int) + M := by rw [Int.natCast_add, Int.mul_add]; simp
    rw [e]; omega
/-- A sum over the numbers below n. -/
def smN (f : Nat → Int) : Nat → Int
  | 0 => 0
  | n + 1 => smN f n + f n
theorem smN_idx (f : Nat → Int) (p : Nat → Bool) : ∀ n, smN f n = smL f (idx p n) + smL f (idx (fun x => !p x) n)
  | 0 => rfl
  | n + 1 => by
    have ih := smN_idx f p n
    rw [smN, ih, idx, idx]
    cases p n <;> simp [smL_app, smL] <;> omega
def px (m : Mesh) (v : Int) : Int := (m.S.D v.toNat).x
def py (m : Mesh) (v : Int) : Int := (m.S.D v.toNat).y
def crs (ax ay bx b_y : Int) : Int := ax * b_y - ay * bx
/-- What a side adds to twice the area. -/
def crX (m : Mesh) (t : Nat) : Int := crs (px m (st m t)) (py m (st m t)) (px m (en m t)) (py m (en m t))
theorem tr2_crs (ax ay bx b_y cx cy : Int) : tr2 ax ay bx b_y cx cy = crs ax ay bx b_y + crs bx b_y cx cy + crs cx cy ax ay := by
  unfold tr2 crs; grind
theorem crs_anti (ax ay bx b_y : Int) : crs bx b_y ax ay = - crs ax ay bx b_y := by unfold crs; grind
theorem crs_bd {ax ay bx b_y : Int} (h1 : cd ax) (h2 : cd ay) (h3 : cd bx) (h4 : cd b_y) : -2251799813685248 ≤ crs ax ay bx b_y ∧ crs ax ay bx b_y ≤ 2251799813685248 := by
  unfold cd at *
  have a := mul_bd (a := ax) (b := b_y) (by omega) (by omega)
  have b := mul_bd (a := ay) (b := bx) (by omega) (by omega)
  unfold crs; omega
theorem tTn_side (m : Mesh) (i : Nat) : tTn (tri m (m.F.D i)) = crX m (3 * i) + crX m (3 * i + 1) + crX m (3 * i + 2) := by
  have e0 := st_at m (i := i) (k := 0) (by omega); have f0 := en_at m (i := i) (k := 0) (by omega)
  have e1 := st_at m (i := i) (k := 1) (by omega); have f1 := en_at m (i := i) (k := 1) (by omega)
  have e2 := st_at m (i := i) (k := 2) (by omega); have f2 := en_at m (i := i) (k := 2) (by omega)
  unfold crX
  rw [e1, f1, e2, f2]
  rw [show 3 * i = 3 * i + 0 from rfl, e0, f0]
  unfold tTn tri
  rw [tr2_crs]; rfl
theorem tot_smN (m : Mesh) : ∀ n, totI m n = smN (crX m) (3 * n)
  | 0 => rfl
  | n + 1 => by
    rw [totI, tot_smN m n, tTn_side, show 3 * (n + 1) = 3 * n + 1 + 1 + 1 by omega, smN, smN, smN, show 3 * n + 1 + 1 = 3 * n + 2 by omega]
    omega
theorem cr_op {m : Mesh} {t u : Nat} (h : op m t = some u) : crX m u = - crX m t := by
  obtain ⟨-, h1, h2⟩ := op_sides h
  unfold crX
  rw [h1, h2]; exact crs_anti _ _ _ _
/-- Inner sides add nothing. -/
theorem inner_zero {m : Mesh} (hv : vlB m = true) : smL (crX m) (idx (fun t => (op m t).isSome) (3 * m.F.n)) = 0 := by
  have get : ∀ t, t ∈ idx (fun t => (op m t).isSome) (3 * m.F.n) → ∃ u, op m t = some u ∧ t < 3 * m.F.n ∧ u < 3 * m.F.n := fun t ht => by
    obtain ⟨h1, h2⟩ := idx_mem.1 ht
    obtain ⟨u, hu⟩ := Option.isSome_iff_exists.1 h2
    exact ⟨u, hu, h1, (op_sides hu).1⟩
  have hn := idx_nodup (fun t => (op m t).isSome) (3 * m.F.n)
  have hp : ((idx (fun t => (op m t).isSome) (3 * m.F.n)).map fun t => (op m t).getD 0).Perm (idx (fun t => (op m t).isSome) (3 * m.F.n)) := by
    refine (List.perm_ext_iff_of_nodup ?_ hn).2 fun x => ?_
    · refine List.pairwise_map.2 (List.Pairwise.imp_of_mem (fun {a b} ha hb hne e => hne ?_) hn)
      obtain ⟨u, hu, h1, -⟩ := get a ha
      obtain ⟨v, hv2, h2, -⟩ := get b hb
      rw [hu, hv2] at e
      have e : u = v := e
      subst e
      have p := op_back hv h1 hu
      rw [op_back hv h2 hv2] at p
      simpa using p.symm
    · constructor
      · intro hx
        obtain ⟨t, ht, e⟩ := List.mem_map.1 hx
        obtain ⟨u, hu, h1, h2⟩ := get t ht
        rw [hu] at e
        have e : u = x := e
        subst e
        exact idx_mem.2 ⟨h2, by rw [op_back hv h1 hu]; rfl⟩
      · intro hx
        obtain ⟨t, ht, h1, h2⟩ := get x hx
        have hb := op_back hv h1 ht
        exact List.mem_map.2 ⟨t, idx_mem.2 ⟨h2, by rw [hb]; rfl⟩, by rw [hb]; rfl⟩
  have e1 := smL_perm (crX m) hp
  rw [smL_map] at e1
  have e2 : smL (fun t => crX m ((op m t).getD 0)) (idx (fun t => (op m t).isSome) (3 * m.F.n)) = - smL (crX m) (idx (fun t => (op m t).isSome) (3 * m.F.n)) := smL_neg fun t ht => by
    obtain ⟨u, hu, -, -⟩ := get t ht
    show crX m ((op m t).getD 0) = _
    rw [hu]; exact cr_op hu
  omega
/-- The borders' sides add up to the total. -/
theorem border_sum {m : Mesh} (hv : vlB m = true) : smL (crX m) (bS m (3 * m.F.n)).2.flatten = totI m m.F.n := by
  have R := rings hv
  have hp : (bS m (3 * m.F.n)).2.flatten.Perm (idx (fun t => (op m t).isNone) (3 * m.F.n)) := by
    refine (List.perm_ext_iff_of_nodup R.nodup (idx_nodup _ _)).2 fun x => ?_
    constructor
    · intro hx
      obtain ⟨l, hl, hxl⟩ := List.mem_flatten.1 hx
      obtain ⟨i, hi, e⟩ := List.getElem_of_mem hxl
      obtain ⟨y, hy, hN, hP, -⟩ := (R.ring l hl).all i hi
      rw [List.getElem?_eq_getElem hi, e] at hy
      obtain rfl : x = y := by simpa using hy
      exact idx_mem.2 ⟨hN, hP⟩
    · intro hx
      obtain ⟨h1, h2⟩ := idx_mem.1 hx
      exact (R.done x).1 (R.have_ x h1 h1 h2)
  rw [smL_perm _ hp, tot_smN, smN_idx (crX m) (fun t => (op m t).isNone)]
  have e : (fun x => !(op m x).isNone) = fun x => (op m x).isSome := by funext x; cases op m x <;> rfl
  rw [e, inner_zero hv]; omega
/-- The fan of a polygon: triangles with its first corner. -/
def fanS (X Y : Nat → Int) : Nat → Int
  | 0 => 0
  | k + 1 => fanS X Y k + tr2 (X 0) (Y 0) (X (k + 1)) (Y (k + 1)) (X (k + 2)) (Y (k + 2))
def pthS (X Y : Nat → Int) : Nat → Int
  | 0 => 0
  | k + 1 => pthS X Y k + crs (X k) (Y k) (X (k + 1)) (Y (k + 1))
theorem fan_pth (X Y : Nat → Int) : ∀ k, fanS X Y k = pthS X Y (k + 1) + crs (X (k + 1)) (Y (k + 1)) (X 0) (Y 0)
  | 0 => by
    rw [fanS, pthS, pthS, crs_anti (X 0) (Y 0) (X (0 + 1))]; omega
  | k + 1 => by
    rw [fanS, fan_pth X Y k, tr2_crs]
    have := crs_anti (X 0) (Y 0) (X (k + 1)) (Y (k + 1))
    show _ = pthS X Y (k + 1) + crs (X (k + 1)) (Y (k + 1)) (X (k + 2)) (Y (k + 2)) + crs (X (k + 2)) (Y (k + 2)) (X 0) (Y 0)
    omega
theorem fanS_bd {X Y : Nat → Int} {n : Nat} (h : ∀ i, i < n → cd (X i) ∧ cd (Y i)) : ∀ k, k + 2 ≤ n → -(2251799813685248 * (k : Int)) ≤ fanS X Y k ∧ fanS X Y k ≤ 2251799813685248 * (k : Int)
  | 0, _ => by simp [fanS]
  | k + 1, hk => by
    have a := fanS_bd h k (by omega)
    have h0 := h 0 (by omega); have h1 := h (k + 1) (by omega); have h2 := h (k + 2) (by omega)
    have b := tr2_bd h0.1 h0.2 h1.1 h1.2 h2.1 h2.2
    rw [fanS]; omega
/-- The points of a ring's corners. -/
def rX (m : Mesh) (l : List Nat) (j : Nat) : Int := px m (st m (l.getD j 0))
def rY (m : Mesh) (l : List Nat) (j : Nat) : Int := py m (st m (l.getD j 0))
theorem smL_take (f : Nat → Int) {l : List Nat} {j : Nat} (hj : j < l.length) : smL f (l.take (j + 1)) = smL f (l.take j) + f (l.getD j 0) := by
  rw [List.take_add_one, List.getElem?_eq_getElem hj, smL_app, List.getD, List.getElem?_eq_getElem hj]
  simp [smL]
theorem pth_take {m : Mesh} {l : List Nat} (h : ∀ j, j < l.length → st m (l.getD ((j + 1) % l.length) 0) = en m (l.getD j 0)) : ∀ k, k < l.length → pthS (rX m l) (rY m l) k = smL (crX m) (l.take k)
  | 0, _ => by simp [pthS, smL]
  | k + 1, hk => by
    rw [pthS, pth_take h k (by omega), smL_take _ (by omega)]
    have := h k (by omega)
    rw [Nat.mod_eq_of_lt hk] at this
    unfold crX
    rw [← this]; rfl
/-- A border's area is the sum over its sides. -/
theorem ring_fan {m : Mesh} {l : List Nat} (h3 : 3 ≤ l.length) (h : ∀ j, j < l.length → st m (l.getD ((j + 1) % l.length) 0) = en m (l.getD j 0)) : fanS (rX m l) (rY m l) (l.length - 2) = smL (crX m) l := by
  rw [fan_pth, pth_take h _ (by omega)]
  have e : l.length - 2 + 1 = l.length - 1 := by omega
  rw [e]
  have e2 := smL_take (crX m) (l := l) (j := l.length - 1) (by omega)
  rw [show l.length - 1 + 1 = l.length by omega, List.take_length] at e2
  rw [e2]
  have := h (l.length - 1) (by omega)
  rw [show l.length - 1 + 1 = l.length by omega, Nat.mod_self] at this
  unfold crX
  rw [← this]; rfl
/-- The sum over the first r borders. -/
def bsm (m : Mesh) (L : List (List Nat)) (r : Nat) : Int := smL (crX m) (L.take r).flatten
theorem bsm_zero (m : Mesh) (L : List (List Nat)) : bsm m L 0 = 0 := by simp [bsm, smL]
theorem bsm_succ (m : Mesh) {L : List (List Nat)} {r : Nat} (hr : r < L.length) : bsm m L (r + 1) = bsm m L r + smL (crX m) (L.getD r []) := by
  unfold bsm
  rw [List.take_add_one, List.getElem?_eq_getElem hr, List.flatten_append, smL_app, List.getD, List.getElem?_eq_getElem hr]
  simp
theorem st_cd {m : Mesh} (hv : vlB m = true) {t : Nat} (ht : t < 3 * m.F.n) : inR m (st m t) = true ∧ inR m (en m t) = true := by
  have hf := vl_fc hv (i := t / 3) (by omega)
  unfold fcB at hf
  simp only [Bool.and_eq_true] at hf
  have all : ∀ k, inR m (cor (m.F.D (t / 3)) k) = true := fun k => by
    unfold cor; split
    · exact hf.1
    · exact hf.2.1
    · exact hf.2.2.1
  exact ⟨all _, all _⟩
theorem inR_cd {m : Mesh} {v : Int} (h : inR m v = true) : 0 ≤ v ∧ v < (m.S.n : Int) ∧ cd (px m v) ∧ cd (py m v) := by
  obtain ⟨i, rfl, h1, h2⟩ := inR_parts h
  exact ⟨by omega, by omega, spB_cd h2⟩
theorem crX_bd {m : Mesh} (hv : vlB m = true) {t : Nat} (ht : t < 3 * m.F.n) : -2251799813685248 ≤ crX m t ∧ crX m t ≤ 2251799813685248 := by
  obtain ⟨a, b⟩ := st_cd hv ht
  obtain ⟨-, -, a1, a2⟩ := inR_cd a
  obtain ⟨-, -, b1, b2⟩ := inR_cd b
  exact crs_bd a1 a2 b1 b2
/-- What MeshArea wants of the borders of a valid surface. -/
structure AreaOK (m : Mesh) (L : List (List Nat)) : Prop where
  cnt : L.length ≤ 3 * m.F.n
  len : ∀ r, r < L.length → 3 ≤ (L.getD r []).length ∧ (L.getD r []).length ≤ 3 * m.F.n
  pt : ∀ r j, r < L.length → j < (L.getD r []).length → ∃ i : Nat, st m ((L.getD r []).getD j 0) = (i : Int) ∧ i < m.S.n ∧ cd (rX m (L.getD r []) j) ∧ cd (rY m (L.getD r []) j) ∧ rX m (L.getD r []) j = (m.S.D i).x ∧ rY m (L.getD r []) j = (m.S.D i).y
  step : ∀ r, r < L.length → bsm m L (r + 1) = bsm m L r + fanS (rX m (L.getD r [])) (rY m (L.getD r [])) ((L.getD r []).length - 2)
  bd : ∀ r, r ≤ L.length → -(2251799813685248 * (3 * m.F.n : Nat) : Int) ≤ bsm m L r ∧ bsm m L r ≤ (2251799813685248 * (3 * m.F.n : Nat) : Int)
  all : bsm m L L.length = totI m m.F.n
theorem flat_len {L : List (List Nat)} : ∀ r, ((L.take r).flatten).length ≤ L.flatten.length := fun r => by
  have : L.flatten = (L.take r).flatten ++ (L.drop r).flatten := by rw [← List.flatten_append, List.take_append_drop]
  rw [this, List.length_append]; omega
theorem area_ok {m : Mesh} (hv : vlB m = true) : AreaOK m (bS m (3 * m.F.n)).2 := by
  have R := rings hv
  have hr3 := fun l hl => ring3 hv (l := l) hl
  have hl := rings_len hv
  have hb : bdN m ≤ 3 * m.F.n := idx_le _ _
  have hs := border_sum hv
  have hc := bS_len (m := m) (3 * m.F.n)
  generalize (bS m (3 * m.F.n)).2 = L at *
  have mem : ∀ r, r < L.length → L.getD r [] ∈ L := fun r hr => by
    rw [List.getD, List.getElem?_eq_getElem hr]; exact List.getElem_mem hr
  have sub : ∀ t, t ∈ L.flatten → t < 3 * m.F.n := fun t ht => by
    obtain ⟨l, hl, htl⟩ := List.mem_flatten.1 ht
    obtain ⟨i, hi, e⟩ := List.getElem_of_mem htl
    obtain ⟨y, hy, hN, -, -⟩ := (R.ring l hl).all i hi
    rw [List.getElem?_eq_getElem hi, e] at hy
    obtain rfl : t = y := by simpa using hy
    exact hN
  have nxt : ∀ r, r < L.length → ∀ j, j < (L.getD r []).length → st m ((L.getD r []).getD ((j + 1) % (L.getD r []).length) 0) = en m ((L.getD r []).getD j 0) := fun r hr j hj => by
    obtain ⟨t, h1, h2, h3, h4⟩ := (R.ring _ (mem r hr)).all j hj
    rw [List.getD, h4, List.getD, h1]
    exact st_ph m t
  refine ⟨hc, fun r hr => ⟨hr3 _ (mem r hr), ?_⟩, fun r j hr hj => ?_, fun r hr => ?_, fun r hr => ?_, ?_⟩
  · exact (R.ring _ (mem r hr)).le
  · obtain ⟨t, h1, h2, -, -⟩ := (R.ring _ (mem r hr)).all j hj
    obtain ⟨a, -⟩ := st_cd hv h2
    have e : (L.getD r []).getD j 0 = t := by rw [List.getD, h1]; rfl
    obtain ⟨i, hi, h5, h6⟩ := inR_parts a
    unfold rX rY px py
    rw [e, hi]
    exact ⟨i, rfl, h5, (spB_cd h6).1, (spB_cd h6).2, rfl, rfl⟩
  · rw [bsm_succ m hr, ring_fan (hr3 _ (mem r hr)) (nxt r hr)]
  · have h1 := smL_bd (f := crX m) (M := 2251799813685248) (l := (L.take r).flatten) fun t ht => crX_bd hv (sub t (by
      have : L.flatten = (L.take r).flatten ++ (L.drop r).flatten := by rw [← List.flatten_append, List.take_append_drop]
      rw [this]; exact List.mem_append_left _ ht))
    have h2 := flat_len (L := L) r
    unfold bsm
    omega
  · unfold bsm; rw [List.take_length]; exact hs
/-- A moved surface: the spots moved, the faces the same. -/
structure Moved (m a : Mesh) (x y z : Int) : Prop where
  sn : a.S.n = m.S.n
  sD : a.S.D = fun i => mvS x y z (m.S.D i)
  fn : a.F.n = m.F.n
  fD : a.F.D = m.F.D
section
variable {m a : Mesh} {x y z : Int}
theorem Moved.sp (_ : Moved m a x y z) (hb : mvBad m x y z = false) {i : Nat} (hi : i < m.S.n) : spB (mvS x y z (m.S.D i)) = true := by
  cases e : spB (mvS x y z (m.S.D i)) with
  | true => rfl
  | false =>
    unfold mvBad at hb
    rw [any_hit (p := fun i => !spB (mvS x y z (m.S.D i))) (i := i) (by rw [e]; rfl) hi] at hb; cases hb
theorem Moved.inR (h : Moved m a x y z) (hb : mvBad m x y z = false) {v : Int} (hv : Ms.inR m v = true) : Ms.inR a v = true := by
  obtain ⟨i, rfl, h1, h2⟩ := inR_parts hv
  unfold Ms.inR
  rw [h.sn, h.sD, decide_eq_true (by omega), decide_eq_true (by omega)]
  exact h.sp hb h1
theorem Moved.fc (h : Moved m a x y z) (hb : mvBad m x y z = false) {f : Ba.Face} (hf : fcB m f = true) : fcB a f = true := by
  unfold fcB at hf ⊢
  simp only [Bool.and_eq_true] at hf ⊢
  exact ⟨h.inR hb hf.1, h.inR hb hf.2.1, h.inR hb hf.2.2.1, hf.2.2.2⟩
theorem tr2_mv (ax ay bx b_y cx cy x y : Int) : tr2 (ax + x) (ay + y) (bx + x) (b_y + y) (cx + x) (cy + y) = tr2 ax ay bx b_y cx cy := by
  unfold tr2
  rw [show bx + x - (ax + x) = bx - ax by omega, show cy + y - (ay + y) = cy - ay by omega, show b_y + y - (ay + y) = b_y - ay by omega, show cx + x - (ax + x) = cx - ax by omega]
theorem Moved.tn (h : Moved m a x y z) (f : Ba.Face) : tTn (tri a f) = tTn (tri m f) := by
  unfold tTn tri
  rw [h.sD]
  exact tr2_mv _ _ _ _ _ _ _ _
theorem Moved.lB (h : Moved m a x y z) (px py qx qy : Int) (f : Ba.Face) : Ms.lB (px + x) (py + y) (qx + x) (qy + y) (tri a f) = Ms.lB px py qx qy (tri m f) := by
  unfold Ms.lB tri
  rw [h.sD]
  simp only [mvS, tr2_mv]
theorem Moved.ov (h : Moved m a x y z) (f g : Ba.Face) : ovB (tri a f) (tri a g) = ovB (tri m f) (tri m g) := by
  have s : ∀ f g, sepB (tri a f) (tri a g) = sepB (tri m f) (tri m g) := fun f g => by
    unfold sepB
    rw [← h.lB _ _ _ _ g, ← h.lB _ _ _ _ g, ← h.lB _ _ _ _ g]
    unfold tri
    rw [h.sD]; rfl
  unfold ovB
  rw [s, s]
theorem Moved.vl (h : Moved m a x y z) (hb : mvBad m x y z = false) (hv : vlB m = true) : vlB a = true := by
  obtain ⟨h0, h1, h2, h3⟩ := vl_iff.1 hv
  refine vl_iff.2 ⟨?_, fun i hi => ?_, fun i hi => ?_, fun i j hj hi => ?_⟩
  · unfold smB at h0 ⊢; rw [h.sn, h.fn]; exact h0
  · rw [h.sn] at hi
    have hp := h.sp hb hi
    constructor
    · show (!spB (a.S.D i)) = false
      rw [h.sD]
      show (!spB (mvS x y z (m.S.D i))) = false
      rw [hp]; rfl
    · have k2 : (spB (m.S.D i) && Ba.any (fun j => spB (m.S.D j) && ((m.S.D j).x == (m.S.D i).x && (m.S.D j).y == (m.S.D i).y)) i) = false := (h1 i hi).2
      rw [vl_sp hv hi, Bool.true_and] at k2
      show (spB (a.S.D i) && Ba.any (fun j => spB (a.S.D j) && ((a.S.D j).x == (a.S.D i).x && (a.S.D j).y == (a.S.D i).y)) i) = false
      cases e : Ba.any (fun j => spB (a.S.D j) && ((a.S.D j).x == (a.S.D i).x && (a.S.D j).y == (a.S.D i).y)) i with
      | false => exact Bool.and_false _
      | true =>
        obtain ⟨j, hj, e⟩ := (any_iff _ _).1 e
        rw [h.sD] at e
        simp only [Bool.and_eq_true, beq_iff_eq, mvS] at e
        rw [any_hit (p := fun j => spB (m.S.D j) && ((m.S.D j).x == (m.S.D i).x && (m.S.D j).y == (m.S.D i).y)) (i := j) (by
          show (spB (m.S.D j) && ((m.S.D j).x == (m.S.D i).x && (m.S.D j).y == (m.S.D i).y)) = true
          rw [vl_sp hv (by omega), beq_iff_eq.2 (show (m.S.D j).x = (m.S.D i).x by omega), beq_iff_eq.2 (show (m.S.D j).y = (m.S.D i).y by omega)]; rfl) hj] at k2
        cases k2
  · rw [h.fn] at hi
    have q := h2 i hi
    unfold sndB at q ⊢
    rw [Bool.and_eq_true] at q ⊢
    rw [h.fD, h.tn]
    exact ⟨h.fc hb q.1, q.2⟩
  · rw [h.fn] at hi
    rw [h.ov, h.fD]
    exact h3 i j hj hi
theorem Moved.tot (h : Moved m a x y z) : ∀ n, totI a n = totI m n
  | 0 => rfl
  | n + 1 => by rw [totI, totI, h.tot n, h.tn, h.fD]
theorem Moved.nb (h : Moved m a x y z) (i k : Nat) : Ms.nb a i k = Ms.nb m i k := by
  unfold Ms.nb acO sdO sdA
  rw [h.fn, h.fD]
theorem Moved.back (h : Moved m a x y z) (hv : vlB m = true) : mvBad a (-x) (-y) (-z) = false := by
  unfold mvBad
  cases e : Ba.any (fun i => !spB (mvS (-x) (-y) (-z) (a.S.D i))) a.S.n with
  | false => rfl
  | true =>
    obtain ⟨i, hi, e⟩ := (any_iff _ _).1 e
    rw [h.sn] at hi
    rw [h.sD] at e
    have q : mvS (-x) (-y) (-z) (mvS x y z (m.S.D i)) = m.S.D i := by
      unfold mvS
      obtain ⟨p, q, r⟩ := m.S.D i
      simp only [Ba.Spot.mk.injEq]
      omega
    have e : (!spB (mvS (-x) (-y) (-z) (mvS x y z (m.S.D i)))) = true := e
    rw [q, vl_sp hv hi] at e; cases e
theorem mv_twice (s : Ba.Spot) (x y z : Int) : mvS (-x) (-y) (-z) (mvS x y z s) = s := by
  unfold mvS
  obtain ⟨p, q, r⟩ := s
  simp only [Ba.Spot.mk.injEq]
  omega
end
end Ms
end Go.Proofs.YtajhhplgcegodaaDoor
