/-
  Surfaces: what spots, faces and their findings are. Plain. No condition.
-/
import Derived.Test.YtajhhplgcegodaaDoorBaData
set_option linter.unusedVariables false
set_option linter.unusedSimpArgs false
namespace Go.Proofs.YtajhhplgcegodaaDoor
open Go.RowKit
namespace Ms
theorem any_succ (p : Nat → Bool) (n : Nat) : Ba.any p (n + 1) = (Ba.any p n || p n) := by
  unfold Ba.any
  rw [Ba.fst]
  cases Ba.fst p n with
  | some i => rfl
  | none => cases h : p n <;> simp
theorem any_iff (p : Nat → Bool) : ∀ n, Ba.any p n = true ↔ ∃ i, i < n ∧ p i = true
  | 0 => by simp [Ba.any, Ba.fst]
  | n + 1 => by
    rw [any_succ, Bool.or_eq_true, any_iff p n]
    constructor
    · rintro (⟨i, hi, h⟩ | h)
      · exact ⟨i, by omega, h⟩
      · exact ⟨n, by omega, h⟩
    · rintro ⟨i, hi, h⟩
      by_cases e : i = n
      · subst e; exact Or.inr h
      · exact Or.inl ⟨i, by omega, h⟩
theorem any_go {p : Nat → Bool} {i : Nat} (h : Ba.any p i = false) (hp : p i = false) : Ba.any p (i + 1) = false := by rw [any_succ, h, hp]; rfl
theorem any_hit {p : Nat → Bool} {i n : Nat} (hp : p i = true) (hi : i < n) : Ba.any p n = true := (any_iff p n).2 ⟨i, hi, hp⟩
theorem any_congr {p q : Nat → Bool} : ∀ {n : Nat}, (∀ i, i < n → p i = q i) → Ba.any p n = Ba.any q n
  | 0, _ => rfl
  | n + 1, h => by rw [any_succ, any_succ, any_congr fun i hi => h i (by omega), h n (by omega)]
def bt (x lo hi : Int) : Bool := decide (lo ≤ x) && decide (x ≤ hi)
theorem bt_iff {x lo hi : Int} : bt x lo hi = true ↔ lo ≤ x ∧ x ≤ hi := by unfold bt; rw [Bool.and_eq_true, decide_eq_true_eq, decide_eq_true_eq]
def ptB (x y : Int) : Bool := bt x (-16777216) 16777216 && bt y (-16777216) 16777216
def spB (s : Ba.Spot) : Bool := ptB s.x s.y && bt s.z (-4194304) 4194304
/-- A coordinate is in range. -/
def cd (x : Int) : Prop := -16777216 ≤ x ∧ x ≤ 16777216
theorem ptB_iff {x y : Int} : ptB x y = true ↔ cd x ∧ cd y := by unfold ptB cd; rw [Bool.and_eq_true, bt_iff, bt_iff]
theorem spB_cd {s : Ba.Spot} (h : spB s = true) : cd s.x ∧ cd s.y := by
  unfold spB at h; rw [Bool.and_eq_true] at h; exact ptB_iff.1 h.1
/-- A surface: its spots and faces in memory. -/
structure Mesh where
  S : Ba.SlSpot
  F : Ba.SlFace
structure Mesh.At (w : World) (m : Mesh) : Prop where
  s : m.S.At w
  f : m.F.At w
theorem Mesh.At.gr {w w1 : World} {m : Mesh} (h : m.At w) (g : Gr w w1) : m.At w1 := ⟨h.s.gr g, h.f.gr g⟩
def Mesh.val (m : Mesh) : Value := .agg #[.slice m.S.A m.S.n m.S.c, .slice m.F.A m.F.n m.F.c]
/-- A number is a right spot's. -/
def inR (m : Mesh) (x : Int) : Bool := decide (0 ≤ x) && (decide (x < (m.S.n : Int)) && spB (m.S.D x.toNat))
/-- A face's corners and class are right. -/
def fcB (m : Mesh) (f : Ba.Face) : Bool := inR m f.a && (inR m f.b && (inR m f.c && (!(f.a == f.b) && (!(f.b == f.c) && (!(f.c == f.a) && bt f.k 0 15)))))
/-- The turn of three points. -/
def tr2 (ax ay bx b_y cx cy : Int) : Int := (bx - ax) * (cy - ay) - (b_y - ay) * (cx - ax)
abbrev Tri := Ba.Tri
def tOk (t : Tri) : Prop := cd t.x0 ∧ cd t.y0 ∧ cd t.x1 ∧ cd t.y1 ∧ cd t.x2 ∧ cd t.y2
def tTn (t : Tri) : Int := tr2 t.x0 t.y0 t.x1 t.y1 t.x2 t.y2
def tri (m : Mesh) (f : Ba.Face) : Tri := ⟨(m.S.D f.a.toNat).x, (m.S.D f.a.toNat).y, (m.S.D f.b.toNat).x, (m.S.D f.b.toNat).y, (m.S.D f.c.toNat).x, (m.S.D f.c.toNat).y⟩
theorem inR_parts {m : Mesh} {x : Int} (h : inR m x = true) : ∃ i : Nat, x = (i : Int) ∧ i < m.S.n ∧ spB (m.S.D i) = true := by
  unfold inR at h
  simp only [Bool.and_eq_true, decide_eq_true_eq] at h
  exact ⟨x.toNat, by omega, by omega, h.2.2⟩
theorem tri_ok {m : Mesh} {f : Ba.Face} (h : fcB m f = true) : tOk (tri m f) := by
  unfold fcB at h
  simp only [Bool.and_eq_true] at h
  obtain ⟨ha, hb, hc, -⟩ := h
  unfold inR at ha hb hc
  simp only [Bool.and_eq_true] at ha hb hc
  have a := spB_cd ha.2.2; have b := spB_cd hb.2.2; have c := spB_cd hc.2.2
  exact ⟨a.1, a.2, b.1, b.2, c.1, c.2⟩
/-- One side has all of a triangle on its right, or on its line. -/
def lB (ax ay bx b_y : Int) (u : Tri) : Bool := decide (tr2 ax ay bx b_y u.x0 u.y0 ≤ 0) && (decide (tr2 ax ay bx b_y u.x1 u.y1 ≤ 0) && decide (tr2 ax ay bx b_y u.x2 u.y2 ≤ 0))
def sepB (t u : Tri) : Bool := lB t.x0 t.y0 t.x1 t.y1 u || (lB t.x1 t.y1 t.x2 t.y2 u || lB t.x2 t.y2 t.x0 t.y0 u)
def ovB (t u : Tri) : Bool := !sepB t u && !sepB u t
/-- The corners, counted around. -/
def cor (f : Ba.Face) (k : Nat) : Int := match k % 3 with | 0 => f.a | 1 => f.b | _ => f.c
def sdB (f g : Ba.Face) (i k : Nat) : Bool := (cor f i == cor g k) && (cor f (i + 1) == cor g (k + 1))
def ssB (f g : Ba.Face) : Bool := Ba.any (fun i => Ba.any (fun k => sdB f g i k) 3) 3
/-- A face has right corners, and turns to the left. -/
def sndB (m : Mesh) (f : Ba.Face) : Bool := fcB m f && decide (0 < tTn (tri m f))
/-- The findings: of a kind, at a spot or face. -/
def kd (m : Mesh) : Nat → Nat → Bool
  | 1, i => !spB (m.S.D i)
  | 2, i => spB (m.S.D i) && Ba.any (fun j => spB (m.S.D j) && ((m.S.D j).x == (m.S.D i).x && (m.S.D j).y == (m.S.D i).y)) i
  | 3, i => !fcB m (m.F.D i)
  | 4, i => fcB m (m.F.D i) && !decide (0 < tTn (tri m (m.F.D i)))
  | 5, i => sndB m (m.F.D i) && Ba.any (fun j => sndB m (m.F.D j) && ssB (m.F.D i) (m.F.D j)) i
  | 6, i => sndB m (m.F.D i) && Ba.any (fun j => sndB m (m.F.D j) && ovB (tri m (m.F.D i)) (tri m (m.F.D j))) i
  | _, _ => false
def num (m : Mesh) (k : Nat) : Nat := if k ≤ 2 then m.S.n else m.F.n
/-- The numbers below n with a property, in their order. -/
def idx (p : Nat → Bool) : Nat → List Nat
  | 0 => []
  | n + 1 => if p n then idx p n ++ [n] else idx p n
theorem idx_yes {p : Nat → Bool} {n : Nat} (h : p n = true) : idx p (n + 1) = idx p n ++ [n] := by rw [idx, if_pos h]
theorem idx_no {p : Nat → Bool} {n : Nat} (h : p n = false) : idx p (n + 1) = idx p n := by rw [idx, if_neg (by rw [h]; decide)]
theorem idx_le (p : Nat → Bool) : ∀ n, (idx p n).length ≤ n
  | 0 => Nat.le_refl _
  | n + 1 => by
    have := idx_le p n
    rw [idx]; split
    · rw [List.length_append]; simp; exact this
    · omega
theorem idx_mem {p : Nat → Bool} : ∀ {n i : Nat}, i ∈ idx p n ↔ i < n ∧ p i = true
  | 0, i => by simp [idx]
  | n + 1, i => by
    rw [idx]
    split
    · rename_i h
      rw [List.mem_append, idx_mem, List.mem_singleton]
      constructor
      · rintro (⟨a, b⟩ | rfl)
        · exact ⟨by omega, b⟩
        · exact ⟨by omega, h⟩
      · rintro ⟨a, b⟩
        by_cases e : i = n
        · exact Or.inr e
        · exact Or.inl ⟨by omega, b⟩
    · rename_i h
      rw [idx_mem]
      constructor
      · rintro ⟨a, b⟩; exact ⟨by omega, b⟩
      · rintro ⟨a, b⟩
        by_cases e : i = n
        · subst e; exact absurd b h
        · exact ⟨by omega, b⟩
theorem idx_congr {p q : Nat → Bool} : ∀ {n : Nat}, (∀ i, i < n → p i = q i) → idx p n = idx q n
  | 0, _ => rfl
  | n + 1, h => by rw [idx, idx, idx_congr fun i hi => h i (by omega), h n (by omega)]
/-- The findings of the kinds below k. -/
def fnd (m : Mesh) : Nat → List (Nat × Nat)
  | 0 => []
  | k + 1 => fnd m k ++ (idx (kd m k) (num m k)).map fun i => (k, i)
def smB (m : Mesh) : Bool := decide (m.S.n ≤ 2000) && decide (m.F.n ≤ 4000)
/-- A surface is valid. -/
def vlB (m : Mesh) : Bool := smB m && (fnd m 7).isEmpty
theorem mul_bd {a b : Int} (ha : -33554432 ≤ a ∧ a ≤ 33554432) (hb : -33554432 ≤ b ∧ b ≤ 33554432) : -1125899906842624 ≤ a * b ∧ a * b ≤ 1125899906842624 := by
  have pos : ∀ x y : Int, 0 ≤ x → x ≤ 33554432 → 0 ≤ y → y ≤ 33554432 → 0 ≤ x * y ∧ x * y ≤ 1125899906842624 := fun x y h1 h2 h3 h4 => ⟨Int.mul_nonneg h1 h3, Int.mul_le_mul h2 h4 h3 (by decide)⟩
  rcases (by omega : 0 ≤ a ∨ a ≤ 0) with p | p <;> rcases (by omega : 0 ≤ b ∨ b ≤ 0) with q | q
  · have := pos a b p ha.2 q hb.2; omega
  · have := pos a (-b) p ha.2 (by omega) (by omega); rw [Int.mul_neg] at this; omega
  · have := pos (-a) b (by omega) (by omega) q hb.2; rw [Int.neg_mul] at this; omega
  · have := pos (-a) (-b) (by omega) (by omega) (by omega) (by omega); rw [Int.neg_mul_neg] at this; omega
theorem tr2_bd {ax ay bx b_y cx cy : Int} (h1 : cd ax) (h2 : cd ay) (h3 : cd bx) (h4 : cd b_y) (h5 : cd cx) (h6 : cd cy) : -2251799813685248 ≤ tr2 ax ay bx b_y cx cy ∧ tr2 ax ay bx b_y cx cy ≤ 2251799813685248 := by
  unfold cd at *
  have a := mul_bd (a := bx - ax) (b := cy - ay) (by omega) (by omega)
  have b := mul_bd (a := b_y - ay) (b := cx - ax) (by omega) (by omega)
  unfold tr2; omega
end Ms
end Go.Proofs.YtajhhplgcegodaaDoor
