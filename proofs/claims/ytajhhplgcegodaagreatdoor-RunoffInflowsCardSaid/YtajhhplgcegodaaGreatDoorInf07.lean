/-
  Surfaces: what spots, faces and their findings are. Plain. No condition.
  Surfaces: points, spots, corners, triangles, turns, sides: the program's and the reference's. (Printed by mka.py.)
  Surfaces: triangles, sides, the test of a corner: the program's. (Printed by mkb.py.)
-/
import Derived.Test.YtajhhplgcegodaaGreatDoorInf04
import Derived.Test.YtajhhplgcegodaaGreatDoorInf02
import Derived.Deep.DrawnRows
set_option linter.unusedVariables false
set_option linter.unusedSimpArgs false
namespace Go.Proofs.YtajhhplgcegodaaGreatDoor
open Go.RowKit
namespace Ms
theorem any_succ (p : Nat → Bool) (n : Nat) : Ba.any p (n + 1) = (Ba.any p n || p n) := by
  unfold Ba.any
  rw [Ba.fst]
  cases Ba.fst p n with
  | some i => rfl
  | none => cases h : p n <;> simp
theorem any_iff (p : Nat → Bool) : ∀ n, Ba.any p n = true ↔ ∃ i, i < n ∧ p i = true
  | 0 => by simp [Ba.any, Ba.fst]
  | n + 1 => by
    rw [any_succ, Bool.or_eq_true, any_iff p n]
    constructor
    · rintro (⟨i, hi, h⟩ | h)
      · exact ⟨i, by omega, h⟩
      · exact ⟨n, by omega, h⟩
    · rintro ⟨i, hi, h⟩
      by_cases e : i = n
      · subst e; exact Or.inr h
      · exact Or.inl ⟨i, by omega, h⟩
theorem any_go {p : Nat → Bool} {i : Nat} (h : Ba.any p i = false) (hp : p i = false) : Ba.any p (i + 1) = false := by rw [any_succ, h, hp]; rfl
theorem any_hit {p : Nat → Bool} {i n : Nat} (hp : p i = true) (hi : i < n) : Ba.any p n = true := (any_iff p n).2 ⟨i, hi, hp⟩
def bt (x lo hi : Int) : Bool := decide (lo ≤ x) && decide (x ≤ hi)
theorem bt_iff {x lo hi : Int} : bt x lo hi = true ↔ lo ≤ x ∧ x ≤ hi := by unfold bt; rw [Bool.and_eq_true, decide_eq_true_eq, decide_eq_true_eq]
def ptB (x y : Int) : Bool := bt x (-16777216) 16777216 && bt y (-16777216) 16777216
def spB (s : Ba.Spot) : Bool := ptB s.x s.y && bt s.z (-4194304) 4194304
/-- A coordinate is in range. -/
def cd (x : Int) : Prop := -16777216 ≤ x ∧ x ≤ 16777216
theorem ptB_iff {x y : Int} : ptB x y = true ↔ cd x ∧ cd y := by unfold ptB cd; rw [Bool.and_eq_true, bt_iff, bt_iff]
theorem spB_cd {s : Ba.Spot} (h : spB s = true) : cd s.x ∧ cd s.y := by
  unfold spB at h; rw [Bool.and_eq_true] at h; exact ptB_iff.1 h.1
/-- A surface: its spots and faces in memory. -/
structure Mesh where
  S : Ba.SlSpot
  F : Ba.SlFace
structure Mesh.At (w : World) (m : Mesh) : Prop where
  s : m.S.At w
  f : m.F.At w
theorem Mesh.At.gr {w w1 : World} {m : Mesh} (h : m.At w) (g : Gr w w1) : m.At w1 := ⟨h.s.gr g, h.f.gr g⟩
def Mesh.val (m : Mesh) : Value := .agg #[.slice m.S.A m.S.n m.S.c, .slice m.F.A m.F.n m.F.c]
/-- A number is a right spot's. -/
def inR (m : Mesh) (x : Int) : Bool := decide (0 ≤ x) && (decide (x < (m.S.n : Int)) && spB (m.S.D x.toNat))
/-- A face's corners and class are right. -/
def fcB (m : Mesh) (f : Ba.Face) : Bool := inR m f.a && (inR m f.b && (inR m f.c && (!(f.a == f.b) && (!(f.b == f.c) && (!(f.c == f.a) && bt f.k 0 15)))))
/-- The turn of three points. -/
def tr2 (ax ay bx b_y cx cy : Int) : Int := (bx - ax) * (cy - ay) - (b_y - ay) * (cx - ax)
abbrev Tri := Ba.Tri
def tOk (t : Tri) : Prop := cd t.x0 ∧ cd t.y0 ∧ cd t.x1 ∧ cd t.y1 ∧ cd t.x2 ∧ cd t.y2
def tTn (t : Tri) : Int := tr2 t.x0 t.y0 t.x1 t.y1 t.x2 t.y2
def tri (m : Mesh) (f : Ba.Face) : Tri := ⟨(m.S.D f.a.toNat).x, (m.S.D f.a.toNat).y, (m.S.D f.b.toNat).x, (m.S.D f.b.toNat).y, (m.S.D f.c.toNat).x, (m.S.D f.c.toNat).y⟩
theorem inR_parts {m : Mesh} {x : Int} (h : inR m x = true) : ∃ i : Nat, x = (i : Int) ∧ i < m.S.n ∧ spB (m.S.D i) = true := by
  unfold inR at h
  simp only [Bool.and_eq_true, decide_eq_true_eq] at h
  exact ⟨x.toNat, by omega, by omega, h.2.2⟩
theorem tri_ok {m : Mesh} {f : Ba.Face} (h : fcB m f = true) : tOk (tri m f) := by
  unfold fcB at h
  simp only [Bool.and_eq_true] at h
  obtain ⟨ha, hb, hc, -⟩ := h
  unfold inR at ha hb hc
  simp only [Bool.and_eq_true] at ha hb hc
  have a := spB_cd ha.2.2; have b := spB_cd hb.2.2; have c := spB_cd hc.2.2
  exact ⟨a.1, a.2, b.1, b.2, c.1, c.2⟩
/-- One side has all of a triangle on its right, or on its line. -/
def lB (ax ay bx b_y : Int) (u : Tri) : Bool := decide (tr2 ax ay bx b_y u.x0 u.y0 ≤ 0) && (decide (tr2 ax ay bx b_y u.x1 u.y1 ≤ 0) && decide (tr2 ax ay bx b_y u.x2 u.y2 ≤ 0))
def sepB (t u : Tri) : Bool := lB t.x0 t.y0 t.x1 t.y1 u || (lB t.x1 t.y1 t.x2 t.y2 u || lB t.x2 t.y2 t.x0 t.y0 u)
def ovB (t u : Tri) : Bool := !sepB t u && !sepB u t
/-- The corners, counted around. -/
def cor (f : Ba.Face) (k : Nat) : Int := match k % 3 with | 0 => f.a | 1 => f.b | _ => f.c
def sdB (f g : Ba.Face) (i k : Nat) : Bool := (cor f i == cor g k) && (cor f (i + 1) == cor g (k + 1))
def ssB (f g : Ba.Face) : Bool := Ba.any (fun i => Ba.any (fun k => sdB f g i k) 3) 3
/-- A face has right corners, and turns to the left. -/
def sndB (m : Mesh) (f : Ba.Face) : Bool := fcB m f && decide (0 < tTn (tri m f))
/-- The findings: of a kind, at a spot or face. -/
def kd (m : Mesh) : Nat → Nat → Bool
  | 1, i => !spB (m.S.D i)
  | 2, i => spB (m.S.D i) && Ba.any (fun j => spB (m.S.D j) && ((m.S.D j).x == (m.S.D i).x && (m.S.D j).y == (m.S.D i).y)) i
  | 3, i => !fcB m (m.F.D i)
  | 4, i => fcB m (m.F.D i) && !decide (0 < tTn (tri m (m.F.D i)))
  | 5, i => sndB m (m.F.D i) && Ba.any (fun j => sndB m (m.F.D j) && ssB (m.F.D i) (m.F.D j)) i
  | 6, i => sndB m (m.F.D i) && Ba.any (fun j => sndB m (m.F.D j) && ovB (tri m (m.F.D i)) (tri m (m.F.D j))) i
  | _, _ => false
def num (m : Mesh) (k : Nat) : Nat := if k ≤ 2 then m.S.n else m.F.n
/-- The numbers below n with a property, in their order. -/
def idx (p : Nat → Bool) : Nat → List Nat
  | 0 => []
  | n + 1 => if p n then idx p n ++ [n] else idx p n
theorem idx_yes {p : Nat → Bool} {n : Nat} (h : p n = true) : idx p (n + 1) = idx p n ++ [n] := by rw [idx, if_pos h]
theorem idx_no {p : Nat → Bool} {n : Nat} (h : p n = false) : idx p (n + 1) = idx p n := by rw [idx, if_neg (by rw [h]; decide)]
theorem idx_le (p : Nat → Bool) : ∀ n, (idx p n).length ≤ n
  | 0 => Nat.le_refl _
  | n + 1 => by
    have := idx_le p n
    rw [idx]; split
    · rw [List.length_append]; simp; exact this
    · omega
theorem idx_mem {p : Nat → Bool} : ∀ {n i : Nat}, i ∈ idx p n ↔ i < n ∧ p i = true
  | 0, i => by simp [idx]
  | n + 1, i => by
    rw [idx]
    split
    · rename_i h
      rw [List.mem_append, idx_mem, List.mem_singleton]
      constructor
      · rintro (⟨a, b⟩ | rfl)
        · exact ⟨by omega, b⟩
        · exact ⟨by omega, h⟩
      · rintro ⟨a, b⟩
        by_cases e : i = n
        · exact Or.inr e
        · exact Or.inl ⟨by omega, b⟩
    · rename_i h
      rw [idx_mem]
      constructor
      · rintro ⟨a, b⟩; exact ⟨by omega, b⟩
      · rintro ⟨a, b⟩
        by_cases e : i = n
        · subst e; exact absurd b h
        · exact ⟨by omega, b⟩
/-- The findings of the kinds below k. -/
def fnd (m : Mesh) : Nat → List (Nat × Nat)
  | 0 => []
  | k + 1 => fnd m k ++ (idx (kd m k) (num m k)).map fun i => (k, i)
def smB (m : Mesh) : Bool := decide (m.S.n ≤ 2000) && decide (m.F.n ≤ 4000)
/-- A surface is valid. -/
def vlB (m : Mesh) : Bool := smB m && (fnd m 7).isEmpty
theorem mul_bd {a b : Int} (ha : -33554432 ≤ a ∧ a ≤ 33554432) (hb : -33554432 ≤ b ∧ b ≤ 33554432) : -1125899906842624 ≤ a * b ∧ a * b ≤ 1125899906842624 := by
  have pos : ∀ x y : Int, 0 ≤ x → x ≤ 33554432 → 0 ≤ y → y ≤ 33554432 → 0 ≤ x * y ∧ x * y ≤ 1125899906842624 := fun x y h1 h2 h3 h4 => ⟨Int.mul_nonneg h1 h3, Int.mul_le_mul h2 h4 h3 (by decide)⟩
  rcases (by omega : 0 ≤ a ∨ a ≤ 0) with p | p <;> rcases (by omega : 0 ≤ b ∨ b ≤ 0) with q | q
  · have := pos a b p ha.2 q hb.2; omega
  · have := pos a (-b) p ha.2 (by omega) (by omega); rw [Int.mul_neg] at this; omega
  · have := pos (-a) b (by omega) (by omega) q hb.2; rw [Int.neg_mul] at this; omega
  · have := pos (-a) (-b) (by omega) (by omega) (by omega) (by omega); rw [Int.neg_mul_neg] at this; omega
theorem tr2_bd {ax ay bx b_y cx cy : Int} (h1 : cd ax) (h2 : cd ay) (h3 : cd bx) (h4 : cd b_y) (h5 : cd cx) (h6 : cd cy) : -2251799813685248 ≤ tr2 ax ay bx b_y cx cy ∧ tr2 ax ay bx b_y cx cy ≤ 2251799813685248 := by
  unfold cd at *
  have a := mul_bd (a := bx - ax) (b := cy - ay) (by omega) (by omega)
  have b := mul_bd (a := b_y - ay) (b := cx - ax) (by omega) (by omega)
  unfold tr2; omega
end Ms
end Go.Proofs.YtajhhplgcegodaaGreatDoor
namespace Go.Proofs.YtajhhplgcegodaaGreatDoor
open Go.RowKit
attribute [local go_sem ↓] Go.wp_at_zero Go.wp_at_succ
set_option maxRecDepth 100000 in
set_option maxHeartbeats 4000000 in
theorem ms_pvalid (x y : Int) (w : World) : Calls Tryz.prog 65 #[.agg #[.int .i64 x, .int .i64 y]] w fun e w' => e = .returned (.bool (Ms.ptB x y)) ∧ Gr w w' := by
  unfold Ms.ptB Ms.bt
  cases t0 : decide (-16777216 ≤ x)
  · go_enter Tryz.func65, Tryz.ntmps65
    go_wp2_with fail
    go_ret
    exact ⟨rfl, gr_auto⟩
  · cases t1 : decide (x ≤ 16777216)
    · go_enter Tryz.func65, Tryz.ntmps65
      go_wp2_with fail
      go_ret
      exact ⟨rfl, gr_auto⟩
    · cases t2 : decide (-16777216 ≤ y)
      · go_enter Tryz.func65, Tryz.ntmps65
        go_wp2_with fail
        go_ret
        exact ⟨rfl, gr_auto⟩
      · cases t3 : decide (y ≤ 16777216)
        · go_enter Tryz.func65, Tryz.ntmps65
          go_wp2_with fail
          go_ret
          exact ⟨rfl, gr_auto⟩
        · go_enter Tryz.func65, Tryz.ntmps65
          go_wp2_with fail
          go_ret
          exact ⟨rfl, gr_auto⟩
set_option maxRecDepth 100000 in
set_option maxHeartbeats 4000000 in
theorem ms_right (s : Ba.Spot) (w : World) : Calls Tryz.prog 127 #[s.val] w fun e w' => e = .returned (.bool (Ms.spB s)) ∧ Gr w w' := by
  unfold Ms.spB Ms.bt Ba.Spot.val
  obtain ⟨x, y, z⟩ := s
  simp only
  have HP := Lib.hid (fun W => ms_pvalid x y W)
  cases q : Ms.ptB x y
  · rw [q] at HP
    clear q
    go_enter Tryz.func127, Tryz.ntmps127
    go_wp2_with fail
    refine (HP.out _).mono ?_
    rintro e w1 ⟨rfl, hb1⟩
    clear HP
    have d2 := Gr.at hb1 (b := w.heap.size) (o := 2) (v := .int .i64 z) (by simp [go_sem])
    go_wp2_with fail
    go_ret
    exact ⟨rfl, gr_auto⟩
  · rw [q] at HP
    clear q
    cases t4 : decide (-4194304 ≤ z)
    · go_enter Tryz.func127, Tryz.ntmps127
      go_wp2_with fail
      refine (HP.out _).mono ?_
      rintro e w1 ⟨rfl, hb1⟩
      clear HP
      have d2 := Gr.at hb1 (b := w.heap.size) (o := 2) (v := .int .i64 z) (by simp [go_sem])
      go_wp2_with fail
      go_ret
      exact ⟨rfl, gr_auto⟩
    · cases t5 : decide (z ≤ 4194304)
      · go_enter Tryz.func127, Tryz.ntmps127
        go_wp2_with fail
        refine (HP.out _).mono ?_
        rintro e w1 ⟨rfl, hb1⟩
        clear HP
        have d2 := Gr.at hb1 (b := w.heap.size) (o := 2) (v := .int .i64 z) (by simp [go_sem])
        go_wp2_with fail
        go_ret
        exact ⟨rfl, gr_auto⟩
      · go_enter Tryz.func127, Tryz.ntmps127
        go_wp2_with fail
        refine (HP.out _).mono ?_
        rintro e w1 ⟨rfl, hb1⟩
        clear HP
        have d2 := Gr.at hb1 (b := w.heap.size) (o := 2) (v := .int .i64 z) (by simp [go_sem])
        go_wp2_with fail
        go_ret
        exact ⟨rfl, gr_auto⟩
set_option maxRecDepth 100000 in
set_option maxHeartbeats 4000000 in
theorem rs_spot (s : Ba.Spot) (w : World) : Calls Tryz.prog 85 #[s.val] w fun e w' => e = .returned (.bool (Ms.spB s)) ∧ Gr w w' := by
  unfold Ms.spB Ms.ptB Ms.bt Ba.Spot.val
  obtain ⟨x, y, z⟩ := s
  simp only
  cases t0 : decide (-16777216 ≤ x)
  · go_enter Tryz.func85, Tryz.ntmps85
    go_wp2_with fail
    go_ret
    exact ⟨rfl, gr_auto⟩
  · cases t1 : decide (x ≤ 16777216)
    · go_enter Tryz.func85, Tryz.ntmps85
      go_wp2_with fail
      go_ret
      exact ⟨rfl, gr_auto⟩
    · cases t2 : decide (-16777216 ≤ y)
      · go_enter Tryz.func85, Tryz.ntmps85
        go_wp2_with fail
        go_ret
        exact ⟨rfl, gr_auto⟩
      · cases t3 : decide (y ≤ 16777216)
        · go_enter Tryz.func85, Tryz.ntmps85
          go_wp2_with fail
          go_ret
          exact ⟨rfl, gr_auto⟩
        · cases t4 : decide (-4194304 ≤ z)
          · go_enter Tryz.func85, Tryz.ntmps85
            go_wp2_with fail
            go_ret
            exact ⟨rfl, gr_auto⟩
          · cases t5 : decide (z ≤ 4194304)
            · go_enter Tryz.func85, Tryz.ntmps85
              go_wp2_with fail
              go_ret
              exact ⟨rfl, gr_auto⟩
            · go_enter Tryz.func85, Tryz.ntmps85
              go_wp2_with fail
              go_ret
              exact ⟨rfl, gr_auto⟩
set_option maxRecDepth 100000 in
set_option maxHeartbeats 4000000 in
theorem ms_turn (ax ay bx b_y cx cy : Int) (w : World) (h1 : Ms.cd ax) (h2 : Ms.cd ay) (h3 : Ms.cd bx) (h4 : Ms.cd b_y) (h5 : Ms.cd cx) (h6 : Ms.cd cy) : Calls Tryz.prog 132 #[.agg #[.int .i64 ax, .int .i64 ay], .agg #[.int .i64 bx, .int .i64 b_y], .agg #[.int .i64 cx, .int .i64 cy]] w fun e w' => e = .returned (.int .i64 (Ms.tr2 ax ay bx b_y cx cy)) ∧ Gr w w' := by
  unfold Ms.cd at *
  obtain ⟨a1, a2⟩ := Ms.mul_bd (a := bx - ax) (b := cy - ay) (by omega) (by omega)
  obtain ⟨b1, b2⟩ := Ms.mul_bd (a := b_y - ay) (b := cx - ax) (by omega) (by omega)
  obtain ⟨h11, h12⟩ := h1; obtain ⟨h21, h22⟩ := h2; obtain ⟨h31, h32⟩ := h3; obtain ⟨h41, h42⟩ := h4; obtain ⟨h51, h52⟩ := h5; obtain ⟨h61, h62⟩ := h6
  unfold Ms.tr2
  go_enter Tryz.func132, Tryz.ntmps132
  go_wp2_with fail
  go_ret
  exact ⟨rfl, gr_auto⟩
set_option maxRecDepth 100000 in
set_option maxHeartbeats 4000000 in
theorem rs_turn (ax ay bx b_y cx cy : Int) (w : World) (h1 : Ms.cd ax) (h2 : Ms.cd ay) (h3 : Ms.cd bx) (h4 : Ms.cd b_y) (h5 : Ms.cd cx) (h6 : Ms.cd cy) : Calls Tryz.prog 141 #[.agg #[.int .i64 ax, .int .i64 ay], .agg #[.int .i64 bx, .int .i64 b_y], .agg #[.int .i64 cx, .int .i64 cy]] w fun e w' => e = .returned (.int .i64 (Ms.tr2 ax ay bx b_y cx cy)) ∧ Gr w w' := by
  unfold Ms.cd at *
  obtain ⟨a1, a2⟩ := Ms.mul_bd (a := bx - ax) (b := cy - ay) (by omega) (by omega)
  obtain ⟨b1, b2⟩ := Ms.mul_bd (a := b_y - ay) (b := cx - ax) (by omega) (by omega)
  obtain ⟨h11, h12⟩ := h1; obtain ⟨h21, h22⟩ := h2; obtain ⟨h31, h32⟩ := h3; obtain ⟨h41, h42⟩ := h4; obtain ⟨h51, h52⟩ := h5; obtain ⟨h61, h62⟩ := h6
  unfold Ms.tr2
  go_enter Tryz.func141, Tryz.ntmps141
  go_wp2_with fail
  go_ret
  exact ⟨rfl, gr_auto⟩
set_option maxRecDepth 100000 in
set_option maxHeartbeats 4000000 in
theorem ms_point (m : Ms.Mesh) (i : Nat) (w : World) (h : m.S.At w) (hi : i < m.S.n) : Calls Tryz.prog 128 #[m.val, .int .i64 (i : Int)] w fun e w' => e = .returned (.agg #[.int .i64 (m.S.D i).x, .int .i64 (m.S.D i).y]) ∧ Gr w w' := by
  have hA := h.hA (by omega)
  obtain ⟨a0, a1, a2⟩ := (h.hD i hi).1
  have hc := h.hc; have hb := h.hb
  have hB : m.S.b < w.heap.size := World.block_lt_of_cell? _ _ a0
  have ib0 : (0 : Int) ≤ (i : Int) := by omega
  have ib1 : (i : Int) < (m.S.n : Int) := by omega
  clear h a2
  unfold Ms.Mesh.val
  rw [hA]
  clear hA
  generalize m.S.D i = s at *; generalize m.S.n = n at *; generalize m.S.c = c at *; generalize m.S.b = b at *; generalize m.S.o = o at *; generalize m.F.A = fA at *; generalize m.F.n = fn at *; generalize m.F.c = fc at *
  go_enter Tryz.func128, Tryz.ntmps128
  go_wp2_with fail
  have hn0 : b ≠ w.heap.size := by omega
  have hn1 : b ≠ w.heap.size + 1 := by omega
  refine wp_region_tail 13 (by kernel_rfl) (by kernel_rfl) ?_
  simp only [List.take_succ_cons, List.take_zero, List.drop_succ_cons, List.drop_zero]
  repeat (go_big_quiet_step (skip))
  refine wpQuiet_nil ?_
  go_wp2_with fail
  refine bodyPost_ret (by simp [results, Tryz.results128, go_sem]; try rfl) rfl ?_
  exact ⟨rfl, gr_auto⟩
set_option maxRecDepth 100000 in
set_option maxHeartbeats 4000000 in
theorem rs_point (s : Ba.Spot) (w : World) : Calls Tryz.prog 87 #[s.val] w fun e w' => e = .returned (.agg #[.int .i64 s.x, .int .i64 s.y]) ∧ Gr w w' := by
  unfold Ba.Spot.val
  obtain ⟨x, y, z⟩ := s
  simp only
  go_enter Tryz.func87, Tryz.ntmps87
  go_wp2_with fail
  refine bodyPost_ret (by simp [results, Tryz.results87, go_sem]; try rfl) rfl ?_
  exact ⟨rfl, gr_auto⟩
set_option maxRecDepth 100000 in
set_option maxHeartbeats 4000000 in
theorem ms_corners (f : Ba.Face) (w : World) : Calls Tryz.prog 129 #[f.val] w fun e w' => e = .returned (.agg #[.int .i64 f.a, .int .i64 f.b, .int .i64 f.c]) ∧ Gr w w' := by
  unfold Ba.Face.val
  obtain ⟨a, b, c, k⟩ := f
  simp only
  go_enter Tryz.func129, Tryz.ntmps129
  go_wp2_with fail
  refine bodyPost_ret (by simp [results, Tryz.results129, go_sem]; try rfl) rfl ?_
  exact ⟨rfl, gr_auto⟩
end Go.Proofs.YtajhhplgcegodaaGreatDoor
namespace Go.Proofs.YtajhhplgcegodaaGreatDoor
open Go.RowKit
attribute [local go_sem ↓] Go.wp_at_zero Go.wp_at_succ
set_option maxRecDepth 100000 in
set_option maxHeartbeats 4000000 in
theorem ms_tri (m : Ms.Mesh) (f : Ba.Face) (w : World) (h : m.S.At w) (hf : Ms.fcB m f = true) : Calls Tryz.prog 131 #[m.val, f.val] w fun e w' => e = .returned ((Ms.tri m f).val) ∧ Gr w w' := by
  unfold Ms.fcB at hf
  simp only [Bool.and_eq_true] at hf
  obtain ⟨ia, ea, la, -⟩ := Ms.inR_parts hf.1
  obtain ⟨ib, eb, lb, -⟩ := Ms.inR_parts hf.2.1
  obtain ⟨ic, ec, lc, -⟩ := Ms.inR_parts hf.2.2.1
  clear hf
  obtain ⟨a, b, c, k⟩ := f
  simp only at ea eb ec
  subst ea; subst eb; subst ec
  have H1 := Lib.hid (fun W (hW : Gr w W) => ms_point m ia W (h.gr hW) la)
  have H2 := Lib.hid (fun W (hW : Gr w W) => ms_point m ib W (h.gr hW) lb)
  have H3 := Lib.hid (fun W (hW : Gr w W) => ms_point m ic W (h.gr hW) lc)
  clear la lb lc h
  unfold Ba.Tri.val Ms.tri Ba.Face.val
  simp only [Int.toNat_natCast]
  unfold Ms.Mesh.val at *
  generalize m.S.D ia = da at *; generalize m.S.D ib = db at *; generalize m.S.D ic = dc at *
  generalize m.S.A = sA at *; generalize m.S.n = sn at *; generalize m.S.c = sc at *; generalize m.F.A = fA at *; generalize m.F.n = fn at *; generalize m.F.c = fc at *
  go_enter Tryz.func131, Tryz.ntmps131
  go_wp2_with fail
  (first | refine name_world ?_ | refine (show (∀ W, W = _ → Calls _ _ _ W _) → Calls _ _ _ _ _ from fun h => h _ rfl) ?_); intro W1 hW1
  have g1 : Gr w W1 := by rw [hW1]; exact gr_auto
  have k1_0 : W1.cell? ⟨w.heap.size, 0, none⟩ = some (.slice sA sn sc) := by rw [hW1]; first | (simp [go_sem, *]; done) | (refine Gr.at ?_ (by assumption); exact gr_auto)
  have b1_0 : w.heap.size < W1.heap.size := World.block_lt_of_cell? _ _ k1_0
  have k1_1 : W1.cell? ⟨w.heap.size, 1, none⟩ = some (.slice fA fn fc) := by rw [hW1]; first | (simp [go_sem, *]; done) | (refine Gr.at ?_ (by assumption); exact gr_auto)
  have k1_2 : W1.cell? ⟨w.heap.size + 1, 0, none⟩ = some (.int .i64 (ia : Int)) := by rw [hW1]; first | (simp [go_sem, *]; done) | (refine Gr.at ?_ (by assumption); exact gr_auto)
  have b1_2 : w.heap.size + 1 < W1.heap.size := World.block_lt_of_cell? _ _ k1_2
  have k1_3 : W1.cell? ⟨w.heap.size + 1, 1, none⟩ = some (.int .i64 (ib : Int)) := by rw [hW1]; first | (simp [go_sem, *]; done) | (refine Gr.at ?_ (by assumption); exact gr_auto)
  have k1_4 : W1.cell? ⟨w.heap.size + 1, 2, none⟩ = some (.int .i64 (ic : Int)) := by rw [hW1]; first | (simp [go_sem, *]; done) | (refine Gr.at ?_ (by assumption); exact gr_auto)
  have f1_5 : W1.frozen? ⟨w.heap.size + 1 + 1, 0, none⟩ = false := by rw [hW1]; first | (simp [go_sem, *]; done) | (refine Gr.free ?_ (by assumption) (by assumption); exact gr_auto)
  have k1_5 : W1.cell? ⟨w.heap.size + 1 + 1, 0, none⟩ = some (.int .i64 0) := by rw [hW1]; first | (simp [go_sem, *]; done) | (refine Gr.at ?_ (by assumption); exact gr_auto)
  have b1_5 : w.heap.size + 1 + 1 < W1.heap.size := World.block_lt_of_cell? _ _ k1_5
  have f1_6 : W1.frozen? ⟨w.heap.size + 1 + 1, 1, none⟩ = false := by rw [hW1]; first | (simp [go_sem, *]; done) | (refine Gr.free ?_ (by assumption) (by assumption); exact gr_auto)
  have k1_6 : W1.cell? ⟨w.heap.size + 1 + 1, 1, none⟩ = some (.int .i64 0) := by rw [hW1]; first | (simp [go_sem, *]; done) | (refine Gr.at ?_ (by assumption); exact gr_auto)
  have f1_7 : W1.frozen? ⟨w.heap.size + 1 + 1, 2, none⟩ = false := by rw [hW1]; first | (simp [go_sem, *]; done) | (refine Gr.free ?_ (by assumption) (by assumption); exact gr_auto)
  have k1_7 : W1.cell? ⟨w.heap.size + 1 + 1, 2, none⟩ = some (.int .i64 0) := by rw [hW1]; first | (simp [go_sem, *]; done) | (refine Gr.at ?_ (by assumption); exact gr_auto)
  have f1_8 : W1.frozen? ⟨w.heap.size + 1 + 1, 3, none⟩ = false := by rw [hW1]; first | (simp [go_sem, *]; done) | (refine Gr.free ?_ (by assumption) (by assumption); exact gr_auto)
  have k1_8 : W1.cell? ⟨w.heap.size + 1 + 1, 3, none⟩ = some (.int .i64 0) := by rw [hW1]; first | (simp [go_sem, *]; done) | (refine Gr.at ?_ (by assumption); exact gr_auto)
  have f1_9 : W1.frozen? ⟨w.heap.size + 1 + 1, 4, none⟩ = false := by rw [hW1]; first | (simp [go_sem, *]; done) | (refine Gr.free ?_ (by assumption) (by assumption); exact gr_auto)
  have k1_9 : W1.cell? ⟨w.heap.size + 1 + 1, 4, none⟩ = some (.int .i64 0) := by rw [hW1]; first | (simp [go_sem, *]; done) | (refine Gr.at ?_ (by assumption); exact gr_auto)
  have f1_10 : W1.frozen? ⟨w.heap.size + 1 + 1, 5, none⟩ = false := by rw [hW1]; first | (simp [go_sem, *]; done) | (refine Gr.free ?_ (by assumption) (by assumption); exact gr_auto)
  have k1_10 : W1.cell? ⟨w.heap.size + 1 + 1, 5, none⟩ = some (.int .i64 0) := by rw [hW1]; first | (simp [go_sem, *]; done) | (refine Gr.at ?_ (by assumption); exact gr_auto)
  clear hW1
  have s1_0 : ∀ gw : GW W1, gw.1.cell? ⟨w.heap.size, 0, none⟩ = some (.slice sA sn sc) := fun gw => Gr.at gw.2 k1_0
  have s1_1 : ∀ gw : GW W1, gw.1.cell? ⟨w.heap.size, 1, none⟩ = some (.slice fA fn fc) := fun gw => Gr.at gw.2 k1_1
  have s1_2 : ∀ gw : GW W1, gw.1.cell? ⟨w.heap.size + 1, 0, none⟩ = some (.int .i64 (ia : Int)) := fun gw => Gr.at gw.2 k1_2
  have s1_3 : ∀ gw : GW W1, gw.1.cell? ⟨w.heap.size + 1, 1, none⟩ = some (.int .i64 (ib : Int)) := fun gw => Gr.at gw.2 k1_3
  have s1_4 : ∀ gw : GW W1, gw.1.cell? ⟨w.heap.size + 1, 2, none⟩ = some (.int .i64 (ic : Int)) := fun gw => Gr.at gw.2 k1_4
  have s1_5 : ∀ gw : GW W1, gw.1.cell? ⟨w.heap.size + 1 + 1, 0, none⟩ = some (.int .i64 0) := fun gw => Gr.at gw.2 k1_5
  have s1_6 : ∀ gw : GW W1, gw.1.cell? ⟨w.heap.size + 1 + 1, 1, none⟩ = some (.int .i64 0) := fun gw => Gr.at gw.2 k1_6
  have s1_7 : ∀ gw : GW W1, gw.1.cell? ⟨w.heap.size + 1 + 1, 2, none⟩ = some (.int .i64 0) := fun gw => Gr.at gw.2 k1_7
  have s1_8 : ∀ gw : GW W1, gw.1.cell? ⟨w.heap.size + 1 + 1, 3, none⟩ = some (.int .i64 0) := fun gw => Gr.at gw.2 k1_8
  have s1_9 : ∀ gw : GW W1, gw.1.cell? ⟨w.heap.size + 1 + 1, 4, none⟩ = some (.int .i64 0) := fun gw => Gr.at gw.2 k1_9
  have s1_10 : ∀ gw : GW W1, gw.1.cell? ⟨w.heap.size + 1 + 1, 5, none⟩ = some (.int .i64 0) := fun gw => Gr.at gw.2 k1_10
  have HP1 := Lib.hid (fun gw : GW W1 => gw_call (H1.out gw.1 (g1.trans gw.2)))
  have HP2 := Lib.hid (fun gw : GW W1 => gw_call (H2.out gw.1 (g1.trans gw.2)))
  have HP3 := Lib.hid (fun gw : GW W1 => gw_call (H3.out gw.1 (g1.trans gw.2)))
  refine wp_region_gr_tail 13 (by kernel_rfl) (by kernel_rfl) ?_
  simp only [List.take_succ_cons, List.take_zero, List.drop_succ_cons, List.drop_zero]
  repeat (go_big_quiet_step (first | (go_at_call 128; with_reducible exact HP1.out _) | (go_at_call 128; with_reducible exact HP2.out _) | (go_at_call 128; with_reducible exact HP3.out _)))
  refine wpQuiet_nil ?_
  intro w2 hb2
  clear s1_0 s1_1 s1_2 s1_3 s1_4 s1_5 s1_6 s1_7 s1_8 s1_9 s1_10
  have g2 : Gr w w2 := g1.trans hb2
  have f1_5 := Gr.free hb2 k1_5 f1_5
  have f1_6 := Gr.free hb2 k1_6 f1_6
  have f1_7 := Gr.free hb2 k1_7 f1_7
  have f1_8 := Gr.free hb2 k1_8 f1_8
  have f1_9 := Gr.free hb2 k1_9 f1_9
  have f1_10 := Gr.free hb2 k1_10 f1_10
  have k1_0 := Gr.at hb2 k1_0
  have k1_1 := Gr.at hb2 k1_1
  have k1_2 := Gr.at hb2 k1_2
  have k1_3 := Gr.at hb2 k1_3
  have k1_4 := Gr.at hb2 k1_4
  have k1_5 := Gr.at hb2 k1_5
  have k1_6 := Gr.at hb2 k1_6
  have k1_7 := Gr.at hb2 k1_7
  have k1_8 := Gr.at hb2 k1_8
  have k1_9 := Gr.at hb2 k1_9
  have k1_10 := Gr.at hb2 k1_10
  clear HP1 HP2 HP3 H1 H2 H3
  go_wp2_with fail
  refine bodyPost_ret (by simp [results, Tryz.results131, go_sem, k1_5, k1_6, k1_7, k1_8, k1_9, k1_10]; try rfl) rfl ?_
  exact ⟨rfl, by exact gr_auto⟩
set_option maxRecDepth 100000 in
set_option maxHeartbeats 4000000 in
theorem ms_side0 (f : Ba.Face) (w : World) : Calls Tryz.prog 133 #[f.val, .int .i64 0] w fun e w' => e = .returned (.agg #[.int .i64 f.a, .int .i64 f.b]) ∧ Gr w w' := by
  have HC := Lib.hid (fun W => ms_corners f W)
  unfold Ba.Face.val at *
  obtain ⟨a, b, c, k⟩ := f
  simp only at *
  go_enter Tryz.func133, Tryz.ntmps133
  go_wp2_with fail
  have KO := Lib.hid (fun (W : World) (hb : Gr ((w.alloc (Obj.cells #[.int .i64 a, .int .i64 b, .int .i64 c, .int .i64 k] 74)).alloc (Obj.cells #[.int .i64 0, .int .i64 0] 174)) W) => (⟨Own.gr (b := w.heap.size + 1) (o := 0) (v := .int .i64 0) ⟨by simp [go_sem], by simp [go_sem]⟩ hb, Own.gr (b := w.heap.size + 1) (o := 1) (v := .int .i64 0) ⟨by simp [go_sem], by simp [go_sem]⟩ hb⟩ : Own W (w.heap.size + 1) 0 (.int .i64 0) ∧ Own W (w.heap.size + 1) 1 (.int .i64 0)))
  refine (HC.out _).mono ?_
  rintro e w1 ⟨rfl, hb1⟩
  clear HC
  obtain ⟨o0, o1⟩ := KO.out _ hb1
  have z1 := Gr.size hb1
  simp at z1
  have g1 : Gr w w1 := Gr.trans (by exact gr_auto) hb1
  clear KO hb1
  have z2 : w.heap.size + 1 < w1.heap.size := by omega
  have z3 : w.heap.size + 1 ≠ w1.heap.size := by omega
  obtain ⟨p0, f0⟩ := o0; obtain ⟨p1, f1⟩ := o1
  go_wp2_with fail
  refine wp_region_tail 9 (by kernel_rfl) (by kernel_rfl) ?_
  simp only [List.take_succ_cons, List.take_zero, List.drop_succ_cons, List.drop_zero]
  repeat (go_big_quiet_step (skip))
  refine wpQuiet_nil ?_
  go_wp2_with fail
  refine bodyPost_ret (by simp [results, Tryz.results133, go_sem, p0, p1, z2, z3]; try rfl) rfl ?_
  exact ⟨rfl, by exact gr_auto⟩
set_option maxRecDepth 100000 in
set_option maxHeartbeats 4000000 in
theorem ms_side1 (f : Ba.Face) (w : World) : Calls Tryz.prog 133 #[f.val, .int .i64 1] w fun e w' => e = .returned (.agg #[.int .i64 f.b, .int .i64 f.c]) ∧ Gr w w' := by
  have HC := Lib.hid (fun W => ms_corners f W)
  unfold Ba.Face.val at *
  obtain ⟨a, b, c, k⟩ := f
  simp only at *
  go_enter Tryz.func133, Tryz.ntmps133
  go_wp2_with fail
  have KO := Lib.hid (fun (W : World) (hb : Gr ((w.alloc (Obj.cells #[.int .i64 a, .int .i64 b, .int .i64 c, .int .i64 k] 74)).alloc (Obj.cells #[.int .i64 0, .int .i64 0] 174)) W) => (⟨Own.gr (b := w.heap.size + 1) (o := 0) (v := .int .i64 0) ⟨by simp [go_sem], by simp [go_sem]⟩ hb, Own.gr (b := w.heap.size + 1) (o := 1) (v := .int .i64 0) ⟨by simp [go_sem], by simp [go_sem]⟩ hb⟩ : Own W (w.heap.size + 1) 0 (.int .i64 0) ∧ Own W (w.heap.size + 1) 1 (.int .i64 0)))
  refine (HC.out _).mono ?_
  rintro e w1 ⟨rfl, hb1⟩
  clear HC
  obtain ⟨o0, o1⟩ := KO.out _ hb1
  have z1 := Gr.size hb1
  simp at z1
  have g1 : Gr w w1 := Gr.trans (by exact gr_auto) hb1
  clear KO hb1
  have z2 : w.heap.size + 1 < w1.heap.size := by omega
  have z3 : w.heap.size + 1 ≠ w1.heap.size := by omega
  obtain ⟨p0, f0⟩ := o0; obtain ⟨p1, f1⟩ := o1
  go_wp2_with fail
  refine wp_region_tail 9 (by kernel_rfl) (by kernel_rfl) ?_
  simp only [List.take_succ_cons, List.take_zero, List.drop_succ_cons, List.drop_zero]
  repeat (go_big_quiet_step (skip))
  refine wpQuiet_nil ?_
  go_wp2_with fail
  refine bodyPost_ret (by simp [results, Tryz.results133, go_sem, p0, p1, z2, z3]; try rfl) rfl ?_
  exact ⟨rfl, by exact gr_auto⟩
set_option maxRecDepth 100000 in
set_option maxHeartbeats 4000000 in
theorem ms_side2 (f : Ba.Face) (w : World) : Calls Tryz.prog 133 #[f.val, .int .i64 2] w fun e w' => e = .returned (.agg #[.int .i64 f.c, .int .i64 f.a]) ∧ Gr w w' := by
  have HC := Lib.hid (fun W => ms_corners f W)
  unfold Ba.Face.val at *
  obtain ⟨a, b, c, k⟩ := f
  simp only at *
  go_enter Tryz.func133, Tryz.ntmps133
  go_wp2_with fail
  have KO := Lib.hid (fun (W : World) (hb : Gr ((w.alloc (Obj.cells #[.int .i64 a, .int .i64 b, .int .i64 c, .int .i64 k] 74)).alloc (Obj.cells #[.int .i64 0, .int .i64 0] 174)) W) => (⟨Own.gr (b := w.heap.size + 1) (o := 0) (v := .int .i64 0) ⟨by simp [go_sem], by simp [go_sem]⟩ hb, Own.gr (b := w.heap.size + 1) (o := 1) (v := .int .i64 0) ⟨by simp [go_sem], by simp [go_sem]⟩ hb⟩ : Own W (w.heap.size + 1) 0 (.int .i64 0) ∧ Own W (w.heap.size + 1) 1 (.int .i64 0)))
  refine (HC.out _).mono ?_
  rintro e w1 ⟨rfl, hb1⟩
  clear HC
  obtain ⟨o0, o1⟩ := KO.out _ hb1
  have z1 := Gr.size hb1
  simp at z1
  have g1 : Gr w w1 := Gr.trans (by exact gr_auto) hb1
  clear KO hb1
  have z2 : w.heap.size + 1 < w1.heap.size := by omega
  have z3 : w.heap.size + 1 ≠ w1.heap.size := by omega
  obtain ⟨p0, f0⟩ := o0; obtain ⟨p1, f1⟩ := o1
  go_wp2_with fail
  refine wp_region_tail 9 (by kernel_rfl) (by kernel_rfl) ?_
  simp only [List.take_succ_cons, List.take_zero, List.drop_succ_cons, List.drop_zero]
  repeat (go_big_quiet_step (skip))
  refine wpQuiet_nil ?_
  go_wp2_with fail
  refine bodyPost_ret (by simp [results, Tryz.results133, go_sem, p0, p1, z2, z3]; try rfl) rfl ?_
  exact ⟨rfl, by exact gr_auto⟩
theorem ms_side (f : Ba.Face) (k : Nat) (hk : k < 3) (w : World) : Calls Tryz.prog 133 #[f.val, .int .i64 (k : Int)] w fun e w' => e = .returned (.agg #[.int .i64 (Ms.cor f k), .int .i64 (Ms.cor f (k + 1))]) ∧ Gr w w' := by
  match k, hk with
  | 0, _ => exact ms_side0 f w
  | 1, _ => exact ms_side1 f w
  | 2, _ => exact ms_side2 f w
end Go.Proofs.YtajhhplgcegodaaGreatDoor
