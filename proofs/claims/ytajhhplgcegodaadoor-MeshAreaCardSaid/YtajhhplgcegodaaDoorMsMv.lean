/-
  Surfaces: mesh.Move. (Printed by mkmv.py.)
-/
import Derived.Test.YtajhhplgcegodaaDoorMsTa
import Derived.Test.YtajhhplgcegodaaDoorMsCl
set_option linter.unusedVariables false
set_option linter.unusedSimpArgs false
namespace Go.Proofs.YtajhhplgcegodaaDoor
open Go.RowKit
namespace Ms
def mvS (x y z : Int) (s : Ba.Spot) : Ba.Spot := ⟨s.x + x, s.y + y, s.z + z⟩
def farB (n : Int) : Bool := decide (n < -67108864) || decide (67108864 < n)
def far3 (x y z : Int) : Bool := farB x || (farB y || farB z)
/-- A spot is out of range once it is moved. -/
def mvBad (m : Mesh) (x y z : Int) : Bool := Ba.any (fun i => !spB (mvS x y z (m.S.D i))) m.S.n
/-- A coordinate of spot t / 3, as it was or moved. -/
def spX (D : Nat → Ba.Spot) (x y z : Int) (t0 t : Nat) : Value :=
  .int .i64 (match t % 3 with | 0 => if t < t0 then (D (t / 3)).x + x else (D (t / 3)).x | 1 => if t < t0 then (D (t / 3)).y + y else (D (t / 3)).y | _ => if t < t0 then (D (t / 3)).z + z else (D (t / 3)).z)
theorem vl_sp {m : Mesh} (h : vlB m = true) {i : Nat} (hi : i < m.S.n) : spB (m.S.D i) = true := by
  have h1 := vl_kd h (k := 1) (i := i) (by omega) (by unfold num; rw [if_pos (by omega)]; exact hi)
  simpa [kd] using h1
theorem spB_bd {s : Ba.Spot} (h : spB s = true) : -16777216 ≤ s.x ∧ s.x ≤ 16777216 ∧ -16777216 ≤ s.y ∧ s.y ≤ 16777216 ∧ -4194304 ≤ s.z ∧ s.z ≤ 4194304 := by
  unfold spB ptB at h
  simp only [Bool.and_eq_true, bt_iff] at h
  omega
theorem far_bd {n : Int} (h : farB n = false) : -67108864 ≤ n ∧ n ≤ 67108864 := by
  unfold farB at h
  simp only [Bool.or_eq_false_iff, decide_eq_false_iff_not] at h
  omega
theorem spX_at (D : Nat → Ba.Spot) (x y z : Int) {i t0 : Nat} (h : t0 ≤ i * 3) : spX D x y z t0 (i * 3) = .int .i64 (D i).x ∧ spX D x y z t0 (i * 3 + 1) = .int .i64 (D i).y ∧ spX D x y z t0 (i * 3 + 2) = .int .i64 (D i).z := by
  refine ⟨?_, ?_, ?_⟩
  · unfold spX; rw [show i * 3 % 3 = 0 by omega, show i * 3 / 3 = i by omega]; simp only; rw [if_neg (by omega)]
  · unfold spX; rw [show (i * 3 + 1) % 3 = 1 by omega, show (i * 3 + 1) / 3 = i by omega]; simp only; rw [if_neg (by omega)]
  · unfold spX; rw [show (i * 3 + 2) % 3 = 2 by omega, show (i * 3 + 2) / 3 = i by omega]; simp only; rw [if_neg (by omega)]
theorem spX_new (D : Nat → Ba.Spot) (x y z : Int) {i t0 : Nat} (h : i * 3 + 3 ≤ t0) : spX D x y z t0 (i * 3) = .int .i64 ((D i).x + x) ∧ spX D x y z t0 (i * 3 + 1) = .int .i64 ((D i).y + y) ∧ spX D x y z t0 (i * 3 + 2) = .int .i64 ((D i).z + z) := by
  refine ⟨?_, ?_, ?_⟩
  · unfold spX; rw [show i * 3 % 3 = 0 by omega, show i * 3 / 3 = i by omega]; simp only; rw [if_pos (by omega)]
  · unfold spX; rw [show (i * 3 + 1) % 3 = 1 by omega, show (i * 3 + 1) / 3 = i by omega]; simp only; rw [if_pos (by omega)]
  · unfold spX; rw [show (i * 3 + 2) % 3 = 2 by omega, show (i * 3 + 2) / 3 = i by omega]; simp only; rw [if_pos (by omega)]
theorem spX_old (D : Nat → Ba.Spot) (x y z : Int) {i t : Nat} (h : t ≠ i * 3 ∧ t ≠ i * 3 + 1 ∧ t ≠ i * 3 + 2) : spX D x y z ((i + 1) * 3) t = spX D x y z (i * 3) t := by
  unfold spX
  by_cases c : t < i * 3
  · rw [if_pos c, if_pos c, if_pos c, if_pos (by omega), if_pos (by omega), if_pos (by omega)]
  · rw [if_neg c, if_neg c, if_neg c, if_neg (by omega), if_neg (by omega), if_neg (by omega)]
end Ms
theorem own_of_row {w : World} {base E size n : Nat} {A : Option Addr} {c : Nat} {xs : List Value} (h : w.ownsRow base E size (.slice A n c) n xs) (hn : 0 < n) : ∃ g, A = some ⟨g, 0, none⟩ ∧ base ≤ g ∧ (∃ cur, w.heap[g]? = some (.cells cur E)) ∧ ∀ t u, t < n * size → xs[t]? = some u → Own w g t u := by
  obtain ⟨hl, ⟨h1, h2⟩ | ⟨g, cap, cur, hv, hb, hc, h3, h4, h5, h6⟩⟩ := h
  · simp only [Value.slice.injEq] at h1; omega
  · simp only [Value.slice.injEq] at hv
    obtain ⟨rfl, -, -⟩ := hv
    refine ⟨g, rfl, hb, ⟨cur, hc⟩, fun t u ht hu => ⟨?_, ?_⟩⟩
    · have hcv : cur.toList[t]? = some u := by rw [← h6, List.getElem?_take_of_lt ht] at hu; exact hu
      simp only [World.cell?, hc]; simpa using hcv
    · simp only [World.frozen?, hc]; simp
/-- A copied surface, opened. -/
theorem cp_open {m : Ms.Mesh} {w W : World} {y0 y1 : Value} (h0 : OwnL w.heap.size 74 3 m.S.n (fsp m.S.D m.S.n) y0 W) (h1 : OwnL w.heap.size 43 4 m.F.n (ffc m.F.D m.F.n) y1 W) (hg : Gr w W) :
    ∃ (A0 : Option Addr) (c0 g : Nat) (A1 : Option Addr) (c1 : Nat), y0 = .slice A0 m.S.n c0 ∧ m.S.n ≤ c0 ∧ c0 ≤ 9223372036854775807 ∧ (0 < m.S.n → A0 = some ⟨g, 0, none⟩) ∧ w.heap.size ≤ g ∧ g ≠ W.heap.size ∧ Row W g (3 * m.S.n) (Ms.spX m.S.D 0 0 0 0) ∧
      y1 = .slice A1 m.F.n c1 ∧ m.F.n ≤ c1 ∧ c1 ≤ 9223372036854775807 ∧ (0 < m.F.n → (Value.slice A1 m.F.n c1).ownBlock ≠ some g) ∧ (0 < m.F.n → W.ownsRow w.heap.size 43 4 (.slice A1 m.F.n c1) m.F.n (ffc m.F.D m.F.n)) := by
  obtain ⟨A0, c0, rfl, u1, u2, u3⟩ := h0
  obtain ⟨A1, c1, rfl, v1, v2, v3⟩ := h1
  by_cases hn : 0 < m.S.n
  · obtain ⟨g, rfl, hb, ⟨cur, hc⟩, hr⟩ := own_of_row (u3 hn) hn
    refine ⟨_, c0, g, A1, c1, rfl, u1, u2, fun _ => rfl, hb, by have := (Array.getElem?_eq_some_iff.1 hc).1; omega, fun t ht => ?_, rfl, v1, v2, ?_, v3⟩
    · obtain ⟨q, hq⟩ : ∃ q, t = q * 3 ∨ t = q * 3 + 1 ∨ t = q * 3 + 2 := ⟨t / 3, by omega⟩
      obtain ⟨f0, f1, f2⟩ := fsp_get m.S.D (n := m.S.n) (j := q) (by omega)
      obtain ⟨s0, s1, s2⟩ := Ms.spX_at m.S.D 0 0 0 (i := q) (t0 := 0) (by omega)
      rcases hq with rfl | rfl | rfl
      · rw [s0]; exact hr _ _ (by omega) f0
      · rw [s1]; exact hr _ _ (by omega) f1
      · rw [s2]; exact hr _ _ (by omega) f2
    · intro hf
      obtain ⟨g', rfl, -, ⟨cur', hc'⟩, -⟩ := own_of_row (v3 hf) hf
      intro e
      have e2 : g' = g := by simpa [Value.ownBlock] using e
      rw [e2, hc] at hc'
      simp at hc'
  · refine ⟨A0, c0, W.heap.size + 1, A1, c1, rfl, u1, u2, fun h => absurd h hn, by have := Gr.size hg; omega, by omega, fun t ht => absurd ht (by omega), rfl, v1, v2, fun hf e => ?_, v3⟩
    exact own_fresh (v3 hf) (Nat.le_succ _) e.symm
theorem face_open {m : Ms.Mesh} {w W : World} {A1 : Option Addr} {c1 : Nat} (h : 0 < m.F.n → W.ownsRow w.heap.size 43 4 (.slice A1 m.F.n c1) m.F.n (ffc m.F.D m.F.n)) (h1 : m.F.n ≤ c1) (h2 : c1 ≤ 9223372036854775807) (hok : ∀ i, i < m.F.n → (m.F.D i).Ok w) : ∃ b, (Ba.SlFace.mk A1 m.F.n c1 b 0 m.F.D).At W ∧ (0 < m.F.n → A1 = some ⟨b, 0, none⟩ ∧ w.heap.size ≤ b) := by
  by_cases hf : 0 < m.F.n
  · obtain ⟨g, rfl, hb, -, hr⟩ := own_of_row (h hf) hf
    refine ⟨g, ⟨fun _ => rfl, h1, h2, fun i hi => ⟨?_, hok i hi⟩⟩, fun _ => ⟨rfl, hb⟩⟩
    have hi : i < m.F.n := hi
    obtain ⟨f0, f1, f2, f3⟩ := ffc_get m.F.D hi
    simp only [Nat.zero_add]
    refine ⟨?_, ?_, ?_, ?_⟩
    · exact (hr _ _ (by omega) f0).1
    · exact (hr _ _ (by omega) f1).1
    · exact (hr _ _ (by omega) f2).1
    · exact (hr _ _ (by omega) f3).1
  · exact ⟨0, ⟨fun h => absurd h hf, h1, h2, fun i hi => absurd (Nat.zero_lt_of_lt hi) hf⟩, fun h => absurd h hf⟩
theorem mv_far (n : Int) (w : World) : Calls Tryd.prog 78 #[.int .i64 n] w fun e w' => e = .returned (.bool (Ms.farB n)) ∧ Gr w w' := by
  unfold Ms.farB
  go_enter Tryd.func78, Tryd.ntmps78
  cases h1 : decide (n < -67108864)
  · have h2 := of_decide_eq_false h1
    go_wp2_with fail
    go_ret
    exact ⟨rfl, by exact gr_auto⟩
  · have h2 := of_decide_eq_true h1
    go_wp2_with fail
    go_ret
    exact ⟨rfl, by exact gr_auto⟩
theorem bn {b : Bool} {p : Prop} [Decidable p] (h : b = decide p) : (b = true ↔ p) := by rw [h, decide_eq_true_iff]
set_option maxRecDepth 100000 in
set_option maxHeartbeats 8000000 in
theorem ms_move_no (m : Ms.Mesh) (x y z : Int) (w : World) (h : m.At w) (hs : Ms.smB m = false ∨ (m.S.n ≤ 61 ∧ m.F.n ≤ 61)) (hv : Ms.vlB m = false) : Calls Tryd.prog 35 #[m.val, .int .i64 x, .int .i64 y, .int .i64 z] w fun e w' => e = .returned (.tuple #[(.agg #[.slice none 0 0, .slice none 0 0]), .int .i64 1]) ∧ Gr w w' := by
  have HV := Lib.hid (fun W (hW : Gr w W) => ms_valid m W ⟨h.s.gr hW, h.f.gr hW⟩ hs)
  rw [hv] at HV
  clear h hs hv
  unfold Ms.Mesh.val at *
  generalize m.S.A = sA at *; generalize m.S.n = sn at *; generalize m.S.c = sc at *; generalize m.F.A = fA at *; generalize m.F.n = fn at *; generalize m.F.c = fc at *
  go_enter Tryd.func35, Tryd.ntmps35
  go_wp2_with fail
  -- @a
  refine (HV.out _ (by exact gr_auto)).mono ?_
  rintro e w1 ⟨rfl, hb1⟩
  clear HV
  have g1 : Gr w w1 := Gr.trans (by exact gr_auto) hb1
  have d0 := Gr.at hb1 (b := w.heap.size) (o := 0) (v := .slice sA sn sc) (by simp [go_sem])
  have d1 := Gr.at hb1 (b := w.heap.size) (o := 1) (v := .slice fA fn fc) (by simp [go_sem])
  have r0 : Own w1 (w.heap.size + 1) 0 (.slice none 0 0) := Own.gr ⟨by simp [go_sem], by simp [go_sem]⟩ hb1
  have r1 : Own w1 (w.heap.size + 1) 1 (.slice none 0 0) := Own.gr ⟨by simp [go_sem], by simp [go_sem]⟩ hb1
  have z1 : w.heap.size + 2 ≤ w1.heap.size := by have := Gr.size hb1; simp at this; omega
  have x0 := r0.1; have x1 := r0.2; have x2 := r1.1; have x3 := r1.2
  clear hb1
  -- @b
  go_wp2_with fail
  -- @c
  have f0 := (Own.other (b' := w.heap.size + 1) (o' := 1) (u := .slice none 0 0) (Own.set (u := .slice none 0 0) r0) (Or.inr (by omega))).1
  have f1 := (Own.set (u := .slice none 0 0) (Own.other (b' := w.heap.size + 1) (o' := 0) (u := .slice none 0 0) r1 (Or.inr (by omega)))).1
  have gg := Gr.setCell (Gr.setCell g1 (p := ⟨w.heap.size + 1, 0, none⟩) (by simp) (.slice none 0 0)) (p := ⟨w.heap.size + 1, 1, none⟩) (by simp) (.slice none 0 0)
  refine bodyPost_ret (by simp [results, Tryd.results35, go_sem, f0, f1]; try rfl) rfl ?_
  exact ⟨rfl, gg⟩
namespace Ms
theorem spX_zero (D : Nat → Ba.Spot) (x y z : Int) : spX D 0 0 0 0 = spX D x y z 0 := by
  funext t
  unfold spX
  simp only [Nat.not_lt_zero, if_false]
theorem any3m (p : Nat → Bool) : Ba.any p 3 = (p 0 || (p 1 || p 2)) := by
  rw [any_succ, any_succ, any_succ]
  show (((false || p 0) || p 1) || p 2) = _
  cases p 0 <;> cases p 1 <;> cases p 2 <;> rfl
def xyz (x y z : Int) (q : Nat) : Int := match q with | 0 => x | 1 => y | _ => z
end Ms
/-- What Move answers for a valid surface and near distances. -/
def RetMv (m : Ms.Mesh) (x y z : Int) (w : World) (e : Ending) (w' : World) : Prop :=
  (Ms.mvBad m x y z = true ∧ e = .returned (.tuple #[.agg #[.slice none 0 0, .slice none 0 0], .int .i64 5]) ∧ Gr w w') ∨
  (Ms.mvBad m x y z = false ∧ ∃ m' : Ms.Mesh, e = .returned (.tuple #[m'.val, .int .i64 0]) ∧ m'.At w' ∧ m'.S.n = m.S.n ∧ m'.S.D = (fun i => Ms.mvS x y z (m.S.D i)) ∧ m'.F.n = m.F.n ∧ m'.F.D = m.F.D ∧ Gr w w')
theorem mv_has (x y z : Int) (B : Nat) (W : World) (hx : Ba.i64 x ∧ Ba.i64 y ∧ Ba.i64 z) (c0 : W.cell? ⟨B, 0, none⟩ = some (.int .i64 x)) (c1 : W.cell? ⟨B, 1, none⟩ = some (.int .i64 y)) (c2 : W.cell? ⟨B, 2, none⟩ = some (.int .i64 z)) :
    Calls Tryd.prog 43 #[.slice (some ⟨B, 0, none⟩) 3 3, .func (.func 78) #[] #[]] W fun e w' => e = .returned (.bool (Ms.far3 x y z)) ∧ Gr W w' := by
  have h := has_int 78 #[] ⟨some ⟨B, 0, none⟩, 3, 3, B, 0, Ms.xyz x y z⟩ (fun q => Ms.farB (Ms.xyz x y z q)) W ⟨fun _ => rfl, Nat.le_refl _, by show 3 ≤ 9223372036854775807; omega, fun q hq => by match q, hq with | 0, _ => exact ⟨c0, hx.1⟩ | 1, _ => exact ⟨c1, hx.2.1⟩ | 2, _ => exact ⟨c2, hx.2.2⟩⟩ (ms_enter Tryd.func78 (by kernel_rfl) (by kernel_rfl)) (fun q hq W hW => mv_far (Ms.xyz x y z q) W)
  have e : Ba.any (fun q => Ms.farB (Ms.xyz x y z q)) 3 = Ms.far3 x y z := Ms.any3m _
  rw [e] at h
  exact h
set_option maxRecDepth 100000 in
set_option maxHeartbeats 8000000 in
theorem ms_move_far (m : Ms.Mesh) (x y z : Int) (w : World) (h : m.At w) (hs : m.S.n ≤ 61 ∧ m.F.n ≤ 61) (hv : Ms.vlB m = true) (hx : Ba.i64 x ∧ Ba.i64 y ∧ Ba.i64 z) (hf : Ms.far3 x y z = true) : Calls Tryd.prog 35 #[m.val, .int .i64 x, .int .i64 y, .int .i64 z] w fun e w' => e = .returned (.tuple #[(.agg #[.slice none 0 0, .slice none 0 0]), .int .i64 5]) ∧ Gr w w' := by
  have HV := Lib.hid (fun W (hW : Gr w W) => ms_valid m W ⟨h.s.gr hW, h.f.gr hW⟩ (Or.inr hs))
  have HC := Lib.hid (fun B W => mv_has x y z B W hx)
  rw [hv] at HV
  rw [hf] at HC
  clear h hs hv hf
  unfold Ms.Mesh.val at *
  generalize m.S.A = sA at *; generalize m.S.n = sn at *; generalize m.S.c = sc at *; generalize m.F.A = fA at *; generalize m.F.n = fn at *; generalize m.F.c = fc at *
  go_enter Tryd.func35, Tryd.ntmps35
  go_wp2_with fail
  -- @a
  refine (HV.out _ (by exact gr_auto)).mono ?_
  rintro e w1 ⟨rfl, hb1⟩
  clear HV
  have g1 : Gr w w1 := Gr.trans (by exact gr_auto) hb1
  have d0 := Gr.at hb1 (b := w.heap.size) (o := 0) (v := .slice sA sn sc) (by simp [go_sem])
  have d1 := Gr.at hb1 (b := w.heap.size) (o := 1) (v := .slice fA fn fc) (by simp [go_sem])
  have r0 : Own w1 (w.heap.size + 1) 0 (.slice none 0 0) := Own.gr ⟨by simp [go_sem], by simp [go_sem]⟩ hb1
  have r1 : Own w1 (w.heap.size + 1) 1 (.slice none 0 0) := Own.gr ⟨by simp [go_sem], by simp [go_sem]⟩ hb1
  have z1 : w.heap.size + 2 ≤ w1.heap.size := by have := Gr.size hb1; simp at this; omega
  have x0 := r0.1; have x1 := r0.2; have x2 := r1.1; have x3 := r1.2
  clear hb1
  -- @b
  go_wp2_with fail
  -- @b1
  refine (HC.out w1.heap.size _ (by simp [go_sem]) (by simp [go_sem]) (by simp [go_sem])).mono ?_
  rintro e w2 ⟨rfl, hb2⟩
  clear HC
  have g12 : Gr w1 w2 := Gr.trans (by exact gr_auto) hb2
  replace d0 := Gr.at g12 d0; replace d1 := Gr.at g12 d1
  replace r0 := r0.gr g12; replace r1 := r1.gr g12
  have g2 := g1.trans g12
  have z2 := Nat.le_trans z1 (Gr.size g12)
  clear x0 x1 x2 x3 g12 hb2 z1
  have x0 := r0.1; have x1 := r0.2; have x2 := r1.1; have x3 := r1.2
  go_wp2_with fail
  -- @c
  have f0 := (Own.other (b' := w.heap.size + 1) (o' := 1) (u := .slice none 0 0) (Own.set (u := .slice none 0 0) r0) (Or.inr (by omega))).1
  have f1 := (Own.set (u := .slice none 0 0) (Own.other (b' := w.heap.size + 1) (o' := 0) (u := .slice none 0 0) r1 (Or.inr (by omega)))).1
  have gg := Gr.setCell (Gr.setCell g2 (p := ⟨w.heap.size + 1, 0, none⟩) (by simp) (.slice none 0 0)) (p := ⟨w.heap.size + 1, 1, none⟩) (by simp) (.slice none 0 0)
  refine bodyPost_ret (by simp [results, Tryd.results35, go_sem, f0, f1]; try rfl) rfl ?_
  exact ⟨rfl, gg⟩
set_option maxRecDepth 100000 in
set_option maxHeartbeats 8000000 in
theorem ms_move_near (m : Ms.Mesh) (x y z : Int) (w : World) (h : m.At w) (hs : m.S.n ≤ 61 ∧ m.F.n ≤ 61) (hv : Ms.vlB m = true) (hx : Ba.i64 x ∧ Ba.i64 y ∧ Ba.i64 z) (hf : Ms.far3 x y z = false) : Calls Tryd.prog 35 #[m.val, .int .i64 x, .int .i64 y, .int .i64 z] w (RetMv m x y z w) := by
  have HV := Lib.hid (fun W (hW : Gr w W) => ms_valid m W ⟨h.s.gr hW, h.f.gr hW⟩ (Or.inr hs))
  have HC := Lib.hid (fun B W => mv_has x y z B W hx)
  have HCP := Lib.hid (fun W (hW : Gr w W) => ms_copied m W ⟨h.s.gr hW, h.f.gr hW⟩ ⟨by omega, by omega⟩)
  have HSB := Lib.hid (fun i (hi : i < m.S.n) => Ms.spB_bd (Ms.vl_sp hv hi))
  have HRT := Lib.hid (fun s W => ms_right s W)
  have HOK := Lib.hid (fun i (hi : i < m.F.n) => (h.f.hD i hi).2)
  rw [hv] at HV
  rw [hf] at HC
  unfold Ms.far3 at hf
  simp only [Bool.or_eq_false_iff] at hf
  have hxb := Ms.far_bd hf.1; have hyb := Ms.far_bd hf.2.1; have hzb := Ms.far_bd hf.2.2
  have hs1 := hs.1
  have HMB := Lib.hid (show Ms.mvBad m x y z = Ba.any (fun i => !Ms.spB (Ms.mvS x y z (m.S.D i))) m.S.n from rfl)
  clear h hs hv hf hx
  unfold RetCp at HCP
  unfold RetMv
  obtain ⟨B, hB⟩ : ∃ B, (fun i => !Ms.spB (Ms.mvS x y z (m.S.D i))) = B := ⟨_, rfl⟩
  have HBD := Lib.hid (fun i => show B i = !Ms.spB (Ms.mvS x y z (m.S.D i)) from congrFun hB.symm i)
  rw [hB] at HMB
  generalize Ms.mvBad m x y z = MB at *
  clear hB
  unfold Ms.Mesh.val at *
  obtain ⟨sA, hsA⟩ : ∃ A, m.S.A = A := ⟨_, rfl⟩; obtain ⟨sc, hsc⟩ : ∃ n, m.S.c = n := ⟨_, rfl⟩; obtain ⟨fA, hfA⟩ : ∃ A, m.F.A = A := ⟨_, rfl⟩; obtain ⟨fc, hfc⟩ : ∃ n, m.F.c = n := ⟨_, rfl⟩
  obtain ⟨sn, hsn⟩ : ∃ n, m.S.n = n := ⟨_, rfl⟩; obtain ⟨fn, hfn⟩ : ∃ n, m.F.n = n := ⟨_, rfl⟩
  have HNN := Lib.hid (And.intro hsn hfn)
  rw [hsA, hsc, hfA, hfc, hsn, hfn] at HV HCP ⊢
  rw [hsn] at HSB hs1 HMB
  rw [hfn] at HOK
  clear hsA hsc hfA hfc hsn hfn
  go_enter Tryd.func35, Tryd.ntmps35
  go_wp2_with fail
  -- @a
  refine (HV.out _ (by exact gr_auto)).mono ?_
  rintro e w1 ⟨rfl, hb1⟩
  clear HV
  have g1 : Gr w w1 := Gr.trans (by exact gr_auto) hb1
  have d0 := Gr.at hb1 (b := w.heap.size) (o := 0) (v := .slice sA sn sc) (by simp [go_sem])
  have d1 := Gr.at hb1 (b := w.heap.size) (o := 1) (v := .slice fA fn fc) (by simp [go_sem])
  have r0 : Own w1 (w.heap.size + 1) 0 (.slice none 0 0) := Own.gr ⟨by simp [go_sem], by simp [go_sem]⟩ hb1
  have r1 : Own w1 (w.heap.size + 1) 1 (.slice none 0 0) := Own.gr ⟨by simp [go_sem], by simp [go_sem]⟩ hb1
  have z1 : w.heap.size + 2 ≤ w1.heap.size := by have := Gr.size hb1; simp at this; omega
  have x0 := r0.1; have x1 := r0.2; have x2 := r1.1; have x3 := r1.2
  clear hb1
  -- @b
  go_wp2_with fail
  -- @b1
  refine (HC.out w1.heap.size _ (by simp [go_sem]) (by simp [go_sem]) (by simp [go_sem])).mono ?_
  rintro e w2 ⟨rfl, hb2⟩
  clear HC
  have g12 : Gr w1 w2 := Gr.trans (by exact gr_auto) hb2
  replace d0 := Gr.at g12 d0; replace d1 := Gr.at g12 d1
  replace r0 := r0.gr g12; replace r1 := r1.gr g12
  have g2 := g1.trans g12
  have z2 := Nat.le_trans z1 (Gr.size g12)
  clear x0 x1 x2 x3 g12 hb2 z1
  have x0 := r0.1; have x1 := r0.2; have x2 := r1.1; have x3 := r1.2
  go_wp2_with fail
  -- @d
  refine (HCP.out _ g2).mono ?_
  rintro e w3 ⟨v, rfl, y0, y1, rfl, hb3, l0, l1⟩
  clear HCP
  obtain ⟨A0, c0, g, A1, c1, rfl, u1, u2, hA0, hBg, hgn, hrow, rfl, v1, v2, hap, hfr⟩ := cp_open (m := m) (w := w2) (W := w3) (by rw [HNN.out.1]; exact l0) (by rw [HNN.out.2]; exact l1) hb3
  clear l0 l1
  rw [HNN.out.1] at u1 hA0 hrow ⊢
  rw [HNN.out.2] at v1 hap hfr ⊢
  have HA0 := Lib.hid hA0; have HAP := Lib.hid hap; have HFR := Lib.hid hfr
  rw [Ms.spX_zero m.S.D x y z] at hrow
  replace r0 := r0.gr hb3; replace r1 := r1.gr hb3
  have g3 := g2.trans hb3
  have zg := Gr.size g2
  have z3 := Nat.le_trans z2 (Gr.size hb3)
  obtain ⟨W5, hW5⟩ : ∃ W, w3.alloc (Obj.cells #[.slice A0 sn c0, .slice A1 fn c1] 25) = W := ⟨_, rfl⟩
  have g35 : Gr w3 W5 := hW5 ▸ Gr.alloc (Gr.refl w3) _
  have b0 : W5.cell? ⟨w3.heap.size, 0, none⟩ = some (.slice A0 sn c0) := by rw [← hW5]; simp [go_sem]
  have b1 : W5.cell? ⟨w3.heap.size, 1, none⟩ = some (.slice A1 fn c1) := by rw [← hW5]; simp [go_sem]
  have z5 : w3.heap.size < W5.heap.size := by rw [← hW5]; simp
  have HROW := Lib.hid (hrow.gr g35)
  replace r0 := r0.gr g35; replace r1 := r1.gr g35
  have g5 := g3.trans g35
  have HB3 := Lib.hid hb3
  have HF5 := Lib.hid (fun h => ownsRow_gr (HFR.out h) g35)
  obtain ⟨B10, hB10⟩ : ∃ B, w3.heap.size = B := ⟨_, rfl⟩
  rw [hB10] at b0 b1 hgn z5
  clear x0 x1 x2 x3 d0 d1 hA0 hap hfr hrow hb3 g35 HFR g3
  -- @e
  go_wp2_with fail
  clear hW5
  -- @f
  go_loopw [28] (fun s28 wr => ∃ i : Nat, i ≤ sn ∧ s28 = .int .i64 (i : Int) ∧ Hid (Ba.any B i = false) ∧ Hid (Row wr g (3 * sn) (Ms.spX m.S.D x y z (i * 3))) ∧ GrX g W5 wr) (fun s28 _ => sn - (intOf s28).toNat)
  case atStart => exact ⟨0, by omega, rfl, Lib.hid rfl, HROW, GrX.refl _ _⟩
  case round =>
    clear HROW
    obtain ⟨i, hi, rfl, HQ, HR, hg⟩ := hrel
    rename World => W6
    have gw6 : Gr w W6 := GrX.gr g5 (by omega) hg
    replace b0 := GrX.at hg (by omega) b0; replace b1 := GrX.at hg (by omega) b1
    replace r0 := r0.grx hg (by omega); replace r1 := r1.grx hg (by omega)
    by_cases hlt : i < sn
    · obtain rfl := HA0.out (by omega)
      have ib0 : (0 : Int) ≤ (i : Int) := by omega
      have ib1 : (i : Int) < (sn : Int) := by omega
      have sb := HSB.out i hlt
      obtain ⟨e0, e1, e2⟩ := Ms.spX_at m.S.D x y z (i := i) (t0 := i * 3) (Nat.le_refl _)
      have o0 := HR.out (i * 3) (by omega); have o1 := HR.out (i * 3 + 1) (by omega); have o2 := HR.out (i * 3 + 2) (by omega)
      rw [e0] at o0; rw [e1] at o1; rw [e2] at o2
      have HNEW := Lib.hid (Ms.spX_new m.S.D x y z (i := i) (t0 := (i + 1) * 3) (by omega)); have HOLD := Lib.hid (fun t h => Ms.spX_old m.S.D x y z (i := i) (t := t) h)
      have hBD := HBD.out i
      obtain ⟨s, hs⟩ : ∃ s, m.S.D i = s := ⟨_, rfl⟩
      simp only [hs] at sb o0 o1 o2
      rw [hs] at hBD HNEW
      have HRi := Lib.hid (HRT.out (Ms.mvS x y z s))
      obtain ⟨q, hq⟩ : ∃ q, Ms.spB (Ms.mvS x y z s) = q := ⟨_, rfl⟩
      rw [hq] at HRi hBD
      unfold Ms.mvS Ba.Spot.val at HRi
      have HBI := Lib.hid hBD
      clear hs hq e0 e1 e2 hBD HSB HRT HBD
      have q0 := o0.1; have q1 := o1.1; have q2 := o2.1; have p0 := o0.2; have p1 := o1.2; have p2 := o2.2
      have a1 : -9223372036854775808 ≤ s.x + x ∧ s.x + x ≤ 9223372036854775807 := by omega
      have a2 : -9223372036854775808 ≤ s.y + y ∧ s.y + y ≤ 9223372036854775807 := by omega
      have a3 : -9223372036854775808 ≤ s.z + z ∧ s.z + z ≤ 9223372036854775807 := by omega
      have a1a := a1.1; have a1b := a1.2; have a2a := a2.1; have a2b := a2.2; have a3a := a3.1; have a3b := a3.2
      clear sb a1 a2 a3
      -- @g
      go_upto_region 10 with fail
      -- @h
      go_region
      -- @i
      obtain ⟨W7, hW7⟩ : ∃ W, (((W6.setCell ⟨g, i * 3, none⟩ (.int .i64 (s.x + x))).setCell ⟨g, i * 3 + 1, none⟩ (.int .i64 (s.y + y))).setCell ⟨g, i * 3 + 2, none⟩ (.int .i64 (s.z + z))).drew = W := ⟨_, rfl⟩
      have gx7 : GrX g W6 W7 := hW7 ▸ (GrX.setCell (p := ⟨g, i * 3 + 2, none⟩) (GrX.setCell (p := ⟨g, i * 3 + 1, none⟩) (GrX.setCell (p := ⟨g, i * 3, none⟩) (GrX.refl g W6) rfl _) rfl _) rfl _).drew
      have n0 : Own W7 g (i * 3) (.int .i64 (s.x + x)) := hW7 ▸ (Own.other (Own.other (Own.set o0) (Or.inr (by omega))) (Or.inr (by omega))).gr (Gr.drew (Gr.refl _))
      have n1 : Own W7 g (i * 3 + 1) (.int .i64 (s.y + y)) := hW7 ▸ (Own.other (Own.set (Own.other o1 (Or.inr (by omega)))) (Or.inr (by omega))).gr (Gr.drew (Gr.refl _))
      have n2 : Own W7 g (i * 3 + 2) (.int .i64 (s.z + z)) := hW7 ▸ (Own.set (Own.other (Own.other o2 (Or.inr (by omega))) (Or.inr (by omega)))).gr (Gr.drew (Gr.refl _))
      have HR7 := Lib.hid (show Row W7 g (3 * sn) (Ms.spX m.S.D x y z ((i + 1) * 3)) from fun t ht => by
        by_cases h0 : t = i * 3
        · subst h0; rw [HNEW.out.1]; exact n0
        · by_cases h1 : t = i * 3 + 1
          · subst h1; rw [HNEW.out.2.1]; exact n1
          · by_cases h2 : t = i * 3 + 2
            · subst h2; rw [HNEW.out.2.2]; exact n2
            · rw [HOLD.out t ⟨h0, h1, h2⟩]
              exact hW7 ▸ (Own.other (Own.other (Own.other (HR.out t ht) (Or.inr h0)) (Or.inr h1)) (Or.inr h2)).gr (Gr.drew (Gr.refl _)))
      replace b0 := GrX.at gx7 (by omega) b0; replace b1 := GrX.at gx7 (by omega) b1
      replace r0 := r0.grx gx7 (by omega); replace r1 := r1.grx gx7 (by omega)
      replace gw6 := GrX.gr gw6 (by omega) gx7
      replace hg := hg.trans gx7
      rw [hW7]
      clear hW7 q0 q1 q2 p0 p1 p2 o0 o1 o2 HR gx7 HNEW HOLD
      have q0 := n0.1; have q1 := n1.1; have q2 := n2.1
      have zg7 := World.block_lt_of_cell? _ _ q0
      clear n0 n1 n2
      -- @j
      go_wp2_with fail
      -- @k
      refine (HRi.out _).mono ?_
      rintro e w8 ⟨rfl, hb8⟩
      replace b0 := Gr.at hb8 b0; replace b1 := Gr.at hb8 b1
      replace r0 := r0.gr hb8; replace r1 := r1.gr hb8
      have HR8 := Lib.hid (HR7.out.gr hb8)
      replace gw6 := gw6.trans hb8
      replace hg := hg.grown hb8
      clear HRi hb8 HR7 q0 q1 q2 zg7
      cases q
      · have hmb := Ms.any_hit (p := B) (by rw [HBI.out]; rfl) hlt
        have x0 := r0.1; have x1 := r0.2; have x2 := r1.1; have x3 := r1.2
        have HMT := Lib.hid (HMB.out.trans hmb)
        clear HBI HQ hmb HR8
        go_wp2_with fail
        -- @l
        have f0 := (Own.other (b' := w.heap.size + 1) (o' := 1) (u := .slice none 0 0) (Own.set (u := .slice none 0 0) r0) (Or.inr (by omega))).1
        have f1 := (Own.set (u := .slice none 0 0) (Own.other (b' := w.heap.size + 1) (o' := 0) (u := .slice none 0 0) r1 (Or.inr (by omega)))).1
        have gg := Gr.setCell (Gr.setCell gw6 (p := ⟨w.heap.size + 1, 0, none⟩) (by simp) (.slice none 0 0)) (p := ⟨w.heap.size + 1, 1, none⟩) (by simp) (.slice none 0 0)
        refine bodyPost_ret (by simp [results, Tryd.results35, go_sem, f0, f1]; try rfl) rfl ?_
        exact Or.inl ⟨HMT.out, rfl, gg⟩
      · have HQ2 := Lib.hid (Ms.any_go HQ.out (by rw [HBI.out]; rfl))
        clear HBI HQ
        go_wp2_with fail
        -- @m
        go_roundw
        case rel => exact ⟨i + 1, by omega, by go_num, HQ2, HR8, hg⟩
        case measure => simp [intOf]; omega
    · obtain rfl : sn = i := by omega
      have x0 := r0.1; have x1 := r0.2; have x2 := r1.1; have x3 := r1.2
      have HMT := Lib.hid (HMB.out.trans HQ.out)
      have HF6 := Lib.hid (fun h => ownsRow_grx (HF5.out h) hg (HAP.out h))
      clear HQ HF5 HAP hg
      -- @n
      go_wp2_with fail
      -- @o
      have gx : GrX (w.heap.size + 1) W6 ((W6.setCell ⟨w.heap.size + 1, 0, none⟩ (.slice A0 sn c0)).setCell ⟨w.heap.size + 1, 1, none⟩ (.slice A1 fn c1)) := GrX.setCell (p := ⟨w.heap.size + 1, 1, none⟩) (GrX.setCell (p := ⟨w.heap.size + 1, 0, none⟩) (GrX.refl (w.heap.size + 1) W6) rfl _) rfl _
      have f0 := (Own.other (b' := w.heap.size + 1) (o' := 1) (u := .slice A1 fn c1) (Own.set (u := .slice A0 sn c0) r0) (Or.inr (by omega))).1
      have f1 := (Own.set (u := .slice A1 fn c1) (Own.other (b' := w.heap.size + 1) (o' := 0) (u := .slice A0 sn c0) r1 (Or.inr (by omega)))).1
      have gg := GrX.gr gw6 (by omega) gx
      have HRf := Lib.hid (fun t ht => (HR.out t ht).grx gx (show g ≠ w.heap.size + 1 by omega))
      have HFf := Lib.hid (fun h => ownsRow_grx (HF6.out h) gx (own_ne (HF6.out h) (by omega)))
      have hc1 := v2
      clear gx HR HF6
      generalize ((W6.setCell ⟨w.heap.size + 1, 0, none⟩ (.slice A0 sn c0)).setCell ⟨w.heap.size + 1, 1, none⟩ (.slice A1 fn c1)) = Wf at *
      refine bodyPost_ret (by simp [results, Tryd.results35, go_sem, f0, f1]; try rfl) rfl ?_
      obtain ⟨fb, hF, -⟩ := face_open (m := m) (w := w2) (W := Wf) (A1 := A1) (c1 := c1) (by rw [HNN.out.2]; exact HFf.out) (by rw [HNN.out.2]; exact v1) v2 (by rw [HNN.out.2]; exact HOK.out)
      rw [HNN.out.2] at hF
      refine Or.inr ⟨HMT.out, ⟨⟨A0, sn, c0, g, 0, fun i => Ms.mvS x y z (m.S.D i)⟩, ⟨A1, fn, c1, fb, 0, m.F.D⟩⟩, rfl, ⟨⟨HA0.out, u1, u2, fun i hi => ?_⟩, hF⟩, rfl, rfl, rfl, rfl, gg⟩
      have hi : i < sn := hi
      obtain ⟨e0, e1, e2⟩ := Ms.spX_new m.S.D x y z (i := i) (t0 := sn * 3) (by omega)
      have c0 := (HRf.out (i * 3) (by omega)).1; have c1 := (HRf.out (i * 3 + 1) (by omega)).1; have c2 := (HRf.out (i * 3 + 2) (by omega)).1
      rw [e0] at c0; rw [e1] at c1; rw [e2] at c2
      have sb := HSB.out i hi
      refine ⟨?_, ?_⟩
      · simp only [Nat.zero_add]; exact ⟨c0, c1, c2⟩
      · unfold Ms.mvS Ba.Spot.Ok Ba.i64
        simp only
        omega
end Go.Proofs.YtajhhplgcegodaaDoor
