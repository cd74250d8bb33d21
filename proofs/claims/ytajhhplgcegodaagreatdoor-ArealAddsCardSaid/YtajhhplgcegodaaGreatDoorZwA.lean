/-
  Areal: the weights of an inlet: areal.Weights. (Printed by mkzw.py.)
-/
import Derived.Test.YtajhhplgcegodaaGreatDoorMsTw
import Derived.Test.YtajhhplgcegodaaGreatDoorZn
import Derived.Test.YtajhhplgcegodaaGreatDoorArD
set_option linter.unusedVariables false
set_option linter.unusedSimpArgs false
namespace Go.Proofs.YtajhhplgcegodaaGreatDoor
open Go.RowKit
attribute [local go_sem ↓] Go.wp_at_zero Go.wp_at_succ
namespace Ba
/-- Three times the middle of a face; its gauge; the sum of what belongs to gauge g among the first i faces. -/
def mX (m : Ms.Mesh) (f : Face) : Int := (Ms.tri m f).x0 + (Ms.tri m f).x1 + (Ms.tri m f).x2
def mY (m : Ms.Mesh) (f : Face) : Int := (Ms.tri m f).y0 + (Ms.tri m f).y1 + (Ms.tri m f).y2
def fg (m : Ms.Mesh) (G : SlGauge) (i : Nat) : Nat := nsT G (mX m (m.F.D i)) (mY m (m.F.D i)) G.n
def wtS (m : Ms.Mesh) (P : Nat → Int) (G : SlGauge) (k : Int) : Nat → Nat → Int
  | 0, _ => 0
  | i + 1, g => wtS m P G k i g + if P i = k ∧ fg m G i = g then Ms.tTn (Ms.tri m (m.F.D i)) else 0
theorem wtS_skip {m : Ms.Mesh} {P : Nat → Int} {G : SlGauge} {k : Int} {i : Nat} (h : P i ≠ k) : wtS m P G k (i + 1) = wtS m P G k i := by
  funext g; rw [wtS, if_neg (fun q => h q.1)]; omega
theorem wtS_same {m : Ms.Mesh} {P : Nat → Int} {G : SlGauge} {k : Int} {i : Nat} (h : P i = k) : wtS m P G k (i + 1) (fg m G i) = wtS m P G k i (fg m G i) + Ms.tTn (Ms.tri m (m.F.D i)) := by
  rw [wtS, if_pos ⟨h, rfl⟩]
theorem wtS_ne {m : Ms.Mesh} {P : Nat → Int} {G : SlGauge} {k : Int} {i g : Nat} (h : g ≠ fg m G i) : wtS m P G k (i + 1) g = wtS m P G k i g := by
  rw [wtS, if_neg (fun q => h q.2.symm)]; omega
theorem wtS_bd {m : Ms.Mesh} (hv : Ms.vlB m = true) {P : Nat → Int} {G : SlGauge} {k : Int} (g : Nat) : ∀ i, i ≤ m.F.n → 0 ≤ wtS m P G k i g ∧ wtS m P G k i g ≤ 2251799813685248 * (i : Int)
  | 0, _ => by simp [wtS]
  | i + 1, h => by
    have a := wtS_bd hv (P := P) (G := G) (k := k) g i (by omega)
    have b := (Ms.tTn_bd (Ms.tri_ok (Ms.vl_fc hv (i := i) (by omega)))).2
    have c := Ms.vl_tn hv (i := i) (by omega)
    rw [wtS]
    split <;> omega
def inl (x : Int) : Bool := decide (0 ≤ x) && decide (x < 300)
def badI (P : SlI) (i : Nat) : Bool := decide (P.X i < -1) || decide (300 ≤ P.X i)
/-- The error number of Weights, and how many weights there are. -/
def weE (m : Ms.Mesh) (P : SlI) (G : SlGauge) (k : Int) : Int := if Ms.vlB m && gasB G then (if P.n = m.F.n then (if inl k && !any (badI P) P.n then 0 else 2) else 3) else 1
def weN (m : Ms.Mesh) (P : SlI) (G : SlGauge) (k : Int) : Nat := if weE m P G k = 0 then G.n else 0
theorem mid_ok {m : Ms.Mesh} {f : Face} (h : Ms.fcB m f = true) : ptT (mX m f) (mY m f) = true := by
  have t := Ms.tri_ok h
  unfold Ms.tOk Ms.cd at t
  rw [ptT_iff]
  unfold mX mY
  omega
/-- The sums of the first corners' coordinates. -/
def sx (m : Ms.Mesh) (f : Face) : Nat → Int
  | 0 => 0
  | t + 1 => sx m f t + (m.S.D (Ms.cor f t).toNat).x
def sy (m : Ms.Mesh) (f : Face) : Nat → Int
  | 0 => 0
  | t + 1 => sy m f t + (m.S.D (Ms.cor f t).toNat).y
theorem sx_three (m : Ms.Mesh) (f : Face) : mX m f = sx m f 3 ∧ mY m f = sy m f 3 := by
  constructor
  · show _ = 0 + (m.S.D (Ms.cor f 0).toNat).x + (m.S.D (Ms.cor f 1).toNat).x + (m.S.D (Ms.cor f 2).toNat).x
    rw [Int.zero_add]; rfl
  · show _ = 0 + (m.S.D (Ms.cor f 0).toNat).y + (m.S.D (Ms.cor f 1).toNat).y + (m.S.D (Ms.cor f 2).toNat).y
    rw [Int.zero_add]; rfl
theorem cor_cd {m : Ms.Mesh} {f : Face} (h : Ms.fcB m f = true) {q : Nat} (hq : q < 3) : ∃ v : Nat, Ms.cor f q = (v : Int) ∧ v < m.S.n ∧ Ms.cd (m.S.D v).x ∧ Ms.cd (m.S.D v).y := by
  unfold Ms.fcB at h
  simp only [Bool.and_eq_true] at h
  have get : ∀ x, Ms.inR m x = true → ∃ v : Nat, x = (v : Int) ∧ v < m.S.n ∧ Ms.cd (m.S.D v).x ∧ Ms.cd (m.S.D v).y := fun x hx => by
    obtain ⟨i, e, l, s⟩ := Ms.inR_parts hx
    exact ⟨i, e, l, (Ms.spB_cd s).1, (Ms.spB_cd s).2⟩
  rcases (by omega : q = 0 ∨ q = 1 ∨ q = 2) with rfl | rfl | rfl
  · exact get _ h.1
  · exact get _ h.2.1
  · exact get _ h.2.2.1
theorem cor_in {m : Ms.Mesh} {f : Face} (h : Ms.fcB m f = true) {q : Nat} (hq : q < 3) : ∃ v : Nat, Ms.cor f q = (v : Int) ∧ v < m.S.n := by
  obtain ⟨v, a, b, -⟩ := cor_cd h hq; exact ⟨v, a, b⟩
theorem sx_bd {m : Ms.Mesh} {f : Face} (h : Ms.fcB m f = true) : ∀ t : Nat, t ≤ 3 → -(16777216 * (t : Int)) ≤ sx m f t ∧ sx m f t ≤ 16777216 * (t : Int) ∧ -(16777216 * (t : Int)) ≤ sy m f t ∧ sy m f t ≤ 16777216 * (t : Int)
  | 0, _ => by simp [sx, sy]
  | t + 1, ht => by
    have a := sx_bd h t (by omega)
    obtain ⟨v, e, -, b, c⟩ := cor_cd h (q := t) (by omega)
    rw [sx, sy, e, Int.toNat_natCast]
    unfold Ms.cd at b c
    omega
end Ba
/-- What Weights answers. -/
def RetWe (m : Ms.Mesh) (P : Ba.SlI) (G : Ba.SlGauge) (k : Int) (w : World) (e : Ending) (w' : World) : Prop :=
  ∃ r : Ba.SlI, e = .returned (.tuple #[.slice r.A r.n r.c, .int .i64 (Ba.weE m P G k)]) ∧ r.At w' ∧ r.n = Ba.weN m P G k ∧ (∀ j, j < r.n → r.X j = Ba.wtS m P.X G k m.F.n j) ∧ Gr w w'
theorem we_none {m : Ms.Mesh} {P : Ba.SlI} {G : Ba.SlGauge} {k : Int} {w w' : World} {x : Int} (h : Ba.weE m P G k = x) (hx : x ≠ 0) (g : Gr w w') : RetWe m P G k w (.returned (.tuple #[.slice none 0 0, .int .i64 x])) w' :=
  ⟨⟨none, 0, 0, 0, 0, fun _ => 0⟩, by rw [h], ⟨fun h => absurd h (Nat.lt_irrefl 0), Nat.le_refl _, (by show 0 ≤ 9223372036854775807; omega), fun i hi => absurd hi (Nat.not_lt_zero i)⟩, by unfold Ba.weN; rw [h, if_neg hx], fun j hj => absurd hj (Nat.not_lt_zero j), g⟩
theorem inl1_any (x : Int) (w : World) : Calls Tryz.prog 34 #[.int .i64 x] w fun e w' => e = .returned (.bool (decide (x < -1) || decide (300 ≤ x))) ∧ Gr w w' := by
  cases t0 : decide (x < -1)
  · cases t1 : decide (300 ≤ x)
    · go_enter Tryz.func34, Tryz.ntmps34
      go_wp2_with fail
      go_ret
      exact ⟨rfl, gr_auto⟩
    · go_enter Tryz.func34, Tryz.ntmps34
      go_wp2_with fail
      go_ret
      exact ⟨rfl, gr_auto⟩
  · go_enter Tryz.func34, Tryz.ntmps34
    go_wp2_with fail
    go_ret
    exact ⟨rfl, gr_auto⟩
set_option maxRecDepth 100000 in
set_option maxHeartbeats 4000000 in
theorem we_no1 (m : Ms.Mesh) (P : Ba.SlI) (G : Ba.SlGauge) (k : Int) (w : World) (h : m.At w) (hP : P.At w) (hG : G.At w) (hs : Ms.smB m = false ∨ (m.S.n ≤ 61 ∧ m.F.n ≤ 61)) (hv : Ms.vlB m = false) : Calls Tryz.prog 9 #[m.val, .slice P.A P.n P.c, .slice G.A G.n G.c, .int .i64 k] w (RetWe m P G k w) := by
  have HV := Lib.hid (fun W (hW : Gr w W) => ms_valid m W ⟨h.s.gr hW, h.f.gr hW⟩ hs)
  rw [hv] at HV
  have HE := Lib.hid (fun w' (g : Gr w w') => we_none (m := m) (P := P) (G := G) (k := k) (x := 1) (by unfold Ba.weE; rw [hv]; rfl) (by decide) g)
  clear hv
  have hpm := Nat.le_trans hP.hc hP.hb; have hgm := Nat.le_trans hG.hc hG.hb; have hfm := Nat.le_trans h.f.hc h.f.hb
  unfold Ms.Mesh.val at *
  generalize m.S.A = sA at *; generalize m.S.n = sn at *; generalize m.S.c = sc at *; generalize m.F.A = fA at *; generalize m.F.n = fn at *; generalize m.F.c = fc at *
  generalize P.A = pA at *; generalize P.n = pn at *; generalize P.c = pc at *
  generalize G.A = gA at *; generalize G.n = gn at *; generalize G.c = gc at *
  go_enter Tryz.func9, Tryz.ntmps9
  go_wp2_with fail
  refine (HV.out _ (by exact gr_auto)).mono ?_
  rintro e w1 ⟨rfl, hb1⟩
  have g1 : Gr w w1 := Gr.trans (by exact gr_auto) hb1
  have d0 := Gr.at hb1 (b := w.heap.size) (o := 0) (v := .slice sA sn sc) (by simp [go_sem])
  have d1 := Gr.at hb1 (b := w.heap.size) (o := 1) (v := .slice fA fn fc) (by simp [go_sem])
  clear HV hb1
  go_wp2_with fail
  go_ret2
  exact HE.out _ g1
set_option maxRecDepth 100000 in
set_option maxHeartbeats 4000000 in
theorem we_no2 (m : Ms.Mesh) (P : Ba.SlI) (G : Ba.SlGauge) (k : Int) (w : World) (h : m.At w) (hP : P.At w) (hG : G.At w) (hs : Ms.smB m = false ∨ (m.S.n ≤ 61 ∧ m.F.n ≤ 61)) (hv : Ms.vlB m = true) (hg : Ba.gasB G = false) : Calls Tryz.prog 9 #[m.val, .slice P.A P.n P.c, .slice G.A G.n G.c, .int .i64 k] w (RetWe m P G k w) := by
  have HV := Lib.hid (fun W (hW : Gr w W) => ms_valid m W ⟨h.s.gr hW, h.f.gr hW⟩ hs)
  rw [hv] at HV
  have HG := Lib.hid (fun W (hh : Gr w W) => gvals_any G W (hG.gr hh))
  rw [hg] at HG
  have HE := Lib.hid (fun w' (g : Gr w w') => we_none (m := m) (P := P) (G := G) (k := k) (x := 1) (by unfold Ba.weE; rw [hv, hg]; rfl) (by decide) g)
  clear hv hg
  have hpm := Nat.le_trans hP.hc hP.hb; have hgm := Nat.le_trans hG.hc hG.hb; have hfm := Nat.le_trans h.f.hc h.f.hb
  unfold Ms.Mesh.val at *
  generalize m.S.A = sA at *; generalize m.S.n = sn at *; generalize m.S.c = sc at *; generalize m.F.A = fA at *; generalize m.F.n = fn at *; generalize m.F.c = fc at *
  generalize P.A = pA at *; generalize P.n = pn at *; generalize P.c = pc at *
  generalize G.A = gA at *; generalize G.n = gn at *; generalize G.c = gc at *
  go_enter Tryz.func9, Tryz.ntmps9
  go_wp2_with fail
  refine (HV.out _ (by exact gr_auto)).mono ?_
  rintro e w1 ⟨rfl, hb1⟩
  have g1 : Gr w w1 := Gr.trans (by exact gr_auto) hb1
  have d0 := Gr.at hb1 (b := w.heap.size) (o := 0) (v := .slice sA sn sc) (by simp [go_sem])
  have d1 := Gr.at hb1 (b := w.heap.size) (o := 1) (v := .slice fA fn fc) (by simp [go_sem])
  clear HV hb1
  go_wp2_with fail
  refine (HG.out _ g1).mono ?_
  rintro e w2 ⟨rfl, hb2⟩
  have g2 := g1.trans hb2
  replace d0 := Gr.at hb2 d0; replace d1 := Gr.at hb2 d1
  clear HG hb2
  go_wp2_with fail
  go_ret2
  exact HE.out _ g2
set_option maxRecDepth 100000 in
set_option maxHeartbeats 4000000 in
theorem we_no3 (m : Ms.Mesh) (P : Ba.SlI) (G : Ba.SlGauge) (k : Int) (w : World) (h : m.At w) (hP : P.At w) (hG : G.At w) (hs : Ms.smB m = false ∨ (m.S.n ≤ 61 ∧ m.F.n ≤ 61)) (hv : Ms.vlB m = true) (hg : Ba.gasB G = true) (hn : P.n ≠ m.F.n) : Calls Tryz.prog 9 #[m.val, .slice P.A P.n P.c, .slice G.A G.n G.c, .int .i64 k] w (RetWe m P G k w) := by
  have HV := Lib.hid (fun W (hW : Gr w W) => ms_valid m W ⟨h.s.gr hW, h.f.gr hW⟩ hs)
  rw [hv] at HV
  have HG := Lib.hid (fun W (hh : Gr w W) => gvals_any G W (hG.gr hh))
  rw [hg] at HG
  have HE := Lib.hid (fun w' (g : Gr w w') => we_none (m := m) (P := P) (G := G) (k := k) (x := 3) (by unfold Ba.weE; rw [hv, hg, if_neg hn]; rfl) (by decide) g)
  have hn2 : ¬ (P.n : Int) = (m.F.n : Int) := by omega
  clear hv hg hn
  have hpm := Nat.le_trans hP.hc hP.hb; have hgm := Nat.le_trans hG.hc hG.hb; have hfm := Nat.le_trans h.f.hc h.f.hb
  unfold Ms.Mesh.val at *
  generalize m.S.A = sA at *; generalize m.S.n = sn at *; generalize m.S.c = sc at *; generalize m.F.A = fA at *; generalize m.F.n = fn at *; generalize m.F.c = fc at *
  generalize P.A = pA at *; generalize P.n = pn at *; generalize P.c = pc at *
  generalize G.A = gA at *; generalize G.n = gn at *; generalize G.c = gc at *
  go_enter Tryz.func9, Tryz.ntmps9
  go_wp2_with fail
  refine (HV.out _ (by exact gr_auto)).mono ?_
  rintro e w1 ⟨rfl, hb1⟩
  have g1 : Gr w w1 := Gr.trans (by exact gr_auto) hb1
  have d0 := Gr.at hb1 (b := w.heap.size) (o := 0) (v := .slice sA sn sc) (by simp [go_sem])
  have d1 := Gr.at hb1 (b := w.heap.size) (o := 1) (v := .slice fA fn fc) (by simp [go_sem])
  clear HV hb1
  go_wp2_with fail
  refine (HG.out _ g1).mono ?_
  rintro e w2 ⟨rfl, hb2⟩
  have g2 := g1.trans hb2
  replace d0 := Gr.at hb2 d0; replace d1 := Gr.at hb2 d1
  clear HG hb2
  go_wp2_with fail
  go_ret2
  exact HE.out _ g2
set_option maxRecDepth 100000 in
set_option maxHeartbeats 4000000 in
theorem we_no4 (m : Ms.Mesh) (P : Ba.SlI) (G : Ba.SlGauge) (k : Int) (w : World) (h : m.At w) (hP : P.At w) (hG : G.At w) (hs : Ms.smB m = false ∨ (m.S.n ≤ 61 ∧ m.F.n ≤ 61)) (hv : Ms.vlB m = true) (hg : Ba.gasB G = true) (hn : P.n = m.F.n) (hk : k < 0) : Calls Tryz.prog 9 #[m.val, .slice P.A P.n P.c, .slice G.A G.n G.c, .int .i64 k] w (RetWe m P G k w) := by
  have HV := Lib.hid (fun W (hW : Gr w W) => ms_valid m W ⟨h.s.gr hW, h.f.gr hW⟩ hs)
  rw [hv] at HV
  have HG := Lib.hid (fun W (hh : Gr w W) => gvals_any G W (hG.gr hh))
  rw [hg] at HG
  have hi : (Ba.inl k && !Ba.any (Ba.badI P) P.n) = false := by unfold Ba.inl; rw [decide_eq_false (by omega)]; rfl
  have HE := Lib.hid (fun w' (g : Gr w w') => we_none (m := m) (P := P) (G := G) (k := k) (x := 2) (by unfold Ba.weE; rw [hv, hg, if_pos hn, hi]; rfl) (by decide) g)
  rw [hn] at *
  clear hv hg hn hi
  have hpm := Nat.le_trans hP.hc hP.hb; have hgm := Nat.le_trans hG.hc hG.hb; have hfm := Nat.le_trans h.f.hc h.f.hb
  unfold Ms.Mesh.val at *
  generalize m.S.A = sA at *; generalize m.S.n = sn at *; generalize m.S.c = sc at *; generalize m.F.A = fA at *; generalize m.F.n = fn at *; generalize m.F.c = fc at *
  generalize P.A = pA at *; generalize P.n = pn at *; generalize P.c = pc at *
  generalize G.A = gA at *; generalize G.n = gn at *; generalize G.c = gc at *
  go_enter Tryz.func9, Tryz.ntmps9
  go_wp2_with fail
  refine (HV.out _ (by exact gr_auto)).mono ?_
  rintro e w1 ⟨rfl, hb1⟩
  have g1 : Gr w w1 := Gr.trans (by exact gr_auto) hb1
  have d0 := Gr.at hb1 (b := w.heap.size) (o := 0) (v := .slice sA sn sc) (by simp [go_sem])
  have d1 := Gr.at hb1 (b := w.heap.size) (o := 1) (v := .slice fA fn fc) (by simp [go_sem])
  clear HV hb1
  go_wp2_with fail
  refine (HG.out _ g1).mono ?_
  rintro e w2 ⟨rfl, hb2⟩
  have g2 := g1.trans hb2
  replace d0 := Gr.at hb2 d0; replace d1 := Gr.at hb2 d1
  clear HG hb2
  go_wp2_with fail
  go_ret2
  exact HE.out _ g2
set_option maxRecDepth 100000 in
set_option maxHeartbeats 4000000 in
theorem we_no5 (m : Ms.Mesh) (P : Ba.SlI) (G : Ba.SlGauge) (k : Int) (w : World) (h : m.At w) (hP : P.At w) (hG : G.At w) (hs : Ms.smB m = false ∨ (m.S.n ≤ 61 ∧ m.F.n ≤ 61)) (hv : Ms.vlB m = true) (hg : Ba.gasB G = true) (hn : P.n = m.F.n) (hk0 : ¬ k < 0) (hk : 300 ≤ k) : Calls Tryz.prog 9 #[m.val, .slice P.A P.n P.c, .slice G.A G.n G.c, .int .i64 k] w (RetWe m P G k w) := by
  have HV := Lib.hid (fun W (hW : Gr w W) => ms_valid m W ⟨h.s.gr hW, h.f.gr hW⟩ hs)
  rw [hv] at HV
  have HG := Lib.hid (fun W (hh : Gr w W) => gvals_any G W (hG.gr hh))
  rw [hg] at HG
  have hi : (Ba.inl k && !Ba.any (Ba.badI P) P.n) = false := by unfold Ba.inl; rw [decide_eq_false (show ¬ k < 300 by omega), Bool.and_false]; rfl
  have HE := Lib.hid (fun w' (g : Gr w w') => we_none (m := m) (P := P) (G := G) (k := k) (x := 2) (by unfold Ba.weE; rw [hv, hg, if_pos hn, hi]; rfl) (by decide) g)
  rw [hn] at *
  clear hv hg hn hi
  have hpm := Nat.le_trans hP.hc hP.hb; have hgm := Nat.le_trans hG.hc hG.hb; have hfm := Nat.le_trans h.f.hc h.f.hb
  unfold Ms.Mesh.val at *
  generalize m.S.A = sA at *; generalize m.S.n = sn at *; generalize m.S.c = sc at *; generalize m.F.A = fA at *; generalize m.F.n = fn at *; generalize m.F.c = fc at *
  generalize P.A = pA at *; generalize P.n = pn at *; generalize P.c = pc at *
  generalize G.A = gA at *; generalize G.n = gn at *; generalize G.c = gc at *
  go_enter Tryz.func9, Tryz.ntmps9
  go_wp2_with fail
  refine (HV.out _ (by exact gr_auto)).mono ?_
  rintro e w1 ⟨rfl, hb1⟩
  have g1 : Gr w w1 := Gr.trans (by exact gr_auto) hb1
  have d0 := Gr.at hb1 (b := w.heap.size) (o := 0) (v := .slice sA sn sc) (by simp [go_sem])
  have d1 := Gr.at hb1 (b := w.heap.size) (o := 1) (v := .slice fA fn fc) (by simp [go_sem])
  clear HV hb1
  go_wp2_with fail
  refine (HG.out _ g1).mono ?_
  rintro e w2 ⟨rfl, hb2⟩
  have g2 := g1.trans hb2
  replace d0 := Gr.at hb2 d0; replace d1 := Gr.at hb2 d1
  clear HG hb2
  go_wp2_with fail
  go_ret2
  exact HE.out _ g2
set_option maxRecDepth 100000 in
set_option maxHeartbeats 4000000 in
theorem we_no6 (m : Ms.Mesh) (P : Ba.SlI) (G : Ba.SlGauge) (k : Int) (w : World) (h : m.At w) (hP : P.At w) (hG : G.At w) (hs : Ms.smB m = false ∨ (m.S.n ≤ 61 ∧ m.F.n ≤ 61)) (hv : Ms.vlB m = true) (hg : Ba.gasB G = true) (hn : P.n = m.F.n) (hk0 : ¬ k < 0) (hk1 : ¬ 300 ≤ k) (hb : Ba.any (Ba.badI P) P.n = true) : Calls Tryz.prog 9 #[m.val, .slice P.A P.n P.c, .slice G.A G.n G.c, .int .i64 k] w (RetWe m P G k w) := by
  have HV := Lib.hid (fun W (hW : Gr w W) => ms_valid m W ⟨h.s.gr hW, h.f.gr hW⟩ hs)
  rw [hv] at HV
  have HG := Lib.hid (fun W (hh : Gr w W) => gvals_any G W (hG.gr hh))
  rw [hg] at HG
  have HCF := Lib.hid (fun W (hW : Gr w W) => has_int 34 #[] P (Ba.badI P) W (hP.gr hW) (enter_of Tryz.func34 (by kernel_rfl) (by kernel_rfl)) (fun i _ W' _ => inl1_any (P.X i) W'))
  rw [hb] at HCF
  have hi : (Ba.inl k && !Ba.any (Ba.badI P) P.n) = false := by rw [hb]; exact Bool.and_false _
  have HE := Lib.hid (fun w' (g : Gr w w') => we_none (m := m) (P := P) (G := G) (k := k) (x := 2) (by unfold Ba.weE; rw [hv, hg, if_pos hn, hi]; rfl) (by decide) g)
  clear hb
  rw [hn] at *
  clear hv hg hn hi
  have hpm := Nat.le_trans hP.hc hP.hb; have hgm := Nat.le_trans hG.hc hG.hb; have hfm := Nat.le_trans h.f.hc h.f.hb
  unfold Ms.Mesh.val at *
  generalize m.S.A = sA at *; generalize m.S.n = sn at *; generalize m.S.c = sc at *; generalize m.F.A = fA at *; generalize m.F.n = fn at *; generalize m.F.c = fc at *
  generalize P.A = pA at *; generalize P.n = pn at *; generalize P.c = pc at *
  generalize G.A = gA at *; generalize G.n = gn at *; generalize G.c = gc at *
  go_enter Tryz.func9, Tryz.ntmps9
  go_wp2_with fail
  refine (HV.out _ (by exact gr_auto)).mono ?_
  rintro e w1 ⟨rfl, hb1⟩
  have g1 : Gr w w1 := Gr.trans (by exact gr_auto) hb1
  have d0 := Gr.at hb1 (b := w.heap.size) (o := 0) (v := .slice sA sn sc) (by simp [go_sem])
  have d1 := Gr.at hb1 (b := w.heap.size) (o := 1) (v := .slice fA fn fc) (by simp [go_sem])
  clear HV hb1
  go_wp2_with fail
  refine (HG.out _ g1).mono ?_
  rintro e w2 ⟨rfl, hb2⟩
  have g2 := g1.trans hb2
  replace d0 := Gr.at hb2 d0; replace d1 := Gr.at hb2 d1
  clear HG hb2
  go_wp2_with fail
  refine (HCF.out _ g2).mono ?_
  rintro e w3 ⟨rfl, hb3⟩
  have g3 := g2.trans hb3
  replace d0 := Gr.at hb3 d0; replace d1 := Gr.at hb3 d1
  clear HCF hb3
  go_wp2_with fail
  go_ret2
  exact HE.out _ g3
set_option maxRecDepth 100000 in
set_option maxHeartbeats 4000000 in
theorem we_ok (m : Ms.Mesh) (P : Ba.SlI) (G : Ba.SlGauge) (k : Int) (w : World) (h : m.At w) (hP : P.At w) (hG : G.At w) (hs : Ms.smB m = false ∨ (m.S.n ≤ 61 ∧ m.F.n ≤ 61)) (hsm : m.F.n ≤ 61) (hv : Ms.vlB m = true) (hg : Ba.gasB G = true) (hn : P.n = m.F.n) (hk0 : ¬ k < 0) (hk1 : ¬ 300 ≤ k) (hb : Ba.any (Ba.badI P) P.n = false) : Calls Tryz.prog 9 #[m.val, .slice P.A P.n P.c, .slice G.A G.n G.c, .int .i64 k] w (RetWe m P G k w) := by
  have HV := Lib.hid (fun W (hW : Gr w W) => ms_valid m W ⟨h.s.gr hW, h.f.gr hW⟩ hs)
  rw [hv] at HV
  have HG := Lib.hid (fun W (hh : Gr w W) => gvals_any G W (hG.gr hh))
  rw [hg] at HG
  have HCF := Lib.hid (fun W (hW : Gr w W) => has_int 34 #[] P (Ba.badI P) W (hP.gr hW) (enter_of Tryz.func34 (by kernel_rfl) (by kernel_rfl)) (fun i _ W' _ => inl1_any (P.X i) W'))
  rw [hb] at HCF
  have he : Ba.weE m P G k = 0 := by unfold Ba.weE Ba.inl; rw [hv, hg, if_pos hn, hb, decide_eq_true (by omega), decide_eq_true (by omega)]; rfl
  have hs61 : m.S.n ≤ 61 ∧ m.F.n ≤ 61 := by
    rcases hs with hs | hs
    · exfalso
      unfold Ms.vlB at hv
      rw [hs] at hv; cases hv
    · exact hs
  obtain ⟨n1, n2, hpt⟩ := Ba.gas_parts hg
  have HTW := Lib.hid (fun i (hi : i < m.F.n) W (hW : Gr w W) => ms_Twice m i W ⟨h.s.gr hW, h.f.gr hW⟩ hs61 hv hi)
  have HNR := Lib.hid (fun i (hi : i < m.F.n) W (hW : Gr w W) => near3_any G (Ba.mX m (m.F.D i)) (Ba.mY m (m.F.D i)) W (hG.gr hW) hg (Ba.mid_ok (Ms.vl_fc hv hi)))
  have HFG := Lib.hid (fun i => show Ba.nsT G (Ba.mX m (m.F.D i)) (Ba.mY m (m.F.D i)) G.n = Ba.fg m G i from rfl)
  have HFL := Lib.hid (fun i => show Ba.fg m G i < G.n from Ba.nsT_lt n1 (Nat.le_refl _))
  have HFC := Lib.hid (fun i (hi : i < m.F.n) => Ms.vl_fc hv hi)
  have HCI := Lib.hid (fun i (hi : i < m.F.n) q (hq : q < 3) => Ba.cor_in (Ms.vl_fc hv hi) hq)
  have HSK := Lib.hid (fun i (q : P.X i ≠ k) => Ba.wtS_skip (m := m) (G := G) q)
  have HSS := Lib.hid (fun i (q : P.X i = k) => Ba.wtS_same (m := m) (G := G) q)
  have HSN := Lib.hid (fun i g (q : g ≠ Ba.fg m G i) => Ba.wtS_ne (P := P.X) (k := k) q)
  have HSB := Lib.hid (fun g i hi => Ba.wtS_bd hv (P := P.X) (G := G) (k := k) g i hi)
  have HSP := Lib.hid (fun i (hi : i < m.S.n) => (h.s.hD i hi).1)
  have HFP := Lib.hid (fun i (hi : i < m.F.n) => (h.f.hD i hi).1)
  have HPX := Lib.hid hP.hX
  have HSA := Lib.hid h.s.hA; have HFA := Lib.hid h.f.hA; have HPA := Lib.hid hP.hA
  have hpc := hP.hc; have hsc := h.s.hc; have hfc := h.f.hc; have hscb := h.s.hb
  have HRW := Lib.hid (fun w' (r : Ba.SlI) (hr : r.At w') (rn : r.n = G.n) (hX : ∀ j, j < r.n → r.X j = Ba.wtS m P.X G k m.F.n j) (g : Gr w w') => show RetWe m P G k w (.returned (.tuple #[.slice r.A r.n r.c, .int .i64 0])) w' from ⟨r, by rw [he], hr, by unfold Ba.weN; rw [he, if_pos rfl]; exact rn, hX, g⟩)
  clear hb he hpt hs hs61
  rw [hn] at HPX HCF HPA hpc ⊢
  obtain ⟨j1, hj0, hz0, hz1, hz2⟩ := info_parts info_int
  have KI := Lib.hid hj0; have KZ0 := Lib.hid hz0; have KZ1 := Lib.hid hz1; have KZ2 := Lib.hid hz2
  clear hj0 hz0 hz1 hz2 hv hg hn
  have hpm := Nat.le_trans hP.hc hP.hb; have hgm := Nat.le_trans hG.hc hG.hb; have hfm := Nat.le_trans h.f.hc h.f.hb
  unfold Ms.Mesh.val at *
  generalize m.S.A = sA at *; generalize m.S.n = sn at *; generalize m.S.c = sc at *; generalize m.F.A = fA at *; generalize m.F.n = fn at *; generalize m.F.c = fc at *
  generalize P.A = pA at *; generalize P.n = pn at *; generalize P.c = pc at *
  generalize G.A = gA at *; generalize G.n = gn at *; generalize G.c = gc at *
  go_enter Tryz.func9, Tryz.ntmps9
  go_wp2_with fail
  refine (HV.out _ (by exact gr_auto)).mono ?_
  rintro e w1 ⟨rfl, hb1⟩
  have g1 : Gr w w1 := Gr.trans (by exact gr_auto) hb1
  have d0 := Gr.at hb1 (b := w.heap.size) (o := 0) (v := .slice sA sn sc) (by simp [go_sem])
  have d1 := Gr.at hb1 (b := w.heap.size) (o := 1) (v := .slice fA fn fc) (by simp [go_sem])
  clear HV hb1
  go_wp2_with fail
  refine (HG.out _ g1).mono ?_
  rintro e w2 ⟨rfl, hb2⟩
  have g2 := g1.trans hb2
  replace d0 := Gr.at hb2 d0; replace d1 := Gr.at hb2 d1
  clear HG hb2
  go_wp2_with fail
  refine (HCF.out _ g2).mono ?_
  rintro e w3 ⟨rfl, hb3⟩
  have g3 := g2.trans hb3
  replace d0 := Gr.at hb3 d0; replace d1 := Gr.at hb3 d1
  clear HCF hb3
  -- @a
  have hsz3 : w.heap.size < w3.heap.size := World.block_lt_of_cell? _ _ d0
  go_wp2_with (at_make; refine wpList_make_full _ rfl _ _ _ rfl w.heap.size 3 j1 (.int .i64 0) 1 Tryz.underlying26 KI.out KZ0.out KZ1.out .i64 .i64 gn gn gn rfl rfl rfl rfl ?d1 ?d2 ?d3 ?_)
  case d1 => rw [KZ2.out]; omega
  case d2 => unfold maxLen; omega
  case d3 => exact Gr.size g3
  intro w4 hown hgrow
  have hrow := Lib.hid (made_row hown)
  have G34 : Gr w3 w4 := Gr.own (Gr.refl _) (Nat.le_refl _) (n := 0) (e := 3) (size := 1) (xs := []) (v := .slice none 0 0) ⟨rfl, Or.inl ⟨rfl, rfl⟩⟩ hgrow
  have g4 := g3.trans G34
  replace d0 := Gr.at G34 d0; replace d1 := Gr.at G34 d1
  have zR4 : w3.heap.size < w4.heap.size := World.block_lt_of_cell? _ _ (hrow.out 0 (by omega)).1
  obtain ⟨R, hR⟩ : ∃ R, w3.heap.size = R := ⟨_, rfl⟩
  rw [hR] at hrow zR4 hsz3 ⊢
  have HR0 := Lib.hid (show Row w4 R gn (fun j => .int .i64 (Ba.wtS m P.X G k 0 j)) from hrow.out)
  have HG3 := Lib.hid G34
  have HD := Lib.hid (show Gr w w3 from g3)
  clear hown hgrow hrow KI KZ0 KZ1 KZ2 G34
  -- @b
  go_wp2_with fail
  -- @c
  have hR2 : w.heap.size < R := hsz3
  have HD0 := Lib.hid (And.intro d0 d1)
  clear d0 d1
  go_loopw [51] (fun x wr => ∃ i : Nat, i ≤ fn ∧ x = .int .i64 (i : Int) ∧ Hid (Row wr R gn (fun j => .int .i64 (Ba.wtS m P.X G k i j))) ∧ GrX R w4 wr) (fun x _ => fn - (intOf x).toNat)
  case atStart => exact ⟨0, Nat.zero_le _, rfl, HR0, GrX.refl _ _⟩
  case round =>
    obtain ⟨i, hi, rfl, HR, hg⟩ := hrel
    rename World => W1
    have d0 := GrX.at hg (by omega) HD0.out.1; have d1 := GrX.at hg (by omega) HD0.out.2
    have gw : Gr w W1 := GrX.gr g4 (by omega) hg
    by_cases hlt : i < fn
    · obtain rfl := HFA.out (by omega); obtain rfl := HPA.out (by omega)
      have ib0 : (0 : Int) ≤ (i : Int) := by omega
      have ib1 : (i : Int) < (fn : Int) := by omega
      obtain ⟨a0, a1, a2, a3⟩ := HFP.out i hlt
      replace a0 := Gr.at gw a0; replace a1 := Gr.at gw a1; replace a2 := Gr.at gw a2; replace a3 := Gr.at gw a3
      have p0 := Gr.at gw (HPX.out i hlt).1
      have bl0 := World.block_lt_of_cell? _ _ a0; have bl1 := World.block_lt_of_cell? _ _ d0; have bl2 := World.block_lt_of_cell? _ _ p0
      have blR := World.block_lt_of_cell? _ _ (HR.out 0 (by omega)).1
      simp only at bl0 bl1 bl2 blR
      have zw4 := hg.size
      -- @d
      by_cases hpk : P.X i = k
      · have hss := HSS.out i hpk
        have HSN2 := Lib.hid (fun g q => HSN.out i g q)
        have HTi := Lib.hid (HTW.out i hlt)
        have hfl := HFL.out i
        have HNi := Lib.hid (HNR.out i hlt)
        rw [HFG.out i] at HNi
        have hb1 := HSB.out (Ba.fg m G i) i hi; have hb2 := HSB.out (Ba.fg m G i) (i + 1) hlt
        rw [hss] at hb2
        have HIA := Lib.hid (fun q (hq : q < 3) => HCI.out i hlt q hq)
        have HSX := Lib.hid (fun t => show Ba.sx m (m.F.D i) (t + 1) = Ba.sx m (m.F.D i) t + (m.S.D (Ms.cor (m.F.D i) t).toNat).x from rfl)
        have HSY := Lib.hid (fun t => show Ba.sy m (m.F.D i) (t + 1) = Ba.sy m (m.F.D i) t + (m.S.D (Ms.cor (m.F.D i) t).toNat).y from rfl)
        have HSXB := Lib.hid (fun t (ht : t ≤ 3) => Ba.sx_bd (HFC.out i hlt) t ht)
        have hx3 := Ba.sx_three m (m.F.D i)
        rw [hx3.1, hx3.2] at HNi
        have HC3 := Lib.hid (show (m.F.D i).a = Ms.cor (m.F.D i) 0 ∧ (m.F.D i).b = Ms.cor (m.F.D i) 1 ∧ (m.F.D i).c = Ms.cor (m.F.D i) 2 from ⟨rfl, rfl, rfl⟩)
        have hsx0 : Ba.sx m (m.F.D i) 0 = 0 := rfl
        have hsy0 : Ba.sy m (m.F.D i) 0 = 0 := rfl
        clear HTW HNR HFG HFL HFC HCI HSK HSS HSN HSB HFP HPX HFA HPA HRW hx3
        generalize Ba.sx m (m.F.D i) = sx at *; generalize Ba.sy m (m.F.D i) = sy at *
        obtain ⟨f, hf⟩ : ∃ f, m.F.D i = f := ⟨_, rfl⟩
        simp only [hf] at a0 a1 a2 a3 HIA HSX HSY HC3
        generalize Ms.tTn (Ms.tri m (m.F.D i)) = tv at *
        obtain ⟨fgi, hfgi⟩ : ∃ g, Ba.fg m G i = g := ⟨_, rfl⟩
        rw [hfgi] at hss HSN2 hfl HNi hb1 hb2
        have HSS2 := Lib.hid hss
        clear hf hfgi hss
        rw [HC3.out.1] at a0; rw [HC3.out.2.1] at a1; rw [HC3.out.2.2] at a2
        have HCV := Lib.hid (And.intro HC3.out.1 (And.intro HC3.out.2.1 HC3.out.2.2))
        clear HC3
        obtain ⟨va, hva⟩ : ∃ v, v = Ms.cor f 0 := ⟨_, rfl⟩
        obtain ⟨vb, hvb⟩ : ∃ v, v = Ms.cor f 1 := ⟨_, rfl⟩
        obtain ⟨vc, hvc⟩ : ∃ v, v = Ms.cor f 2 := ⟨_, rfl⟩
        rw [← hva] at a0; rw [← hvb] at a1; rw [← hvc] at a2
        have HVV := Lib.hid (And.intro hva (And.intro hvb hvc))
        clear hva hvb hvc
        generalize f.k = fk at *
        have bt1 : -9223372036854775808 ≤ Ba.wtS m P.X G k i fgi + tv := by omega
        have bt2 : Ba.wtS m P.X G k i fgi + tv ≤ 9223372036854775807 := by omega
        clear hb1 hb2
        -- @i
        go_wp2_with fail
        -- @j
        (first | refine name_world ?_ | refine (show (∀ W, W = _ → Calls _ _ _ W _) → Calls _ _ _ _ _ from fun h => h _ rfl) ?_); intro W5 hW5
        have g5 : Gr w W5 := by rw [hW5]; exact gr_auto
        have gb5_W1 : Gr W1 W5 := by (try clear g5); rw [hW5]; exact gr_auto
        have k5_0 : W5.cell? ⟨W1.heap.size, 0, none⟩ = some (.int .i64 va) := by rw [hW5]; first | (simp [go_sem, *]; done) | (refine Gr.at ?_ (by assumption); exact gr_auto)
        have b5_0 : W1.heap.size < W5.heap.size := World.block_lt_of_cell? _ _ k5_0
        have k5_1 : W5.cell? ⟨W1.heap.size, 1, none⟩ = some (.int .i64 vb) := by rw [hW5]; first | (simp [go_sem, *]; done) | (refine Gr.at ?_ (by assumption); exact gr_auto)
        have k5_2 : W5.cell? ⟨W1.heap.size, 2, none⟩ = some (.int .i64 vc) := by rw [hW5]; first | (simp [go_sem, *]; done) | (refine Gr.at ?_ (by assumption); exact gr_auto)
        have k5_3 : W5.cell? ⟨W1.heap.size, 3, none⟩ = some (.int .i64 fk) := by rw [hW5]; first | (simp [go_sem, *]; done) | (refine Gr.at ?_ (by assumption); exact gr_auto)
        have k5_4 : W5.cell? ⟨w.heap.size, 0, none⟩ = some (.slice sA sn sc) := by rw [hW5]; first | (simp [go_sem, *]; done) | (refine Gr.at ?_ (by assumption); exact gr_auto)
        have b5_4 : w.heap.size < W5.heap.size := World.block_lt_of_cell? _ _ k5_4
        have k5_5 : W5.cell? ⟨w.heap.size, 1, none⟩ = some (.slice (some ⟨m.F.b, m.F.o, none⟩) fn fc) := by rw [hW5]; first | (simp [go_sem, *]; done) | (refine Gr.at ?_ (by assumption); exact gr_auto)
        clear hW5
        refine (HTi.out _ g5).mono ?_
        rintro e w6 ⟨rfl, hb6⟩
        have g6 := g5.trans hb6
        have e0 := Gr.at hb6 k5_0; have e1 := Gr.at hb6 k5_1; have e2 := Gr.at hb6 k5_2; have e3 := Gr.at hb6 k5_3; have d0 := Gr.at hb6 k5_4; have d1 := Gr.at hb6 k5_5
        have g16 := gb5_W1.trans hb6
        have zB : W1.heap.size < w6.heap.size := World.block_lt_of_cell? _ _ e0
        have zD : w.heap.size < w6.heap.size := World.block_lt_of_cell? _ _ d0
        clear HTi a0 a1 a2 a3 k5_0 k5_1 k5_2 k5_3 k5_4 k5_5 p0 hb6 gb5_W1 g5
        go_wp2_with fail
        -- @k
        obtain ⟨BF, hBF⟩ : ∃ B, W1.heap.size = B := ⟨_, rfl⟩
        rw [hBF] at e0 e1 e2 e3 zB ⊢
        (first | refine name_world ?_ | refine (show (∀ W, W = _ → Calls _ _ _ W _) → Calls _ _ _ _ _ from fun h => h _ rfl) ?_); intro W7 hW7
        have g7 : Gr w W7 := by rw [hW7]; exact gr_auto
        have gb7_w6 : Gr w6 W7 := by (try clear g7); rw [hW7]; exact gr_auto
        have f7_0 : W7.frozen? ⟨w6.heap.size, 0, none⟩ = false := by rw [hW7]; first | (simp [go_sem, *]; done) | (refine Gr.free ?_ (by assumption) (by assumption); exact gr_auto)
        have k7_0 : W7.cell? ⟨w6.heap.size, 0, none⟩ = some (.int .i64 0) := by rw [hW7]; first | (simp [go_sem, *]; done) | (refine Gr.at ?_ (by assumption); exact gr_auto)
        have b7_0 : w6.heap.size < W7.heap.size := World.block_lt_of_cell? _ _ k7_0
        have f7_1 : W7.frozen? ⟨w6.heap.size, 1, none⟩ = false := by rw [hW7]; first | (simp [go_sem, *]; done) | (refine Gr.free ?_ (by assumption) (by assumption); exact gr_auto)
        have k7_1 : W7.cell? ⟨w6.heap.size, 1, none⟩ = some (.int .i64 0) := by rw [hW7]; first | (simp [go_sem, *]; done) | (refine Gr.at ?_ (by assumption); exact gr_auto)
        have k7_2 : W7.cell? ⟨w6.heap.size + 1, 0, none⟩ = some (.int .i64 va) := by rw [hW7]; first | (simp [go_sem, *]; done) | (refine Gr.at ?_ (by assumption); exact gr_auto)
        have b7_2 : w6.heap.size + 1 < W7.heap.size := World.block_lt_of_cell? _ _ k7_2
        have k7_3 : W7.cell? ⟨w6.heap.size + 1, 1, none⟩ = some (.int .i64 vb) := by rw [hW7]; first | (simp [go_sem, *]; done) | (refine Gr.at ?_ (by assumption); exact gr_auto)
        have k7_4 : W7.cell? ⟨w6.heap.size + 1, 2, none⟩ = some (.int .i64 vc) := by rw [hW7]; first | (simp [go_sem, *]; done) | (refine Gr.at ?_ (by assumption); exact gr_auto)
        have k7_5 : W7.cell? ⟨w.heap.size, 0, none⟩ = some (.slice sA sn sc) := by rw [hW7]; first | (simp [go_sem, *]; done) | (refine Gr.at ?_ (by assumption); exact gr_auto)
        have b7_5 : w.heap.size < W7.heap.size := World.block_lt_of_cell? _ _ k7_5
        clear hW7
        have HC7 := Lib.hid (show ∀ q, q < 3 → W7.cell? ⟨w6.heap.size + 1, q, none⟩ = some (.int .i64 (Ms.cor f q)) from fun q hq => by
          rcases (by omega : q = 0 ∨ q = 1 ∨ q = 2) with rfl | rfl | rfl
          · rw [← HVV.out.1]; exact k7_2
          · rw [← HVV.out.2.1]; exact k7_3
          · rw [← HVV.out.2.2]; exact k7_4)
        have o0 : Own W7 w6.heap.size 0 (.int .i64 (sx 0)) := by rw [hsx0]; exact ⟨k7_0, f7_0⟩
        have o1 : Own W7 w6.heap.size 1 (.int .i64 (sy 0)) := by rw [hsy0]; exact ⟨k7_1, f7_1⟩
        have hD7 := k7_5
        have z6 : w6.heap.size + 1 < W7.heap.size := b7_2
        clear k7_0 k7_1 k7_2 k7_3 k7_4 k7_5 f7_0 f7_1 e0 e1 e2 e3 d0 d1
        obtain ⟨BP, hBP⟩ : ∃ B, w6.heap.size = B := ⟨_, rfl⟩
        rw [hBP] at HC7 o0 o1 z6 ⊢
        have zBP : W1.heap.size ≤ BP := by have := Gr.size g16; omega
        have hBPw : w.heap.size < BP := by omega
        clear zB zD
        -- @l
        go_loopw [79] (fun y wr => ∃ t : Nat, t ≤ 3 ∧ y = .int .i64 (t : Int) ∧ Own wr BP 0 (.int .i64 (sx t)) ∧ Own wr BP 1 (.int .i64 (sy t)) ∧ GrX BP W7 wr) (fun y _ => 3 - (intOf y).toNat)
        case atStart => exact ⟨0, by omega, rfl, o0, o1, GrX.refl _ _⟩
        case round =>
          clear o0 o1
          obtain ⟨t, ht, rfl, o0, o1, hgt⟩ := hrel
          rename World => W2
          by_cases ht3 : t < 3
          · have tb0 : (0 : Int) ≤ (t : Int) := by omega
            have tb1 : (t : Int) < 3 := by omega
            obtain ⟨v, hv, hvn⟩ := HIA.out t ht3
            have cq := GrX.at hgt (by omega) (HC7.out t ht3)
            rw [hv] at cq
            have hsx := HSX.out t; have hsy := HSY.out t
            rw [hv, Int.toNat_natCast] at hsx hsy
            obtain ⟨s0, s1, s2⟩ := HSP.out v hvn
            have g72 : Gr w W2 := GrX.gr g7 (by omega) hgt
            replace s0 := Gr.at g72 s0; replace s1 := Gr.at g72 s1
            obtain rfl := HSA.out (by omega)
            have x0 := o0.1; have x1 := o1.1; have y0 := o0.2; have y1 := o1.2
            have dd := GrX.at hgt (by omega) hD7
            obtain ⟨u1, u2, u3, u4⟩ := HSXB.out t ht
            obtain ⟨u5, u6, u7, u8⟩ := HSXB.out (t + 1) (by omega)
            rw [hsx] at u5 u6
            rw [hsy] at u7 u8
            have HS2 := Lib.hid (And.intro hsx hsy)
            have vb0 : (0 : Int) ≤ (v : Int) := by omega
            have vb1 : (v : Int) < (sn : Int) := by omega
            have zs := World.block_lt_of_cell? _ _ s0; have zp := World.block_lt_of_cell? _ _ x0; have zq := World.block_lt_of_cell? _ _ cq; have zd := World.block_lt_of_cell? _ _ dd
            simp only at zs zp zq zd
            clear HC7 HSX HSY HSXB HIA HSP HSA hsx hsy hv s2 g72 hD7 HNi HVV
            generalize (m.S.D v).x = vx at *; generalize (m.S.D v).y = vy at *
            generalize sx t = st0 at *; generalize sy t = st1 at *
            -- @m
            go_upto_region 19 with fail
            -- @n
            go_region
            -- @o
            all_goals (
              go_wp2_with fail
              go_roundw
              case rel => exact ⟨t + 1, by omega, by go_num, by rw [HS2.out.1]; exact (Own.other (Own.set o0) (Or.inr (by omega))).gr (Gr.drew (Gr.refl _)), by rw [HS2.out.2]; exact (Own.set (Own.other o1 (Or.inr (by omega)))).gr (Gr.drew (Gr.refl _)), (GrX.setCell (p := ⟨BP, 1, none⟩) (GrX.setCell (p := ⟨BP, 0, none⟩) hgt rfl _) rfl _).grown (Gr.drew (Gr.refl _))⟩
              case measure => simp [intOf]; omega)
          · obtain rfl : t = 3 := by omega
            have g12 : Gr W1 W2 := GrX.gr (g16.trans gb7_w6) zBP hgt
            have HR2 := Lib.hid (HR.out.gr g12)
            have x0 := o0.1; have x1 := o1.1
            have zp := World.block_lt_of_cell? _ _ x0
            simp only at zp
            clear HC7 HSX HSY HSXB HIA HSP HSA o0 o1 HR hD7
            -- @p
            go_wp2_with fail
            -- @q
            refine (HNi.out _ (gw.trans g12)).mono ?_
            rintro e w8 ⟨rfl, hb8⟩
            have g18 := g12.trans hb8
            have r0 := ((HR2.out.gr hb8) fgi hfl).1; have r1 := ((HR2.out.gr hb8) fgi hfl).2
            have HR8 := Lib.hid (show Row (w8.setCell ⟨R, fgi, none⟩ (.int .i64 (Ba.wtS m P.X G k i fgi + tv))) R gn (fun j => .int .i64 (Ba.wtS m P.X G k (i + 1) j)) from Row.set (HR2.out.gr hb8) (by show Value.int .i64 _ = _; rw [HSS2.out]) (fun j hj hne => by show Value.int .i64 _ = _; rw [HSN2.out j hne]))
            have gx8 := GrX.setCell (p := ⟨R, fgi, none⟩) (hg.grown g18) rfl (.int .i64 (Ba.wtS m P.X G k i fgi + tv))
            have fb0 : (0 : Int) ≤ (fgi : Int) := by omega
            have fb1 : (fgi : Int) < (gn : Int) := by omega
            have zr := World.block_lt_of_cell? _ _ r0
            simp only at zr r0
            clear HNi HR2 hb8 x0 x1
            -- @r
            go_wp2_with fail
            -- @s
            go_roundw
            case rel => exact ⟨i + 1, by omega, by go_num, HR8, gx8⟩
            case measure => simp [intOf]; omega
      · have hsk := Lib.hid (HSK.out i hpk)
        clear HTW HNR HFG HFL HFC HCI HSK HSS HSN HSB HSP HFP HPX HSA HFA HPA HRW
        -- @e
        go_wp2_with fail
        -- @f
        go_roundw
        case rel => exact ⟨i + 1, by omega, by go_num, Lib.hid (by rw [hsk.out]; exact HR.out.gr (by exact gr_auto)), hg.grown (by exact gr_auto)⟩
        case measure => simp [intOf]; omega
    · obtain rfl : fn = i := by omega
      have HR9 := Lib.hid (row_sli HR.out (by omega) (fun j hj => by have := HSB.out j fn (Nat.le_refl _); unfold Ba.i64; omega))
      clear HTW HNR HFG HFL HFC HCI HSK HSS HSN HSB HSP HFP HPX HSA HFA HPA
      -- @g
      go_wp2_with fail
      -- @h
      go_ret2
      exact HRW.out _ _ HR9.out rfl (fun _ _ => rfl) gw
end Go.Proofs.YtajhhplgcegodaaGreatDoor
