/-
  Land use: the areas of inlets (landuse.Areas of what is right). (Printed by mkza.py.)
-/
import Derived.Test.YtajhhplgcegodaaGreatDoorInf29
import Derived.Test.YtajhhplgcegodaaGreatDoorInf27
import Derived.Deep.AppendLies
set_option linter.unusedVariables false
set_option linter.unusedSimpArgs false
namespace Go.Proofs.YtajhhplgcegodaaGreatDoor
open Go.RowKit
attribute [local go_sem ↓] Go.wp_at_zero Go.wp_at_succ
namespace Ba
def badA (P : SlI) (i : Nat) : Bool := decide (P.X i < -1) || decide (300 ≤ P.X i)
/-- How many rows the first k inlets make; what stands in row r, class c. -/
def arK (P : Nat → Int) : Nat → Nat
  | 0 => 0
  | k + 1 => max (arK P k) (P k + 1).toNat
def arS (m : Ms.Mesh) (P : Nat → Int) : Nat → Nat → Nat → Int
  | 0, _, _ => 0
  | k + 1, r, c => arS m P k r c + if P k = (r : Int) ∧ (m.F.D k).k = (c : Int) then Ms.tTn (Ms.tri m (m.F.D k)) else 0
theorem arK_le {P : Nat → Int} {k : Nat} : arK P k ≤ arK P (k + 1) := Nat.le_max_left _ _
theorem arK_in {P : Nat → Int} {k : Nat} : (P k + 1).toNat ≤ arK P (k + 1) := Nat.le_max_right _ _
theorem arS_out {m : Ms.Mesh} {P : Nat → Int} : ∀ {k r c : Nat}, arK P k ≤ r → arS m P k r c = 0
  | 0, _, _, _ => rfl
  | k + 1, r, c, h => by
    have h1 := arK_le (P := P) (k := k); have h2 := arK_in (P := P) (k := k)
    rw [arS, arS_out (k := k) (by omega), if_neg (fun q => by omega)]; rfl
theorem arS_bd {m : Ms.Mesh} (hv : Ms.vlB m = true) {P : Nat → Int} (r c : Nat) : ∀ k, k ≤ m.F.n → 0 ≤ arS m P k r c ∧ arS m P k r c ≤ 2251799813685248 * (k : Int)
  | 0, _ => by simp [arS]
  | k + 1, h => by
    have a := arS_bd hv (P := P) r c k (by omega)
    have b := (Ms.tTn_bd (Ms.tri_ok (Ms.vl_fc hv (i := k) (by omega)))).2
    have e := Ms.vl_tn hv (i := k) (by omega)
    rw [arS]
    split <;> omega
theorem arS_same {m : Ms.Mesh} {P : Nat → Int} {k r c : Nat} (h1 : P k = (r : Int)) (h2 : (m.F.D k).k = (c : Int)) : arS m P (k + 1) r c = arS m P k r c + Ms.tTn (Ms.tri m (m.F.D k)) := by rw [arS, if_pos ⟨h1, h2⟩]
theorem arS_row {m : Ms.Mesh} {P : Nat → Int} {k r s c : Nat} (h1 : P k = (r : Int)) (h : s ≠ r) : arS m P (k + 1) s c = arS m P k s c := by rw [arS, if_neg (fun q => by have := q.1; omega)]; omega
theorem arS_cl {m : Ms.Mesh} {P : Nat → Int} {k r c t : Nat} (h2 : (m.F.D k).k = (c : Int)) (h : t ≠ c) : arS m P (k + 1) r t = arS m P k r t := by rw [arS, if_neg (fun q => by have := q.2; omega)]; omega
theorem arS_neg {m : Ms.Mesh} {P : Nat → Int} {k : Nat} (h : P k < 0) : arS m P (k + 1) = arS m P k := by
  funext r c
  rw [arS, if_neg (fun q => by have := q.1; omega)]; omega
theorem fc_class {m : Ms.Mesh} {f : Face} (h : Ms.fcB m f = true) : 0 ≤ f.k := by
  unfold Ms.fcB at h
  simp only [Bool.and_eq_true] at h
  exact (Ms.bt_iff.1 h.2.2.2.2.2.2).1
theorem bad_rng {P : SlI} {n : Nat} (h : any (badA P) n = false) {i : Nat} (hi : i < n) : -1 ≤ P.X i ∧ P.X i < 300 := by
  cases e : badA P i with
  | true => rw [Ms.any_hit e hi] at h; cases h
  | false =>
    unfold badA at e
    rw [Bool.or_eq_false_iff, decide_eq_false_iff_not, decide_eq_false_iff_not] at e
    omega
end Ba
/-- The length of a slice. -/
def slN : Value → Nat | .slice _ n _ => n | _ => 0
theorem own_gb {w0 w w' : World} {row : Option Nat} {b o : Nat} {v : Value} (hg : w.grownBy w' row) (h : Own w0 b o v) (hgr : Gr w0 w) (hne : some b ≠ row) : Own w' b o v := by
  have h' := h.gr hgr
  exact ⟨World.grownBy.cell hg (a := ⟨b, o, none⟩) h'.1 hne, (World.grownBy.frozen_far hg ⟨b, o, none⟩ (World.block_lt_of_cell? _ _ h'.1) hne).trans h'.2⟩
theorem own_grx {M : Nat} {w w' : World} {base e size n : Nat} {v : Value} {xs : List Value} (h : w.ownsRow base e size v n xs) (hg : GrX M w w') (hb : v.ownBlock ≠ some M) : w'.ownsRow base e size v n xs := by
  obtain ⟨hl, h | ⟨g, cap, cur, hv, hb', hc, r⟩⟩ := h
  · exact ⟨hl, Or.inl h⟩
  · refine ⟨hl, Or.inr ⟨g, cap, cur, hv, hb', ?_, r⟩⟩
    have hlt : g < w.heap.size := (Array.getElem?_eq_some_iff.1 hc).1
    rw [hg.block g hlt (fun e => hb (by rw [hv, e]; rfl))]; exact hc
/-- The rows' slices. -/
def rv (B : Nat → Nat) (C : Nat) : Nat → List Value
  | 0 => []
  | k + 1 => rv B C k ++ [.slice (some ⟨B k, 0, none⟩) C C]
theorem rv_len (B : Nat → Nat) (C : Nat) : ∀ k, (rv B C k).length = k
  | 0 => rfl
  | k + 1 => by rw [rv, List.length_append, rv_len B C k]; rfl
theorem rv_congr {B D : Nat → Nat} {C : Nat} : ∀ {k : Nat}, (∀ r, r < k → B r = D r) → rv B C k = rv D C k
  | 0, _ => rfl
  | k + 1, h => by
    show rv B C k ++ [.slice (some ⟨B k, 0, none⟩) C C] = rv D C k ++ [.slice (some ⟨D k, 0, none⟩) C C]
    rw [rv_congr fun r hr => h r (by omega), h k (by omega)]
theorem rv_get (B : Nat → Nat) (C : Nat) : ∀ {k r : Nat}, r < k → (rv B C k)[r]? = some (.slice (some ⟨B r, 0, none⟩) C C)
  | 0, r, h => absurd h (by omega)
  | k + 1, r, h => by
    rw [rv]
    by_cases e : r = k
    · subst e; rw [List.getElem?_append_right (by rw [rv_len]; omega), rv_len, Nat.sub_self]; rfl
    · rw [List.getElem?_append_left (by rw [rv_len]; omega)]; exact rv_get B C (by omega)
/-- Rows of numbers that a call makes: v is the slice of the K rows' slices; row r lies in block B r. -/
structure ArSt (W : World) (base C : Nat) (v : Value) (K : Nat) (B : Nat → Nat) (X : Nat → Nat → Int) : Prop where
  out : W.ownsRow base 26 1 v K (rv B C K)
  row : ∀ r, r < K → Row W (B r) C (fun c => .int .i64 (X r c))
  hb : ∀ r, r < K → base ≤ B r ∧ v.ownBlock ≠ some (B r)
  inj : ∀ r s, r < K → s < K → B r = B s → r = s
section
variable {W W1 W2 W3 : World} {base C : Nat} {v : Value} {K : Nat} {B : Nat → Nat} {X : Nat → Nat → Int}
theorem ArSt.nil (W : World) (base C : Nat) (X : Nat → Nat → Int) : ArSt W base C (.slice none 0 0) 0 (fun _ => 0) X :=
  ⟨World.ownsRow_nil _ _ _ _, fun r h => absurd h (Nat.not_lt_zero r), fun r h => absurd h (Nat.not_lt_zero r), fun r _ h => absurd h (Nat.not_lt_zero r)⟩
theorem ArSt.gr (h : ArSt W base C v K B X) (g : Gr W W1) : ArSt W1 base C v K B X := ⟨ownsRow_gr h.out g, fun r hr => (h.row r hr).gr g, h.hb, h.inj⟩
theorem ArSt.as {Y : Nat → Nat → Int} (h : ArSt W base C v K B X) (e : ∀ r c, r < K → c < C → Y r c = X r c) : ArSt W base C v K B Y :=
  ⟨h.out, fun r hr c hc => by have := h.row r hr c hc; show Own W (B r) c (.int .i64 (Y r c)); rw [e r c hr hc]; exact this, h.hb, h.inj⟩
theorem ArSt.push {g G cp : Nat} (h : ArSt W base C v K B X) (hC : 0 < C) (hg : W.heap.size ≤ g) (hbs : base ≤ W.heap.size) (g1 : Gr W W1) (hr : Row W1 g C (fun _ => .int .i64 0)) (g2 : Gr W1 W2)
    (ho : W3.ownsRow base 26 1 (.slice (some ⟨G, 0, none⟩) (K + 1) cp) (K + 1) (rv B C K ++ [.slice (some ⟨g, 0, none⟩) C C])) (hgr : W2.grownBy W3 v.ownBlock) (hat : v.ownBlock = some G ∨ G = W2.heap.size) (hX : ∀ c, X K c = 0) :
    ArSt W3 base C (.slice (some ⟨G, 0, none⟩) (K + 1) cp) (K + 1) (fun r => if r = K then g else B r) X := by
  have old : ∀ r, r < K → (fun r => if r = K then g else B r) r = B r := fun r hr => if_neg (by omega)
  have lt : ∀ r, r < K → B r < W.heap.size := fun r hr => World.block_lt_of_cell? _ _ (h.row r hr 0 hC).1
  have gn : v.ownBlock ≠ some g := fun e => by have := (h.out.lt g e).2; omega
  have g12 := g1.trans g2
  have hz := Gr.size g12
  have hz1 := Gr.size g1; have hz2 := Gr.size g2
  have glt : g < W1.heap.size := World.block_lt_of_cell? _ _ (hr 0 hC).1
  refine ⟨?_, fun r hr' => ?_, fun r hr' => ?_, fun r s hr' hs e => ?_⟩
  · have e : rv (fun r => if r = K then g else B r) C (K + 1) = rv B C K ++ [.slice (some ⟨g, 0, none⟩) C C] := by
      show rv (fun r => if r = K then g else B r) C K ++ [.slice (some ⟨if K = K then g else B K, 0, none⟩) C C] = _
      rw [if_pos rfl, rv_congr old]
    rw [e]; exact ho
  · by_cases e : r = K
    · subst e
      simp only [if_true]
      intro c hc
      show Own W3 g c (.int .i64 (X r c))
      rw [hX c]
      exact own_gb hgr (hr c hc) g2 (fun q => gn q.symm)
    · simp only [if_neg e]
      intro c hc
      exact own_gb hgr (h.row r (by omega) c hc) g12 (fun q => (h.hb r (by omega)).2 q.symm)
  · by_cases e : r = K
    · subst e
      simp only [if_true]
      refine ⟨by omega, fun q => ?_⟩
      have q : G = g := by simpa [Value.ownBlock] using q
      rcases hat with hat | hat
      · exact gn (by rw [hat, q])
      · omega
    · simp only [if_neg e]
      refine ⟨(h.hb r (by omega)).1, fun q => ?_⟩
      have q : G = B r := by simpa [Value.ownBlock] using q
      have := lt r (by omega)
      rcases hat with hat | hat
      · exact (h.hb r (by omega)).2 (by rw [hat, q])
      · omega
  · by_cases e1 : r = K <;> by_cases e2 : s = K
    · omega
    · subst e1
      simp only [if_true, if_neg e2] at e
      have := lt s (by omega); omega
    · subst e2
      simp only [if_true, if_neg e1] at e
      have := lt r (by omega); omega
    · simp only [if_neg e1, if_neg e2] at e
      exact h.inj r s (by omega) (by omega) e
theorem ArSt.set {i c : Nat} {u : Int} {Y : Nat → Nat → Int} (h : ArSt W base C v K B X) (hi : i < K) (hu : Y i c = u) (ho : ∀ r t, r < K → t < C → (r ≠ i ∨ t ≠ c) → Y r t = X r t) :
    ArSt (W.setCell ⟨B i, c, none⟩ (.int .i64 u)) base C v K B Y := by
  have gx : GrX (B i) W (W.setCell ⟨B i, c, none⟩ (.int .i64 u)) := GrX.setCell (p := ⟨B i, c, none⟩) (GrX.refl _ _) rfl _
  refine ⟨own_grx h.out gx (h.hb i hi).2, fun r hr => ?_, h.hb, h.inj⟩
  by_cases e : r = i
  · subst e
    exact Row.set (h.row r hr) (by show Value.int .i64 _ = _; rw [hu]) (fun t ht hne => by show Value.int .i64 _ = Value.int .i64 _; rw [ho r t hr ht (Or.inr hne)])
  · intro t ht
    have q := (h.row r hr t ht).grx gx (fun q => e (h.inj r i hr hi q))
    show Own _ (B r) t (.int .i64 (Y r t))
    rw [ho r t hr ht (Or.inl e)]; exact q
end
/-- What Areas answers of what is right. -/
def RetAr (m : Ms.Mesh) (P : Ba.SlI) (C : Nat) (w : World) (e : Ending) (w' : World) : Prop :=
  ∃ v B, e = .returned (.tuple #[v, .int .i64 0]) ∧ ArSt w' w.heap.size C v (Ba.arK P.X P.n) B (Ba.arS m P.X P.n) ∧ Gr w w'
theorem a1_any (x : Int) (w : World) : Calls Tryz.prog 45 #[.int .i64 x] w fun e w' => e = .returned (.bool (decide (x < -1) || decide (300 ≤ x))) ∧ Gr w w' := by
  cases t0 : decide (x < -1)
  · cases t1 : decide (300 ≤ x)
    · go_enter Tryz.func45, Tryz.ntmps45
      go_wp2_with fail
      go_ret
      exact ⟨rfl, gr_auto⟩
    · go_enter Tryz.func45, Tryz.ntmps45
      go_wp2_with fail
      go_ret
      exact ⟨rfl, gr_auto⟩
  · go_enter Tryz.func45, Tryz.ntmps45
    go_wp2_with fail
    go_ret
    exact ⟨rfl, gr_auto⟩
theorem a2_any (f : Ba.Face) (C B : Nat) (w : World) (hc : w.cell? ⟨B, 0, none⟩ = some (.int .i64 (C : Int))) : Calls Tryz.prog 47 #[f.val, .pointer (some ⟨B, 0, none⟩)] w fun e w' => e = .returned (.bool (decide ((C : Int) ≤ f.k))) ∧ Gr w w' := by
  have bl := World.block_lt_of_cell? _ _ hc
  simp only at bl
  unfold Ba.Face.val
  go_enter Tryz.func47, Tryz.ntmps47
  go_wp2_with fail
  go_ret
  exact ⟨rfl, gr_auto⟩
theorem info_sl : (Tryz.prog.info? 26).map (fun i => (i.zero, i.size, i.bytes)) = some (some (.slice none 0 0), 1, 24) := by kernel_rfl
set_option maxRecDepth 100000 in
set_option maxHeartbeats 4000000 in
theorem ar_ok (m : Ms.Mesh) (P : Ba.SlI) (C : Nat) (w : World) (h : m.At w) (hP : P.At w) (hsm : m.S.n ≤ 61 ∧ m.F.n ≤ 61) (hv : Ms.vlB m = true) (hn : P.n = m.F.n) (hC1 : 1 ≤ C) (hC2 : C ≤ 16) (hb : Ba.any (Ba.badA P) P.n = false) (hk : ∀ i, i < m.F.n → (m.F.D i).k < (C : Int)) : Calls Tryz.prog 16 #[m.val, .slice P.A P.n P.c, .int .i64 (C : Int)] w (RetAr m P C w) := by
  have HV := Lib.hid (fun W (hW : Gr w W) => ms_valid m W ⟨h.s.gr hW, h.f.gr hW⟩ (Or.inr hsm))
  rw [hv] at HV
  have HCF := Lib.hid (fun W (hW : Gr w W) => has_int 45 #[] P (Ba.badA P) W (hP.gr hW) (enter_of Tryz.func45 (by kernel_rfl) (by kernel_rfl)) (fun i _ W' _ => a1_any (P.X i) W'))
  rw [hb] at HCF
  have hkn : Ba.any (fun i => decide ((C : Int) ≤ (m.F.D i).k)) m.F.n = false := by
    cases e : Ba.any (fun i => decide ((C : Int) ≤ (m.F.D i).k)) m.F.n with
    | false => rfl
    | true =>
      obtain ⟨i, hi, e⟩ := (Ms.any_iff _ _).1 e
      have := hk i hi
      rw [decide_eq_true_eq] at e; omega
  have HCK := Lib.hid (fun BC W (hW : Gr w W) (hc : W.cell? ⟨BC, 0, none⟩ = some (.int .i64 (C : Int))) => has_face 47 #[.pointer (some ⟨BC, 0, none⟩)] m.F (fun i => decide ((C : Int) ≤ (m.F.D i).k)) W (h.f.gr hW) (enter_of Tryz.func47 (by kernel_rfl) (by kernel_rfl)) (fun i _ W' hW' => a2_any (m.F.D i) C BC W' (Gr.at hW' hc)))
  rw [hkn] at HCK
  have HTW := Lib.hid (fun i (hi : i < m.F.n) W (hW : Gr w W) => lu_twice m (m.F.D i) W (h.s.gr hW) (Ms.vl_fc hv hi))
  have HKL := Lib.hid (fun k => Ba.arK_le (P := P.X) (k := k))
  have HKI := Lib.hid (fun k => Ba.arK_in (P := P.X) (k := k))
  have HKE := Lib.hid (fun k => show Ba.arK P.X (k + 1) = max (Ba.arK P.X k) (P.X k + 1).toNat from rfl)
  have HSO := Lib.hid (fun k r c hr => Ba.arS_out (m := m) (P := P.X) (k := k) (r := r) (c := c) hr)
  have HSS := Lib.hid (fun k r c h1 h2 => Ba.arS_same (m := m) (P := P.X) (k := k) (r := r) (c := c) h1 h2)
  have HSR := Lib.hid (fun k r s c h1 hne => Ba.arS_row (m := m) (P := P.X) (k := k) (r := r) (s := s) (c := c) h1 hne)
  have HSC := Lib.hid (fun k r c t h2 hne => Ba.arS_cl (m := m) (P := P.X) (k := k) (r := r) (c := c) (t := t) h2 hne)
  have HSN := Lib.hid (fun k hlt => Ba.arS_neg (m := m) (P := P.X) (k := k) hlt)
  have HSB := Lib.hid (fun r c k hi => Ba.arS_bd hv (P := P.X) r c k hi)
  have HFP := Lib.hid (fun i (hi : i < m.F.n) => (h.f.hD i hi).1)
  have HFK := Lib.hid (fun i (hi : i < m.F.n) => show 0 ≤ (m.F.D i).k ∧ (m.F.D i).k < (C : Int) from ⟨Ba.fc_class (Ms.vl_fc hv hi), hk i hi⟩)
  have HPX := Lib.hid hP.hX
  have HFA := Lib.hid h.f.hA; have HPA := Lib.hid hP.hA
  have HPB := Lib.hid (fun i (hi : i < P.n) => Ba.bad_rng hb hi)
  have hpc := hP.hc; have hfc := h.f.hc
  have hpm := Nat.le_trans hP.hc hP.hb; have hfm := Nat.le_trans h.f.hc h.f.hb
  have hfs := hsm.2
  unfold RetAr
  clear hb hk hkn hP h hsm
  rw [hn] at HPX HCF HPA hpc HPB ⊢
  obtain ⟨j1, hj0, hz0, hz1, hz2⟩ := info_parts info_int
  have KI := Lib.hid hj0; have KZ0 := Lib.hid hz0; have KZ1 := Lib.hid hz1; have KZ2 := Lib.hid hz2
  clear hj0 hz0 hz1 hz2
  obtain ⟨j2, hj0, hz0, hz1, hz2⟩ := info_parts info_sl
  have LI := Lib.hid hj0; have LZ0 := Lib.hid hz0; have LZ1 := Lib.hid hz1; have LZ2 := Lib.hid hz2
  clear hj0 hz0 hz1 hz2 hv hn
  have c1 : ¬ (C : Int) < 1 := by omega
  have c2 : ¬ (16 : Int) < (C : Int) := by omega
  unfold Ms.Mesh.val at *
  generalize m.S.A = sA at *; generalize m.S.n = sn at *; generalize m.S.c = sc at *; generalize m.F.A = fA at *; generalize m.F.n = fn at *; generalize m.F.c = fc at *
  generalize P.A = pA at *; generalize P.n = pn at *; generalize P.c = pc at *
  go_enter Tryz.func16, Tryz.ntmps16
  go_wp2_with fail
  refine (HV.out _ (by exact gr_auto)).mono ?_
  rintro e w1 ⟨rfl, hb1⟩
  have g1 : Gr w w1 := Gr.trans (by exact gr_auto) hb1
  have d0 := Gr.at hb1 (b := w.heap.size) (o := 0) (v := .slice sA sn sc) (by simp [go_sem])
  have d1 := Gr.at hb1 (b := w.heap.size) (o := 1) (v := .slice fA fn fc) (by simp [go_sem])
  have d2 := Gr.at hb1 (b := w.heap.size + 1) (o := 0) (v := .int .i64 (C : Int)) (by simp [go_sem])
  clear HV hb1
  go_wp2_with fail
  refine (HCF.out _ g1).mono ?_
  rintro e w2 ⟨rfl, hb2⟩
  have g2 := g1.trans hb2
  replace d0 := Gr.at hb2 d0; replace d1 := Gr.at hb2 d1; replace d2 := Gr.at hb2 d2
  clear HCF hb2
  go_wp2_with fail
  refine (HCK.out _ _ g2 d2).mono ?_
  rintro e w3 ⟨rfl, hb3⟩
  have g3 := g2.trans hb3
  replace d0 := Gr.at hb3 d0; replace d1 := Gr.at hb3 d1; replace d2 := Gr.at hb3 d2
  clear HCK hb3 c1 c2
  go_wp2_with fail
  have HD := Lib.hid (And.intro d0 (And.intro d1 d2))
  have hz3 : w.heap.size + 1 < w3.heap.size := World.block_lt_of_cell? _ _ d2
  clear d0 d1 d2 g1 g2
  go_loopw [8, 40] (fun v x wr => ∃ k B, k ≤ fn ∧ x = .int .i64 (k : Int) ∧ Hid (ArSt wr w3.heap.size C v (Ba.arK P.X k) B (Ba.arS m P.X k)) ∧ Gr w3 wr) (fun _ x _ => fn - (intOf x).toNat)
  case atStart => exact ⟨0, _, Nat.zero_le _, rfl, ArSt.nil _ _ _ _, Gr.refl _⟩
  case round =>
    obtain ⟨k, B, hi, rfl, HA, hg⟩ := hrel
    rename World => W1
    by_cases hlt : k < fn
    · obtain rfl := HFA.out (by omega); obtain rfl := HPA.out (by omega)
      have ib0 : (0 : Int) ≤ (k : Int) := by omega
      have ib1 : (k : Int) < (fn : Int) := by omega
      have gw := g3.trans hg
      have p0 := Gr.at gw (HPX.out k hlt).1
      have bl := World.block_lt_of_cell? _ _ p0
      simp only at bl
      obtain ⟨x1, x2⟩ := HPB.out k hlt
      have hKE := HKE.out k
      have HSO2 := Lib.hid (fun r c hr => HSO.out k r c hr)
      have HSN2 := Lib.hid (fun q => HSN.out k q)
      have HSS2 := Lib.hid (fun r c h1 h2 => HSS.out k r c h1 h2)
      have HSR2 := Lib.hid (fun r s c h1 hne => HSR.out k r s c h1 hne)
      have HSC2 := Lib.hid (fun r c t h2 hne => HSC.out k r c t h2 hne)
      have HSB1 := Lib.hid (fun r c => HSB.out r c k hi); have HSB2 := Lib.hid (fun r c => HSB.out r c (k + 1) hlt)
      have HTk := Lib.hid (HTW.out k hlt)
      have HFk := Lib.hid (HFP.out k hlt)
      obtain ⟨f1, f2⟩ := HFK.out k hlt
      clear HSO HSN HSS HSR HSC HSB HTW HFP HFK HPB HPX HFA HPA HKE HKL HKI
      obtain ⟨K0, hK0⟩ : ∃ q, Ba.arK P.X k = q := ⟨_, rfl⟩
      obtain ⟨K1, hK1⟩ : ∃ q, Ba.arK P.X (k + 1) = q := ⟨_, rfl⟩
      rw [hK0] at HSO2 hKE HA
      rw [hK1] at hKE
      have HK1 := Lib.hid hK1
      generalize hx : P.X k = x at *
      have HX := Lib.hid hx
      clear hK0 hK1 hx
      go_wp2_with fail
      clear p0
      go_loopw [8] (fun v wr => ∃ K B, K0 ≤ K ∧ K ≤ K1 ∧ Hid (ArSt wr w3.heap.size C v K B (Ba.arS m P.X k)) ∧ Gr w3 wr) (fun v _ => K1 - slN v)
      case atStart => exact ⟨K0, B, Nat.le_refl _, by omega, HA, hg⟩
      case round =>
        clear HA hg gw
        obtain ⟨K, B, k1, k2, HA, hg⟩ := hrel
        rename World => W2
        have hal := ownsRow_at HA.out.out
        obtain ⟨A, cp, bo, rfl, hA, hc1, hc2, hcel⟩ := hal
        have gw := g3.trans hg
        have d2 := Gr.at hg HD.out.2.2
        by_cases hKx : (K : Int) ≤ x
        · have hX0 := HSO2.out K
          have hzz := Gr.size hg
          clear HSO2 HSN2 HSS2 HSR2 HSC2 HSB1 HSB2 HTk HFk hA hcel
          go_wp2_with (at_make; refine wpList_make_full _ rfl _ _ _ rfl W2.heap.size 3 j1 (.int .i64 0) 1 Tryz.underlying26 KI.out KZ0.out KZ1.out .i64 .i64 C C C rfl rfl rfl rfl ?d1 ?d2 ?d3 ?_)
          case d1 => rw [KZ2.out]; omega
          case d2 => unfold maxLen; omega
          case d3 => exact Nat.le_refl _
          intro w4 hown hgrow
          have hrow := Lib.hid (made_row hown)
          have G24 : Gr W2 w4 := Gr.own (Gr.refl _) (Nat.le_refl _) (n := 0) (e := 3) (size := 1) (xs := []) (v := .slice none 0 0) ⟨rfl, Or.inl ⟨rfl, rfl⟩⟩ hgrow
          clear hown hgrow
          have HO4 := Lib.hid (HA.out.gr G24).out
          have G46 : Gr w4 (w4.alloc (Obj.cells #[.slice (some ⟨W2.heap.size, 0, none⟩) C C] 26)) := Gr.alloc (Gr.refl w4) _
          have HO6 := Lib.hid (ownsRow_gr HO4.out G46)
          have hK16 : K < 300 := by omega
          have h4z := Gr.size G24
          go_wp2_with (at_builtin; refine wpList_append_lies _ rfl _ _ 40 rfl w3.heap.size 26 j2 (.slice none 0 0) 1 24 Tryz.underlying40 LI.out LZ0.out LZ1.out LZ2.out rfl (by decide) (.slice A K cp) K (rv B C K) rfl HO6.out ⟨w4.heap.size, 0, none⟩ 1 1 [.slice (some ⟨W2.heap.size, 0, none⟩) C C] rfl rfl (by intro p u hp; rcases p with _ | p <;> simp at hp <;> (try subst hp) <;> first | (simp [Addr.add, go_sem]; done) | (simp [Addr.add]; done)) (by intro u hu; simp at hu; subst hu; rfl) (by decide) (by unfold maxLen; omega) (by omega) (by simp; omega) _ rfl ?_)
          intro GG pp w7 ho hr ht8 hl8
          have HA7 := Lib.hid (HA.out.push (g := W2.heap.size) hC1 (Nat.le_refl _) hzz G24 hrow.out G46 ho hr (by rcases ht8 with q | q; exact .inl q; exact .inr (by rw [q]; simp)) (fun c => hX0 c (by omega)))
          have g37 : Gr w3 w7 := Gr.own (hg.trans (G24.trans G46)) (Nat.le_refl _) HO6.out hr
          clear ho hr ht8 hl8 HO6 HO4 hrow HA
          go_wp2_with fail
          go_roundw
          case rel => exact ⟨K + 1, _, by omega, by omega, HA7, g37⟩
          case measure => simp [slN]; omega
        · have hKK : K = K1 := by omega
          subst hKK
          have d0 := Gr.at hg HD.out.1; have d1 := Gr.at hg HD.out.2.1
          by_cases hx0 : 0 ≤ x
          · obtain ⟨r, hr⟩ : ∃ r : Nat, x = (r : Int) := ⟨x.toNat, by omega⟩
            obtain ⟨cl, hcl⟩ : ∃ c : Nat, (m.F.D k).k = (c : Int) := ⟨(m.F.D k).k.toNat, by omega⟩
            have hrK : r < K := by omega
            have hclC : cl < C := by omega
            have hP : P.X k = (r : Int) := HX.out.trans hr
            have hss := HSS2.out r cl hr hcl
            have HSE := Lib.hid (fun (s t : Nat) (hs : s < K) (ht : t < C) (hne : s ≠ r ∨ t ≠ cl) => show Ba.arS m P.X (k + 1) s t = Ba.arS m P.X k s t from by
              by_cases e : s = r
              · subst e
                rcases hne with q | q
                · exact absurd rfl q
                · exact HSC2.out s cl t hcl q
              · exact HSR2.out r s t hr e)
            have b1 := HSB1.out r cl; have b2 := HSB2.out r cl
            rw [hss] at b2
            obtain ⟨y0, y1⟩ := HA.out.row r hrK cl hclC
            have ho := hcel r hrK
            rw [rv_get B C hrK] at ho
            obtain rfl := hA (by omega)
            obtain ⟨a0, a1, a2, a3⟩ := HFk.out
            replace a0 := Gr.at gw a0; replace a1 := Gr.at gw a1; replace a2 := Gr.at gw a2; replace a3 := Gr.at gw a3
            obtain ⟨f, hf⟩ : ∃ f, m.F.D k = f := ⟨_, rfl⟩
            have HSS3 := Lib.hid hss
            clear HSO2 HSN2 HSS2 HSR2 HSC2 HSB1 HSB2 HFk hA hcel hss d2 hP
            rw [hf] at HTk hcl a0 a1 a2 a3
            unfold Ba.Face.val at HTk
            rw [hcl] at HTk a3
            have HSS4 := Lib.hid (show Ba.arS m P.X (k + 1) r cl = Ba.arS m P.X k r cl + Ms.tTn (Ms.tri m f) from by rw [HSS3.out, hf])
            rw [hf] at b2
            clear HSS3 hf
            generalize Ms.tTn (Ms.tri m f) = tv at *
            generalize f.a = fa' at *; generalize f.b = fb' at *; generalize f.c = fc' at *
            clear hcl f1 f2
            subst hr
            obtain ⟨BR, hBR⟩ : ∃ q, B r = q := ⟨_, rfl⟩
            obtain ⟨yv, hyv⟩ : ∃ q, Ba.arS m P.X k r cl = q := ⟨_, rfl⟩
            rw [hBR] at y0 y1 ho
            simp only [hyv] at y0
            rw [hyv] at b1 b2 HSS4
            have HBR := Lib.hid hBR
            clear hBR hyv
            have rb0 : (0 : Int) ≤ (r : Int) := by omega
            have rb1 : (r : Int) < (K : Int) := by omega
            have cb0 : (0 : Int) ≤ (cl : Int) := by omega
            have cb1 : (cl : Int) < (C : Int) := by omega
            have bt1 : -9223372036854775808 ≤ yv + tv := by omega
            have bt2 : yv + tv ≤ 9223372036854775807 := by omega
            have z1 := World.block_lt_of_cell? _ _ y0; have z2 := World.block_lt_of_cell? _ _ ho; have z3 := World.block_lt_of_cell? _ _ a0; have z4 := World.block_lt_of_cell? _ _ d0
            simp only at z1 z2 z3 z4
            have hKx2 : ¬ (K : Int) ≤ (r : Int) := hKx
            clear b1 b2
            have HGW := Lib.hid gw
            clear gw
            go_upto_region 16 with fail
            (first | refine name_world ?_ | refine (show (∀ W, W = _ → Calls _ _ _ W _) → Calls _ _ _ _ _ from fun h => h _ rfl) ?_); intro W8 hW8
            have g8 : Gr w W8 := by rw [hW8]; exact gr_auto
            have gb8_W2 : Gr W2 W8 := by (try clear g8); rw [hW8]; exact gr_auto
            have f8_0 : W8.frozen? ⟨BR, cl, none⟩ = false := by rw [hW8]; first | (simp [go_sem, *]; done) | (refine Gr.free ?_ (by assumption) (by assumption); exact gr_auto)
            have k8_0 : W8.cell? ⟨BR, cl, none⟩ = some (.int .i64 yv) := by rw [hW8]; first | (simp [go_sem, *]; done) | (refine Gr.at ?_ (by assumption); exact gr_auto)
            have b8_0 : BR < W8.heap.size := World.block_lt_of_cell? _ _ k8_0
            have k8_1 : W8.cell? ⟨bo, r, none⟩ = some (.slice (some ⟨BR, 0, none⟩) C C) := by rw [hW8]; first | (simp [go_sem, *]; done) | (refine Gr.at ?_ (by assumption); exact gr_auto)
            have b8_1 : bo < W8.heap.size := World.block_lt_of_cell? _ _ k8_1
            have k8_2 : W8.cell? ⟨m.F.b, m.F.o + k * 4, none⟩ = some (.int .i64 fa') := by rw [hW8]; first | (simp [go_sem, *]; done) | (refine Gr.at ?_ (by assumption); exact gr_auto)
            have b8_2 : m.F.b < W8.heap.size := World.block_lt_of_cell? _ _ k8_2
            have k8_3 : W8.cell? ⟨m.F.b, m.F.o + k * 4 + 1, none⟩ = some (.int .i64 fb') := by rw [hW8]; first | (simp [go_sem, *]; done) | (refine Gr.at ?_ (by assumption); exact gr_auto)
            have k8_4 : W8.cell? ⟨m.F.b, m.F.o + k * 4 + 2, none⟩ = some (.int .i64 fc') := by rw [hW8]; first | (simp [go_sem, *]; done) | (refine Gr.at ?_ (by assumption); exact gr_auto)
            have k8_5 : W8.cell? ⟨m.F.b, m.F.o + k * 4 + 3, none⟩ = some (.int .i64 (cl : Int)) := by rw [hW8]; first | (simp [go_sem, *]; done) | (refine Gr.at ?_ (by assumption); exact gr_auto)
            have k8_6 : W8.cell? ⟨w.heap.size, 0, none⟩ = some (.slice sA sn sc) := by rw [hW8]; first | (simp [go_sem, *]; done) | (refine Gr.at ?_ (by assumption); exact gr_auto)
            have b8_6 : w.heap.size < W8.heap.size := World.block_lt_of_cell? _ _ k8_6
            have k8_7 : W8.cell? ⟨w.heap.size, 1, none⟩ = some (.slice (some ⟨m.F.b, m.F.o, none⟩) fn fc) := by rw [hW8]; first | (simp [go_sem, *]; done) | (refine Gr.at ?_ (by assumption); exact gr_auto)
            clear hW8
            have s8_0 : ∀ gw : GW W8, gw.1.cell? ⟨BR, cl, none⟩ = some (.int .i64 yv) := fun gw => Gr.at gw.2 k8_0
            have s8_1 : ∀ gw : GW W8, gw.1.cell? ⟨bo, r, none⟩ = some (.slice (some ⟨BR, 0, none⟩) C C) := fun gw => Gr.at gw.2 k8_1
            have s8_2 : ∀ gw : GW W8, gw.1.cell? ⟨m.F.b, m.F.o + k * 4, none⟩ = some (.int .i64 fa') := fun gw => Gr.at gw.2 k8_2
            have s8_3 : ∀ gw : GW W8, gw.1.cell? ⟨m.F.b, m.F.o + k * 4 + 1, none⟩ = some (.int .i64 fb') := fun gw => Gr.at gw.2 k8_3
            have s8_4 : ∀ gw : GW W8, gw.1.cell? ⟨m.F.b, m.F.o + k * 4 + 2, none⟩ = some (.int .i64 fc') := fun gw => Gr.at gw.2 k8_4
            have s8_5 : ∀ gw : GW W8, gw.1.cell? ⟨m.F.b, m.F.o + k * 4 + 3, none⟩ = some (.int .i64 (cl : Int)) := fun gw => Gr.at gw.2 k8_5
            have s8_6 : ∀ gw : GW W8, gw.1.cell? ⟨w.heap.size, 0, none⟩ = some (.slice sA sn sc) := fun gw => Gr.at gw.2 k8_6
            have s8_7 : ∀ gw : GW W8, gw.1.cell? ⟨w.heap.size, 1, none⟩ = some (.slice (some ⟨m.F.b, m.F.o, none⟩) fn fc) := fun gw => Gr.at gw.2 k8_7
            have Q1 := Lib.hid (fun gw : GW W8 => gw_call (HTk.out gw.1 (HGW.out.trans (gb8_W2.trans gw.2))))
            refine wp_region_gr_tail 21 (by kernel_rfl) (by kernel_rfl) ?_
            simp only [List.take_succ_cons, List.take_zero, List.drop_succ_cons, List.drop_zero]
            repeat (go_big_quiet_step ((go_at_call 48; with_reducible exact Q1.out _)))
            refine wpQuiet_nil ?_
            intro w9 hb9
            clear s8_0 s8_1 s8_2 s8_3 s8_4 s8_5 s8_6 s8_7
            have g9 : Gr w w9 := g8.trans hb9
            have f8_0 := Gr.free hb9 k8_0 f8_0
            have k8_0 := Gr.at hb9 k8_0
            have k8_1 := Gr.at hb9 k8_1
            have k8_2 := Gr.at hb9 k8_2
            have k8_3 := Gr.at hb9 k8_3
            have k8_4 := Gr.at hb9 k8_4
            have k8_5 := Gr.at hb9 k8_5
            have k8_6 := Gr.at hb9 k8_6
            have k8_7 := Gr.at hb9 k8_7
            have g29 := gb8_W2.trans hb9
            have HA9 := Lib.hid (show ArSt (w9.setCell ⟨BR, cl, none⟩ (.int .i64 (yv + tv))) w3.heap.size C (.slice (some ⟨bo, 0, none⟩) K cp) K B (Ba.arS m P.X (k + 1)) from by
              have q := (HA.out.gr g29).set (c := cl) (Y := Ba.arS m P.X (k + 1)) hrK HSS4.out (fun s t hs ht hne => HSE.out s t hs ht hne)
              rw [HBR.out] at q; exact q)
            have hbr := (HA.out.hb r hrK).1
            rw [HBR.out] at hbr
            have g39 := Gr.setCell (hg.trans g29) (p := ⟨BR, cl, none⟩) hbr (.int .i64 (yv + tv))
            clear HA
            go_wp2_with fail
            go_roundw
            case rel => exact ⟨k + 1, B, by omega, by go_num, by rw [HK1.out]; exact HA9, g39⟩
            case measure => simp [intOf]; omega
          · have hneg := HSN2.out (by omega)
            have HA2 := Lib.hid (show ArSt W2 w3.heap.size C (.slice A K cp) K B (Ba.arS m P.X (k + 1)) from by rw [hneg]; exact HA.out)
            clear HSO2 HSN2 HSS2 HSR2 HSC2 HSB1 HSB2 HTk HFk hA hcel HA hneg
            go_wp2_with fail
            go_roundw
            case rel => exact ⟨k + 1, B, by omega, by go_num, by rw [HK1.out]; exact HA2, hg⟩
            case measure => simp [intOf]; omega
    · obtain rfl : fn = k := by omega
      clear HSO HSN HSS HSR HSC HSB HTW HFP HFK HPB HPX HFA HPA HKE HKL HKI
      go_wp2_with fail
      go_ret2
      exact ⟨_, B, rfl, ⟨ownsRow_base HA.out.out (by omega), HA.out.row, fun r hr => ⟨by have := (HA.out.hb r hr).1; omega, (HA.out.hb r hr).2⟩, HA.out.inj⟩, g3.trans hg⟩
end Go.Proofs.YtajhhplgcegodaaGreatDoor
