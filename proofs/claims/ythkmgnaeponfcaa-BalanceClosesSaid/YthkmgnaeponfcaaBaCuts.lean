/-
  BalanceCuts: it answers true. (Printed by mkcuts.py.)
-/
import Derived.Test.YthkmgnaeponfcaaBaAdd
import Derived.Test.YthkmgnaeponfcaaBaCat
import Derived.Test.YthkmgnaeponfcaaBaAwk
set_option linter.unusedVariables false
set_option linter.unusedSimpArgs false
namespace Go.Proofs.Ythkmgnaeponfcaa
open Go.RowKit
attribute [local go_sem ↓] Go.wp_at_zero Go.wp_at_succ
/-- A slice of a call's own: the names of these nodes; with none it is nil. -/
def NmRow (nm : Nat → ByteArray) (B : Nat) (w : World) (v : Value) (l : List Nat) : Prop := w.ownsRow B 9 1 v l.length ((l.map nm).map Value.string) ∧ (l = [] → v = .slice none 0 0)
theorem NmRow.gr {nm : Nat → ByteArray} {B : Nat} {w w' : World} {v : Value} {l : List Nat} (h : NmRow nm B w v l) (g : Gr w w') : NmRow nm B w' v l := ⟨ownsRow_gr h.1 g, h.2⟩
theorem NmRow.apart {nm : Nat → ByteArray} {B : Nat} {w : World} {a b : Value} {la lb : List Nat} (ha : NmRow nm B w a la) (hb : NmRow nm B w b lb) (hd : ∀ x, x ∈ la → ∀ y, y ∈ lb → nm x ≠ nm y) : b.ownBlock = none ∨ b.ownBlock ≠ a.ownBlock := by
  cases lb with
  | nil => rw [hb.2 rfl]; exact Or.inl rfl
  | cons y lb =>
    cases la with
    | nil => rw [ha.2 rfl]; cases e : b.ownBlock with
      | none => exact Or.inl rfl
      | some g => exact Or.inr (by intro h; cases h)
    | cons x la =>
      cases e : b.ownBlock with
      | none => exact Or.inl rfl
      | some g =>
        refine Or.inr fun h => ?_
        have c1 := hb.1.cells e 0 _ rfl
        have c2 := ha.1.cells h.symm 0 _ rfl
        rw [c1] at c2
        have : nm y = nm x := by simpa using c2
        exact hd x (by simp) y (by simp) this.symm
theorem NmRow.kept {nm : Nat → ByteArray} {B : Nat} {w w' : World} {a b : Value} {la lb : List Nat} (ha : NmRow nm B w a la) (hb : NmRow nm B w b lb) (hd : ∀ x, x ∈ la → ∀ y, y ∈ lb → nm x ≠ nm y) (hg : w.grownBy w' a.ownBlock) : NmRow nm B w' b lb := ⟨hb.1.kept hg (ha.apart hb hd), hb.2⟩
theorem NmRow.sls {nm : Nat → ByteArray} {B : Nat} {w : World} {v : Value} {l : List Nat} (h : NmRow nm B w v l) (hs : ∀ i, i ∈ l → (nm i).size ≤ 9223372036854775807) : ∃ s : Ba.SlS, v = .slice s.A s.n s.c ∧ s.At w ∧ s.n = l.length ∧ (∀ k, k < s.n → (l.map nm)[k]? = some (s.X k)) ∧ (s.A = none → s.c = 0) := by
  have hn : v = .slice none 0 0 ∨ ∃ g c, v = .slice (some ⟨g, 0, none⟩) l.length c := by
    obtain ⟨-, ⟨a, -⟩ | ⟨g, cap, cur, a, -⟩⟩ := h.1
    · exact Or.inl a
    · exact Or.inr ⟨g, cap, a⟩
  obtain ⟨s, e, h1, h2, h3⟩ := sls_own h.1 (fun x hx => by
    obtain ⟨i, hi, rfl⟩ := List.mem_map.1 hx
    exact hs i hi)
  refine ⟨s, e, h1, by rw [h2, List.length_map], h3, fun ha => ?_⟩
  rcases hn with q | ⟨g, c, q⟩
  · rw [q] at e; simp only [Value.slice.injEq] at e; exact e.2.2.symm
  · rw [q] at e; simp only [Value.slice.injEq] at e; rw [ha] at e; exact absurd e.1 (by simp)
theorem lst_eq {s : Ba.SlS} {l : List ByteArray} (h : s.n = l.length) (hx : ∀ k, k < s.n → l[k]? = some (s.X k)) : Ba.lstS s.n s.X = l := by
  refine List.ext_getElem? fun i => ?_
  by_cases hi : i < s.n
  · rw [Ba.lstS_get hi, hx i hi]
  · rw [List.getElem?_eq_none (by rw [Ba.lstS_len]; omega), List.getElem?_eq_none (by omega)]

set_option maxRecDepth 100000 in
set_option maxHeartbeats 8000000 in
theorem cuts_0 (A A2 VA1 PA1 SA1 OA1 VA2 PA2 SA2 OA2 GA IA : Option Addr) (n c n2 c2 vn1 vc1 pn1 pc1 sn1 sc1 on1 oc1 vn2 vc2 pn2 pc2 sn2 sc2 on2 oc2 gn gc m ic : Nat) (inn out : Int) (w : World) (ch ot : Int) (HA : Hid (∀ W, Gr w W → Calls Try.prog 8 #[] W fun e w' => e = .returned (.bool true) ∧ Gr W w')) (HL : Hid (∀ W, Gr w W → Calls Try.prog 9 #[.agg #[.slice A n c, .slice A2 n2 c2, .slice VA1 vn1 vc1, .slice PA1 pn1 pc1, .slice SA1 sn1 sc1, .slice OA1 on1 oc1, .slice VA2 vn2 vc2, .slice PA2 pn2 pc2, .slice SA2 sn2 sc2, .slice OA2 on2 oc2, .slice IA m ic, .int .i64 inn, .int .i64 out, .slice GA gn gc]] W fun e w' => e = .returned (.bool true) ∧ Gr W w')) : Calls Try.prog 5 #[.agg #[.slice A n c, .slice A2 n2 c2, .slice VA1 vn1 vc1, .slice PA1 pn1 pc1, .slice SA1 sn1 sc1, .slice OA1 on1 oc1, .slice VA2 vn2 vc2, .slice PA2 pn2 pc2, .slice SA2 sn2 sc2, .slice OA2 on2 oc2, .slice IA m ic, .int .i64 inn, .int .i64 out, .slice GA gn gc], .int .u16 ch, .int .u16 ot] w (fun e w' => e = .returned (.bool true) ∧ Gr w w') := by
  go_enter Try.func5, Try.ntmps5
  go_wp2_with fail
  (first | refine name_world ?_ | refine (show (∀ W, W = _ → Calls _ _ _ W _) → Calls _ _ _ _ _ from fun h => h _ rfl) ?_); intro W1 hW1
  have g1 : Gr w W1 := by rw [hW1]; exact gr_auto
  have k1_0 : W1.cell? ⟨w.heap.size, 0, none⟩ = some (.slice A n c) := by rw [hW1]; first | (simp [go_sem, *]; done) | (refine Gr.at ?_ (by assumption); exact gr_auto)
  have b1_0 : w.heap.size < W1.heap.size := World.block_lt_of_cell? _ _ k1_0
  have k1_1 : W1.cell? ⟨w.heap.size, 1, none⟩ = some (.slice A2 n2 c2) := by rw [hW1]; first | (simp [go_sem, *]; done) | (refine Gr.at ?_ (by assumption); exact gr_auto)
  have k1_2 : W1.cell? ⟨w.heap.size, 2, none⟩ = some (.slice VA1 vn1 vc1) := by rw [hW1]; first | (simp [go_sem, *]; done) | (refine Gr.at ?_ (by assumption); exact gr_auto)
  have k1_3 : W1.cell? ⟨w.heap.size, 3, none⟩ = some (.slice PA1 pn1 pc1) := by rw [hW1]; first | (simp [go_sem, *]; done) | (refine Gr.at ?_ (by assumption); exact gr_auto)
  have k1_4 : W1.cell? ⟨w.heap.size, 4, none⟩ = some (.slice SA1 sn1 sc1) := by rw [hW1]; first | (simp [go_sem, *]; done) | (refine Gr.at ?_ (by assumption); exact gr_auto)
  have k1_5 : W1.cell? ⟨w.heap.size, 5, none⟩ = some (.slice OA1 on1 oc1) := by rw [hW1]; first | (simp [go_sem, *]; done) | (refine Gr.at ?_ (by assumption); exact gr_auto)
  have k1_6 : W1.cell? ⟨w.heap.size, 6, none⟩ = some (.slice VA2 vn2 vc2) := by rw [hW1]; first | (simp [go_sem, *]; done) | (refine Gr.at ?_ (by assumption); exact gr_auto)
  have k1_7 : W1.cell? ⟨w.heap.size, 7, none⟩ = some (.slice PA2 pn2 pc2) := by rw [hW1]; first | (simp [go_sem, *]; done) | (refine Gr.at ?_ (by assumption); exact gr_auto)
  have k1_8 : W1.cell? ⟨w.heap.size, 8, none⟩ = some (.slice SA2 sn2 sc2) := by rw [hW1]; first | (simp [go_sem, *]; done) | (refine Gr.at ?_ (by assumption); exact gr_auto)
  have k1_9 : W1.cell? ⟨w.heap.size, 9, none⟩ = some (.slice OA2 on2 oc2) := by rw [hW1]; first | (simp [go_sem, *]; done) | (refine Gr.at ?_ (by assumption); exact gr_auto)
  have k1_10 : W1.cell? ⟨w.heap.size, 10, none⟩ = some (.slice IA m ic) := by rw [hW1]; first | (simp [go_sem, *]; done) | (refine Gr.at ?_ (by assumption); exact gr_auto)
  have k1_11 : W1.cell? ⟨w.heap.size, 11, none⟩ = some (.int .i64 inn) := by rw [hW1]; first | (simp [go_sem, *]; done) | (refine Gr.at ?_ (by assumption); exact gr_auto)
  have k1_12 : W1.cell? ⟨w.heap.size, 12, none⟩ = some (.int .i64 out) := by rw [hW1]; first | (simp [go_sem, *]; done) | (refine Gr.at ?_ (by assumption); exact gr_auto)
  have k1_13 : W1.cell? ⟨w.heap.size, 13, none⟩ = some (.slice GA gn gc) := by rw [hW1]; first | (simp [go_sem, *]; done) | (refine Gr.at ?_ (by assumption); exact gr_auto)
  clear hW1
  refine (HA.out _ g1).mono ?_
  rintro e w2 ⟨rfl, hb2⟩
  have g2 := g1.trans hb2
  have k1_0 := Gr.at (w1 := w2) gr_auto k1_0; have k1_1 := Gr.at (w1 := w2) gr_auto k1_1; have k1_2 := Gr.at (w1 := w2) gr_auto k1_2; have k1_3 := Gr.at (w1 := w2) gr_auto k1_3; have k1_4 := Gr.at (w1 := w2) gr_auto k1_4; have k1_5 := Gr.at (w1 := w2) gr_auto k1_5; have k1_6 := Gr.at (w1 := w2) gr_auto k1_6; have k1_7 := Gr.at (w1 := w2) gr_auto k1_7; have k1_8 := Gr.at (w1 := w2) gr_auto k1_8; have k1_9 := Gr.at (w1 := w2) gr_auto k1_9; have k1_10 := Gr.at (w1 := w2) gr_auto k1_10; have k1_11 := Gr.at (w1 := w2) gr_auto k1_11; have k1_12 := Gr.at (w1 := w2) gr_auto k1_12; have k1_13 := Gr.at (w1 := w2) gr_auto k1_13
  go_wp2_with fail
  refine (HL.out _ g2).mono ?_
  rintro e w3 ⟨rfl, hb3⟩
  have g3 := g2.trans hb3
  have k1_0 := Gr.at (w1 := w3) gr_auto k1_0; have k1_1 := Gr.at (w1 := w3) gr_auto k1_1; have k1_2 := Gr.at (w1 := w3) gr_auto k1_2; have k1_3 := Gr.at (w1 := w3) gr_auto k1_3; have k1_4 := Gr.at (w1 := w3) gr_auto k1_4; have k1_5 := Gr.at (w1 := w3) gr_auto k1_5; have k1_6 := Gr.at (w1 := w3) gr_auto k1_6; have k1_7 := Gr.at (w1 := w3) gr_auto k1_7; have k1_8 := Gr.at (w1 := w3) gr_auto k1_8; have k1_9 := Gr.at (w1 := w3) gr_auto k1_9; have k1_10 := Gr.at (w1 := w3) gr_auto k1_10; have k1_11 := Gr.at (w1 := w3) gr_auto k1_11; have k1_12 := Gr.at (w1 := w3) gr_auto k1_12; have k1_13 := Gr.at (w1 := w3) gr_auto k1_13
  go_wp2_with fail
  go_ret
  exact ⟨rfl, gr_auto⟩

set_option maxRecDepth 100000 in
set_option maxHeartbeats 8000000 in
theorem cuts_1 (A A2 VA1 PA1 SA1 OA1 VA2 PA2 SA2 OA2 GA IA : Option Addr) (n c n2 c2 vn1 vc1 pn1 pc1 sn1 sc1 on1 oc1 vn2 vc2 pn2 pc2 sn2 sc2 on2 oc2 gn gc m ic : Nat) (inn out : Int) (w : World) (ch ot ec : Int) (hec : ec ≠ 0) (HA : Hid (∀ W, Gr w W → Calls Try.prog 8 #[] W fun e w' => e = .returned (.bool true) ∧ Gr W w')) (HL : Hid (∀ W, Gr w W → Calls Try.prog 9 #[.agg #[.slice A n c, .slice A2 n2 c2, .slice VA1 vn1 vc1, .slice PA1 pn1 pc1, .slice SA1 sn1 sc1, .slice OA1 on1 oc1, .slice VA2 vn2 vc2, .slice PA2 pn2 pc2, .slice SA2 sn2 sc2, .slice OA2 on2 oc2, .slice IA m ic, .int .i64 inn, .int .i64 out, .slice GA gn gc]] W fun e w' => e = .returned (.bool false) ∧ Gr W w')) (HG : Hid (∀ W, Gr w W → Calls Try.prog 14 #[.agg #[.slice A n c, .slice A2 n2 c2], .agg #[.slice VA1 vn1 vc1, .slice PA1 pn1 pc1, .slice SA1 sn1 sc1, .slice OA1 on1 oc1], .agg #[.slice VA2 vn2 vc2, .slice PA2 pn2 pc2, .slice SA2 sn2 sc2, .slice OA2 on2 oc2], .slice IA m ic, .agg #[.int .i64 inn, .int .i64 out, .slice GA gn gc]] W fun e w' => e = .returned (.int .i64 ec) ∧ Gr W w')) : Calls Try.prog 5 #[.agg #[.slice A n c, .slice A2 n2 c2, .slice VA1 vn1 vc1, .slice PA1 pn1 pc1, .slice SA1 sn1 sc1, .slice OA1 on1 oc1, .slice VA2 vn2 vc2, .slice PA2 pn2 pc2, .slice SA2 sn2 sc2, .slice OA2 on2 oc2, .slice IA m ic, .int .i64 inn, .int .i64 out, .slice GA gn gc], .int .u16 ch, .int .u16 ot] w (fun e w' => e = .returned (.bool true) ∧ Gr w w') := by
  have t0 : (ec != 0) = true := Ba.bne_of' hec
  clear hec
  go_enter Try.func5, Try.ntmps5
  go_wp2_with fail
  (first | refine name_world ?_ | refine (show (∀ W, W = _ → Calls _ _ _ W _) → Calls _ _ _ _ _ from fun h => h _ rfl) ?_); intro W1 hW1
  have g1 : Gr w W1 := by rw [hW1]; exact gr_auto
  have k1_0 : W1.cell? ⟨w.heap.size, 0, none⟩ = some (.slice A n c) := by rw [hW1]; first | (simp [go_sem, *]; done) | (refine Gr.at ?_ (by assumption); exact gr_auto)
  have b1_0 : w.heap.size < W1.heap.size := World.block_lt_of_cell? _ _ k1_0
  have k1_1 : W1.cell? ⟨w.heap.size, 1, none⟩ = some (.slice A2 n2 c2) := by rw [hW1]; first | (simp [go_sem, *]; done) | (refine Gr.at ?_ (by assumption); exact gr_auto)
  have k1_2 : W1.cell? ⟨w.heap.size, 2, none⟩ = some (.slice VA1 vn1 vc1) := by rw [hW1]; first | (simp [go_sem, *]; done) | (refine Gr.at ?_ (by assumption); exact gr_auto)
  have k1_3 : W1.cell? ⟨w.heap.size, 3, none⟩ = some (.slice PA1 pn1 pc1) := by rw [hW1]; first | (simp [go_sem, *]; done) | (refine Gr.at ?_ (by assumption); exact gr_auto)
  have k1_4 : W1.cell? ⟨w.heap.size, 4, none⟩ = some (.slice SA1 sn1 sc1) := by rw [hW1]; first | (simp [go_sem, *]; done) | (refine Gr.at ?_ (by assumption); exact gr_auto)
  have k1_5 : W1.cell? ⟨w.heap.size, 5, none⟩ = some (.slice OA1 on1 oc1) := by rw [hW1]; first | (simp [go_sem, *]; done) | (refine Gr.at ?_ (by assumption); exact gr_auto)
  have k1_6 : W1.cell? ⟨w.heap.size, 6, none⟩ = some (.slice VA2 vn2 vc2) := by rw [hW1]; first | (simp [go_sem, *]; done) | (refine Gr.at ?_ (by assumption); exact gr_auto)
  have k1_7 : W1.cell? ⟨w.heap.size, 7, none⟩ = some (.slice PA2 pn2 pc2) := by rw [hW1]; first | (simp [go_sem, *]; done) | (refine Gr.at ?_ (by assumption); exact gr_auto)
  have k1_8 : W1.cell? ⟨w.heap.size, 8, none⟩ = some (.slice SA2 sn2 sc2) := by rw [hW1]; first | (simp [go_sem, *]; done) | (refine Gr.at ?_ (by assumption); exact gr_auto)
  have k1_9 : W1.cell? ⟨w.heap.size, 9, none⟩ = some (.slice OA2 on2 oc2) := by rw [hW1]; first | (simp [go_sem, *]; done) | (refine Gr.at ?_ (by assumption); exact gr_auto)
  have k1_10 : W1.cell? ⟨w.heap.size, 10, none⟩ = some (.slice IA m ic) := by rw [hW1]; first | (simp [go_sem, *]; done) | (refine Gr.at ?_ (by assumption); exact gr_auto)
  have k1_11 : W1.cell? ⟨w.heap.size, 11, none⟩ = some (.int .i64 inn) := by rw [hW1]; first | (simp [go_sem, *]; done) | (refine Gr.at ?_ (by assumption); exact gr_auto)
  have k1_12 : W1.cell? ⟨w.heap.size, 12, none⟩ = some (.int .i64 out) := by rw [hW1]; first | (simp [go_sem, *]; done) | (refine Gr.at ?_ (by assumption); exact gr_auto)
  have k1_13 : W1.cell? ⟨w.heap.size, 13, none⟩ = some (.slice GA gn gc) := by rw [hW1]; first | (simp [go_sem, *]; done) | (refine Gr.at ?_ (by assumption); exact gr_auto)
  clear hW1
  refine (HA.out _ g1).mono ?_
  rintro e w2 ⟨rfl, hb2⟩
  have g2 := g1.trans hb2
  have k1_0 := Gr.at (w1 := w2) gr_auto k1_0; have k1_1 := Gr.at (w1 := w2) gr_auto k1_1; have k1_2 := Gr.at (w1 := w2) gr_auto k1_2; have k1_3 := Gr.at (w1 := w2) gr_auto k1_3; have k1_4 := Gr.at (w1 := w2) gr_auto k1_4; have k1_5 := Gr.at (w1 := w2) gr_auto k1_5; have k1_6 := Gr.at (w1 := w2) gr_auto k1_6; have k1_7 := Gr.at (w1 := w2) gr_auto k1_7; have k1_8 := Gr.at (w1 := w2) gr_auto k1_8; have k1_9 := Gr.at (w1 := w2) gr_auto k1_9; have k1_10 := Gr.at (w1 := w2) gr_auto k1_10; have k1_11 := Gr.at (w1 := w2) gr_auto k1_11; have k1_12 := Gr.at (w1 := w2) gr_auto k1_12; have k1_13 := Gr.at (w1 := w2) gr_auto k1_13
  go_wp2_with fail
  refine (HL.out _ g2).mono ?_
  rintro e w3 ⟨rfl, hb3⟩
  have g3 := g2.trans hb3
  have k1_0 := Gr.at (w1 := w3) gr_auto k1_0; have k1_1 := Gr.at (w1 := w3) gr_auto k1_1; have k1_2 := Gr.at (w1 := w3) gr_auto k1_2; have k1_3 := Gr.at (w1 := w3) gr_auto k1_3; have k1_4 := Gr.at (w1 := w3) gr_auto k1_4; have k1_5 := Gr.at (w1 := w3) gr_auto k1_5; have k1_6 := Gr.at (w1 := w3) gr_auto k1_6; have k1_7 := Gr.at (w1 := w3) gr_auto k1_7; have k1_8 := Gr.at (w1 := w3) gr_auto k1_8; have k1_9 := Gr.at (w1 := w3) gr_auto k1_9; have k1_10 := Gr.at (w1 := w3) gr_auto k1_10; have k1_11 := Gr.at (w1 := w3) gr_auto k1_11; have k1_12 := Gr.at (w1 := w3) gr_auto k1_12; have k1_13 := Gr.at (w1 := w3) gr_auto k1_13
  go_wp2_with fail
  refine (HG.out _ g3).mono ?_
  rintro e w4 ⟨rfl, hb4⟩
  have g4 := g3.trans hb4
  have k1_0 := Gr.at (w1 := w4) gr_auto k1_0; have k1_1 := Gr.at (w1 := w4) gr_auto k1_1; have k1_2 := Gr.at (w1 := w4) gr_auto k1_2; have k1_3 := Gr.at (w1 := w4) gr_auto k1_3; have k1_4 := Gr.at (w1 := w4) gr_auto k1_4; have k1_5 := Gr.at (w1 := w4) gr_auto k1_5; have k1_6 := Gr.at (w1 := w4) gr_auto k1_6; have k1_7 := Gr.at (w1 := w4) gr_auto k1_7; have k1_8 := Gr.at (w1 := w4) gr_auto k1_8; have k1_9 := Gr.at (w1 := w4) gr_auto k1_9; have k1_10 := Gr.at (w1 := w4) gr_auto k1_10; have k1_11 := Gr.at (w1 := w4) gr_auto k1_11; have k1_12 := Gr.at (w1 := w4) gr_auto k1_12; have k1_13 := Gr.at (w1 := w4) gr_auto k1_13
  go_wp2_with fail
  go_ret
  exact ⟨rfl, gr_auto⟩

/-- Is the bit there? (As the code asks.) -/
def shrB (x : Int) (i : Nat) : Bool := (bits BinOp.and IntKind.u16 (x / 2 ^ i) 1 == 1)

set_option maxRecDepth 100000 in
set_option maxHeartbeats 8000000 in
theorem cuts_2 (A A2 VA1 PA1 SA1 OA1 VA2 PA2 SA2 OA2 GA IA : Option Addr) (n c n2 c2 vn1 vc1 pn1 pc1 sn1 sc1 on1 oc1 vn2 vc2 pn2 pc2 sn2 sc2 on2 oc2 gn gc m ic : Nat) (inn out : Int) (w : World) (ch ot : Int) (HA : Hid (∀ W, Gr w W → Calls Try.prog 8 #[] W fun e w' => e = .returned (.bool true) ∧ Gr W w')) (HL : Hid (∀ W, Gr w W → Calls Try.prog 9 #[.agg #[.slice A n c, .slice A2 n2 c2, .slice VA1 vn1 vc1, .slice PA1 pn1 pc1, .slice SA1 sn1 sc1, .slice OA1 on1 oc1, .slice VA2 vn2 vc2, .slice PA2 pn2 pc2, .slice SA2 sn2 sc2, .slice OA2 on2 oc2, .slice IA m ic, .int .i64 inn, .int .i64 out, .slice GA gn gc]] W fun e w' => e = .returned (.bool false) ∧ Gr W w')) (HG : Hid (∀ W, Gr w W → Calls Try.prog 14 #[.agg #[.slice A n c, .slice A2 n2 c2], .agg #[.slice VA1 vn1 vc1, .slice PA1 pn1 pc1, .slice SA1 sn1 sc1, .slice OA1 on1 oc1], .agg #[.slice VA2 vn2 vc2, .slice PA2 pn2 pc2, .slice SA2 sn2 sc2, .slice OA2 on2 oc2], .slice IA m ic, .agg #[.int .i64 inn, .int .i64 out, .slice GA gn gc]] W fun e w' => e = .returned (.int .i64 0) ∧ Gr W w'))
    (b o b1 o1 b2 o2 b3 o3 b4 o4 b5 o5 : Nat) (D : Nat → Ba.Node) (V1 Q1 V2 Q2 J : Nat → Int) (HA0 : Hid (0 < n → A = some ⟨b, o, none⟩)) (HD : Hid (∀ i, i < n → (D i).Cells w b (o + i * 9) ∧ (D i).nm.size ≤ 9223372036854775807))
    (z1 : vn1 = n) (z2 : pn1 = n) (z3 : vn2 = n) (z4 : pn2 = n) (z5 : m = n) (hn : n ≤ 12)
    (K1 : Hid (0 < n → VA1 = some ⟨b1, o1, none⟩)) (K2 : Hid (0 < n → PA1 = some ⟨b2, o2, none⟩)) (K3 : Hid (0 < n → VA2 = some ⟨b3, o3, none⟩)) (K4 : Hid (0 < n → PA2 = some ⟨b4, o4, none⟩)) (K5 : Hid (0 < n → IA = some ⟨b5, o5, none⟩))
    (X1 : Hid (∀ i, i < n → w.cell? ⟨b1, o1 + i, none⟩ = some (.int .i64 (V1 i)))) (X2 : Hid (∀ i, i < n → w.cell? ⟨b2, o2 + i, none⟩ = some (.int .i64 (Q1 i)))) (X3 : Hid (∀ i, i < n → w.cell? ⟨b3, o3 + i, none⟩ = some (.int .i64 (V2 i)))) (X4 : Hid (∀ i, i < n → w.cell? ⟨b4, o4 + i, none⟩ = some (.int .i64 (Q2 i)))) (X5 : Hid (∀ i, i < n → w.cell? ⟨b5, o5 + i, none⟩ = some (.int .i64 (J i))))
    (BX : Hid (∀ i, i < n → (0 ≤ V1 i ∧ V1 i ≤ 1125899906842624) ∧ (0 ≤ Q1 i ∧ Q1 i ≤ 1125899906842624) ∧ (0 ≤ V2 i ∧ V2 i ≤ 1125899906842624) ∧ (0 ≤ Q2 i ∧ Q2 i ≤ 1125899906842624)))
    (pa pb : Nat → Bool) (rho f : Nat → Int) (R : List Nat → Int) (HPA : Hid (∀ i, i < n → shrB ch i = pa i)) (HPB : Hid (∀ i, i < n → shrB ot i = pb i)) (hch : 0 ≤ ch ∧ ch ≤ 65535) (hot : 0 ≤ ot ∧ ot ≤ 65535)
    (HDI : Hid (∀ i j, i < n → j < n → (D i).nm = (D j).nm → i = j))
    (F0 : f 0 = 0) (FS : Hid (∀ i, f (i + 1) = if pa i = true then f i + rho i else f i)) (FB : Hid (∀ i, i ≤ n → -576460752303423488 ≤ f i ∧ f i ≤ 576460752303423488)) (RB : Hid (∀ i, i < n → -576460752303423488 ≤ rho i ∧ rho i ≤ 576460752303423488)) (QB : Hid (∀ l, -576460752303423488 ≤ R l ∧ R l ≤ 576460752303423488))
    (HRA : R (Ba.idx pa n) = f n) (HRC : R (Ba.idx (fun i => !pa i && pb i) n ++ Ba.idx pa n) = f n + R (Ba.idx (fun i => !pa i && pb i) n))
    (HP1 : Hid (∀ i, i < n → ∀ B W, Gr w W → W.cell? ⟨B, 0, none⟩ = some (.string (D i).nm) → Calls Try.prog 12 #[.agg #[.slice A n c, .slice A2 n2 c2], .slice (some ⟨B, 0, none⟩) 1 1, .agg #[.slice VA1 vn1 vc1, .slice PA1 pn1 pc1, .slice SA1 sn1 sc1, .slice OA1 on1 oc1], .agg #[.slice VA2 vn2 vc2, .slice PA2 pn2 pc2, .slice SA2 sn2 sc2, .slice OA2 on2 oc2], .slice IA m ic, .agg #[.int .i64 inn, .int .i64 out, .slice GA gn gc]] W fun e w' => e = .returned (.tuple #[.int .i64 (rho i), .int .i64 0]) ∧ Gr W w'))
    (HRS : Hid (∀ i, i < n → ((D i).kd == 3) = false → ∀ W, Gr w W → Calls Try.prog 18 #[.agg #[.slice A n c, .slice A2 n2 c2], .string (D i).nm, .int .i64 (V1 i + Q1 i), .int .i64 (V2 i + Q2 i), .int .i64 (J i), .slice GA gn gc] W fun e w' => e = .returned (.tuple #[.int .i64 (rho i), .int .i64 0]) ∧ Gr W w'))
    (HPN : Hid (∀ (l : List Nat) (s : Ba.SlS) W, Gr w W → s.At W → s.n = l.length → (∀ k, k < s.n → (l.map fun i => (D i).nm)[k]? = some (s.X k)) → l.Nodup → (∀ i, i ∈ l → i < n) → s.n ≤ 1000 → Calls Try.prog 12 #[.agg #[.slice A n c, .slice A2 n2 c2], .slice s.A s.n s.c, .agg #[.slice VA1 vn1 vc1, .slice PA1 pn1 pc1, .slice SA1 sn1 sc1, .slice OA1 on1 oc1], .agg #[.slice VA2 vn2 vc2, .slice PA2 pn2 pc2, .slice SA2 sn2 sc2, .slice OA2 on2 oc2], .slice IA m ic, .agg #[.int .i64 inn, .int .i64 out, .slice GA gn gc]] W fun e w' => e = .returned (.tuple #[.int .i64 (R l), .int .i64 0]) ∧ Gr W w')) : Calls Try.prog 5 #[.agg #[.slice A n c, .slice A2 n2 c2, .slice VA1 vn1 vc1, .slice PA1 pn1 pc1, .slice SA1 sn1 sc1, .slice OA1 on1 oc1, .slice VA2 vn2 vc2, .slice PA2 pn2 pc2, .slice SA2 sn2 sc2, .slice OA2 on2 oc2, .slice IA m ic, .int .i64 inn, .int .i64 out, .slice GA gn gc], .int .u16 ch, .int .u16 ot] w (fun e w' => e = .returned (.bool true) ∧ Gr w w') := by
  obtain ⟨i0, hi0, hz0, hz1, hz2⟩ := info_parts info_str
  have HI := Lib.hid hi0; have HZ0 := Lib.hid hz0; have HZ1 := Lib.hid hz1; have HZ2 := Lib.hid hz2
  clear hi0 hz0 hz1 hz2
  have z1 := z1.symm; have z2 := z2.symm; have z3 := z3.symm; have z4 := z4.symm; have z5 := z5.symm
  subst z1 z2 z3 z4 z5
  go_enter Try.func5, Try.ntmps5
  go_wp2_with fail
  (first | refine name_world ?_ | refine (show (∀ W, W = _ → Calls _ _ _ W _) → Calls _ _ _ _ _ from fun h => h _ rfl) ?_); intro W1 hW1
  have g1 : Gr w W1 := by rw [hW1]; exact gr_auto
  have k1_0 : W1.cell? ⟨w.heap.size, 0, none⟩ = some (.slice A n c) := by rw [hW1]; first | (simp [go_sem, *]; done) | (refine Gr.at ?_ (by assumption); exact gr_auto)
  have b1_0 : w.heap.size < W1.heap.size := World.block_lt_of_cell? _ _ k1_0
  have k1_1 : W1.cell? ⟨w.heap.size, 1, none⟩ = some (.slice A2 n2 c2) := by rw [hW1]; first | (simp [go_sem, *]; done) | (refine Gr.at ?_ (by assumption); exact gr_auto)
  have k1_2 : W1.cell? ⟨w.heap.size, 2, none⟩ = some (.slice VA1 n vc1) := by rw [hW1]; first | (simp [go_sem, *]; done) | (refine Gr.at ?_ (by assumption); exact gr_auto)
  have k1_3 : W1.cell? ⟨w.heap.size, 3, none⟩ = some (.slice PA1 n pc1) := by rw [hW1]; first | (simp [go_sem, *]; done) | (refine Gr.at ?_ (by assumption); exact gr_auto)
  have k1_4 : W1.cell? ⟨w.heap.size, 4, none⟩ = some (.slice SA1 sn1 sc1) := by rw [hW1]; first | (simp [go_sem, *]; done) | (refine Gr.at ?_ (by assumption); exact gr_auto)
  have k1_5 : W1.cell? ⟨w.heap.size, 5, none⟩ = some (.slice OA1 on1 oc1) := by rw [hW1]; first | (simp [go_sem, *]; done) | (refine Gr.at ?_ (by assumption); exact gr_auto)
  have k1_6 : W1.cell? ⟨w.heap.size, 6, none⟩ = some (.slice VA2 n vc2) := by rw [hW1]; first | (simp [go_sem, *]; done) | (refine Gr.at ?_ (by assumption); exact gr_auto)
  have k1_7 : W1.cell? ⟨w.heap.size, 7, none⟩ = some (.slice PA2 n pc2) := by rw [hW1]; first | (simp [go_sem, *]; done) | (refine Gr.at ?_ (by assumption); exact gr_auto)
  have k1_8 : W1.cell? ⟨w.heap.size, 8, none⟩ = some (.slice SA2 sn2 sc2) := by rw [hW1]; first | (simp [go_sem, *]; done) | (refine Gr.at ?_ (by assumption); exact gr_auto)
  have k1_9 : W1.cell? ⟨w.heap.size, 9, none⟩ = some (.slice OA2 on2 oc2) := by rw [hW1]; first | (simp [go_sem, *]; done) | (refine Gr.at ?_ (by assumption); exact gr_auto)
  have k1_10 : W1.cell? ⟨w.heap.size, 10, none⟩ = some (.slice IA n ic) := by rw [hW1]; first | (simp [go_sem, *]; done) | (refine Gr.at ?_ (by assumption); exact gr_auto)
  have k1_11 : W1.cell? ⟨w.heap.size, 11, none⟩ = some (.int .i64 inn) := by rw [hW1]; first | (simp [go_sem, *]; done) | (refine Gr.at ?_ (by assumption); exact gr_auto)
  have k1_12 : W1.cell? ⟨w.heap.size, 12, none⟩ = some (.int .i64 out) := by rw [hW1]; first | (simp [go_sem, *]; done) | (refine Gr.at ?_ (by assumption); exact gr_auto)
  have k1_13 : W1.cell? ⟨w.heap.size, 13, none⟩ = some (.slice GA gn gc) := by rw [hW1]; first | (simp [go_sem, *]; done) | (refine Gr.at ?_ (by assumption); exact gr_auto)
  clear hW1
  refine (HA.out _ g1).mono ?_
  rintro e w2 ⟨rfl, hb2⟩
  have g2 := g1.trans hb2
  have k1_0 := Gr.at (w1 := w2) gr_auto k1_0; have k1_1 := Gr.at (w1 := w2) gr_auto k1_1; have k1_2 := Gr.at (w1 := w2) gr_auto k1_2; have k1_3 := Gr.at (w1 := w2) gr_auto k1_3; have k1_4 := Gr.at (w1 := w2) gr_auto k1_4; have k1_5 := Gr.at (w1 := w2) gr_auto k1_5; have k1_6 := Gr.at (w1 := w2) gr_auto k1_6; have k1_7 := Gr.at (w1 := w2) gr_auto k1_7; have k1_8 := Gr.at (w1 := w2) gr_auto k1_8; have k1_9 := Gr.at (w1 := w2) gr_auto k1_9; have k1_10 := Gr.at (w1 := w2) gr_auto k1_10; have k1_11 := Gr.at (w1 := w2) gr_auto k1_11; have k1_12 := Gr.at (w1 := w2) gr_auto k1_12; have k1_13 := Gr.at (w1 := w2) gr_auto k1_13
  go_wp2_with fail
  refine (HL.out _ g2).mono ?_
  rintro e w3 ⟨rfl, hb3⟩
  have g3 := g2.trans hb3
  have k1_0 := Gr.at (w1 := w3) gr_auto k1_0; have k1_1 := Gr.at (w1 := w3) gr_auto k1_1; have k1_2 := Gr.at (w1 := w3) gr_auto k1_2; have k1_3 := Gr.at (w1 := w3) gr_auto k1_3; have k1_4 := Gr.at (w1 := w3) gr_auto k1_4; have k1_5 := Gr.at (w1 := w3) gr_auto k1_5; have k1_6 := Gr.at (w1 := w3) gr_auto k1_6; have k1_7 := Gr.at (w1 := w3) gr_auto k1_7; have k1_8 := Gr.at (w1 := w3) gr_auto k1_8; have k1_9 := Gr.at (w1 := w3) gr_auto k1_9; have k1_10 := Gr.at (w1 := w3) gr_auto k1_10; have k1_11 := Gr.at (w1 := w3) gr_auto k1_11; have k1_12 := Gr.at (w1 := w3) gr_auto k1_12; have k1_13 := Gr.at (w1 := w3) gr_auto k1_13
  go_wp2_with fail
  refine (HG.out _ g3).mono ?_
  rintro e w4 ⟨rfl, hb4⟩
  have g4 := g3.trans hb4
  have k1_0 := Gr.at (w1 := w4) gr_auto k1_0; have k1_1 := Gr.at (w1 := w4) gr_auto k1_1; have k1_2 := Gr.at (w1 := w4) gr_auto k1_2; have k1_3 := Gr.at (w1 := w4) gr_auto k1_3; have k1_4 := Gr.at (w1 := w4) gr_auto k1_4; have k1_5 := Gr.at (w1 := w4) gr_auto k1_5; have k1_6 := Gr.at (w1 := w4) gr_auto k1_6; have k1_7 := Gr.at (w1 := w4) gr_auto k1_7; have k1_8 := Gr.at (w1 := w4) gr_auto k1_8; have k1_9 := Gr.at (w1 := w4) gr_auto k1_9; have k1_10 := Gr.at (w1 := w4) gr_auto k1_10; have k1_11 := Gr.at (w1 := w4) gr_auto k1_11; have k1_12 := Gr.at (w1 := w4) gr_auto k1_12; have k1_13 := Gr.at (w1 := w4) gr_auto k1_13
  clear HA HL HG
  go_wp2_with fail
  (first | refine name_world ?_ | refine (show (∀ W, W = _ → Calls _ _ _ W _) → Calls _ _ _ _ _ from fun h => h _ rfl) ?_); intro W7 hW7
  have g7 : Gr w W7 := by rw [hW7]; exact gr_auto
  have gb7_w4 : Gr w4 W7 := by (try clear g7); rw [hW7]; exact gr_auto
  have k7_0 : W7.cell? ⟨w.heap.size, 0, none⟩ = some (.slice A n c) := by rw [hW7]; first | (simp [go_sem, *]; done) | (refine Gr.at ?_ (by assumption); exact gr_auto)
  have b7_0 : w.heap.size < W7.heap.size := World.block_lt_of_cell? _ _ k7_0
  have k7_1 : W7.cell? ⟨w.heap.size, 1, none⟩ = some (.slice A2 n2 c2) := by rw [hW7]; first | (simp [go_sem, *]; done) | (refine Gr.at ?_ (by assumption); exact gr_auto)
  have k7_2 : W7.cell? ⟨w.heap.size, 2, none⟩ = some (.slice VA1 n vc1) := by rw [hW7]; first | (simp [go_sem, *]; done) | (refine Gr.at ?_ (by assumption); exact gr_auto)
  have k7_3 : W7.cell? ⟨w.heap.size, 3, none⟩ = some (.slice PA1 n pc1) := by rw [hW7]; first | (simp [go_sem, *]; done) | (refine Gr.at ?_ (by assumption); exact gr_auto)
  have k7_4 : W7.cell? ⟨w.heap.size, 4, none⟩ = some (.slice SA1 sn1 sc1) := by rw [hW7]; first | (simp [go_sem, *]; done) | (refine Gr.at ?_ (by assumption); exact gr_auto)
  have k7_5 : W7.cell? ⟨w.heap.size, 5, none⟩ = some (.slice OA1 on1 oc1) := by rw [hW7]; first | (simp [go_sem, *]; done) | (refine Gr.at ?_ (by assumption); exact gr_auto)
  have k7_6 : W7.cell? ⟨w.heap.size, 6, none⟩ = some (.slice VA2 n vc2) := by rw [hW7]; first | (simp [go_sem, *]; done) | (refine Gr.at ?_ (by assumption); exact gr_auto)
  have k7_7 : W7.cell? ⟨w.heap.size, 7, none⟩ = some (.slice PA2 n pc2) := by rw [hW7]; first | (simp [go_sem, *]; done) | (refine Gr.at ?_ (by assumption); exact gr_auto)
  have k7_8 : W7.cell? ⟨w.heap.size, 8, none⟩ = some (.slice SA2 sn2 sc2) := by rw [hW7]; first | (simp [go_sem, *]; done) | (refine Gr.at ?_ (by assumption); exact gr_auto)
  have k7_9 : W7.cell? ⟨w.heap.size, 9, none⟩ = some (.slice OA2 on2 oc2) := by rw [hW7]; first | (simp [go_sem, *]; done) | (refine Gr.at ?_ (by assumption); exact gr_auto)
  have k7_10 : W7.cell? ⟨w.heap.size, 10, none⟩ = some (.slice IA n ic) := by rw [hW7]; first | (simp [go_sem, *]; done) | (refine Gr.at ?_ (by assumption); exact gr_auto)
  have k7_11 : W7.cell? ⟨w.heap.size, 11, none⟩ = some (.int .i64 inn) := by rw [hW7]; first | (simp [go_sem, *]; done) | (refine Gr.at ?_ (by assumption); exact gr_auto)
  have k7_12 : W7.cell? ⟨w.heap.size, 12, none⟩ = some (.int .i64 out) := by rw [hW7]; first | (simp [go_sem, *]; done) | (refine Gr.at ?_ (by assumption); exact gr_auto)
  have k7_13 : W7.cell? ⟨w.heap.size, 13, none⟩ = some (.slice GA gn gc) := by rw [hW7]; first | (simp [go_sem, *]; done) | (refine Gr.at ?_ (by assumption); exact gr_auto)
  clear hW7
  clear k1_0 k1_1 k1_2 k1_3 k1_4 k1_5 k1_6 k1_7 k1_8 k1_9 k1_10 k1_11 k1_12 k1_13
  go_loopw [7, 8, 10, 45] (fun va vb sm q wr => ∃ i : Nat, i ≤ n ∧ q = .int .i64 (i : Int) ∧ sm = .int .i64 (f i) ∧ Hid (NmRow (fun i => (D i).nm) W7.heap.size wr va (Ba.idx pa i)) ∧ Hid (NmRow (fun i => (D i).nm) W7.heap.size wr vb (Ba.idx (fun i => !pa i && pb i) i)) ∧ Gr W7 wr) (fun _ _ _ q _ => n - (intOf q).toNat)
  case atStart => exact ⟨0, Nat.zero_le _, rfl, by rw [F0], Lib.hid ⟨⟨rfl, Or.inl ⟨rfl, rfl⟩⟩, fun _ => rfl⟩, Lib.hid ⟨⟨rfl, Or.inl ⟨rfl, rfl⟩⟩, fun _ => rfl⟩, Gr.refl _⟩
  case round =>
    obtain ⟨i, hi, rfl, rfl, HOA, HOB, hg⟩ := hrel
    have gr : Gr w wr := g7.trans hg
    have k7_0 := Gr.at hg k7_0; have k7_1 := Gr.at hg k7_1; have k7_2 := Gr.at hg k7_2; have k7_3 := Gr.at hg k7_3; have k7_4 := Gr.at hg k7_4; have k7_5 := Gr.at hg k7_5; have k7_6 := Gr.at hg k7_6; have k7_7 := Gr.at hg k7_7; have k7_8 := Gr.at hg k7_8; have k7_9 := Gr.at hg k7_9; have k7_10 := Gr.at hg k7_10; have k7_11 := Gr.at hg k7_11; have k7_12 := Gr.at hg k7_12; have k7_13 := Gr.at hg k7_13
    by_cases hlt : i < n
    · obtain rfl := HA0.out (by omega)
      obtain ⟨a0, a1, a2, a3, a4, a5, a6, a7, a8⟩ := (HD.out i hlt).1.gr gr
      obtain rfl := K1.out (by omega); obtain rfl := K2.out (by omega); obtain rfl := K3.out (by omega); obtain rfl := K4.out (by omega); obtain rfl := K5.out (by omega)
      have v1 := Gr.at gr (X1.out i hlt); have v2 := Gr.at gr (X2.out i hlt); have v3 := Gr.at gr (X3.out i hlt); have v4 := Gr.at gr (X4.out i hlt); have v5 := Gr.at gr (X5.out i hlt)
      obtain ⟨e1, e2, e3, e4⟩ := BX.out i hlt
      have hb0 : w.heap.size < wr.heap.size := World.block_lt_of_cell? _ _ k7_0
      have hb1 : w.heap.size ≠ wr.heap.size := by omega
      have a01 := fun o => Gr.at (Gr.alloc (Gr.refl wr) o) k7_0; have a02 := fun o => Gr.at (Gr.alloc (Gr.refl wr) o) k7_1
      have f0 := FB.out i hi; have r0 := RB.out i hlt
      have ib0 : (0 : Int) ≤ (i : Int) := by omega
      have ib1 : (i : Int) < (n : Int) := by omega
      have HT := Lib.hid (FS.out i)
      have hpa := HPA.out i hlt; have hpb := HPB.out i hlt
      have hl1 := Ba.idx_len pa i; have hl2 := Ba.idx_len (fun i => !pa i && pb i) i
      have HDJ := Lib.hid (fun (x : Nat) (hx : x ∈ (Ba.idx pa i)) (y : Nat) (hy : y ∈ (Ba.idx (fun i => !pa i && pb i) i)) => show (fun i => (D i).nm) x ≠ (fun i => (D i).nm) y from fun e => by
        obtain ⟨q1, q2⟩ := Ba.idx_mem.1 hx
        obtain ⟨q3, q4⟩ := Ba.idx_mem.1 hy
        obtain rfl := HDI.out x y (by omega) (by omega) e
        rw [q2] at q4; simp at q4)
      have HDJS := Lib.hid (fun (x : Nat) (hx : x ∈ (Ba.idx (fun i => !pa i && pb i) i)) (y : Nat) (hy : y ∈ (Ba.idx pa i)) => show (fun i => (D i).nm) x ≠ (fun i => (D i).nm) y from fun e => HDJ.out y hy x hx e.symm)
      have HPi := Lib.hid (fun B W hW hc => HP1.out i hlt B W hW hc); have HRi := Lib.hid (fun hk W hW => HRS.out i hlt hk W hW)
      clear HP1 HRS HPN HRA HRC FS FB RB QB HPA HPB HDI HD X1 X2 X3 X4 X5 BX K1 K2 K3 K4 K5
      generalize rho i = rh at *
      go_wp2_with fail
      (first | refine name_world ?_ | refine (show (∀ W, W = _ → Calls _ _ _ W _) → Calls _ _ _ _ _ from fun h => h _ rfl) ?_); intro W3 hW3
      have g3 : Gr w W3 := by rw [hW3]; exact gr_auto
      have gb3_wr : Gr wr W3 := by (try clear g3); rw [hW3]; exact gr_auto
      have k3_0 : W3.cell? ⟨w.heap.size, 0, none⟩ = some (.slice (some ⟨b, o, none⟩) n c) := by rw [hW3]; first | (simp [go_sem, *]; done) | (refine Gr.at ?_ (by assumption); exact gr_auto)
      have b3_0 : w.heap.size < W3.heap.size := World.block_lt_of_cell? _ _ k3_0
      have k3_1 : W3.cell? ⟨w.heap.size, 1, none⟩ = some (.slice A2 n2 c2) := by rw [hW3]; first | (simp [go_sem, *]; done) | (refine Gr.at ?_ (by assumption); exact gr_auto)
      have k3_2 : W3.cell? ⟨w.heap.size, 2, none⟩ = some (.slice (some ⟨b1, o1, none⟩) n vc1) := by rw [hW3]; first | (simp [go_sem, *]; done) | (refine Gr.at ?_ (by assumption); exact gr_auto)
      have k3_3 : W3.cell? ⟨w.heap.size, 3, none⟩ = some (.slice (some ⟨b2, o2, none⟩) n pc1) := by rw [hW3]; first | (simp [go_sem, *]; done) | (refine Gr.at ?_ (by assumption); exact gr_auto)
      have k3_4 : W3.cell? ⟨w.heap.size, 4, none⟩ = some (.slice SA1 sn1 sc1) := by rw [hW3]; first | (simp [go_sem, *]; done) | (refine Gr.at ?_ (by assumption); exact gr_auto)
      have k3_5 : W3.cell? ⟨w.heap.size, 5, none⟩ = some (.slice OA1 on1 oc1) := by rw [hW3]; first | (simp [go_sem, *]; done) | (refine Gr.at ?_ (by assumption); exact gr_auto)
      have k3_6 : W3.cell? ⟨w.heap.size, 6, none⟩ = some (.slice (some ⟨b3, o3, none⟩) n vc2) := by rw [hW3]; first | (simp [go_sem, *]; done) | (refine Gr.at ?_ (by assumption); exact gr_auto)
      have k3_7 : W3.cell? ⟨w.heap.size, 7, none⟩ = some (.slice (some ⟨b4, o4, none⟩) n pc2) := by rw [hW3]; first | (simp [go_sem, *]; done) | (refine Gr.at ?_ (by assumption); exact gr_auto)
      have k3_8 : W3.cell? ⟨w.heap.size, 8, none⟩ = some (.slice SA2 sn2 sc2) := by rw [hW3]; first | (simp [go_sem, *]; done) | (refine Gr.at ?_ (by assumption); exact gr_auto)
      have k3_9 : W3.cell? ⟨w.heap.size, 9, none⟩ = some (.slice OA2 on2 oc2) := by rw [hW3]; first | (simp [go_sem, *]; done) | (refine Gr.at ?_ (by assumption); exact gr_auto)
      have k3_10 : W3.cell? ⟨w.heap.size, 10, none⟩ = some (.slice (some ⟨b5, o5, none⟩) n ic) := by rw [hW3]; first | (simp [go_sem, *]; done) | (refine Gr.at ?_ (by assumption); exact gr_auto)
      have k3_11 : W3.cell? ⟨w.heap.size, 11, none⟩ = some (.int .i64 inn) := by rw [hW3]; first | (simp [go_sem, *]; done) | (refine Gr.at ?_ (by assumption); exact gr_auto)
      have k3_12 : W3.cell? ⟨w.heap.size, 12, none⟩ = some (.int .i64 out) := by rw [hW3]; first | (simp [go_sem, *]; done) | (refine Gr.at ?_ (by assumption); exact gr_auto)
      have k3_13 : W3.cell? ⟨w.heap.size, 13, none⟩ = some (.slice GA gn gc) := by rw [hW3]; first | (simp [go_sem, *]; done) | (refine Gr.at ?_ (by assumption); exact gr_auto)
      have k3_14 : W3.cell? ⟨wr.heap.size, 0, none⟩ = some (.string (D i).nm) := by rw [hW3]; first | (simp [go_sem, *]; done) | (refine Gr.at ?_ (by assumption); exact gr_auto)
      have b3_14 : wr.heap.size < W3.heap.size := World.block_lt_of_cell? _ _ k3_14
      have k3_15 : W3.cell? ⟨wr.heap.size, 1, none⟩ = some (.int .i64 (D i).kd) := by rw [hW3]; first | (simp [go_sem, *]; done) | (refine Gr.at ?_ (by assumption); exact gr_auto)
      have k3_16 : W3.cell? ⟨wr.heap.size + 1, 0, none⟩ = some (.string (D i).nm) := by rw [hW3]; first | (simp [go_sem, *]; done) | (refine Gr.at ?_ (by assumption); exact gr_auto)
      have b3_16 : wr.heap.size + 1 < W3.heap.size := World.block_lt_of_cell? _ _ k3_16
      clear hW3
      clear a0 a1 a2 a3 a4 a5 a6 a7 a8 k7_0 k7_1 k7_2 k7_3 k7_4 k7_5 k7_6 k7_7 k7_8 k7_9 k7_10 k7_11 k7_12 k7_13
      refine (HPi.out _ _ (by first | exact g3 | exact gr_auto) k3_16).mono ?_
      rintro e w4 ⟨rfl, hb4⟩
      have g4 := g3.trans hb4
      clear k3_16
      have k3_0 := Gr.at (w1 := w4) gr_auto k3_0; have k3_1 := Gr.at (w1 := w4) gr_auto k3_1; have k3_2 := Gr.at (w1 := w4) gr_auto k3_2; have k3_3 := Gr.at (w1 := w4) gr_auto k3_3; have k3_4 := Gr.at (w1 := w4) gr_auto k3_4; have k3_5 := Gr.at (w1 := w4) gr_auto k3_5; have k3_6 := Gr.at (w1 := w4) gr_auto k3_6; have k3_7 := Gr.at (w1 := w4) gr_auto k3_7; have k3_8 := Gr.at (w1 := w4) gr_auto k3_8; have k3_9 := Gr.at (w1 := w4) gr_auto k3_9; have k3_10 := Gr.at (w1 := w4) gr_auto k3_10; have k3_11 := Gr.at (w1 := w4) gr_auto k3_11; have k3_12 := Gr.at (w1 := w4) gr_auto k3_12; have k3_13 := Gr.at (w1 := w4) gr_auto k3_13; have k3_14 := Gr.at (w1 := w4) gr_auto k3_14; have k3_15 := Gr.at (w1 := w4) gr_auto k3_15
      cases tk : ((D i).kd == 3)
      rotate_left
      · have tk2 : ((D i).kd != 3) = false := by simp only [bne, tk]; rfl
        clear HRi v1 v2 v3 v4 v5
        have gx : Gr wr w4 := gb3_wr.trans hb4
        have gz7 : Gr W7 w4 := hg.trans gx
        have HOA := Lib.hid (HOA.out.gr gx); have HOB := Lib.hid (HOB.out.gr gx)
        cases ta : pa i
        · cases tb : pb i
          · have HIA := Lib.hid (show Ba.idx pa (i + 1) = Ba.idx pa i by rw [Ba.idx_succ, ta, if_neg (by decide)])
            have HIB := Lib.hid (show Ba.idx (fun i => !pa i && pb i) (i + 1) = Ba.idx (fun i => !pa i && pb i) i by rw [Ba.idx_succ]; simp only [ta, tb]; rw [if_neg (by decide)])
            rw [ta, if_neg (by decide)] at HT
            rw [ta] at hpa
            rw [tb] at hpb
            unfold shrB at hpa hpb
            go_wp2_with fail
            go_roundw
            case rel => exact ⟨i + 1, by omega, by go_num, by (rw [HT.out]; try rfl), Lib.hid (by rw [HIA.out]; exact HOA.out), Lib.hid (by rw [HIB.out]; exact HOB.out), gz7⟩
            case measure => simp [intOf]; omega
          · have HIA := Lib.hid (show Ba.idx pa (i + 1) = Ba.idx pa i by rw [Ba.idx_succ, ta, if_neg (by decide)])
            have HIB := Lib.hid (show Ba.idx (fun i => !pa i && pb i) (i + 1) = Ba.idx (fun i => !pa i && pb i) i ++ [i] by rw [Ba.idx_succ]; simp only [ta, tb]; rw [if_pos (by decide)])
            rw [ta, if_neg (by decide)] at HT
            rw [ta] at hpa
            rw [tb] at hpb
            unfold shrB at hpa hpb
            go_wp2_with (at_builtin; refine wpList_append_own _ rfl _ _ 34 rfl W7.heap.size 9 i0 (.string ⟨#[]⟩) 1 16 Try.underlying34 HI.out HZ0.out HZ1.out HZ2.out rfl (by decide) _ (Ba.idx (fun i => !pa i && pb i) i).length (((Ba.idx (fun i => !pa i && pb i) i).map (fun i => (D i).nm)).map Value.string) rfl (ownsRow_gr HOB.out.1 (by exact gr_auto)) ⟨w4.heap.size, 0, none⟩ 1 1 [.string (D i).nm] rfl rfl ?c1 ?c2 ?c3 ?c4 ?c5 ?_)
            case c1 =>
              intro j u hj
              match j, hj with
              | 0, hj => simp at hj; subst hj; first | (simp [Addr.add, go_sem]; done) | (show World.cell? _ ⟨w4.heap.size, 0, none⟩ = _; rw [World.cell?_alloc_at _ _ _ _ (by simp)]; rfl)
            case c2 => intro u hu; simp at hu; subst hu; rfl
            case c3 => unfold maxLen; omega
            case c4 => omega
            case c5 => have := Gr.size gz7; simp; omega
            intro v' w9 hown' hgrow hnil
            have hg9 : Gr W7 w9 := by
              refine Gr.own (base := W7.heap.size) ?_ (Nat.le_refl _) (ownsRow_gr HOB.out.1 ?_) hgrow
              · exact gr_auto
              · exact gr_auto
            have HX9 := Lib.hid (NmRow.kept (HOB.out.gr (by exact gr_auto)) (HOA.out.gr (by exact gr_auto)) (HDJS.out) hgrow)
            have HO9 := Lib.hid (show NmRow (fun i => (D i).nm) W7.heap.size w9 v' ((Ba.idx (fun i => !pa i && pb i) i) ++ [i]) from ⟨by simpa using hown', fun h => by simp at h⟩)
            clear hown' hgrow hnil
            go_wp2_with fail
            go_roundw
            case rel => exact ⟨i + 1, by omega, by go_num, by (rw [HT.out]; try rfl), Lib.hid (by rw [HIA.out]; exact HX9.out), Lib.hid (by rw [HIB.out]; exact HO9.out), hg9⟩
            case measure => simp [intOf]; omega
        · have HIA := Lib.hid (show Ba.idx pa (i + 1) = Ba.idx pa i ++ [i] by rw [Ba.idx_succ, ta, if_pos rfl])
          have HIB := Lib.hid (show Ba.idx (fun i => !pa i && pb i) (i + 1) = Ba.idx (fun i => !pa i && pb i) i by rw [Ba.idx_succ]; simp only [ta]; rw [if_neg (by simp)])
          rw [ta, if_pos rfl] at HT
          rw [ta] at hpa
          unfold shrB at hpa
          go_wp2_with (at_builtin; refine wpList_append_own _ rfl _ _ 34 rfl W7.heap.size 9 i0 (.string ⟨#[]⟩) 1 16 Try.underlying34 HI.out HZ0.out HZ1.out HZ2.out rfl (by decide) _ (Ba.idx pa i).length (((Ba.idx pa i).map (fun i => (D i).nm)).map Value.string) rfl (ownsRow_gr HOA.out.1 (by exact gr_auto)) ⟨w4.heap.size, 0, none⟩ 1 1 [.string (D i).nm] rfl rfl ?c1 ?c2 ?c3 ?c4 ?c5 ?_)
          case c1 =>
            intro j u hj
            match j, hj with
            | 0, hj => simp at hj; subst hj; first | (simp [Addr.add, go_sem]; done) | (show World.cell? _ ⟨w4.heap.size, 0, none⟩ = _; rw [World.cell?_alloc_at _ _ _ _ (by simp)]; rfl)
          case c2 => intro u hu; simp at hu; subst hu; rfl
          case c3 => unfold maxLen; omega
          case c4 => omega
          case c5 => have := Gr.size gz7; simp; omega
          intro v' w9 hown' hgrow hnil
          have hg9 : Gr W7 w9 := by
            refine Gr.own (base := W7.heap.size) ?_ (Nat.le_refl _) (ownsRow_gr HOA.out.1 ?_) hgrow
            · exact gr_auto
            · exact gr_auto
          have HX9 := Lib.hid (NmRow.kept (HOA.out.gr (by exact gr_auto)) (HOB.out.gr (by exact gr_auto)) (HDJ.out) hgrow)
          have HO9 := Lib.hid (show NmRow (fun i => (D i).nm) W7.heap.size w9 v' ((Ba.idx pa i) ++ [i]) from ⟨by simpa using hown', fun h => by simp at h⟩)
          clear hown' hgrow hnil
          go_wp2_with fail
          go_roundw
          case rel => exact ⟨i + 1, by omega, by go_num, by (rw [HT.out]; try rfl), Lib.hid (by rw [HIA.out]; exact HO9.out), Lib.hid (by rw [HIB.out]; exact HX9.out), hg9⟩
          case measure => simp [intOf]; omega
      · have tk2 : ((D i).kd != 3) = true := by simp only [bne, tk]; rfl
        have HRi := Lib.hid (HRi.out tk)
        have gx4 : Gr wr w4 := gb3_wr.trans hb4
        have v1 := Gr.at (w1 := w4) gr_auto v1; have v2 := Gr.at (w1 := w4) gr_auto v2; have v3 := Gr.at (w1 := w4) gr_auto v3; have v4 := Gr.at (w1 := w4) gr_auto v4; have v5 := Gr.at (w1 := w4) gr_auto v5
        generalize V1 i = y1 at *
        generalize Q1 i = y2 at *
        generalize V2 i = y3 at *
        generalize Q2 i = y4 at *
        generalize J i = y5 at *
        go_wp2_with fail
        (first | refine name_world ?_ | refine (show (∀ W, W = _ → Calls _ _ _ W _) → Calls _ _ _ _ _ from fun h => h _ rfl) ?_); intro W5 hW5
        have g5 : Gr w W5 := by rw [hW5]; exact gr_auto
        have gb5_w4 : Gr w4 W5 := by (try clear g5); rw [hW5]; exact gr_auto
        have k5_0 : W5.cell? ⟨w.heap.size, 0, none⟩ = some (.slice (some ⟨b, o, none⟩) n c) := by rw [hW5]; first | (simp [go_sem, *]; done) | (refine Gr.at ?_ (by assumption); exact gr_auto)
        have b5_0 : w.heap.size < W5.heap.size := World.block_lt_of_cell? _ _ k5_0
        have k5_1 : W5.cell? ⟨w.heap.size, 1, none⟩ = some (.slice A2 n2 c2) := by rw [hW5]; first | (simp [go_sem, *]; done) | (refine Gr.at ?_ (by assumption); exact gr_auto)
        have k5_2 : W5.cell? ⟨w.heap.size, 2, none⟩ = some (.slice (some ⟨b1, o1, none⟩) n vc1) := by rw [hW5]; first | (simp [go_sem, *]; done) | (refine Gr.at ?_ (by assumption); exact gr_auto)
        have k5_3 : W5.cell? ⟨w.heap.size, 3, none⟩ = some (.slice (some ⟨b2, o2, none⟩) n pc1) := by rw [hW5]; first | (simp [go_sem, *]; done) | (refine Gr.at ?_ (by assumption); exact gr_auto)
        have k5_4 : W5.cell? ⟨w.heap.size, 6, none⟩ = some (.slice (some ⟨b3, o3, none⟩) n vc2) := by rw [hW5]; first | (simp [go_sem, *]; done) | (refine Gr.at ?_ (by assumption); exact gr_auto)
        have k5_5 : W5.cell? ⟨w.heap.size, 7, none⟩ = some (.slice (some ⟨b4, o4, none⟩) n pc2) := by rw [hW5]; first | (simp [go_sem, *]; done) | (refine Gr.at ?_ (by assumption); exact gr_auto)
        have k5_6 : W5.cell? ⟨w.heap.size, 10, none⟩ = some (.slice (some ⟨b5, o5, none⟩) n ic) := by rw [hW5]; first | (simp [go_sem, *]; done) | (refine Gr.at ?_ (by assumption); exact gr_auto)
        have k5_7 : W5.cell? ⟨w.heap.size, 13, none⟩ = some (.slice GA gn gc) := by rw [hW5]; first | (simp [go_sem, *]; done) | (refine Gr.at ?_ (by assumption); exact gr_auto)
        have k5_8 : W5.cell? ⟨wr.heap.size, 0, none⟩ = some (.string (D i).nm) := by rw [hW5]; first | (simp [go_sem, *]; done) | (refine Gr.at ?_ (by assumption); exact gr_auto)
        have b5_8 : wr.heap.size < W5.heap.size := World.block_lt_of_cell? _ _ k5_8
        have k5_9 : W5.cell? ⟨b1, o1 + i, none⟩ = some (.int .i64 y1) := by rw [hW5]; first | (simp [go_sem, *]; done) | (refine Gr.at ?_ (by assumption); exact gr_auto)
        have b5_9 : b1 < W5.heap.size := World.block_lt_of_cell? _ _ k5_9
        have k5_10 : W5.cell? ⟨b2, o2 + i, none⟩ = some (.int .i64 y2) := by rw [hW5]; first | (simp [go_sem, *]; done) | (refine Gr.at ?_ (by assumption); exact gr_auto)
        have b5_10 : b2 < W5.heap.size := World.block_lt_of_cell? _ _ k5_10
        have k5_11 : W5.cell? ⟨b3, o3 + i, none⟩ = some (.int .i64 y3) := by rw [hW5]; first | (simp [go_sem, *]; done) | (refine Gr.at ?_ (by assumption); exact gr_auto)
        have b5_11 : b3 < W5.heap.size := World.block_lt_of_cell? _ _ k5_11
        have k5_12 : W5.cell? ⟨b4, o4 + i, none⟩ = some (.int .i64 y4) := by rw [hW5]; first | (simp [go_sem, *]; done) | (refine Gr.at ?_ (by assumption); exact gr_auto)
        have b5_12 : b4 < W5.heap.size := World.block_lt_of_cell? _ _ k5_12
        have k5_13 : W5.cell? ⟨b5, o5 + i, none⟩ = some (.int .i64 y5) := by rw [hW5]; first | (simp [go_sem, *]; done) | (refine Gr.at ?_ (by assumption); exact gr_auto)
        have b5_13 : b5 < W5.heap.size := World.block_lt_of_cell? _ _ k5_13
        clear hW5
        have s5_0 : ∀ gw : GW W5, gw.1.cell? ⟨w.heap.size, 0, none⟩ = some (.slice (some ⟨b, o, none⟩) n c) := fun gw => Gr.at gw.2 k5_0
        have s5_1 : ∀ gw : GW W5, gw.1.cell? ⟨w.heap.size, 1, none⟩ = some (.slice A2 n2 c2) := fun gw => Gr.at gw.2 k5_1
        have s5_2 : ∀ gw : GW W5, gw.1.cell? ⟨w.heap.size, 2, none⟩ = some (.slice (some ⟨b1, o1, none⟩) n vc1) := fun gw => Gr.at gw.2 k5_2
        have s5_3 : ∀ gw : GW W5, gw.1.cell? ⟨w.heap.size, 3, none⟩ = some (.slice (some ⟨b2, o2, none⟩) n pc1) := fun gw => Gr.at gw.2 k5_3
        have s5_4 : ∀ gw : GW W5, gw.1.cell? ⟨w.heap.size, 6, none⟩ = some (.slice (some ⟨b3, o3, none⟩) n vc2) := fun gw => Gr.at gw.2 k5_4
        have s5_5 : ∀ gw : GW W5, gw.1.cell? ⟨w.heap.size, 7, none⟩ = some (.slice (some ⟨b4, o4, none⟩) n pc2) := fun gw => Gr.at gw.2 k5_5
        have s5_6 : ∀ gw : GW W5, gw.1.cell? ⟨w.heap.size, 10, none⟩ = some (.slice (some ⟨b5, o5, none⟩) n ic) := fun gw => Gr.at gw.2 k5_6
        have s5_7 : ∀ gw : GW W5, gw.1.cell? ⟨w.heap.size, 13, none⟩ = some (.slice GA gn gc) := fun gw => Gr.at gw.2 k5_7
        have s5_8 : ∀ gw : GW W5, gw.1.cell? ⟨wr.heap.size, 0, none⟩ = some (.string (D i).nm) := fun gw => Gr.at gw.2 k5_8
        have s5_9 : ∀ gw : GW W5, gw.1.cell? ⟨b1, o1 + i, none⟩ = some (.int .i64 y1) := fun gw => Gr.at gw.2 k5_9
        have s5_10 : ∀ gw : GW W5, gw.1.cell? ⟨b2, o2 + i, none⟩ = some (.int .i64 y2) := fun gw => Gr.at gw.2 k5_10
        have s5_11 : ∀ gw : GW W5, gw.1.cell? ⟨b3, o3 + i, none⟩ = some (.int .i64 y3) := fun gw => Gr.at gw.2 k5_11
        have s5_12 : ∀ gw : GW W5, gw.1.cell? ⟨b4, o4 + i, none⟩ = some (.int .i64 y4) := fun gw => Gr.at gw.2 k5_12
        have s5_13 : ∀ gw : GW W5, gw.1.cell? ⟨b5, o5 + i, none⟩ = some (.int .i64 y5) := fun gw => Gr.at gw.2 k5_13
        have HA6 := Lib.hid (fun gw : GW W5 => gw_call (HRi.out gw.1 (g5.trans gw.2)))
        refine wp_region_gr (by kernel_rfl) (by kernel_rfl) ?_
        repeat (go_big_quiet_step ((go_at_call 18; exact HA6.out _)))
        refine wpQuiet_nil ?_
        intro w6 hb6
        clear s5_0 s5_1 s5_2 s5_3 s5_4 s5_5 s5_6 s5_7 s5_8 s5_9 s5_10 s5_11 s5_12 s5_13
        have g6 : Gr w w6 := g5.trans hb6
        have k5_0 := Gr.at hb6 k5_0
        have k5_1 := Gr.at hb6 k5_1
        have k5_2 := Gr.at hb6 k5_2
        have k5_3 := Gr.at hb6 k5_3
        have k5_4 := Gr.at hb6 k5_4
        have k5_5 := Gr.at hb6 k5_5
        have k5_6 := Gr.at hb6 k5_6
        have k5_7 := Gr.at hb6 k5_7
        have k5_8 := Gr.at hb6 k5_8
        have k5_9 := Gr.at hb6 k5_9
        have k5_10 := Gr.at hb6 k5_10
        have k5_11 := Gr.at hb6 k5_11
        have k5_12 := Gr.at hb6 k5_12
        have k5_13 := Gr.at hb6 k5_13
        have gx : Gr wr w6 := (gx4.trans gb5_w4).trans hb6
        have gz7 : Gr W7 w6 := hg.trans gx
        have HOA := Lib.hid (HOA.out.gr gx); have HOB := Lib.hid (HOB.out.gr gx)
        cases ta : pa i
        · cases tb : pb i
          · have HIA := Lib.hid (show Ba.idx pa (i + 1) = Ba.idx pa i by rw [Ba.idx_succ, ta, if_neg (by decide)])
            have HIB := Lib.hid (show Ba.idx (fun i => !pa i && pb i) (i + 1) = Ba.idx (fun i => !pa i && pb i) i by rw [Ba.idx_succ]; simp only [ta, tb]; rw [if_neg (by decide)])
            rw [ta, if_neg (by decide)] at HT
            rw [ta] at hpa
            rw [tb] at hpb
            unfold shrB at hpa hpb
            go_wp2_with fail
            go_roundw
            case rel => exact ⟨i + 1, by omega, by go_num, by (rw [HT.out]; try rfl), Lib.hid (by rw [HIA.out]; exact HOA.out), Lib.hid (by rw [HIB.out]; exact HOB.out), gz7⟩
            case measure => simp [intOf]; omega
          · have HIA := Lib.hid (show Ba.idx pa (i + 1) = Ba.idx pa i by rw [Ba.idx_succ, ta, if_neg (by decide)])
            have HIB := Lib.hid (show Ba.idx (fun i => !pa i && pb i) (i + 1) = Ba.idx (fun i => !pa i && pb i) i ++ [i] by rw [Ba.idx_succ]; simp only [ta, tb]; rw [if_pos (by decide)])
            rw [ta, if_neg (by decide)] at HT
            rw [ta] at hpa
            rw [tb] at hpb
            unfold shrB at hpa hpb
            go_wp2_with (at_builtin; refine wpList_append_own _ rfl _ _ 34 rfl W7.heap.size 9 i0 (.string ⟨#[]⟩) 1 16 Try.underlying34 HI.out HZ0.out HZ1.out HZ2.out rfl (by decide) _ (Ba.idx (fun i => !pa i && pb i) i).length (((Ba.idx (fun i => !pa i && pb i) i).map (fun i => (D i).nm)).map Value.string) rfl (ownsRow_gr HOB.out.1 (by exact gr_auto)) ⟨w6.heap.size, 0, none⟩ 1 1 [.string (D i).nm] rfl rfl ?c1 ?c2 ?c3 ?c4 ?c5 ?_)
            case c1 =>
              intro j u hj
              match j, hj with
              | 0, hj => simp at hj; subst hj; first | (simp [Addr.add, go_sem]; done) | (show World.cell? _ ⟨w6.heap.size, 0, none⟩ = _; rw [World.cell?_alloc_at _ _ _ _ (by simp)]; rfl)
            case c2 => intro u hu; simp at hu; subst hu; rfl
            case c3 => unfold maxLen; omega
            case c4 => omega
            case c5 => have := Gr.size gz7; simp; omega
            intro v' w9 hown' hgrow hnil
            have hg9 : Gr W7 w9 := by
              refine Gr.own (base := W7.heap.size) ?_ (Nat.le_refl _) (ownsRow_gr HOB.out.1 ?_) hgrow
              · exact gr_auto
              · exact gr_auto
            have HX9 := Lib.hid (NmRow.kept (HOB.out.gr (by exact gr_auto)) (HOA.out.gr (by exact gr_auto)) (HDJS.out) hgrow)
            have HO9 := Lib.hid (show NmRow (fun i => (D i).nm) W7.heap.size w9 v' ((Ba.idx (fun i => !pa i && pb i) i) ++ [i]) from ⟨by simpa using hown', fun h => by simp at h⟩)
            clear hown' hgrow hnil
            go_wp2_with fail
            go_roundw
            case rel => exact ⟨i + 1, by omega, by go_num, by (rw [HT.out]; try rfl), Lib.hid (by rw [HIA.out]; exact HX9.out), Lib.hid (by rw [HIB.out]; exact HO9.out), hg9⟩
            case measure => simp [intOf]; omega
        · have HIA := Lib.hid (show Ba.idx pa (i + 1) = Ba.idx pa i ++ [i] by rw [Ba.idx_succ, ta, if_pos rfl])
          have HIB := Lib.hid (show Ba.idx (fun i => !pa i && pb i) (i + 1) = Ba.idx (fun i => !pa i && pb i) i by rw [Ba.idx_succ]; simp only [ta]; rw [if_neg (by simp)])
          rw [ta, if_pos rfl] at HT
          rw [ta] at hpa
          unfold shrB at hpa
          go_wp2_with (at_builtin; refine wpList_append_own _ rfl _ _ 34 rfl W7.heap.size 9 i0 (.string ⟨#[]⟩) 1 16 Try.underlying34 HI.out HZ0.out HZ1.out HZ2.out rfl (by decide) _ (Ba.idx pa i).length (((Ba.idx pa i).map (fun i => (D i).nm)).map Value.string) rfl (ownsRow_gr HOA.out.1 (by exact gr_auto)) ⟨w6.heap.size, 0, none⟩ 1 1 [.string (D i).nm] rfl rfl ?c1 ?c2 ?c3 ?c4 ?c5 ?_)
          case c1 =>
            intro j u hj
            match j, hj with
            | 0, hj => simp at hj; subst hj; first | (simp [Addr.add, go_sem]; done) | (show World.cell? _ ⟨w6.heap.size, 0, none⟩ = _; rw [World.cell?_alloc_at _ _ _ _ (by simp)]; rfl)
          case c2 => intro u hu; simp at hu; subst hu; rfl
          case c3 => unfold maxLen; omega
          case c4 => omega
          case c5 => have := Gr.size gz7; simp; omega
          intro v' w9 hown' hgrow hnil
          have hg9 : Gr W7 w9 := by
            refine Gr.own (base := W7.heap.size) ?_ (Nat.le_refl _) (ownsRow_gr HOA.out.1 ?_) hgrow
            · exact gr_auto
            · exact gr_auto
          have HX9 := Lib.hid (NmRow.kept (HOA.out.gr (by exact gr_auto)) (HOB.out.gr (by exact gr_auto)) (HDJ.out) hgrow)
          have HO9 := Lib.hid (show NmRow (fun i => (D i).nm) W7.heap.size w9 v' ((Ba.idx pa i) ++ [i]) from ⟨by simpa using hown', fun h => by simp at h⟩)
          clear hown' hgrow hnil
          go_wp2_with fail
          go_roundw
          case rel => exact ⟨i + 1, by omega, by go_num, by (rw [HT.out]; try rfl), Lib.hid (by rw [HIA.out]; exact HO9.out), Lib.hid (by rw [HIB.out]; exact HX9.out), hg9⟩
          case measure => simp [intOf]; omega
    · obtain rfl : i = n := by omega
      have HNM := Lib.hid (fun (j : Nat) (hj : j < i) => (HD.out j hj).2)
      have hl1 := Ba.idx_len pa i; have hl2 := Ba.idx_len (fun i => !pa i && pb i) i
      obtain ⟨sa, rfl, x1, x2, x3, x4⟩ := NmRow.sls HOA.out (fun j hj => HNM.out j (Ba.idx_mem.1 hj).1)
      obtain ⟨sb, rfl, y1, y2, y3, y4⟩ := NmRow.sls HOB.out (fun j hj => HNM.out j (Ba.idx_mem.1 hj).1)
      have qa := Ba.lstS_len sa.n sa.X
      have HSA := Lib.hid x1; have HSB := Lib.hid y1
      have HXA := Lib.hid (And.intro x2 x3); have HXB := Lib.hid (And.intro y2 y3)
      have hsa : sa.n ≤ 12 := by omega
      have hsb : sb.n ≤ 12 := by omega
      have HCAT := Lib.hid (fun B W (hW : Gr wr W) c0 c1 => cat_any sb sa B W (HSB.out.gr hW) (HSA.out.gr hW) y4 x4 (by omega) (by omega) c0 c1)
      have fb := FB.out i (Nat.le_refl _); have qb := QB.out (Ba.idx (fun i => !pa i && pb i) i)
      have HPA1 := Lib.hid (fun W (hW : Gr wr W) => HPN.out (Ba.idx pa i) sa W (gr.trans hW) (HSA.out.gr hW) HXA.out.1 HXA.out.2 (Ba.idx_nd _ _) (fun j hj => (Ba.idx_mem.1 hj).1) (by omega))
      rw [HRA] at HPA1
      have HPB1 := Lib.hid (fun W (hW : Gr wr W) => HPN.out (Ba.idx (fun i => !pa i && pb i) i) sb W (gr.trans hW) (HSB.out.gr hW) HXB.out.1 HXB.out.2 (Ba.idx_nd _ _) (fun j hj => (Ba.idx_mem.1 hj).1) (by omega))
      have HPC1 := Lib.hid (fun (s : Ba.SlS) (q1 : s.n = (Ba.lstS sb.n sb.X ++ Ba.lstS sa.n sa.X).length) (q2 : ∀ k, k < s.n → (Ba.lstS sb.n sb.X ++ Ba.lstS sa.n sa.X)[k]? = some (s.X k)) W (hW : Gr wr W) (hs : s.At W) => HPN.out (Ba.idx (fun i => !pa i && pb i) i ++ Ba.idx pa i) s W (gr.trans hW) hs (by rw [q1, List.length_append, Ba.lstS_len, Ba.lstS_len, List.length_append, HXA.out.1, HXB.out.1]) (fun k hk => by
        have := q2 k hk
        rw [lst_eq (by rw [List.length_map]; exact HXB.out.1) HXB.out.2, lst_eq (by rw [List.length_map]; exact HXA.out.1) HXA.out.2, ← List.map_append] at this
        exact this) (List.nodup_append.2 ⟨Ba.idx_nd _ _, Ba.idx_nd _ _, fun a ha b hb e => by
          subst e
          have h1 := (Ba.idx_mem.1 ha).2; have h2 := (Ba.idx_mem.1 hb).2
          rw [h2] at h1; simp at h1⟩) (fun j hj => by
          rcases List.mem_append.1 hj with h | h
          · exact (Ba.idx_mem.1 h).1
          · exact (Ba.idx_mem.1 h).1) (by rw [q1, List.length_append, Ba.lstS_len, Ba.lstS_len]; omega))
      rw [HRC] at HPC1
      generalize R (Ba.idx (fun i => !pa i && pb i) i) = rb at *
      clear x1 x2 x3 x4 y1 y2 y3 y4 qa hl1 hl2 HOA HOB HP1 HRS HPN HRA HRC FS FB RB QB HPA HPB HDI HD X1 X2 X3 X4 X5 BX K1 K2 K3 K4 K5 HI HZ0 HZ1 HZ2 HNM HSA HXA HXB
      go_wp2_with fail
      (first | refine name_world ?_ | refine (show (∀ W, W = _ → Calls _ _ _ W _) → Calls _ _ _ _ _ from fun h => h _ rfl) ?_); intro W3 hW3
      have g3 : Gr w W3 := by rw [hW3]; exact gr_auto
      have gb3_wr : Gr wr W3 := by (try clear g3); rw [hW3]; exact gr_auto
      have k3_0 : W3.cell? ⟨w.heap.size, 0, none⟩ = some (.slice A i c) := by rw [hW3]; first | (simp [go_sem, *]; done) | (refine Gr.at ?_ (by assumption); exact gr_auto)
      have b3_0 : w.heap.size < W3.heap.size := World.block_lt_of_cell? _ _ k3_0
      have k3_1 : W3.cell? ⟨w.heap.size, 1, none⟩ = some (.slice A2 n2 c2) := by rw [hW3]; first | (simp [go_sem, *]; done) | (refine Gr.at ?_ (by assumption); exact gr_auto)
      have k3_2 : W3.cell? ⟨w.heap.size, 2, none⟩ = some (.slice VA1 i vc1) := by rw [hW3]; first | (simp [go_sem, *]; done) | (refine Gr.at ?_ (by assumption); exact gr_auto)
      have k3_3 : W3.cell? ⟨w.heap.size, 3, none⟩ = some (.slice PA1 i pc1) := by rw [hW3]; first | (simp [go_sem, *]; done) | (refine Gr.at ?_ (by assumption); exact gr_auto)
      have k3_4 : W3.cell? ⟨w.heap.size, 4, none⟩ = some (.slice SA1 sn1 sc1) := by rw [hW3]; first | (simp [go_sem, *]; done) | (refine Gr.at ?_ (by assumption); exact gr_auto)
      have k3_5 : W3.cell? ⟨w.heap.size, 5, none⟩ = some (.slice OA1 on1 oc1) := by rw [hW3]; first | (simp [go_sem, *]; done) | (refine Gr.at ?_ (by assumption); exact gr_auto)
      have k3_6 : W3.cell? ⟨w.heap.size, 6, none⟩ = some (.slice VA2 i vc2) := by rw [hW3]; first | (simp [go_sem, *]; done) | (refine Gr.at ?_ (by assumption); exact gr_auto)
      have k3_7 : W3.cell? ⟨w.heap.size, 7, none⟩ = some (.slice PA2 i pc2) := by rw [hW3]; first | (simp [go_sem, *]; done) | (refine Gr.at ?_ (by assumption); exact gr_auto)
      have k3_8 : W3.cell? ⟨w.heap.size, 8, none⟩ = some (.slice SA2 sn2 sc2) := by rw [hW3]; first | (simp [go_sem, *]; done) | (refine Gr.at ?_ (by assumption); exact gr_auto)
      have k3_9 : W3.cell? ⟨w.heap.size, 9, none⟩ = some (.slice OA2 on2 oc2) := by rw [hW3]; first | (simp [go_sem, *]; done) | (refine Gr.at ?_ (by assumption); exact gr_auto)
      have k3_10 : W3.cell? ⟨w.heap.size, 10, none⟩ = some (.slice IA i ic) := by rw [hW3]; first | (simp [go_sem, *]; done) | (refine Gr.at ?_ (by assumption); exact gr_auto)
      have k3_11 : W3.cell? ⟨w.heap.size, 11, none⟩ = some (.int .i64 inn) := by rw [hW3]; first | (simp [go_sem, *]; done) | (refine Gr.at ?_ (by assumption); exact gr_auto)
      have k3_12 : W3.cell? ⟨w.heap.size, 12, none⟩ = some (.int .i64 out) := by rw [hW3]; first | (simp [go_sem, *]; done) | (refine Gr.at ?_ (by assumption); exact gr_auto)
      have k3_13 : W3.cell? ⟨w.heap.size, 13, none⟩ = some (.slice GA gn gc) := by rw [hW3]; first | (simp [go_sem, *]; done) | (refine Gr.at ?_ (by assumption); exact gr_auto)
      have k3_14 : W3.cell? ⟨wr.heap.size, 0, none⟩ = some (.slice sb.A sb.n sb.c) := by rw [hW3]; first | (simp [go_sem, *]; done) | (refine Gr.at ?_ (by assumption); exact gr_auto)
      have b3_14 : wr.heap.size < W3.heap.size := World.block_lt_of_cell? _ _ k3_14
      have k3_15 : W3.cell? ⟨wr.heap.size, 1, none⟩ = some (.slice sa.A sa.n sa.c) := by rw [hW3]; first | (simp [go_sem, *]; done) | (refine Gr.at ?_ (by assumption); exact gr_auto)
      clear hW3
      clear k7_0 k7_1 k7_2 k7_3 k7_4 k7_5 k7_6 k7_7 k7_8 k7_9 k7_10 k7_11 k7_12 k7_13
      refine (HCAT.out _ _ gb3_wr k3_14 k3_15).mono ?_
      rintro e w4 ⟨s, rfl, s1, s2, s3, hb4⟩
      have gx4 : Gr wr w4 := gb3_wr.trans hb4
      have k3_0 := Gr.at (w1 := w4) gr_auto k3_0; have k3_1 := Gr.at (w1 := w4) gr_auto k3_1; have k3_2 := Gr.at (w1 := w4) gr_auto k3_2; have k3_3 := Gr.at (w1 := w4) gr_auto k3_3; have k3_4 := Gr.at (w1 := w4) gr_auto k3_4; have k3_5 := Gr.at (w1 := w4) gr_auto k3_5; have k3_6 := Gr.at (w1 := w4) gr_auto k3_6; have k3_7 := Gr.at (w1 := w4) gr_auto k3_7; have k3_8 := Gr.at (w1 := w4) gr_auto k3_8; have k3_9 := Gr.at (w1 := w4) gr_auto k3_9; have k3_10 := Gr.at (w1 := w4) gr_auto k3_10; have k3_11 := Gr.at (w1 := w4) gr_auto k3_11; have k3_12 := Gr.at (w1 := w4) gr_auto k3_12; have k3_13 := Gr.at (w1 := w4) gr_auto k3_13
      have HPC2 := Lib.hid (fun W (hW : Gr w4 W) => HPC1.out s s2 s3 W (gx4.trans hW) (s1.gr hW))
      clear s1 s2 s3 HPC1 k3_14 k3_15 HCAT HSB
      go_wp2_with fail
      refine (HPA1.out _ gx4).mono ?_
      rintro e w5 ⟨rfl, hb5⟩
      have gx5 : Gr wr w5 := gx4.trans hb5
      have k3_0 := Gr.at (w1 := w5) gr_auto k3_0; have k3_1 := Gr.at (w1 := w5) gr_auto k3_1; have k3_2 := Gr.at (w1 := w5) gr_auto k3_2; have k3_3 := Gr.at (w1 := w5) gr_auto k3_3; have k3_4 := Gr.at (w1 := w5) gr_auto k3_4; have k3_5 := Gr.at (w1 := w5) gr_auto k3_5; have k3_6 := Gr.at (w1 := w5) gr_auto k3_6; have k3_7 := Gr.at (w1 := w5) gr_auto k3_7; have k3_8 := Gr.at (w1 := w5) gr_auto k3_8; have k3_9 := Gr.at (w1 := w5) gr_auto k3_9; have k3_10 := Gr.at (w1 := w5) gr_auto k3_10; have k3_11 := Gr.at (w1 := w5) gr_auto k3_11; have k3_12 := Gr.at (w1 := w5) gr_auto k3_12; have k3_13 := Gr.at (w1 := w5) gr_auto k3_13
      go_wp2_with fail
      refine (HPB1.out _ gx5).mono ?_
      rintro e w6 ⟨rfl, hb6⟩
      have gx6 : Gr wr w6 := gx5.trans hb6
      have k3_0 := Gr.at (w1 := w6) gr_auto k3_0; have k3_1 := Gr.at (w1 := w6) gr_auto k3_1; have k3_2 := Gr.at (w1 := w6) gr_auto k3_2; have k3_3 := Gr.at (w1 := w6) gr_auto k3_3; have k3_4 := Gr.at (w1 := w6) gr_auto k3_4; have k3_5 := Gr.at (w1 := w6) gr_auto k3_5; have k3_6 := Gr.at (w1 := w6) gr_auto k3_6; have k3_7 := Gr.at (w1 := w6) gr_auto k3_7; have k3_8 := Gr.at (w1 := w6) gr_auto k3_8; have k3_9 := Gr.at (w1 := w6) gr_auto k3_9; have k3_10 := Gr.at (w1 := w6) gr_auto k3_10; have k3_11 := Gr.at (w1 := w6) gr_auto k3_11; have k3_12 := Gr.at (w1 := w6) gr_auto k3_12; have k3_13 := Gr.at (w1 := w6) gr_auto k3_13
      go_wp2_with fail
      refine (HPC2.out _ (hb5.trans hb6)).mono ?_
      rintro e w8 ⟨rfl, hb8⟩
      have gx8 : Gr wr w8 := gx6.trans hb8
      clear k3_0 k3_1 k3_2 k3_3 k3_4 k3_5 k3_6 k3_7 k3_8 k3_9 k3_10 k3_11 k3_12 k3_13
      go_wp2_with fail
      go_ret
      exact ⟨rfl, gr.trans gx8⟩

theorem Ba.resI_le {N : Ba.SlNode} {L : Ba.SlLink} {s1 s2 : Ba.State} {I P : Ba.SlI} (F : Ba.Fine N L s1 s2 I P) (m : Nat → Bool) : -576460752303423488 ≤ Ba.resI N L m s1 s2 I P ∧ Ba.resI N L m s1 s2 I P ≤ 576460752303423488 := by
  have := F.lost_le m; have := F.ndT_sum m (Nat.le_refl N.n); have := F.lkT_sum m (Nat.le_refl L.n)
  unfold Ba.resI
  omega
theorem cuts_law (N : Ba.SlNode) (L : Ba.SlLink) (s1 s2 : Ba.State) (I : Ba.SlI) (g : Ba.Ledger) (ch ot : Int) (w : World) (hN : N.At w) (hL : L.At w) (h1 : s1.Ok w) (h2 : s2.Ok w) (hI : I.At w) (hg : g.Ok w) (hch : 0 ≤ ch ∧ ch ≤ 65535) (hot : 0 ≤ ot ∧ ot ≤ 65535) : Calls Try.prog 5 #[Ba.caseVal N L s1 s2 I g, .int .u16 ch, .int .u16 ot] w (fun e w' => e = .returned (.bool true) ∧ Gr w w') := by
  have HA := Lib.hid (fun W (_ : Gr w W) => awake_any W)
  have HL := Lib.hid (fun W (hh : Gr w W) => large_any N L s1 s2 I g W (hN.gr hh) (hL.gr hh) (h1.gr hh) (h2.gr hh) (hI.gr hh) (hg.gr hh))
  have HG := Lib.hid (fun W (hh : Gr w W) => rgiven_any N L s1 s2 I g W (hN.gr hh) (hL.gr hh) (h1.gr hh) (h2.gr hh) (hI.gr hh) (hg.gr hh))
  cases hq : Ba.largeB N L s1 s2 I g
  rotate_left
  · rw [hq] at HL
    exact cuts_0 (N.A) (L.A) (s1.vs.A) (s1.ps.A) (s1.st.A) (s1.on.A) (s2.vs.A) (s2.ps.A) (s2.st.A) (s2.on.A) (g.ps.A) (I.A) (N.n) (N.c) (L.n) (L.c) (s1.vs.n) (s1.vs.c) (s1.ps.n) (s1.ps.c) (s1.st.n) (s1.st.c) (s1.on.n) (s1.on.c) (s2.vs.n) (s2.vs.c) (s2.ps.n) (s2.ps.c) (s2.st.n) (s2.st.c) (s2.on.n) (s2.on.c) (g.ps.n) (g.ps.c) (I.n) (I.c) (g.inn) (g.out) (w) ch ot HA HL
  rw [hq] at HL
  have hz := Ba.large_no hq
  by_cases he : Ba.givE N L s1 s2 I g = 0
  rotate_left
  · exact cuts_1 (N.A) (L.A) (s1.vs.A) (s1.ps.A) (s1.st.A) (s1.on.A) (s2.vs.A) (s2.ps.A) (s2.st.A) (s2.on.A) (g.ps.A) (I.A) (N.n) (N.c) (L.n) (L.c) (s1.vs.n) (s1.vs.c) (s1.ps.n) (s1.ps.c) (s1.st.n) (s1.st.c) (s1.on.n) (s1.on.c) (s2.vs.n) (s2.vs.c) (s2.ps.n) (s2.ps.c) (s2.st.n) (s2.st.c) (s2.on.n) (s2.on.c) (g.ps.n) (g.ps.c) (I.n) (I.c) (g.inn) (g.out) (w) ch ot _ he HA HL HG
  rw [he] at HG
  have F := Ba.fine_of he hz.1 hz.2
  have hv := F.net
  have G := fun W (hh : Gr w W) => And.intro (hN.gr hh) (And.intro (hL.gr hh) (And.intro (h1.gr hh) (And.intro (h2.gr hh) (And.intro (hI.gr hh) (hg.gr hh)))))
  have one : ∀ i, Ba.resI N L (fun j => decide (j = i)) s1 s2 I g.ps = Ba.resL N L s1 s2 I g.ps [i] := fun i => by
    unfold Ba.resL
    exact Ba.resI_congr hv fun j _ => by simp
  refine cuts_2 (N.A) (L.A) (s1.vs.A) (s1.ps.A) (s1.st.A) (s1.on.A) (s2.vs.A) (s2.ps.A) (s2.st.A) (s2.on.A) (g.ps.A) (I.A) (N.n) (N.c) (L.n) (L.c) (s1.vs.n) (s1.vs.c) (s1.ps.n) (s1.ps.c) (s1.st.n) (s1.st.c) (s1.on.n) (s1.on.c) (s2.vs.n) (s2.vs.c) (s2.ps.n) (s2.ps.c) (s2.st.n) (s2.st.c) (s2.on.n) (s2.on.c) (g.ps.n) (g.ps.c) (I.n) (I.c) (g.inn) (g.out) (w) ch ot HA HL HG N.b N.o s1.vs.b s1.vs.o s1.ps.b s1.ps.o s2.vs.b s2.vs.o s2.ps.b s2.ps.o I.b I.o N.D s1.vs.X s1.ps.X s2.vs.X s2.ps.X I.X (Lib.hid hN.hA) (Lib.hid fun i hi => ⟨(hN.hD i hi).1, (hN.hD i hi).2.2.2.2.2.2.2.1⟩)
    F.v1 F.p1 F.v2 F.p2 F.i hz.1
    (Lib.hid fun h => h1.1.hA (by have := F.v1; omega)) (Lib.hid fun h => h1.2.1.hA (by have := F.p1; omega)) (Lib.hid fun h => h2.1.hA (by have := F.v2; omega)) (Lib.hid fun h => h2.2.1.hA (by have := F.p2; omega)) (Lib.hid fun h => hI.hA (by have := F.i; omega))
    (Lib.hid fun i hi => (h1.1.hX i (by have := F.v1; omega)).1) (Lib.hid fun i hi => (h1.2.1.hX i (by have := F.p1; omega)).1) (Lib.hid fun i hi => (h2.1.hX i (by have := F.v2; omega)).1) (Lib.hid fun i hi => (h2.2.1.hX i (by have := F.p2; omega)).1) (Lib.hid fun i hi => (hI.hX i (by have := F.i; omega)).1)
    (Lib.hid fun i hi => ⟨F.bv1 i hi, F.bp1 i hi, F.bv2 i hi, F.bp2 i hi⟩)
    (shrB ch) (shrB ot) (fun i => Ba.resI N L (fun j => decide (j = i)) s1 s2 I g.ps) (fun i => Ba.resL N L s1 s2 I g.ps (Ba.idx (shrB ch) i)) (Ba.resL N L s1 s2 I g.ps) (Lib.hid fun _ _ => rfl) (Lib.hid fun _ _ => rfl) hch hot
    (Lib.hid fun i j hi hj e => Ba.node_inj hv hi hj e) ?_ (Lib.hid fun i => ?_) (Lib.hid fun i _ => Ba.resI_le F _) (Lib.hid fun i _ => Ba.resI_le F _) (Lib.hid fun l => Ba.resI_le F _) rfl ?_
    (Lib.hid fun i hi B W hh hc => ?_) (Lib.hid fun i hi hk W hh => ?_) (Lib.hid fun l s W hh hs x1 x2 x3 x4 x5 => ?_)
  · show Ba.resI N L (fun j => decide (j ∈ Ba.idx (shrB ch) 0)) s1 s2 I g.ps = 0
    rw [Ba.resI_congr hv (m' := fun _ => false) fun j _ => by simp [Ba.idx], Ba.resI_none]
  · (try simp only)
    rw [Ba.idx_succ]
    split
    · rw [Ba.resL_snoc hv (fun h => by have := (Ba.idx_mem.1 h).1; omega), one]
    · rfl
  · (try simp only)
    rw [Ba.resL_append hv (fun i hi hj => by
      have q1 := (Ba.idx_mem.1 hi).2; have q2 := (Ba.idx_mem.1 hj).2
      rw [q2] at q1; simp at q1)]
    omega
  · have hT : Ba.SlS.At W ⟨some ⟨B, 0, none⟩, 1, 1, B, 0, fun _ => (N.D i).nm⟩ := ⟨fun _ => rfl, by simp, by simp, fun k hk => ⟨by (obtain rfl : k = 0 := (by simp only at hk; omega)); exact hc, (hN.hD i hi).2.2.2.2.2.2.2.1⟩⟩
    have hnm : Ba.Named N [i] ⟨some ⟨B, 0, none⟩, 1, 1, B, 0, fun _ => (N.D i).nm⟩ := ⟨by simp, by simp; exact hi, rfl, fun k hk => by (obtain rfl : k = 0 := (by simp only at hk; omega)); rfl⟩
    obtain ⟨e1, e2⟩ := Ba.part_named (s1 := s1) (s2 := s2) (I := I) (g := g) he hv hnm
    have h := part_any N L s1 s2 I g W (G W hh).1 (G W hh).2.1 (G W hh).2.2.1 (G W hh).2.2.2.1 (G W hh).2.2.2.2.1 (G W hh).2.2.2.2.2 _ hT hz.1 hz.2 (by show 1 ≤ 1000; omega)
    rw [e1, e2, ← one] at h
    exact h
  · have hr := Ba.res_node F hi hk
    have c1 := F.bv1 i hi; have c2 := F.bp1 i hi; have c3 := F.bv2 i hi; have c4 := F.bp2 i hi; have c5 := F.bi i hi
    have h := resid_any N L (N.D i).nm (s1.vs.X i + s1.ps.X i) (s2.vs.X i + s2.ps.X i) (I.X i) g.ps W (hN.gr hh) (hL.gr hh) (hg.2.2.gr hh) (hN.hD i hi).2.2.2.2.2.2.2.1 (by unfold Ba.i64; omega) (by unfold Ba.i64; omega) (by unfold Ba.i64; omega) hz.1 hz.2
    rw [hr.1, hr.2] at h
    exact h
  · obtain ⟨e1, e2⟩ := Ba.part_named (s1 := s1) (s2 := s2) (I := I) (g := g) he hv (⟨x3, x4, x1, x2⟩ : Ba.Named N l s)
    have h := part_any N L s1 s2 I g W (G W hh).1 (G W hh).2.1 (G W hh).2.2.1 (G W hh).2.2.2.1 (G W hh).2.2.2.2.1 (G W hh).2.2.2.2.2 s hs hz.1 hz.2 x5
    rw [e1, e2] at h
    exact h

end Go.Proofs.Ythkmgnaeponfcaa
