/-
  balance.Text and the reference's Text. (Printed by mkbstext.py.)
-/
import Derived.Test.YtkgbbcmgfbipaaaGreatDoorSm44
import Derived.Test.YtkgbbcmgfbipaaaGreatDoorSm35
import Derived.Test.YtkgbbcmgfbipaaaGreatDoorSm27
import Derived.Test.YtkgbbcmgfbipaaaGreatDoorSm29
import Derived.Test.YtkgbbcmgfbipaaaGreatDoorSm11

set_option linter.unusedVariables false
set_option linter.unusedSimpArgs false
namespace Go.Proofs.YtkgbbcmgfbipaaaGreatDoor
open Go.RowKit
attribute [local go_sem ↓] Go.wp_at_zero Go.wp_at_succ
namespace Ba
/-- The line of a word and a number; the lines of the first links; the text of a ledger. -/
def lineB (s : List UInt8) (v : Int) : List UInt8 := s ++ 32 :: (Lib.decDigits v.toNat ++ [10])
def lnsB (D : Nat → Link) (X : Nat → Int) : Nat → List UInt8
  | 0 => []
  | k + 1 => lnsB D X k ++ lineB (D k).nm.data.toList (X k)
def txtB (L : SlLink) (g : Ledger) : List UInt8 := (lineB [105, 110] g.inn ++ lineB [111, 117, 116] g.out) ++ lnsB L.D g.ps.X L.n
theorem dec_len {v : Int} (h : v ≤ 9223372036854775807) : (Lib.decDigits v.toNat).length ≤ 20 := by
  rw [Lib.decDigits_length]
  have := Dg.nDigits_le (c := 19) (n := v.toNat) (by omega) (by have h10 : (10 : Nat) ^ 19 = 10000000000000000000 := (by decide); omega)
  omega
theorem line_len {s : List UInt8} {v : Int} (h : v ≤ 9223372036854775807) : (lineB s v).length ≤ s.length + 22 := by
  have := dec_len h
  unfold lineB
  simp only [List.length_append, List.length_cons, List.length_nil]
  omega
theorem lns_len {D : Nat → Link} {X : Nat → Int} : ∀ {k : Nat}, (∀ i, i < k → (D i).nm.size ≤ 1000 ∧ X i ≤ 9223372036854775807) → (lnsB D X k).length ≤ k * 1022
  | 0, _ => by simp [lnsB]
  | k + 1, h => by
    have a := lns_len (k := k) fun i hi => h i (by omega)
    have b := line_len (s := (D k).nm.data.toList) (h k (by omega)).2
    have c := (h k (by omega)).1
    have e : (D k).nm.data.toList.length = (D k).nm.size := Array.length_toList
    rw [lnsB, List.length_append]; omega
theorem link_short {N : SlNode} {L : SlLink} (h : netB N L = true) {k : Nat} (hk : k < L.n) : (L.D k).nm.size ≤ 1000 := by
  unfold netB at h
  rw [Bool.and_eq_true, Bool.and_eq_true, Bool.and_eq_true] at h
  have q := allB_at h.2.2.2 hk
  unfold linkB at q
  rw [Bool.and_eq_true] at q
  have q1 := q.1
  unfold rlink at q1
  rw [Bool.and_eq_true] at q1
  have q2 := q1.1
  unfold rlA at q2
  rw [Bool.and_eq_true] at q2
  have e := q2.1
  rcases Nat.lt_or_ge 1000 (L.D k).nm.size with z | z
  · rw [Dc.isName_big _ z] at e; cases e
  · exact z
end Ba
set_option maxRecDepth 100000 in
set_option maxHeartbeats 8000000 in
theorem line_any (B : Nat) (l : List UInt8) (s : ByteArray) (v : Int) (w : World) (h : Lib.IsBuilder 78 5 B B (Lib.byteCells l) w) (hl : l.length ≤ 2000000) (hs : s.size ≤ 1000) (hv : 0 ≤ v ∧ v ≤ 9223372036854775807) (ht : Tab w) (hb : B ≤ w.heap.size) :
    Calls Tryz.prog 31 #[.string s, .int .i64 v, .pointer (some ⟨B, 0, none⟩)] w fun e w' => e = .returned (.tuple #[]) ∧ Hid (Lib.IsBuilder 78 5 B B (Lib.byteCells (l ++ Ba.lineB s.data.toList v)) w') ∧ Below B w w' := by
  have HI := Lib.hid (fun W (hW : Gr w W) => itoa_any v W hv.1 hv.2 (.inr (ht.gr hW)))
  have HB := Lib.hid (fun W (hW : Gr w W) (x : ByteArray) (hx : x.size ≤ 1000000) => wstr_any B l x W (builder_gr h hW) (by omega) hx (Nat.le_trans hb (Gr.size hW)))
  have dl := Ba.dec_len hv.2
  obtain ⟨D, hD⟩ : ∃ D : ByteArray, D = ⟨(Lib.decDigits v.toNat).toArray⟩ := ⟨_, rfl⟩
  have hDs : D.size ≤ 20 := by rw [hD]; show (Lib.decDigits v.toNat).toArray.size ≤ 20; simpa using dl
  rw [← hD] at HI
  have HLN := Lib.hid (show (((s ++ ⟨#[32]⟩) ++ D) ++ ⟨#[10]⟩ : ByteArray).data.toList = Ba.lineB s.data.toList v from by
    rw [hD]; unfold Ba.lineB; simp [ByteArray.data_append])
  have z1 : (s ++ ⟨#[32]⟩ : ByteArray).size ≤ 1001 := by rw [ByteArray.size_append']; show s.size + 1 ≤ _; omega
  have z2 : ((s ++ ⟨#[32]⟩) ++ D : ByteArray).size ≤ 1021 := by rw [ByteArray.size_append']; omega
  have z3 : (((s ++ ⟨#[32]⟩) ++ D) ++ ⟨#[10]⟩ : ByteArray).size ≤ 1022 := by rw [ByteArray.size_append']; show _ + 1 ≤ _; omega
  have Z3 := Lib.hid z3
  clear h ht hD dl z3
  go_enter Tryz.func31, Tryz.ntmps31
  go_wp2_with fail
  refine (HI.out _ (Gr.refl _)).mono ?_
  rintro e w1 ⟨rfl, hb1⟩
  clear HI
  go_wp2_with fail
  refine (HB.out _ hb1 _ (by have := Z3.out; omega)).mono ?_
  rintro e w2 ⟨rfl, hB2, hb2⟩
  rw [HLN.out] at hB2
  have hbel : Below B w w2 := Below.trans (Below.mono hb1 hb) hb2
  go_wp2_with fail
  go_end0
  exact ⟨rfl, hB2, hbel⟩
set_option maxRecDepth 100000 in
set_option maxHeartbeats 8000000 in
theorem text_no (N : Ba.SlNode) (L : Ba.SlLink) (g : Ba.Ledger) (w : World) (hN : N.At w) (hL : L.At w) (hg : g.Ok w) (h : Ba.netB N L = false ∨ Ba.netB N L = true ∧ Ba.ledgB L g = false) : Calls Tryz.prog 13 #[Ba.netVal N L, g.val] w fun e w' => e = .returned (.tuple #[.string ⟨#[]⟩, .int .i64 1]) ∧ Gr w w' := by
  have hl := Nat.le_trans hL.hc hL.hb
  have HV := Lib.hid (fun W (hW : Gr w W) => netvalid_any N L W (hN.gr hW) (hL.gr hW))
  have HG := Lib.hid (fun W (hW : Gr w W) => bvalid_any N L g W hl (hg.gr hW))
  clear hN hL hg
  unfold Ba.netVal Ba.Ledger.val at *
  generalize N.A = A at *; generalize N.n = n at *; generalize N.c = c at *
  rcases h with h | ⟨h, h2⟩
  · rw [h] at HV
    clear HG h
    go_enter Tryz.func13, Tryz.ntmps13
    go_wp2_with fail
    (first | refine name_world ?_ | refine (show (∀ W, W = _ → Calls _ _ _ W _) → Calls _ _ _ _ _ from fun h => h _ rfl) ?_); intro W1 hW1
    have g1 : Gr w W1 := by rw [hW1]; exact gr_auto
    have k1_0 : W1.cell? ⟨w.heap.size, 0, none⟩ = some (.slice A n c) := by rw [hW1]; first | (simp [go_sem, *]; done) | (refine Gr.at ?_ (by assumption); exact gr_auto)
    have b1_0 : w.heap.size < W1.heap.size := World.block_lt_of_cell? _ _ k1_0
    have k1_1 : W1.cell? ⟨w.heap.size, 1, none⟩ = some (.slice L.A L.n L.c) := by rw [hW1]; first | (simp [go_sem, *]; done) | (refine Gr.at ?_ (by assumption); exact gr_auto)
    have k1_2 : W1.cell? ⟨w.heap.size + 1, 0, none⟩ = some (.int .i64 g.inn) := by rw [hW1]; first | (simp [go_sem, *]; done) | (refine Gr.at ?_ (by assumption); exact gr_auto)
    have b1_2 : w.heap.size + 1 < W1.heap.size := World.block_lt_of_cell? _ _ k1_2
    have k1_3 : W1.cell? ⟨w.heap.size + 1, 1, none⟩ = some (.int .i64 g.out) := by rw [hW1]; first | (simp [go_sem, *]; done) | (refine Gr.at ?_ (by assumption); exact gr_auto)
    have k1_4 : W1.cell? ⟨w.heap.size + 1, 2, none⟩ = some (.slice g.ps.A g.ps.n g.ps.c) := by rw [hW1]; first | (simp [go_sem, *]; done) | (refine Gr.at ?_ (by assumption); exact gr_auto)
    clear hW1
    refine (HV.out _ g1).mono ?_
    rintro e w2 ⟨rfl, hb2⟩
    have g2 := g1.trans hb2
    go_wp2_with fail
    go_ret2
    exact ⟨rfl, g2⟩
  · rw [h] at HV
    rw [h2] at HG
    clear h h2
    go_enter Tryz.func13, Tryz.ntmps13
    go_wp2_with fail
    (first | refine name_world ?_ | refine (show (∀ W, W = _ → Calls _ _ _ W _) → Calls _ _ _ _ _ from fun h => h _ rfl) ?_); intro W1 hW1
    have g1 : Gr w W1 := by rw [hW1]; exact gr_auto
    have k1_0 : W1.cell? ⟨w.heap.size, 0, none⟩ = some (.slice A n c) := by rw [hW1]; first | (simp [go_sem, *]; done) | (refine Gr.at ?_ (by assumption); exact gr_auto)
    have b1_0 : w.heap.size < W1.heap.size := World.block_lt_of_cell? _ _ k1_0
    have k1_1 : W1.cell? ⟨w.heap.size, 1, none⟩ = some (.slice L.A L.n L.c) := by rw [hW1]; first | (simp [go_sem, *]; done) | (refine Gr.at ?_ (by assumption); exact gr_auto)
    have k1_2 : W1.cell? ⟨w.heap.size + 1, 0, none⟩ = some (.int .i64 g.inn) := by rw [hW1]; first | (simp [go_sem, *]; done) | (refine Gr.at ?_ (by assumption); exact gr_auto)
    have b1_2 : w.heap.size + 1 < W1.heap.size := World.block_lt_of_cell? _ _ k1_2
    have k1_3 : W1.cell? ⟨w.heap.size + 1, 1, none⟩ = some (.int .i64 g.out) := by rw [hW1]; first | (simp [go_sem, *]; done) | (refine Gr.at ?_ (by assumption); exact gr_auto)
    have k1_4 : W1.cell? ⟨w.heap.size + 1, 2, none⟩ = some (.slice g.ps.A g.ps.n g.ps.c) := by rw [hW1]; first | (simp [go_sem, *]; done) | (refine Gr.at ?_ (by assumption); exact gr_auto)
    clear hW1
    refine (HV.out _ g1).mono ?_
    rintro e w2 ⟨rfl, hb2⟩
    have g2 := g1.trans hb2
    have k1_0 := Gr.at (w1 := w2) gr_auto k1_0; have k1_1 := Gr.at (w1 := w2) gr_auto k1_1; have k1_2 := Gr.at (w1 := w2) gr_auto k1_2; have k1_3 := Gr.at (w1 := w2) gr_auto k1_3; have k1_4 := Gr.at (w1 := w2) gr_auto k1_4
    go_wp2_with fail
    refine (HG.out _ g2).mono ?_
    rintro e w3 ⟨rfl, hb3⟩
    have g3 := g2.trans hb3
    go_wp2_with fail
    go_ret2
    exact ⟨rfl, g3⟩
set_option maxRecDepth 100000 in
set_option maxHeartbeats 8000000 in
theorem text_ok (N : Ba.SlNode) (L : Ba.SlLink) (g : Ba.Ledger) (w : World) (hN : N.At w) (hL : L.At w) (hg : g.Ok w) (ht : Tab w) (hv : Ba.netB N L = true) (hq : Ba.ledgB L g = true) : Calls Tryz.prog 13 #[Ba.netVal N L, g.val] w fun e w' => e = .returned (.tuple #[.string ⟨(Ba.txtB L g).toArray⟩, .int .i64 0]) ∧ Gr w w' := by
  have hl := Nat.le_trans hL.hc hL.hb
  have HV := Lib.hid (fun W (hW : Gr w W) => netvalid_any N L W (hN.gr hW) (hL.gr hW))
  have HG := Lib.hid (fun W (hW : Gr w W) => bvalid_any N L g W hl (hg.gr hW))
  rw [hv] at HV; rw [hq] at HG
  obtain ⟨P0, P1, P2, P3⟩ := Ba.ledg_parts hq
  have hln : L.n ≤ 1000 := by
    unfold Ba.netB at hv
    simp only [Bool.and_eq_true, decide_eq_true_eq] at hv
    omega
  have HNM := Lib.hid (fun k (hk : k < L.n) => show (L.D k).nm.size ≤ 1000 from Ba.link_short hv hk)
  have HLN := Lib.hid (fun k (hk : k ≤ L.n) => Ba.lns_len (D := L.D) (X := g.ps.X) (k := k) fun i hi => ⟨Ba.link_short hv (by omega), by have := P3 i (by omega); omega⟩)
  have HLX := Lib.hid (fun k (hk : k < L.n) => (hL.hD k hk).1)
  have HLA := Lib.hid hL.hA
  have HPX := Lib.hid (fun k (hk : k < L.n) => show w.cell? ⟨g.ps.b, g.ps.o + k, none⟩ = some (.int .i64 (g.ps.X k)) ∧ 0 ≤ g.ps.X k ∧ g.ps.X k ≤ 9007199254740992 from ⟨(hg.2.2.hX k (by omega)).1, P3 k hk⟩)
  have HPA := Lib.hid (fun (h : 0 < L.n) => hg.2.2.hA (by omega))
  have HT := Lib.hid ht
  have HTX := Lib.hid (show Ba.txtB L g = (Ba.lineB [105, 110] g.inn ++ Ba.lineB [111, 117, 116] g.out) ++ Ba.lnsB L.D g.ps.X L.n from rfl)
  have HL0 := Lib.hid (show Ba.lnsB L.D g.ps.X 0 = [] from rfl)
  have HLS := Lib.hid (fun k => show Ba.lnsB L.D g.ps.X (k + 1) = Ba.lnsB L.D g.ps.X k ++ Ba.lineB (L.D k).nm.data.toList (g.ps.X k) from rfl)
  have t1 := Ba.line_len (s := [105, 110]) (v := g.inn) (by omega); have t2 := Ba.line_len (s := [111, 117, 116]) (v := g.out) (by omega)
  simp only [List.length_cons, List.length_nil] at t1 t2
  clear hN hL hg ht hv hq P3
  rw [HTX.out]
  unfold Ba.netVal Ba.Ledger.val at *
  rw [P2] at HG ⊢
  clear P2
  generalize N.A = A at *; generalize N.n = n at *; generalize N.c = c at *
  generalize g.inn = gi at *; generalize g.out = go_ at *; generalize g.ps.A = PA at *; generalize g.ps.c = pc at *; generalize g.ps.b = pb at *; generalize g.ps.o = po at *; generalize g.ps.X = PX at *
  generalize L.A = LA at *; generalize L.n = ln at *; generalize L.c = lc at *; generalize L.b = lb at *; generalize L.o = lo at *; generalize L.D = LD at *
  obtain ⟨l1, hl1⟩ : ∃ z, Ba.lineB [105, 110] gi = z := ⟨_, rfl⟩
  obtain ⟨l2, hl2⟩ : ∃ z, Ba.lineB [111, 117, 116] go_ = z := ⟨_, rfl⟩
  rw [hl1, hl2]
  rw [hl1] at t1; rw [hl2] at t2
  have HL1 := Lib.hid hl1; have HL2 := Lib.hid hl2
  clear hl1 hl2 HTX
  generalize Ba.lnsB LD PX = lns at *
  go_enter Tryz.func13, Tryz.ntmps13
  go_wp2_with fail
  (first | refine name_world ?_ | refine (show (∀ W, W = _ → Calls _ _ _ W _) → Calls _ _ _ _ _ from fun h => h _ rfl) ?_); intro W1 hW1
  have g1 : Gr w W1 := by rw [hW1]; exact gr_auto
  have k1_0 : W1.cell? ⟨w.heap.size, 0, none⟩ = some (.slice A n c) := by rw [hW1]; first | (simp [go_sem, *]; done) | (refine Gr.at ?_ (by assumption); exact gr_auto)
  have b1_0 : w.heap.size < W1.heap.size := World.block_lt_of_cell? _ _ k1_0
  have k1_1 : W1.cell? ⟨w.heap.size, 1, none⟩ = some (.slice LA ln lc) := by rw [hW1]; first | (simp [go_sem, *]; done) | (refine Gr.at ?_ (by assumption); exact gr_auto)
  have k1_2 : W1.cell? ⟨w.heap.size + 1, 0, none⟩ = some (.int .i64 gi) := by rw [hW1]; first | (simp [go_sem, *]; done) | (refine Gr.at ?_ (by assumption); exact gr_auto)
  have b1_2 : w.heap.size + 1 < W1.heap.size := World.block_lt_of_cell? _ _ k1_2
  have k1_3 : W1.cell? ⟨w.heap.size + 1, 1, none⟩ = some (.int .i64 go_) := by rw [hW1]; first | (simp [go_sem, *]; done) | (refine Gr.at ?_ (by assumption); exact gr_auto)
  have k1_4 : W1.cell? ⟨w.heap.size + 1, 2, none⟩ = some (.slice PA ln pc) := by rw [hW1]; first | (simp [go_sem, *]; done) | (refine Gr.at ?_ (by assumption); exact gr_auto)
  clear hW1
  refine (HV.out _ g1).mono ?_
  rintro e w2 ⟨rfl, hb2⟩
  have g2 := g1.trans hb2
  have k1_0 := Gr.at (w1 := w2) gr_auto k1_0; have k1_1 := Gr.at (w1 := w2) gr_auto k1_1; have k1_2 := Gr.at (w1 := w2) gr_auto k1_2; have k1_3 := Gr.at (w1 := w2) gr_auto k1_3; have k1_4 := Gr.at (w1 := w2) gr_auto k1_4
  go_wp2_with fail
  refine (HG.out _ g2).mono ?_
  rintro e w3 ⟨rfl, hb3⟩
  have g3 := g2.trans hb3
  have k1_0 := Gr.at (w1 := w3) gr_auto k1_0; have k1_1 := Gr.at (w1 := w3) gr_auto k1_1; have k1_2 := Gr.at (w1 := w3) gr_auto k1_2; have k1_3 := Gr.at (w1 := w3) gr_auto k1_3; have k1_4 := Gr.at (w1 := w3) gr_auto k1_4
  clear HV HG
  have z3 : w.heap.size + 1 < w3.heap.size := World.block_lt_of_cell? _ _ k1_2
  go_wp2_with fail
  have HN0 := Lib.hid (builder_new w3)
  obtain ⟨W4, hW4⟩ : ∃ W, w3.alloc (Obj.cells #[.pointer none, .slice none 0 0] 78) = W := ⟨_, rfl⟩
  rw [hW4] at HN0
  have gb4 : Gr w3 W4 := hW4 ▸ Gr.alloc (Gr.refl _) _
  have z4 : w3.heap.size < W4.heap.size := by rw [← hW4]; simp [go_sem]
  try rw [hW4]
  clear hW4
  refine (line_any w3.heap.size [] ⟨#[105, 110]⟩ gi W4 HN0.out (by simp) (by show (2 : Nat) ≤ _; omega) (by omega) ((HT.out).gr (g3.trans gb4)) (by omega)).mono ?_
  rintro e w5 ⟨rfl, hB5, hb5⟩
  have g5 : Gr w3 w5 := Below.trans gb4 hb5
  have z5 := Below.size hb5
  have e5 : Ba.lineB (⟨#[105, 110]⟩ : ByteArray).data.toList gi = l1 := HL1.out
  rw [List.nil_append, e5] at hB5
  clear HN0 hb5 e5
  have j0 := Gr.at g5 k1_0; have j1 := Gr.at g5 k1_1; have j2 := Gr.at g5 k1_2; have j3 := Gr.at g5 k1_3; have j4 := Gr.at g5 k1_4
  go_wp2_with fail
  refine (line_any w3.heap.size _ ⟨#[111, 117, 116]⟩ go_ w5 hB5.out (by omega) (by show (3 : Nat) ≤ _; omega) (by omega) ((HT.out).gr (g3.trans g5)) (by omega)).mono ?_
  rintro e w6 ⟨rfl, hB6, hb6⟩
  have g6 : Gr w3 w6 := Below.trans g5 hb6
  have z6 := Below.size hb6
  have e6 : Ba.lineB (⟨#[111, 117, 116]⟩ : ByteArray).data.toList go_ = l2 := HL2.out
  rw [e6] at hB6
  clear hB5 hb6 e6 j0 j1 j2 j3 j4 g5
  have j0 := Gr.at g6 k1_0; have j1 := Gr.at g6 k1_1; have j2 := Gr.at g6 k1_2; have j3 := Gr.at g6 k1_3; have j4 := Gr.at g6 k1_4
  go_wp2_with fail
  clear j0 j1 j2 j3 j4
  go_loopw [31] (fun x wr => ∃ k : Nat, k ≤ ln ∧ x = .int .i64 (k : Int) ∧ Hid (Lib.IsBuilder 78 5 w3.heap.size w3.heap.size (Lib.byteCells ((l1 ++ l2) ++ lns k)) wr) ∧ Gr w3 wr ∧ w3.heap.size < wr.heap.size) (fun x _ => ln - (intOf x).toNat)
  case atStart => exact ⟨0, Nat.zero_le _, rfl, Lib.hid (by rw [HL0.out, List.append_nil]; exact hB6.out), g6, by omega⟩
  case round =>
    clear hB6 g6 z6
    obtain ⟨k, hk, rfl, hB, hg, hz⟩ := hrel
    rename World => W7
    have gw := g3.trans hg
    have j0 := Gr.at hg k1_0; have j1 := Gr.at hg k1_1; have j4 := Gr.at hg k1_4
    by_cases hlt : k < ln
    · obtain rfl := HLA.out (by omega); obtain rfl := HPA.out (by omega)
      have ib0 : (0 : Int) ≤ (k : Int) := by omega
      have ib1 : (k : Int) < (ln : Int) := by omega
      obtain ⟨a0, a1, a2, a3, a4, a5, a6, a7, a8, a9, a10⟩ := (HLX.out k hlt).gr gw
      obtain ⟨p0, p1, p2⟩ := HPX.out k hlt
      replace p0 := Gr.at gw p0
      have nm := HNM.out k hlt
      have ll := HLN.out k hk; have ll2 := HLN.out (k + 1) hlt
      have hss := HLS.out k
      have HSS := Lib.hid hss
      have blb := World.block_lt_of_cell? _ _ a0
      have bpb := World.block_lt_of_cell? _ _ p0
      simp only at blb bpb
      clear HLX HPX HNM HLN HLS HL0 HLA HPA hss
      generalize LD k = d at *
      generalize PX k = pv at *
      go_wp2_with fail
      have HLi := Lib.hid (fun (W : World) (hW : Gr W7 W) => line_any w3.heap.size ((l1 ++ l2) ++ lns k) d.nm pv W (builder_gr hB.out hW) (by simp only [List.length_append]; omega) nm (by omega) ((HT.out).gr (gw.trans hW)) (by have := Gr.size hW; omega))
      have zz : w3.heap.size ≠ W7.heap.size := by omega
      clear hB
      (first | refine name_world ?_ | refine (show (∀ W, W = _ → Calls _ _ _ W _) → Calls _ _ _ _ _ from fun h => h _ rfl) ?_); intro W8 hW8
      have g8 : Gr w W8 := by rw [hW8]; exact gr_auto
      have gb8_W7 : Gr W7 W8 := by (try clear g8); rw [hW8]; exact gr_auto
      have k8_0 : W8.cell? ⟨W7.heap.size, 0, none⟩ = some (.string d.nm) := by rw [hW8]; first | (simp [go_sem, *]; done) | (refine Gr.at ?_ (by assumption); exact gr_auto)
      have b8_0 : W7.heap.size < W8.heap.size := World.block_lt_of_cell? _ _ k8_0
      have k8_1 : W8.cell? ⟨w.heap.size + 1, 2, none⟩ = some (.slice (some ⟨pb, po, none⟩) ln pc) := by rw [hW8]; first | (simp [go_sem, *]; done) | (refine Gr.at ?_ (by assumption); exact gr_auto)
      have b8_1 : w.heap.size + 1 < W8.heap.size := World.block_lt_of_cell? _ _ k8_1
      have k8_2 : W8.cell? ⟨pb, po + k, none⟩ = some (.int .i64 pv) := by rw [hW8]; first | (simp [go_sem, *]; done) | (refine Gr.at ?_ (by assumption); exact gr_auto)
      have b8_2 : pb < W8.heap.size := World.block_lt_of_cell? _ _ k8_2
      clear hW8
      refine wp_region_tail 8 (by kernel_rfl) (by kernel_rfl) ?_
      simp only [List.take_succ_cons, List.take_zero, List.drop_succ_cons, List.drop_zero]
      repeat (go_big_quiet_step (skip))
      refine wpQuiet_nil ?_
      go_wp2_with fail
      refine (HLi.out _ (gb8_W7.trans (by exact gr_auto))).mono ?_
      rintro e w9 ⟨rfl, hB9, hb9⟩
      have g9 : Gr w3 w9 := Below.trans (hg.trans (gb8_W7.trans (by exact gr_auto))) hb9
      have z9 : w3.heap.size < w9.heap.size := by have a := Below.size hb9; have b := Gr.size gb8_W7; (try simp [go_sem] at a); omega
      have hB9' := Lib.hid (show Lib.IsBuilder 78 5 w3.heap.size w3.heap.size (Lib.byteCells ((l1 ++ l2) ++ lns (k + 1))) w9 from by rw [HSS.out, ← List.append_assoc]; exact hB9.out)
      clear hB9 hb9
      go_wp2_with fail
      go_roundw
      case rel => exact ⟨k + 1, by omega, by go_num, hB9', g9, z9⟩
      case measure => simp [intOf]; omega
    · obtain rfl : ln = k := by omega
      have HST := Lib.hid (Tryz.Builder_String_any w3.heap.size w3.heap.size _ W7 hB.out (by omega))
      clear HLX HPX HNM HLN HLS HL0 HLA HPA hB
      go_wp2_with fail
      refine HST.out.mono ?_
      rintro e w9 ⟨rfl, hb9⟩
      have g9 : Gr w3 w9 := Below.trans hg hb9
      go_wp2_with fail
      go_ret2
      exact ⟨by rw [List.append_assoc]; rfl, g3.trans g9⟩
set_option maxRecDepth 100000 in
set_option maxHeartbeats 8000000 in
theorem rtext_ok (N : Ba.SlNode) (L : Ba.SlLink) (g : Ba.Ledger) (w : World) (hN : N.At w) (hL : L.At w) (hg : g.Ok w) (hv : Ba.netB N L = true) (hq : Ba.ledgB L g = true) : Calls Tryz.prog 16 #[Ba.netVal N L, g.val] w fun e w' => e = .returned (.string ⟨(Ba.txtB L g).toArray⟩) ∧ Gr w w' := by
  obtain ⟨P0, P1, P2, P3⟩ := Ba.ledg_parts hq
  have hln : L.n ≤ 1000 := by
    unfold Ba.netB at hv
    simp only [Bool.and_eq_true, decide_eq_true_eq] at hv
    omega
  have HNM := Lib.hid (fun k (hk : k < L.n) => show (L.D k).nm.size ≤ 1000 from Ba.link_short hv hk)
  have HLN := Lib.hid (fun k (hk : k ≤ L.n) => Ba.lns_len (D := L.D) (X := g.ps.X) (k := k) fun i hi => ⟨Ba.link_short hv (by omega), by have := P3 i (by omega); omega⟩)
  have HLX := Lib.hid (fun k (hk : k < L.n) => show w.cell? ⟨L.b, L.o + k * 11, none⟩ = some (.string (L.D k).nm) from (hL.hD k hk).1.1)
  have HLA := Lib.hid hL.hA
  have HPX := Lib.hid (fun k (hk : k < L.n) => show w.cell? ⟨g.ps.b, g.ps.o + k, none⟩ = some (.int .i64 (g.ps.X k)) ∧ 0 ≤ g.ps.X k ∧ g.ps.X k ≤ 9007199254740992 from ⟨(hg.2.2.hX k (by omega)).1, P3 k hk⟩)
  have HPA := Lib.hid (fun (h : 0 < L.n) => hg.2.2.hA (by omega))
  have HTX := Lib.hid (show Ba.txtB L g = (Ba.lineB [105, 110] g.inn ++ Ba.lineB [111, 117, 116] g.out) ++ Ba.lnsB L.D g.ps.X L.n from rfl)
  have HL0 := Lib.hid (show Ba.lnsB L.D g.ps.X 0 = [] from rfl)
  have HLS := Lib.hid (fun k => show Ba.lnsB L.D g.ps.X (k + 1) = Ba.lnsB L.D g.ps.X k ++ Ba.lineB (L.D k).nm.data.toList (g.ps.X k) from rfl)
  have t1 := Ba.dec_len (v := g.inn) (by omega); have t2 := Ba.dec_len (v := g.out) (by omega)
  have u1 := Ba.line_len (s := [105, 110]) (v := g.inn) (by omega); have u2 := Ba.line_len (s := [111, 117, 116]) (v := g.out) (by omega)
  simp only [List.length_cons, List.length_nil] at u1 u2
  obtain ⟨gi, hgi⟩ : ∃ x : Nat, g.inn = (x : Int) := ⟨g.inn.toNat, by omega⟩
  obtain ⟨gz, hgz⟩ : ∃ x : Nat, g.out = (x : Int) := ⟨g.out.toNat, by omega⟩
  have HD1 := Lib.hid (fun W => rdec4_any gi W (by omega))
  have HD2 := Lib.hid (fun W => rdec4_any gz W (by omega))
  obtain ⟨D1, hD1⟩ : ∃ D : ByteArray, D = ⟨(Lib.decDigits gi).toArray⟩ := ⟨_, rfl⟩
  obtain ⟨D2, hD2⟩ : ∃ D : ByteArray, D = ⟨(Lib.decDigits gz).toArray⟩ := ⟨_, rfl⟩
  rw [← hD1] at HD1; rw [← hD2] at HD2
  have s1 : D1.size ≤ 20 := by rw [hD1]; rw [hgi] at t1; simpa [ByteArray.size] using t1
  have s2 : D2.size ≤ 20 := by rw [hD2]; rw [hgz] at t2; simpa [ByteArray.size] using t2
  obtain ⟨X1, hX1⟩ : ∃ X : ByteArray, X = ⟨#[105, 110, 32]⟩ ++ D1 := ⟨_, rfl⟩
  obtain ⟨X2, hX2⟩ : ∃ X : ByteArray, X = X1 ++ ⟨#[10]⟩ := ⟨_, rfl⟩
  obtain ⟨X3, hX3⟩ : ∃ X : ByteArray, X = X2 ++ ⟨#[111, 117, 116, 32]⟩ := ⟨_, rfl⟩
  obtain ⟨X4, hX4⟩ : ∃ X : ByteArray, X = X3 ++ D2 := ⟨_, rfl⟩
  obtain ⟨X5, hX5⟩ : ∃ X : ByteArray, X = X4 ++ ⟨#[10]⟩ := ⟨_, rfl⟩
  have z1 : X1.size ≤ 23 := by rw [hX1, ByteArray.size_append']; show 3 + D1.size ≤ _; omega
  have z2 : X2.size ≤ 24 := by rw [hX2, ByteArray.size_append']; show X1.size + 1 ≤ _; omega
  have z3 : X3.size ≤ 28 := by rw [hX3, ByteArray.size_append']; show X2.size + 4 ≤ _; omega
  have z4 : X4.size ≤ 48 := by rw [hX4, ByteArray.size_append']; omega
  have x1 : ∀ W : World, (Op.stringOp .add (⟨#[105, 110, 32]⟩ : ByteArray) D1).run Tryz.prog W = .ok (.string X1) W := fun W => by rw [hX1]; exact run_string_add_sum W _ _ (by show 3 + D1.size ≤ _; omega)
  have x2 : ∀ W : World, (Op.stringOp .add X1 (⟨#[10]⟩ : ByteArray)).run Tryz.prog W = .ok (.string X2) W := fun W => by rw [hX2]; exact run_string_add_sum W _ _ (by show X1.size + 1 ≤ _; omega)
  have x3 : ∀ W : World, (Op.stringOp .add X2 (⟨#[111, 117, 116, 32]⟩ : ByteArray)).run Tryz.prog W = .ok (.string X3) W := fun W => by rw [hX3]; exact run_string_add_sum W _ _ (by show X2.size + 4 ≤ _; omega)
  have x4 : ∀ W : World, (Op.stringOp .add X3 D2).run Tryz.prog W = .ok (.string X4) W := fun W => by rw [hX4]; exact run_string_add_sum W _ _ (by omega)
  have x5 : ∀ W : World, (Op.stringOp .add X4 (⟨#[10]⟩ : ByteArray)).run Tryz.prog W = .ok (.string X5) W := fun W => by rw [hX5]; exact run_string_add_sum W _ _ (by show X4.size + 1 ≤ _; omega)
  have HX5 := Lib.hid (show X5 = ⟨(Ba.lineB [105, 110] g.inn ++ Ba.lineB [111, 117, 116] g.out).toArray⟩ from by
    rw [hX5, hX4, hX3, hX2, hX1, hD1, hD2, hgi, hgz]
    unfold Ba.lineB
    apply ByteArray.ext
    simp [ByteArray.data_append])
  clear hN hL hg hv hq P3 hX1 hX2 hX3 hX4 hX5 hD1 hD2 t1 t2
  rw [HTX.out]
  unfold Ba.netVal Ba.Ledger.val at *
  rw [P2]
  clear P2
  rw [hgi] at u1; rw [hgz] at u2; rw [hgi, hgz] at HX5 HTX ⊢
  clear hgi hgz
  generalize N.A = A at *; generalize N.n = n at *; generalize N.c = c at *
  generalize g.ps.A = PA at *; generalize g.ps.c = pc at *; generalize g.ps.b = pb at *; generalize g.ps.o = po at *; generalize g.ps.X = PX at *
  generalize L.A = LA at *; generalize L.n = ln at *; generalize L.c = lc at *; generalize L.b = lb at *; generalize L.o = lo at *; generalize L.D = LD at *
  generalize Ba.lineB [105, 110] (gi : Int) = l1 at *
  generalize Ba.lineB [111, 117, 116] (gz : Int) = l2 at *
  generalize Ba.lnsB LD PX = lns at *
  go_enter Tryz.func16, Tryz.ntmps16
  go_wp2_with fail
  (first | refine name_world ?_ | refine (show (∀ W, W = _ → Calls _ _ _ W _) → Calls _ _ _ _ _ from fun h => h _ rfl) ?_); intro W1 hW1
  have g1 : Gr w W1 := by rw [hW1]; exact gr_auto
  have k1_0 : W1.cell? ⟨w.heap.size, 0, none⟩ = some (.slice A n c) := by rw [hW1]; first | (simp [go_sem, *]; done) | (refine Gr.at ?_ (by assumption); exact gr_auto)
  have b1_0 : w.heap.size < W1.heap.size := World.block_lt_of_cell? _ _ k1_0
  have k1_1 : W1.cell? ⟨w.heap.size, 1, none⟩ = some (.slice LA ln lc) := by rw [hW1]; first | (simp [go_sem, *]; done) | (refine Gr.at ?_ (by assumption); exact gr_auto)
  have k1_2 : W1.cell? ⟨w.heap.size + 1, 0, none⟩ = some (.int .i64 (gi : Int)) := by rw [hW1]; first | (simp [go_sem, *]; done) | (refine Gr.at ?_ (by assumption); exact gr_auto)
  have b1_2 : w.heap.size + 1 < W1.heap.size := World.block_lt_of_cell? _ _ k1_2
  have k1_3 : W1.cell? ⟨w.heap.size + 1, 1, none⟩ = some (.int .i64 (gz : Int)) := by rw [hW1]; first | (simp [go_sem, *]; done) | (refine Gr.at ?_ (by assumption); exact gr_auto)
  have k1_4 : W1.cell? ⟨w.heap.size + 1, 2, none⟩ = some (.slice PA ln pc) := by rw [hW1]; first | (simp [go_sem, *]; done) | (refine Gr.at ?_ (by assumption); exact gr_auto)
  clear hW1
  have s1_0 : ∀ gw : GW W1, gw.1.cell? ⟨w.heap.size, 0, none⟩ = some (.slice A n c) := fun gw => Gr.at gw.2 k1_0
  have s1_1 : ∀ gw : GW W1, gw.1.cell? ⟨w.heap.size, 1, none⟩ = some (.slice LA ln lc) := fun gw => Gr.at gw.2 k1_1
  have s1_2 : ∀ gw : GW W1, gw.1.cell? ⟨w.heap.size + 1, 0, none⟩ = some (.int .i64 (gi : Int)) := fun gw => Gr.at gw.2 k1_2
  have s1_3 : ∀ gw : GW W1, gw.1.cell? ⟨w.heap.size + 1, 1, none⟩ = some (.int .i64 (gz : Int)) := fun gw => Gr.at gw.2 k1_3
  have s1_4 : ∀ gw : GW W1, gw.1.cell? ⟨w.heap.size + 1, 2, none⟩ = some (.slice PA ln pc) := fun gw => Gr.at gw.2 k1_4
  have Q1 := Lib.hid (fun gw : GW W1 => gw_call (HD1.out gw.1))
  have Q2 := Lib.hid (fun gw : GW W1 => gw_call (HD2.out gw.1))
  refine wp_region_gr (by kernel_rfl) (by kernel_rfl) ?_
  repeat (go_big_quiet_step (first | (go_at_call 38; with_reducible exact Q1.out _) | (go_at_call 38; with_reducible exact Q2.out _)))
  refine wpQuiet_nil ?_
  intro w2 hb2
  clear s1_0 s1_1 s1_2 s1_3 s1_4
  have g2 : Gr w w2 := g1.trans hb2
  have k1_0 := Gr.at hb2 k1_0
  have k1_1 := Gr.at hb2 k1_1
  have k1_2 := Gr.at hb2 k1_2
  have k1_3 := Gr.at hb2 k1_3
  have k1_4 := Gr.at hb2 k1_4
  clear x1 x2 x3 x4 x5 HD1 HD2
  go_wp2_with fail
  go_loopw [5, 6] (fun v x wr => ∃ k : Nat, k ≤ ln ∧ x = .int .i64 (k : Int) ∧ v = .string ⟨((l1 ++ l2) ++ lns k).toArray⟩ ∧ Gr w2 wr) (fun _ x _ => ln - (intOf x).toNat)
  case atStart => exact ⟨0, Nat.zero_le _, rfl, by rw [HL0.out, List.append_nil, HX5.out], Gr.refl _⟩
  case round =>
    obtain ⟨k, hk, rfl, rfl, hg⟩ := hrel
    rename World => W3
    have j1 := Gr.at hg k1_1; have j4 := Gr.at hg k1_4
    have gw := g2.trans hg
    by_cases hlt : k < ln
    · obtain rfl := HLA.out (by omega); obtain rfl := HPA.out (by omega)
      have ib0 : (0 : Int) ≤ (k : Int) := by omega
      have ib1 : (k : Int) < (ln : Int) := by omega
      have a0 := Gr.at gw (HLX.out k hlt)
      obtain ⟨p0, p1, p2⟩ := HPX.out k hlt
      replace p0 := Gr.at gw p0
      have nm := HNM.out k hlt
      have ll := HLN.out k hk
      have HSS := Lib.hid (HLS.out k)
      have td := Ba.dec_len (v := PX k) (by omega)
      clear HLX HPX HNM HLN HLS HL0 HLA HPA HTX HX5
      generalize (LD k).nm = dn at *
      obtain ⟨pv, hpv⟩ : ∃ x : Nat, PX k = (x : Int) := ⟨(PX k).toNat, by omega⟩
      rw [hpv] at p0 p1 p2 HSS td
      clear hpv
      have HDk := Lib.hid (fun W => rdec4_any pv W (by omega))
      obtain ⟨D3, hD3⟩ : ∃ D : ByteArray, D = ⟨(Lib.decDigits pv).toArray⟩ := ⟨_, rfl⟩
      rw [← hD3] at HDk
      have s3 : D3.size ≤ 20 := by rw [hD3]; simpa [ByteArray.size] using td
      obtain ⟨Y0, hY0⟩ : ∃ X : ByteArray, X = ⟨((l1 ++ l2) ++ lns k).toArray⟩ := ⟨_, rfl⟩
      obtain ⟨Y1, hY1⟩ : ∃ X : ByteArray, X = Y0 ++ dn := ⟨_, rfl⟩
      obtain ⟨Y2, hY2⟩ : ∃ X : ByteArray, X = Y1 ++ ⟨#[32]⟩ := ⟨_, rfl⟩
      obtain ⟨Y3, hY3⟩ : ∃ X : ByteArray, X = Y2 ++ D3 := ⟨_, rfl⟩
      obtain ⟨Y4, hY4⟩ : ∃ X : ByteArray, X = Y3 ++ ⟨#[10]⟩ := ⟨_, rfl⟩
      have y0 : Y0.size ≤ 2000000 := by rw [hY0]; show ((l1 ++ l2) ++ lns k).toArray.size ≤ _; simp only [List.size_toArray, List.length_append]; omega
      have y1 : Y1.size ≤ 2001000 := by rw [hY1, ByteArray.size_append']; omega
      have y2 : Y2.size ≤ 2001001 := by rw [hY2, ByteArray.size_append']; show Y1.size + 1 ≤ _; omega
      have y3 : Y3.size ≤ 2001021 := by rw [hY3, ByteArray.size_append']; omega
      have x1 : ∀ W : World, (Op.stringOp .add Y0 dn).run Tryz.prog W = .ok (.string Y1) W := fun W => by rw [hY1]; exact run_string_add_sum W _ _ (by omega)
      have x2 : ∀ W : World, (Op.stringOp .add Y1 (⟨#[32]⟩ : ByteArray)).run Tryz.prog W = .ok (.string Y2) W := fun W => by rw [hY2]; exact run_string_add_sum W _ _ (by show Y1.size + 1 ≤ _; omega)
      have x3 : ∀ W : World, (Op.stringOp .add Y2 D3).run Tryz.prog W = .ok (.string Y3) W := fun W => by rw [hY3]; exact run_string_add_sum W _ _ (by omega)
      have x4 : ∀ W : World, (Op.stringOp .add Y3 (⟨#[10]⟩ : ByteArray)).run Tryz.prog W = .ok (.string Y4) W := fun W => by rw [hY4]; exact run_string_add_sum W _ _ (by show Y3.size + 1 ≤ _; omega)
      have HY4 := Lib.hid (show Y4 = ⟨((l1 ++ l2) ++ lns (k + 1)).toArray⟩ from by
        rw [hY4, hY3, hY2, hY1, hY0, hD3, HSS.out]
        unfold Ba.lineB
        apply ByteArray.ext
        simp [ByteArray.data_append])
      rw [← hY0]
      clear hY0 hY1 hY2 hY3 hY4 hD3 td ll HSS
      go_wp2_with fail
      (first | refine name_world ?_ | refine (show (∀ W, W = _ → Calls _ _ _ W _) → Calls _ _ _ _ _ from fun h => h _ rfl) ?_); intro W4 hW4
      have g4 : Gr w W4 := by rw [hW4]; exact gr_auto
      have gb4_W3 : Gr W3 W4 := by (try clear g4); rw [hW4]; exact gr_auto
      have k4_0 : W4.cell? ⟨w.heap.size, 1, none⟩ = some (.slice (some ⟨lb, lo, none⟩) ln lc) := by rw [hW4]; first | (simp [go_sem, *]; done) | (refine Gr.at ?_ (by assumption); exact gr_auto)
      have b4_0 : w.heap.size < W4.heap.size := World.block_lt_of_cell? _ _ k4_0
      have k4_1 : W4.cell? ⟨w.heap.size + 1, 2, none⟩ = some (.slice (some ⟨pb, po, none⟩) ln pc) := by rw [hW4]; first | (simp [go_sem, *]; done) | (refine Gr.at ?_ (by assumption); exact gr_auto)
      have b4_1 : w.heap.size + 1 < W4.heap.size := World.block_lt_of_cell? _ _ k4_1
      have k4_2 : W4.cell? ⟨lb, lo + k * 11, none⟩ = some (.string dn) := by rw [hW4]; first | (simp [go_sem, *]; done) | (refine Gr.at ?_ (by assumption); exact gr_auto)
      have b4_2 : lb < W4.heap.size := World.block_lt_of_cell? _ _ k4_2
      have k4_3 : W4.cell? ⟨pb, po + k, none⟩ = some (.int .i64 (pv : Int)) := by rw [hW4]; first | (simp [go_sem, *]; done) | (refine Gr.at ?_ (by assumption); exact gr_auto)
      have b4_3 : pb < W4.heap.size := World.block_lt_of_cell? _ _ k4_3
      clear hW4
      have s4_0 : ∀ gw : GW W4, gw.1.cell? ⟨w.heap.size, 1, none⟩ = some (.slice (some ⟨lb, lo, none⟩) ln lc) := fun gw => Gr.at gw.2 k4_0
      have s4_1 : ∀ gw : GW W4, gw.1.cell? ⟨w.heap.size + 1, 2, none⟩ = some (.slice (some ⟨pb, po, none⟩) ln pc) := fun gw => Gr.at gw.2 k4_1
      have s4_2 : ∀ gw : GW W4, gw.1.cell? ⟨lb, lo + k * 11, none⟩ = some (.string dn) := fun gw => Gr.at gw.2 k4_2
      have s4_3 : ∀ gw : GW W4, gw.1.cell? ⟨pb, po + k, none⟩ = some (.int .i64 (pv : Int)) := fun gw => Gr.at gw.2 k4_3
      have Q3 := Lib.hid (fun gw4 : GW W4 => gw_call (HDk.out gw4.1))
      refine wp_region_gr (by kernel_rfl) (by kernel_rfl) ?_
      repeat (go_big_quiet_step ((go_at_call 38; with_reducible exact Q3.out _)))
      refine wpQuiet_nil ?_
      intro w5 hb5
      clear s4_0 s4_1 s4_2 s4_3
      have g5 : Gr w w5 := g4.trans hb5
      have k4_0 := Gr.at hb5 k4_0
      have k4_1 := Gr.at hb5 k4_1
      have k4_2 := Gr.at hb5 k4_2
      have k4_3 := Gr.at hb5 k4_3
      clear x1 x2 x3 x4 HDk
      go_wp2_with fail
      go_roundw
      case rel => exact ⟨k + 1, by omega, by go_num, by rw [HY4.out], hg.trans (gb4_W3.trans hb5)⟩
      case measure => simp [intOf]; omega
    · obtain rfl : ln = k := by omega
      clear HLX HPX HNM HLN HLS HL0 HLA HPA HTX HX5
      go_wp2_with fail
      go_ret
      exact ⟨rfl, g2.trans hg⟩
end Go.Proofs.YtkgbbcmgfbipaaaGreatDoor
