/-
  BalanceNodes: it answers true. (Printed by mknodes.py.)
-/
import Derived.Test.YthkmgnaeponfcaaBaCut
import Derived.Test.YthkmgnaeponfcaaBaResid
import Derived.Test.YthkmgnaeponfcaaBaAwk
set_option linter.unusedVariables false
set_option linter.unusedSimpArgs false
namespace Go.Proofs.Ythkmgnaeponfcaa
open Go.RowKit
theorem Ba.setE_kno {N : Ba.SlNode} {T : Ba.SlS} : (Ba.setE N T == 9) = !(Ba.knoB N T) := by
  unfold Ba.setE
  cases h : Ba.knoB N T
  · rw [if_pos rfl]; rfl
  · rw [if_neg (by decide)]; split <;> rfl
theorem cat_any (F T : Ba.SlS) (B : Nat) (w : World) (hF : F.At w) (hT : T.At w) (nF : F.A = none → F.c = 0) (nT : T.A = none → T.c = 0) (hf : F.n ≤ 20) (ht : T.n ≤ 20) (c0 : w.cell? ⟨B, 0, none⟩ = some (.slice F.A F.n F.c)) (c1 : w.cell? ⟨B, 1, none⟩ = some (.slice T.A T.n T.c)) : Calls Try.prog 19 #[.slice (some ⟨B, 0, none⟩) 2 2] w (RetL (Ba.lstS F.n F.X ++ Ba.lstS T.n T.X) w) :=
  concat_w F.A T.A F.n F.c F.b F.o T.n T.c T.b T.o F.X T.X B w c0 c1 (by omega) (by omega) (Lib.hid hF.hA) (Lib.hid hT.hA) (Lib.hid hF.hX) (Lib.hid hT.hX) nF nT

theorem cut_any (N : Ba.SlNode) (L : Ba.SlLink) (F T : Ba.SlS) (w : World) (hN : N.At w) (hL : L.At w) (hF : F.At w) (hT : T.At w) (nF : F.A = none → F.c = 0) (nT : T.A = none → T.c = 0) (hn12 : N.n ≤ 12) (hl20 : L.n ≤ 20) (hf : F.n ≤ 20) (ht : T.n ≤ 20) : Calls Try.prog 27 #[Ba.netVal N L, .slice F.A F.n F.c, .slice T.A T.n T.c] w (RetLE (Ba.cutR N L F T) (Ba.cutE N L F T) w) := by
  have HV := Lib.hid (fun W (hh : Gr w W) => netvalid_any N L W (hN.gr hh) (hL.gr hh))
  cases hv : Ba.netB N L
  · rw [hv] at HV
    have e : Ba.cutE N L F T = 1 := by unfold Ba.cutE; rw [if_pos hv]
    have r : Ba.cutR N L F T = [] := by unfold Ba.cutR; rw [e, if_neg (by decide)]
    rw [e, r]
    exact cut_v N.A L.A N.n N.c L.n L.c F T w HV
  rw [hv] at HV
  have HNd := fun (x : ByteArray) W (hh : Gr w W) => nodeno_any N L x W (hN.gr hh) (hL.gr hh)
  simp only [if_pos hv] at HNd
  have e0 : Ba.cutE N L F T = if (Ba.knoB N F && Ba.knoB N T) = true then 0 else 9 := by unfold Ba.cutE; rw [if_neg (by rw [hv]; decide)]
  refine cut_l N.A L.A N.n N.c L.n L.c F T w L.b L.o L.D (Lib.hid hL.hA) (Lib.hid fun k hk => (hL.hD k hk).1) (Lib.hid fun k hk => (hL.hD k hk).2.2.2.2.2.2.2.1) hl20 (fun x => Ba.nix N x) (Ba.lstS F.n F.X ++ Ba.lstS T.n T.X) _ _ (by rw [List.length_append, Ba.lstS_len, Ba.lstS_len]; omega) HV
    (Lib.hid fun B W hh c0 c1 => cat_any F T B W (hF.gr hh) (hT.gr hh) nF nT hf ht c0 c1)
    (Lib.hid (fun x W hh hneg => (HNd x W hh).mono fun e w' ⟨q1, q2⟩ => ⟨by rw [q1]; unfold Ba.fnd Ba.fndE; rw [if_pos hneg, if_pos hneg], q2⟩))
    (Lib.hid (fun x W hh hpos => (HNd x W hh).mono fun e w' ⟨q1, q2⟩ => ⟨by rw [q1]; unfold Ba.fnd Ba.fndE; rw [if_neg (by omega), if_neg (by omega)], q2⟩))
    (Lib.hid fun s h1 h2 i hi hx => ?_) (Lib.hid fun s h1 h2 hx => ?_)
    (Lib.hid fun x W hh => contains_any F x W (hF.gr hh)) (Lib.hid fun x W hh => contains_any T x W (hT.gr hh))
  · have e : Ba.cutE N L F T = 9 := by rw [e0, Ba.cat_no h1 h2 hi hx, if_neg (by decide)]
    exact ⟨e, by unfold Ba.cutR; rw [e, if_neg (by decide)]⟩
  · have e : Ba.cutE N L F T = 0 := by rw [e0, Ba.cat_all h1 h2 hx, if_pos rfl]
    exact ⟨e, by unfold Ba.cutR; rw [e, if_pos rfl]⟩
theorem rcut_any (N : Ba.SlNode) (L : Ba.SlLink) (F T : Ba.SlS) (w : World) (hN : N.At w) (hL : L.At w) (hF : F.At w) (hT : T.At w) (nF : F.A = none → F.c = 0) (nT : T.A = none → T.c = 0) (hn12 : N.n ≤ 12) (hl20 : L.n ≤ 20) (hf : F.n ≤ 20) (ht : T.n ≤ 20) : Calls Try.prog 28 #[Ba.netVal N L, .slice F.A F.n F.c, .slice T.A T.n T.c] w (RetLE (Ba.cutR N L F T) (Ba.cutE N L F T) w) := by
  have HV := Lib.hid (fun W (hh : Gr w W) => rnetvalid_any N L W (hN.gr hh) (hL.gr hh))
  cases hv : Ba.netB N L
  · rw [hv] at HV
    have e : Ba.cutE N L F T = 1 := by unfold Ba.cutE; rw [if_pos hv]
    have r : Ba.cutR N L F T = [] := by unfold Ba.cutR; rw [e, if_neg (by decide)]
    rw [e, r]
    exact rcut_v N.A L.A N.n N.c L.n L.c F T w HV
  rw [hv] at HV
  have e0 : Ba.cutE N L F T = if (Ba.knoB N F && Ba.knoB N T) = true then 0 else 9 := by unfold Ba.cutE; rw [if_neg (by rw [hv]; decide)]
  have H1 := fun W (hh : Gr w W) => rset_any N L F W (hN.gr hh) (hL.gr hh) (hF.gr hh) hn12 (by omega)
  have H2 := fun W (hh : Gr w W) => rset_any N L T W (hN.gr hh) (hL.gr hh) (hT.gr hh) hn12 (by omega)
  cases hk : (Ba.knoB N F && Ba.knoB N T)
  · have e : Ba.cutE N L F T = 9 := by rw [e0, hk, if_neg (by decide)]
    have r : Ba.cutR N L F T = [] := by unfold Ba.cutR; rw [e, if_neg (by decide)]
    rw [e, r]
    have hs : Ba.setE N F = 9 ∨ Ba.setE N T = 9 := by
      rw [Bool.and_eq_false_iff] at hk
      rcases hk with h | h
      · exact Or.inl (eq_of_beq (by rw [Ba.setE_kno, h]; rfl))
      · exact Or.inr (eq_of_beq (by rw [Ba.setE_kno, h]; rfl))
    exact rcut_n N.A L.A N.n N.c L.n L.c F T w _ _ hs HV (Lib.hid fun W hh => (H1 W hh).mono fun e w' ⟨s, q1, _, q3⟩ => ⟨s, q1, q3⟩) (Lib.hid fun W hh => (H2 W hh).mono fun e w' ⟨s, q1, _, q3⟩ => ⟨s, q1, q3⟩)
  · have e : Ba.cutE N L F T = 0 := by rw [e0, hk, if_pos rfl]
    have hk2 := hk
    rw [Bool.and_eq_true] at hk2
    have hx := fun k (hk' : k < L.n) => Ba.net_ends hv hk'
    have r : Ba.cutR N L F T = Ba.cutL (fun k => Ba.setX (Ba.ixs N F) F.n (Ba.fx N L k) && Ba.setX (Ba.ixs N T) T.n (Ba.tx N L k)) L.D L.n := by
      unfold Ba.cutR; rw [e, if_pos rfl]
      refine Ba.cutL_congr fun k hk' => ?_
      unfold Ba.cutP
      rw [Ba.set_has (hx k hk').1, Ba.set_has (hx k hk').2.2.1]
    rw [e, r]
    exact rcut_l N.A L.A N.n N.c L.n L.c F T w L.b L.o L.D (Lib.hid hL.hA) (Lib.hid fun k hk => (hL.hD k hk).1) (Lib.hid fun k hk => (hL.hD k hk).2.2.2.2.2.2.2.1) hl20 _ _ _ _ _ _ _ (by rw [Ba.setE_kno, hk2.1]; rfl) (by rw [Ba.setE_kno, hk2.2]; rfl) (by omega) HV
      (Lib.hid fun W hh => (H1 W hh).mono fun e w' ⟨s, q1, q2, q3⟩ => ⟨s, q1, q2 hk2.1, q3⟩) (Lib.hid fun W hh => (H2 W hh).mono fun e w' ⟨s, q1, q2, q3⟩ => ⟨s, q1, q2 hk2.2, q3⟩)
      (Lib.hid fun k hk' W hh => show Calls Try.prog 15 #[Ba.netVal N L, .string (L.D k).fr] W fun e w' => e = .returned (.int .i64 (Ba.fx N L k : Nat)) ∧ Gr W w' from (hx k hk').1 ▸ rfindnode_any N L.A L.n L.c (L.D k).fr W (hN.gr hh))
      (Lib.hid fun k hk' W hh => show Calls Try.prog 15 #[Ba.netVal N L, .string (L.D k).tt] W fun e w' => e = .returned (.int .i64 (Ba.tx N L k : Nat)) ∧ Gr W w' from (hx k hk').2.2.1 ▸ rfindnode_any N L.A L.n L.c (L.D k).tt W (hN.gr hh))
      (Lib.hid fun k hk' => ⟨(hx k hk').2.1, (hx k hk').2.2.2⟩) (Lib.hid fun k _ => rfl)

set_option maxRecDepth 100000 in
set_option maxHeartbeats 4000000 in
theorem nodes_h (A A2 FA TA PA : Option Addr) (n c n2 c2 fn fc tn tc pn pc : Nat) (t : ByteArray) (bf af inf : Int) (w : World) (HA : Hid (∀ W, Gr w W → Calls Try.prog 8 #[] W fun e w' => e = .returned (.bool true) ∧ Gr W w')) (HH : Hid (∀ W, Gr w W → Calls Try.prog 20 #[.agg #[.slice A n c, .slice A2 n2 c2]] W fun e w' => e = .returned (.bool true) ∧ Gr W w')) : Calls Try.prog 7 #[.agg #[.slice A n c, .slice A2 n2 c2], .slice FA fn fc, .slice TA tn tc, .string t, .int .i64 bf, .int .i64 af, .int .i64 inf, .slice PA pn pc] w (fun e w' => e = .returned (.bool true) ∧ Gr w w') := by
  go_enter Try.func7, Try.ntmps7
  go_wp2_with fail
  (first | refine name_world ?_ | refine (show (∀ W, W = _ → Calls _ _ _ W _) → Calls _ _ _ _ _ from fun h => h _ rfl) ?_); intro W1 hW1
  have g1 : Gr w W1 := by rw [hW1]; exact gr_auto
  have k1_0 : W1.cell? ⟨w.heap.size, 0, none⟩ = some (.slice A n c) := by rw [hW1]; first | (simp [go_sem, *]; done) | (refine Gr.at ?_ (by assumption); exact gr_auto)
  have b1_0 : w.heap.size < W1.heap.size := World.block_lt_of_cell? _ _ k1_0
  have k1_1 : W1.cell? ⟨w.heap.size, 1, none⟩ = some (.slice A2 n2 c2) := by rw [hW1]; first | (simp [go_sem, *]; done) | (refine Gr.at ?_ (by assumption); exact gr_auto)
  clear hW1
  refine (HA.out _ g1).mono ?_
  rintro e w2 ⟨rfl, hb2⟩
  have g2 := g1.trans hb2
  have k1_0 := Gr.at (w1 := w2) gr_auto k1_0; have k1_1 := Gr.at (w1 := w2) gr_auto k1_1
  go_wp2_with fail
  refine (HH.out _ g2).mono ?_
  rintro e w3 ⟨rfl, hb3⟩
  have g3 := g2.trans hb3
  have k1_0 := Gr.at (w1 := w3) gr_auto k1_0; have k1_1 := Gr.at (w1 := w3) gr_auto k1_1
  go_wp2_with fail
  go_ret
  exact ⟨rfl, gr_auto⟩

set_option maxRecDepth 100000 in
set_option maxHeartbeats 4000000 in
theorem nodes_0 (A A2 FA TA PA : Option Addr) (n c n2 c2 fn fc tn tc pn pc : Nat) (t : ByteArray) (bf af inf : Int) (w : World) (HA : Hid (∀ W, Gr w W → Calls Try.prog 8 #[] W fun e w' => e = .returned (.bool true) ∧ Gr W w')) (HH : Hid (∀ W, Gr w W → Calls Try.prog 20 #[.agg #[.slice A n c, .slice A2 n2 c2]] W fun e w' => e = .returned (.bool false) ∧ Gr W w')) (m1 : fn ≤ 9223372036854775807) (m2 : tn ≤ 9223372036854775807) (m3 : t.size ≤ 9223372036854775807) (m4 : pn ≤ 9223372036854775807)  (y0 : decide ((20 : Int) < (fn : Int)) = true) : Calls Try.prog 7 #[.agg #[.slice A n c, .slice A2 n2 c2], .slice FA fn fc, .slice TA tn tc, .string t, .int .i64 bf, .int .i64 af, .int .i64 inf, .slice PA pn pc] w (fun e w' => e = .returned (.bool true) ∧ Gr w w') := by
  go_enter Try.func7, Try.ntmps7
  go_wp2_with fail
  (first | refine name_world ?_ | refine (show (∀ W, W = _ → Calls _ _ _ W _) → Calls _ _ _ _ _ from fun h => h _ rfl) ?_); intro W1 hW1
  have g1 : Gr w W1 := by rw [hW1]; exact gr_auto
  have k1_0 : W1.cell? ⟨w.heap.size, 0, none⟩ = some (.slice A n c) := by rw [hW1]; first | (simp [go_sem, *]; done) | (refine Gr.at ?_ (by assumption); exact gr_auto)
  have b1_0 : w.heap.size < W1.heap.size := World.block_lt_of_cell? _ _ k1_0
  have k1_1 : W1.cell? ⟨w.heap.size, 1, none⟩ = some (.slice A2 n2 c2) := by rw [hW1]; first | (simp [go_sem, *]; done) | (refine Gr.at ?_ (by assumption); exact gr_auto)
  clear hW1
  refine (HA.out _ g1).mono ?_
  rintro e w2 ⟨rfl, hb2⟩
  have g2 := g1.trans hb2
  have k1_0 := Gr.at (w1 := w2) gr_auto k1_0; have k1_1 := Gr.at (w1 := w2) gr_auto k1_1
  go_wp2_with fail
  refine (HH.out _ g2).mono ?_
  rintro e w3 ⟨rfl, hb3⟩
  have g3 := g2.trans hb3
  have k1_0 := Gr.at (w1 := w3) gr_auto k1_0; have k1_1 := Gr.at (w1 := w3) gr_auto k1_1
  go_wp2_with fail
  go_ret
  exact ⟨rfl, gr_auto⟩

set_option maxRecDepth 100000 in
set_option maxHeartbeats 4000000 in
theorem nodes_1 (A A2 FA TA PA : Option Addr) (n c n2 c2 fn fc tn tc pn pc : Nat) (t : ByteArray) (bf af inf : Int) (w : World) (HA : Hid (∀ W, Gr w W → Calls Try.prog 8 #[] W fun e w' => e = .returned (.bool true) ∧ Gr W w')) (HH : Hid (∀ W, Gr w W → Calls Try.prog 20 #[.agg #[.slice A n c, .slice A2 n2 c2]] W fun e w' => e = .returned (.bool false) ∧ Gr W w')) (m1 : fn ≤ 9223372036854775807) (m2 : tn ≤ 9223372036854775807) (m3 : t.size ≤ 9223372036854775807) (m4 : pn ≤ 9223372036854775807) (y0 : decide ((20 : Int) < (fn : Int)) = false) (y1 : decide ((20 : Int) < (tn : Int)) = true) : Calls Try.prog 7 #[.agg #[.slice A n c, .slice A2 n2 c2], .slice FA fn fc, .slice TA tn tc, .string t, .int .i64 bf, .int .i64 af, .int .i64 inf, .slice PA pn pc] w (fun e w' => e = .returned (.bool true) ∧ Gr w w') := by
  go_enter Try.func7, Try.ntmps7
  go_wp2_with fail
  (first | refine name_world ?_ | refine (show (∀ W, W = _ → Calls _ _ _ W _) → Calls _ _ _ _ _ from fun h => h _ rfl) ?_); intro W1 hW1
  have g1 : Gr w W1 := by rw [hW1]; exact gr_auto
  have k1_0 : W1.cell? ⟨w.heap.size, 0, none⟩ = some (.slice A n c) := by rw [hW1]; first | (simp [go_sem, *]; done) | (refine Gr.at ?_ (by assumption); exact gr_auto)
  have b1_0 : w.heap.size < W1.heap.size := World.block_lt_of_cell? _ _ k1_0
  have k1_1 : W1.cell? ⟨w.heap.size, 1, none⟩ = some (.slice A2 n2 c2) := by rw [hW1]; first | (simp [go_sem, *]; done) | (refine Gr.at ?_ (by assumption); exact gr_auto)
  clear hW1
  refine (HA.out _ g1).mono ?_
  rintro e w2 ⟨rfl, hb2⟩
  have g2 := g1.trans hb2
  have k1_0 := Gr.at (w1 := w2) gr_auto k1_0; have k1_1 := Gr.at (w1 := w2) gr_auto k1_1
  go_wp2_with fail
  refine (HH.out _ g2).mono ?_
  rintro e w3 ⟨rfl, hb3⟩
  have g3 := g2.trans hb3
  have k1_0 := Gr.at (w1 := w3) gr_auto k1_0; have k1_1 := Gr.at (w1 := w3) gr_auto k1_1
  go_wp2_with fail
  go_ret
  exact ⟨rfl, gr_auto⟩

set_option maxRecDepth 100000 in
set_option maxHeartbeats 4000000 in
theorem nodes_2 (A A2 FA TA PA : Option Addr) (n c n2 c2 fn fc tn tc pn pc : Nat) (t : ByteArray) (bf af inf : Int) (w : World) (HA : Hid (∀ W, Gr w W → Calls Try.prog 8 #[] W fun e w' => e = .returned (.bool true) ∧ Gr W w')) (HH : Hid (∀ W, Gr w W → Calls Try.prog 20 #[.agg #[.slice A n c, .slice A2 n2 c2]] W fun e w' => e = .returned (.bool false) ∧ Gr W w')) (m1 : fn ≤ 9223372036854775807) (m2 : tn ≤ 9223372036854775807) (m3 : t.size ≤ 9223372036854775807) (m4 : pn ≤ 9223372036854775807) (y0 : decide ((20 : Int) < (fn : Int)) = false) (y1 : decide ((20 : Int) < (tn : Int)) = false) (y2 : decide ((100 : Int) < (t.size : Int)) = true) : Calls Try.prog 7 #[.agg #[.slice A n c, .slice A2 n2 c2], .slice FA fn fc, .slice TA tn tc, .string t, .int .i64 bf, .int .i64 af, .int .i64 inf, .slice PA pn pc] w (fun e w' => e = .returned (.bool true) ∧ Gr w w') := by
  go_enter Try.func7, Try.ntmps7
  go_wp2_with fail
  (first | refine name_world ?_ | refine (show (∀ W, W = _ → Calls _ _ _ W _) → Calls _ _ _ _ _ from fun h => h _ rfl) ?_); intro W1 hW1
  have g1 : Gr w W1 := by rw [hW1]; exact gr_auto
  have k1_0 : W1.cell? ⟨w.heap.size, 0, none⟩ = some (.slice A n c) := by rw [hW1]; first | (simp [go_sem, *]; done) | (refine Gr.at ?_ (by assumption); exact gr_auto)
  have b1_0 : w.heap.size < W1.heap.size := World.block_lt_of_cell? _ _ k1_0
  have k1_1 : W1.cell? ⟨w.heap.size, 1, none⟩ = some (.slice A2 n2 c2) := by rw [hW1]; first | (simp [go_sem, *]; done) | (refine Gr.at ?_ (by assumption); exact gr_auto)
  clear hW1
  refine (HA.out _ g1).mono ?_
  rintro e w2 ⟨rfl, hb2⟩
  have g2 := g1.trans hb2
  have k1_0 := Gr.at (w1 := w2) gr_auto k1_0; have k1_1 := Gr.at (w1 := w2) gr_auto k1_1
  go_wp2_with fail
  refine (HH.out _ g2).mono ?_
  rintro e w3 ⟨rfl, hb3⟩
  have g3 := g2.trans hb3
  have k1_0 := Gr.at (w1 := w3) gr_auto k1_0; have k1_1 := Gr.at (w1 := w3) gr_auto k1_1
  go_wp2_with fail
  go_ret
  exact ⟨rfl, gr_auto⟩

set_option maxRecDepth 100000 in
set_option maxHeartbeats 4000000 in
theorem nodes_3 (A A2 FA TA PA : Option Addr) (n c n2 c2 fn fc tn tc pn pc : Nat) (t : ByteArray) (bf af inf : Int) (w : World) (HA : Hid (∀ W, Gr w W → Calls Try.prog 8 #[] W fun e w' => e = .returned (.bool true) ∧ Gr W w')) (HH : Hid (∀ W, Gr w W → Calls Try.prog 20 #[.agg #[.slice A n c, .slice A2 n2 c2]] W fun e w' => e = .returned (.bool false) ∧ Gr W w')) (m1 : fn ≤ 9223372036854775807) (m2 : tn ≤ 9223372036854775807) (m3 : t.size ≤ 9223372036854775807) (m4 : pn ≤ 9223372036854775807) (y0 : decide ((20 : Int) < (fn : Int)) = false) (y1 : decide ((20 : Int) < (tn : Int)) = false) (y2 : decide ((100 : Int) < (t.size : Int)) = false) (y3 : decide ((40 : Int) < (pn : Int)) = true) : Calls Try.prog 7 #[.agg #[.slice A n c, .slice A2 n2 c2], .slice FA fn fc, .slice TA tn tc, .string t, .int .i64 bf, .int .i64 af, .int .i64 inf, .slice PA pn pc] w (fun e w' => e = .returned (.bool true) ∧ Gr w w') := by
  go_enter Try.func7, Try.ntmps7
  go_wp2_with fail
  (first | refine name_world ?_ | refine (show (∀ W, W = _ → Calls _ _ _ W _) → Calls _ _ _ _ _ from fun h => h _ rfl) ?_); intro W1 hW1
  have g1 : Gr w W1 := by rw [hW1]; exact gr_auto
  have k1_0 : W1.cell? ⟨w.heap.size, 0, none⟩ = some (.slice A n c) := by rw [hW1]; first | (simp [go_sem, *]; done) | (refine Gr.at ?_ (by assumption); exact gr_auto)
  have b1_0 : w.heap.size < W1.heap.size := World.block_lt_of_cell? _ _ k1_0
  have k1_1 : W1.cell? ⟨w.heap.size, 1, none⟩ = some (.slice A2 n2 c2) := by rw [hW1]; first | (simp [go_sem, *]; done) | (refine Gr.at ?_ (by assumption); exact gr_auto)
  clear hW1
  refine (HA.out _ g1).mono ?_
  rintro e w2 ⟨rfl, hb2⟩
  have g2 := g1.trans hb2
  have k1_0 := Gr.at (w1 := w2) gr_auto k1_0; have k1_1 := Gr.at (w1 := w2) gr_auto k1_1
  go_wp2_with fail
  refine (HH.out _ g2).mono ?_
  rintro e w3 ⟨rfl, hb3⟩
  have g3 := g2.trans hb3
  have k1_0 := Gr.at (w1 := w3) gr_auto k1_0; have k1_1 := Gr.at (w1 := w3) gr_auto k1_1
  go_wp2_with fail
  go_ret
  exact ⟨rfl, gr_auto⟩

set_option maxRecDepth 100000 in
set_option maxHeartbeats 4000000 in
theorem nodes_l (A A2 FA TA PA : Option Addr) (n c n2 c2 fn fc tn tc pn pc : Nat) (t : ByteArray) (bf af inf : Int) (w : World) (R : List ByteArray) (ec rv re : Int) (HA : Hid (∀ W, Gr w W → Calls Try.prog 8 #[] W fun e w' => e = .returned (.bool true) ∧ Gr W w')) (HH : Hid (∀ W, Gr w W → Calls Try.prog 20 #[.agg #[.slice A n c, .slice A2 n2 c2]] W fun e w' => e = .returned (.bool false) ∧ Gr W w')) (m1 : fn ≤ 9223372036854775807) (m2 : tn ≤ 9223372036854775807) (m3 : t.size ≤ 9223372036854775807) (m4 : pn ≤ 9223372036854775807) (y0 : decide ((20 : Int) < (fn : Int)) = false) (y1 : decide ((20 : Int) < (tn : Int)) = false) (y2 : decide ((100 : Int) < (t.size : Int)) = false) (y3 : decide ((40 : Int) < (pn : Int)) = false) (H1 : Hid (∀ W, Gr w W → Calls Try.prog 27 #[.agg #[.slice A n c, .slice A2 n2 c2], .slice FA fn fc, .slice TA tn tc] W (RetLE R ec W))) (H2 : Hid (∀ W, Gr w W → Calls Try.prog 28 #[.agg #[.slice A n c, .slice A2 n2 c2], .slice FA fn fc, .slice TA tn tc] W (RetLE R ec W))) (H3 : Hid (∀ W, Gr w W → Calls Try.prog 18 #[.agg #[.slice A n c, .slice A2 n2 c2], .string t, .int .i64 bf, .int .i64 af, .int .i64 inf, .slice PA pn pc] W fun e w' => e = .returned (.tuple #[.int .i64 rv, .int .i64 re]) ∧ Gr W w')) (H4 : Hid (∀ W, Gr w W → Calls Try.prog 29 #[.agg #[.slice A n c, .slice A2 n2 c2], .string t, .int .i64 bf, .int .i64 af, .int .i64 inf, .slice PA pn pc] W fun e w' => e = .returned (.tuple #[.int .i64 rv, .int .i64 re]) ∧ Gr W w')) : Calls Try.prog 7 #[.agg #[.slice A n c, .slice A2 n2 c2], .slice FA fn fc, .slice TA tn tc, .string t, .int .i64 bf, .int .i64 af, .int .i64 inf, .slice PA pn pc] w (fun e w' => e = .returned (.bool true) ∧ Gr w w') := by
  go_enter Try.func7, Try.ntmps7
  go_wp2_with fail
  (first | refine name_world ?_ | refine (show (∀ W, W = _ → Calls _ _ _ W _) → Calls _ _ _ _ _ from fun h => h _ rfl) ?_); intro W1 hW1
  have g1 : Gr w W1 := by rw [hW1]; exact gr_auto
  have k1_0 : W1.cell? ⟨w.heap.size, 0, none⟩ = some (.slice A n c) := by rw [hW1]; first | (simp [go_sem, *]; done) | (refine Gr.at ?_ (by assumption); exact gr_auto)
  have b1_0 : w.heap.size < W1.heap.size := World.block_lt_of_cell? _ _ k1_0
  have k1_1 : W1.cell? ⟨w.heap.size, 1, none⟩ = some (.slice A2 n2 c2) := by rw [hW1]; first | (simp [go_sem, *]; done) | (refine Gr.at ?_ (by assumption); exact gr_auto)
  clear hW1
  refine (HA.out _ g1).mono ?_
  rintro e w2 ⟨rfl, hb2⟩
  have g2 := g1.trans hb2
  have k1_0 := Gr.at (w1 := w2) gr_auto k1_0; have k1_1 := Gr.at (w1 := w2) gr_auto k1_1
  go_wp2_with fail
  refine (HH.out _ g2).mono ?_
  rintro e w3 ⟨rfl, hb3⟩
  have g3 := g2.trans hb3
  have k1_0 := Gr.at (w1 := w3) gr_auto k1_0; have k1_1 := Gr.at (w1 := w3) gr_auto k1_1
  go_wp2_with fail
  refine (H1.out _ g3).mono ?_
  rintro e w4 ⟨s, rfl, s1, s2, s3, hb4⟩
  have g4 := g3.trans hb4
  have k1_0 := Gr.at (w1 := w4) gr_auto k1_0; have k1_1 := Gr.at (w1 := w4) gr_auto k1_1
  have HS := Lib.hid (And.intro s1 (And.intro s2 s3))
  clear s1 s2 s3
  go_wp2_with fail
  refine (H2.out _ g4).mono ?_
  rintro e w5 ⟨u, rfl, s1, s2, s3, hb5⟩
  have g5 := g4.trans hb5
  have k1_0 := Gr.at (w1 := w5) gr_auto k1_0; have k1_1 := Gr.at (w1 := w5) gr_auto k1_1
  have HU := Lib.hid (And.intro s1 (And.intro s2 s3))
  clear s1 s2 s3
  go_wp2_with fail
  refine (H3.out _ g5).mono ?_
  rintro e w6 ⟨rfl, hb6⟩
  have g6 := g5.trans hb6
  have k1_0 := Gr.at (w1 := w6) gr_auto k1_0; have k1_1 := Gr.at (w1 := w6) gr_auto k1_1
  go_wp2_with fail
  refine (H4.out _ g6).mono ?_
  rintro e w7 ⟨rfl, hb7⟩
  have g7 := g6.trans hb7
  have k1_0 := Gr.at (w1 := w7) gr_auto k1_0; have k1_1 := Gr.at (w1 := w7) gr_auto k1_1
  clear k1_0 k1_1 H1 H2 H3 H4 HA HH
  have HE := Lib.hid (fun W (hh : Gr w7 W) => equal_any s u W (HS.out.1.gr (((hb5.trans hb6).trans hb7).trans hh)) (HU.out.1.gr ((hb6.trans hb7).trans hh)) (HS.out.2.1.trans HU.out.2.1.symm) (fun i hi => Option.some.inj ((HS.out.2.2 i hi).symm.trans (HU.out.2.2 i (by rw [HU.out.2.1, ← HS.out.2.1]; exact hi)))))
  clear HS HU
  go_wp2_with fail
  refine (HE.out _ gr_auto).mono ?_
  rintro e w8 ⟨rfl, hb8⟩
  have g8 := g7.trans hb8
  go_wp2_with fail
  go_ret
  exact ⟨rfl, gr_auto⟩

theorem nodes_law (N : Ba.SlNode) (L : Ba.SlLink) (F T : Ba.SlS) (t : ByteArray) (bf af inf : Int) (P : Ba.SlI) (w : World) (hN : N.At w) (hL : L.At w) (hF : F.At w ∧ (F.A = none → F.c = 0)) (hT : T.At w ∧ (T.A = none → T.c = 0)) (hsz : t.size ≤ 9223372036854775807) (hb : Ba.i64 bf) (ha : Ba.i64 af) (hi : Ba.i64 inf) (hP : P.At w) : Calls Try.prog 7 #[Ba.netVal N L, .slice F.A F.n F.c, .slice T.A T.n T.c, .string t, .int .i64 bf, .int .i64 af, .int .i64 inf, .slice P.A P.n P.c] w (fun e w' => e = .returned (.bool true) ∧ Gr w w') := by
  have HA := Lib.hid (fun W (_ : Gr w W) => awake_any W)
  have HH := Lib.hid (fun W (hh : Gr w W) => heavy_any N L W (hN.gr hh) (hL.gr hh))
  have m1 := Nat.le_trans hF.1.hc hF.1.hb; have m2 := Nat.le_trans hT.1.hc hT.1.hb; have m4 := Nat.le_trans hP.hc hP.hb
  cases hq : Ba.heavyB N L
  rotate_left
  · rw [hq] at HH
    exact nodes_h N.A L.A F.A T.A P.A N.n N.c L.n L.c F.n F.c T.n T.c P.n P.c t bf af inf w HA HH
  rw [hq] at HH
  have hz := Ba.heavy_no hq
  cases y0 : decide ((20 : Int) < (F.n : Int))
  rotate_left
  · exact nodes_0 N.A L.A F.A T.A P.A N.n N.c L.n L.c F.n F.c T.n T.c P.n P.c t bf af inf w HA HH m1 m2 hsz m4 y0
  cases y1 : decide ((20 : Int) < (T.n : Int))
  rotate_left
  · exact nodes_1 N.A L.A F.A T.A P.A N.n N.c L.n L.c F.n F.c T.n T.c P.n P.c t bf af inf w HA HH m1 m2 hsz m4 y0 y1
  cases y2 : decide ((100 : Int) < (t.size : Int))
  rotate_left
  · exact nodes_2 N.A L.A F.A T.A P.A N.n N.c L.n L.c F.n F.c T.n T.c P.n P.c t bf af inf w HA HH m1 m2 hsz m4 y0 y1 y2
  cases y3 : decide ((40 : Int) < (P.n : Int))
  rotate_left
  · exact nodes_3 N.A L.A F.A T.A P.A N.n N.c L.n L.c F.n F.c T.n T.c P.n P.c t bf af inf w HA HH m1 m2 hsz m4 y0 y1 y2 y3
  have z0 := of_decide_eq_false y0; have z1 := of_decide_eq_false y1
  exact nodes_l N.A L.A F.A T.A P.A N.n N.c L.n L.c F.n F.c T.n T.c P.n P.c t bf af inf w _ _ _ _ HA HH m1 m2 hsz m4 y0 y1 y2 y3
    (Lib.hid fun W hh => cut_any N L F T W (hN.gr hh) (hL.gr hh) (hF.1.gr hh) (hT.1.gr hh) hF.2 hT.2 hz.1 hz.2 (by omega) (by omega))
    (Lib.hid fun W hh => rcut_any N L F T W (hN.gr hh) (hL.gr hh) (hF.1.gr hh) (hT.1.gr hh) hF.2 hT.2 hz.1 hz.2 (by omega) (by omega))
    (Lib.hid fun W hh => resid_any N L t bf af inf P W (hN.gr hh) (hL.gr hh) (hP.gr hh) hsz hb ha hi hz.1 hz.2)
    (Lib.hid fun W hh => rresid_any N L t bf af inf P W (hN.gr hh) (hL.gr hh) (hP.gr hh) hsz hb ha hi hz.1 hz.2)
end Go.Proofs.Ythkmgnaeponfcaa

