/-
  Law 36: awake. (Printed by mkwake.py.)
-/
import Derived.Test.YtkgbbcmgfbipaaaGreatDoorSm38
import Derived.Test.YtkgbbcmgfbipaaaGreatDoorSm47
import Derived.Test.YtkgbbcmgfbipaaaGreatDoorSm48

set_option linter.unusedVariables false
set_option linter.unusedSimpArgs false
namespace Go.Proofs.YtkgbbcmgfbipaaaGreatDoor
open Go.RowKit
namespace Ba
theorem eqS_fun : eqS = fun a b => (a.data.toList == b.data.toList) := by
  funext a b; unfold eqS; rw [Lib.toList_data, Lib.toList_data]
theorem ex_net (bt bn bl : Nat) : netB (exN bt bn) (exL bl) = true := by
  unfold netB nodeB linkB rlink rlA nix lix
  rw [eqS_fun]
  kernel_rfl
theorem ex_tx (bt bn bl : Nat) : tx (exN bt bn) (exL bl) = fun _ => 1 := by
  funext k
  unfold tx nix
  rw [eqS_fun]
  kernel_rfl
theorem ex_fx (bt bn bl : Nat) : fx (exN bt bn) (exL bl) = fun _ => 0 := by
  funext k
  unfold fx nix
  rw [eqS_fun]
  kernel_rfl
theorem ex_step (bt bn bl : Nat) (s1 s2 : State) (I : SlI) (g : Ledger) (x : Int) (h1 : StIs s1 100) (h2 : StIs s2 70) (hI : I.n = 2 ∧ I.X = fun i => if i = 0 then 20 else 0) (hg : g.inn = 20 ∧ g.out = x ∧ g.ps.n = 1 ∧ g.ps.X = fun _ => x) :
    (x = 50 → stepB (exN bt bn) (exL bl) s1 s2 I g = true ∧ stepL (exN bt bn) (exL bl) s1 s2 I g = 0 ∧ givE (exN bt bn) (exL bl) s1 s2 I g = 0) ∧ (x = 40 → stepB (exN bt bn) (exL bl) s1 s2 I g = false ∧ stepL (exN bt bn) (exL bl) s1 s2 I g = 10 ∧ givE (exN bt bn) (exL bl) s1 s2 I g = 0) := by
  obtain ⟨⟨A1, n1, c1, b1, o1, X1⟩, ⟨A2, n2, c2, b2, o2, X2⟩, ⟨A3, n3, c3, b3, o3, X3⟩, ⟨A4, n4, c4, b4, o4, X4⟩⟩ := s1
  obtain ⟨⟨A5, n5, c5, b5, o5, X5⟩, ⟨A6, n6, c6, b6, o6, X6⟩, ⟨A7, n7, c7, b7, o7, X7⟩, ⟨A8, n8, c8, b8, o8, X8⟩⟩ := s2
  obtain ⟨A9, n9, c9, b9, o9, X9⟩ := I
  obtain ⟨inn, out, ⟨A, n, c, b, o, X⟩⟩ := g
  obtain ⟨⟨r1, r2⟩, ⟨r3, r4⟩, ⟨r5, r6⟩, ⟨r7, r8⟩⟩ := h1
  obtain ⟨⟨r9, r10⟩, ⟨r11, r12⟩, ⟨r13, r14⟩, ⟨r15, r16⟩⟩ := h2
  obtain ⟨r17, r18⟩ := hI
  obtain ⟨r19, r20, r21, r22⟩ := hg
  simp only at *
  subst r1 r2 r3 r4 r5 r6 r7 r8 r9 r10 r11 r12 r13 r14 r15 r16 r17 r18 r19 r20 r21 r22
  have hn := ex_net bt bn bl
  have ht := ex_tx bt bn bl
  constructor
  · rintro rfl
    refine ⟨?_, ?_, ?_⟩
    · unfold stepB okB givE vs lostI lkL; rw [hn, ht]; kernel_rfl
    · unfold stepL givE vs; rw [hn]; kernel_rfl
    · unfold givE vs; rw [hn]; kernel_rfl
  · rintro rfl
    refine ⟨?_, ?_, ?_⟩
    · unfold stepB okB givE vs lostI lkL; rw [hn, ht]; kernel_rfl
    · unfold stepL givE vs; rw [hn]; kernel_rfl
    · unfold givE vs; rw [hn]; kernel_rfl
theorem ex_ixs (bt bn : Nat) (T : SlS) (hT : T.X = fun _ => ⟨#[97]⟩) : ixs (exN bt bn) T = fun _ => 0 := by
  funext k
  unfold ixs nix
  rw [eqS_fun, hT]
  kernel_rfl
theorem ex_part (bt bn bl : Nat) (s1 s2 : State) (I : SlI) (g : Ledger) (T : SlS) (h1 : StIs s1 100) (h2 : StIs s2 70) (hI : I.n = 2 ∧ I.X = fun i => if i = 0 then 20 else 0) (hg : g.inn = 20 ∧ g.out = 50 ∧ g.ps.n = 1 ∧ g.ps.X = fun _ => 50) (hT : T.n = 1 ∧ T.X = fun _ => ⟨#[97]⟩) :
    partR (exN bt bn) (exL bl) s1 s2 I g T = 0 ∧ partE (exN bt bn) (exL bl) s1 s2 I g T = 0 := by
  have he := ((ex_step bt bn bl s1 s2 I g 50 h1 h2 hI hg).1 rfl).2.2
  have hx := ex_ixs bt bn T hT.2
  have hs : setE (exN bt bn) T = 0 := by
    unfold setE knoB; rw [hx, hT.1]; kernel_rfl
  unfold partR partE
  rw [if_pos he, if_pos he, if_pos hs]
  refine ⟨?_, hs⟩
  rw [hx, hT.1]
  obtain ⟨⟨A1, n1, c1, b1, o1, X1⟩, ⟨A2, n2, c2, b2, o2, X2⟩, ⟨A3, n3, c3, b3, o3, X3⟩, ⟨A4, n4, c4, b4, o4, X4⟩⟩ := s1
  obtain ⟨⟨A5, n5, c5, b5, o5, X5⟩, ⟨A6, n6, c6, b6, o6, X6⟩, ⟨A7, n7, c7, b7, o7, X7⟩, ⟨A8, n8, c8, b8, o8, X8⟩⟩ := s2
  obtain ⟨A9, n9, c9, b9, o9, X9⟩ := I
  obtain ⟨inn, out, ⟨A, n, c, b, o, X⟩⟩ := g
  obtain ⟨⟨r1, r2⟩, ⟨r3, r4⟩, ⟨r5, r6⟩, ⟨r7, r8⟩⟩ := h1
  obtain ⟨⟨r9, r10⟩, ⟨r11, r12⟩, ⟨r13, r14⟩, ⟨r15, r16⟩⟩ := h2
  obtain ⟨r17, r18⟩ := hI
  obtain ⟨r19, r20, r21, r22⟩ := hg
  clear he hs
  simp only at *
  subst r1 r2 r3 r4 r5 r6 r7 r8 r9 r10 r11 r12 r13 r14 r15 r16 r17 r18 r19 r20 r21 r22
  unfold resI lostI lkL lkT
  rw [ex_tx, ex_fx]
  kernel_rfl
end Ba
set_option maxRecDepth 100000 in
set_option maxHeartbeats 4000000 in
theorem awake_any (w : World) : Calls Tryz.prog 4 #[] w fun e w' => e = .returned (.bool true) ∧ Gr w w' := by
  have HS := Lib.hid (fun W => show Calls Tryz.prog 17 #[.int .i64 100, .int .i64 70] W fun e w' => ∃ (bt bn bl : Nat) (s1 s2 : Ba.State), e = .returned (.tuple #[.agg #[.slice (some ⟨bn, 0, none⟩) 2 2, .slice (some ⟨bl, 0, none⟩) 1 1], .agg #[.slice s1.vs.A s1.vs.n s1.vs.c, .slice s1.ps.A s1.ps.n s1.ps.c, .slice s1.st.A s1.st.n s1.st.c, .slice s1.on.A s1.on.n s1.on.c], .agg #[.slice s2.vs.A s2.vs.n s2.vs.c, .slice s2.ps.A s2.ps.n s2.ps.c, .slice s2.st.A s2.st.n s2.st.c, .slice s2.on.A s2.on.n s2.on.c]]) ∧ (Ba.exN bt bn).At w' ∧ (Ba.exL bl).At w' ∧ s1.Ok w' ∧ s2.Ok w' ∧ Ba.StIs s1 100 ∧ Ba.StIs s2 70 ∧ Gr W w' from small_any 100 70 W (Ba.i64_small (by omega)) (Ba.i64_small (by omega)))
  go_enter Tryz.func4, Tryz.ntmps4
  go_wp2_with fail
  refine (HS.out _).mono ?_
  rintro e w1 ⟨bt, bn, bl, s1, s2, rfl, hN, hL, o1, o2, i1, i2, g1⟩
  go_wp2_with fail
  (first | refine name_world ?_ | refine (show (∀ W, W = _ → Calls _ _ _ W _) → Calls _ _ _ _ _ from fun h => h _ rfl) ?_); intro W2 hW2
  have g2 : Gr w W2 := by rw [hW2]; exact gr_auto
  have gb2_w1 : Gr w1 W2 := by (try clear g2); rw [hW2]; exact gr_auto
  have k2_0 : W2.cell? ⟨w1.heap.size, 0, none⟩ = some (.slice (some ⟨bn, 0, none⟩) 2 2) := by rw [hW2]; first | (simp [go_sem, *]; done) | (refine Gr.at ?_ (by assumption); exact gr_auto)
  have b2_0 : w1.heap.size < W2.heap.size := World.block_lt_of_cell? _ _ k2_0
  have k2_1 : W2.cell? ⟨w1.heap.size, 1, none⟩ = some (.slice (some ⟨bl, 0, none⟩) 1 1) := by rw [hW2]; first | (simp [go_sem, *]; done) | (refine Gr.at ?_ (by assumption); exact gr_auto)
  have k2_2 : W2.cell? ⟨w1.heap.size + 1, 0, none⟩ = some (.slice s1.vs.A s1.vs.n s1.vs.c) := by rw [hW2]; first | (simp [go_sem, *]; done) | (refine Gr.at ?_ (by assumption); exact gr_auto)
  have b2_2 : w1.heap.size + 1 < W2.heap.size := World.block_lt_of_cell? _ _ k2_2
  have k2_3 : W2.cell? ⟨w1.heap.size + 1, 1, none⟩ = some (.slice s1.ps.A s1.ps.n s1.ps.c) := by rw [hW2]; first | (simp [go_sem, *]; done) | (refine Gr.at ?_ (by assumption); exact gr_auto)
  have k2_4 : W2.cell? ⟨w1.heap.size + 1, 2, none⟩ = some (.slice s1.st.A s1.st.n s1.st.c) := by rw [hW2]; first | (simp [go_sem, *]; done) | (refine Gr.at ?_ (by assumption); exact gr_auto)
  have k2_5 : W2.cell? ⟨w1.heap.size + 1, 3, none⟩ = some (.slice s1.on.A s1.on.n s1.on.c) := by rw [hW2]; first | (simp [go_sem, *]; done) | (refine Gr.at ?_ (by assumption); exact gr_auto)
  have k2_6 : W2.cell? ⟨w1.heap.size + 2, 0, none⟩ = some (.slice s2.vs.A s2.vs.n s2.vs.c) := by rw [hW2]; first | (simp [go_sem, *]; done) | (refine Gr.at ?_ (by assumption); exact gr_auto)
  have b2_6 : w1.heap.size + 2 < W2.heap.size := World.block_lt_of_cell? _ _ k2_6
  have k2_7 : W2.cell? ⟨w1.heap.size + 2, 1, none⟩ = some (.slice s2.ps.A s2.ps.n s2.ps.c) := by rw [hW2]; first | (simp [go_sem, *]; done) | (refine Gr.at ?_ (by assumption); exact gr_auto)
  have k2_8 : W2.cell? ⟨w1.heap.size + 2, 2, none⟩ = some (.slice s2.st.A s2.st.n s2.st.c) := by rw [hW2]; first | (simp [go_sem, *]; done) | (refine Gr.at ?_ (by assumption); exact gr_auto)
  have k2_9 : W2.cell? ⟨w1.heap.size + 2, 3, none⟩ = some (.slice s2.on.A s2.on.n s2.on.c) := by rw [hW2]; first | (simp [go_sem, *]; done) | (refine Gr.at ?_ (by assumption); exact gr_auto)
  have k2_10 : W2.cell? ⟨w1.heap.size + 1 + 1 + 1, 0, none⟩ = some (.int .i64 20) := by rw [hW2]; first | (simp [go_sem, *]; done) | (refine Gr.at ?_ (by assumption); exact gr_auto)
  have b2_10 : w1.heap.size + 1 + 1 + 1 < W2.heap.size := World.block_lt_of_cell? _ _ k2_10
  have k2_11 : W2.cell? ⟨w1.heap.size + 1 + 1 + 1, 1, none⟩ = some (.int .i64 0) := by rw [hW2]; first | (simp [go_sem, *]; done) | (refine Gr.at ?_ (by assumption); exact gr_auto)
  have k2_12 : W2.cell? ⟨w1.heap.size + 1 + 1 + 1 + 1, 0, none⟩ = some (.int .i64 50) := by rw [hW2]; first | (simp [go_sem, *]; done) | (refine Gr.at ?_ (by assumption); exact gr_auto)
  have b2_12 : w1.heap.size + 1 + 1 + 1 + 1 < W2.heap.size := World.block_lt_of_cell? _ _ k2_12
  clear hW2
  have HI : Ba.SlI.At W2 ⟨some ⟨w1.heap.size + 1 + 1 + 1, 0, none⟩, 2, 2, w1.heap.size + 1 + 1 + 1, 0, fun i => if i = 0 then 20 else 0⟩ := at_two k2_10 k2_11 (Ba.i64_small (by omega)) (Ba.i64_small (by omega))
  have HG : Ba.Ledger.Ok W2 ⟨20, 50, ⟨some ⟨w1.heap.size + 1 + 1 + 1 + 1, 0, none⟩, 1, 1, w1.heap.size + 1 + 1 + 1 + 1, 0, fun _ => 50⟩⟩ := ⟨Ba.i64_small (by simp), Ba.i64_small (by simp), at_same fun i hi => ⟨by (obtain rfl : i = 0 := (by omega)); exact k2_12, Ba.i64_small (by omega)⟩⟩
  obtain ⟨e1, e2, e3⟩ := (Ba.ex_step bt bn bl s1 s2 ⟨some ⟨w1.heap.size + 1 + 1 + 1, 0, none⟩, 2, 2, w1.heap.size + 1 + 1 + 1, 0, fun i => if i = 0 then 20 else 0⟩ ⟨20, 50, ⟨some ⟨w1.heap.size + 1 + 1 + 1 + 1, 0, none⟩, 1, 1, w1.heap.size + 1 + 1 + 1 + 1, 0, fun _ => 50⟩⟩ 50 i1 i2 ⟨rfl, rfl⟩ ⟨rfl, rfl, rfl, rfl⟩).1 rfl
  have HC := step_any (Ba.exN bt bn) (Ba.exL bl) s1 s2 ⟨some ⟨w1.heap.size + 1 + 1 + 1, 0, none⟩, 2, 2, w1.heap.size + 1 + 1 + 1, 0, fun i => if i = 0 then 20 else 0⟩ ⟨20, 50, ⟨some ⟨w1.heap.size + 1 + 1 + 1 + 1, 0, none⟩, 1, 1, w1.heap.size + 1 + 1 + 1 + 1, 0, fun _ => 50⟩⟩ W2 (hN.gr gb2_w1) (hL.gr gb2_w1) (o1.gr gb2_w1) (o2.gr gb2_w1) HI HG (by show 2 ≤ 12; omega) (by show 1 ≤ 20; omega)
  rw [e1, e2, e3] at HC
  clear e1 e2 e3 HI HG
  refine HC.mono ?_
  rintro e w3 ⟨rfl, hb3⟩
  clear HC
  have g3 := g2.trans hb3
  have gb3 := gb2_w1.trans hb3
  have c0 := Gr.at hb3 k2_0
  have c1 := Gr.at hb3 k2_1
  have c2 := Gr.at hb3 k2_2
  have c3 := Gr.at hb3 k2_3
  have c4 := Gr.at hb3 k2_4
  have c5 := Gr.at hb3 k2_5
  have c6 := Gr.at hb3 k2_6
  have c7 := Gr.at hb3 k2_7
  have c8 := Gr.at hb3 k2_8
  have c9 := Gr.at hb3 k2_9
  clear k2_0 k2_1 k2_2 k2_3 k2_4 k2_5 k2_6 k2_7 k2_8 k2_9 k2_10 k2_11 k2_12
  go_wp2_with fail
  (first | refine name_world ?_ | refine (show (∀ W, W = _ → Calls _ _ _ W _) → Calls _ _ _ _ _ from fun h => h _ rfl) ?_); intro W4 hW4
  have g4 : Gr w W4 := by rw [hW4]; exact gr_auto
  have gb4_w1 : Gr w1 W4 := by (try clear g4); rw [hW4]; exact gr_auto
  have k4_0 : W4.cell? ⟨w1.heap.size, 0, none⟩ = some (.slice (some ⟨bn, 0, none⟩) 2 2) := by rw [hW4]; first | (simp [go_sem, *]; done) | (refine Gr.at ?_ (by assumption); exact gr_auto)
  have b4_0 : w1.heap.size < W4.heap.size := World.block_lt_of_cell? _ _ k4_0
  have k4_1 : W4.cell? ⟨w1.heap.size, 1, none⟩ = some (.slice (some ⟨bl, 0, none⟩) 1 1) := by rw [hW4]; first | (simp [go_sem, *]; done) | (refine Gr.at ?_ (by assumption); exact gr_auto)
  have k4_2 : W4.cell? ⟨w1.heap.size + 1, 0, none⟩ = some (.slice s1.vs.A s1.vs.n s1.vs.c) := by rw [hW4]; first | (simp [go_sem, *]; done) | (refine Gr.at ?_ (by assumption); exact gr_auto)
  have b4_2 : w1.heap.size + 1 < W4.heap.size := World.block_lt_of_cell? _ _ k4_2
  have k4_3 : W4.cell? ⟨w1.heap.size + 1, 1, none⟩ = some (.slice s1.ps.A s1.ps.n s1.ps.c) := by rw [hW4]; first | (simp [go_sem, *]; done) | (refine Gr.at ?_ (by assumption); exact gr_auto)
  have k4_4 : W4.cell? ⟨w1.heap.size + 1, 2, none⟩ = some (.slice s1.st.A s1.st.n s1.st.c) := by rw [hW4]; first | (simp [go_sem, *]; done) | (refine Gr.at ?_ (by assumption); exact gr_auto)
  have k4_5 : W4.cell? ⟨w1.heap.size + 1, 3, none⟩ = some (.slice s1.on.A s1.on.n s1.on.c) := by rw [hW4]; first | (simp [go_sem, *]; done) | (refine Gr.at ?_ (by assumption); exact gr_auto)
  have k4_6 : W4.cell? ⟨w1.heap.size + 2, 0, none⟩ = some (.slice s2.vs.A s2.vs.n s2.vs.c) := by rw [hW4]; first | (simp [go_sem, *]; done) | (refine Gr.at ?_ (by assumption); exact gr_auto)
  have b4_6 : w1.heap.size + 2 < W4.heap.size := World.block_lt_of_cell? _ _ k4_6
  have k4_7 : W4.cell? ⟨w1.heap.size + 2, 1, none⟩ = some (.slice s2.ps.A s2.ps.n s2.ps.c) := by rw [hW4]; first | (simp [go_sem, *]; done) | (refine Gr.at ?_ (by assumption); exact gr_auto)
  have k4_8 : W4.cell? ⟨w1.heap.size + 2, 2, none⟩ = some (.slice s2.st.A s2.st.n s2.st.c) := by rw [hW4]; first | (simp [go_sem, *]; done) | (refine Gr.at ?_ (by assumption); exact gr_auto)
  have k4_9 : W4.cell? ⟨w1.heap.size + 2, 3, none⟩ = some (.slice s2.on.A s2.on.n s2.on.c) := by rw [hW4]; first | (simp [go_sem, *]; done) | (refine Gr.at ?_ (by assumption); exact gr_auto)
  have k4_10 : W4.cell? ⟨w3.heap.size, 0, none⟩ = some (.int .i64 20) := by rw [hW4]; first | (simp [go_sem, *]; done) | (refine Gr.at ?_ (by assumption); exact gr_auto)
  have b4_10 : w3.heap.size < W4.heap.size := World.block_lt_of_cell? _ _ k4_10
  have k4_11 : W4.cell? ⟨w3.heap.size, 1, none⟩ = some (.int .i64 0) := by rw [hW4]; first | (simp [go_sem, *]; done) | (refine Gr.at ?_ (by assumption); exact gr_auto)
  have k4_12 : W4.cell? ⟨w3.heap.size + 1, 0, none⟩ = some (.int .i64 40) := by rw [hW4]; first | (simp [go_sem, *]; done) | (refine Gr.at ?_ (by assumption); exact gr_auto)
  have b4_12 : w3.heap.size + 1 < W4.heap.size := World.block_lt_of_cell? _ _ k4_12
  clear hW4
  have HI : Ba.SlI.At W4 ⟨some ⟨w3.heap.size, 0, none⟩, 2, 2, w3.heap.size, 0, fun i => if i = 0 then 20 else 0⟩ := at_two k4_10 k4_11 (Ba.i64_small (by omega)) (Ba.i64_small (by omega))
  have HG : Ba.Ledger.Ok W4 ⟨20, 40, ⟨some ⟨w3.heap.size + 1, 0, none⟩, 1, 1, w3.heap.size + 1, 0, fun _ => 40⟩⟩ := ⟨Ba.i64_small (by simp), Ba.i64_small (by simp), at_same fun i hi => ⟨by (obtain rfl : i = 0 := (by omega)); exact k4_12, Ba.i64_small (by omega)⟩⟩
  obtain ⟨e1, e2, e3⟩ := (Ba.ex_step bt bn bl s1 s2 ⟨some ⟨w3.heap.size, 0, none⟩, 2, 2, w3.heap.size, 0, fun i => if i = 0 then 20 else 0⟩ ⟨20, 40, ⟨some ⟨w3.heap.size + 1, 0, none⟩, 1, 1, w3.heap.size + 1, 0, fun _ => 40⟩⟩ 40 i1 i2 ⟨rfl, rfl⟩ ⟨rfl, rfl, rfl, rfl⟩).2 rfl
  have HC := step_any (Ba.exN bt bn) (Ba.exL bl) s1 s2 ⟨some ⟨w3.heap.size, 0, none⟩, 2, 2, w3.heap.size, 0, fun i => if i = 0 then 20 else 0⟩ ⟨20, 40, ⟨some ⟨w3.heap.size + 1, 0, none⟩, 1, 1, w3.heap.size + 1, 0, fun _ => 40⟩⟩ W4 (hN.gr gb4_w1) (hL.gr gb4_w1) (o1.gr gb4_w1) (o2.gr gb4_w1) HI HG (by show 2 ≤ 12; omega) (by show 1 ≤ 20; omega)
  rw [e1, e2, e3] at HC
  clear e1 e2 e3 HI HG
  refine HC.mono ?_
  rintro e w5 ⟨rfl, hb5⟩
  clear HC
  have g5 := g4.trans hb5
  have gb5 := gb4_w1.trans hb5
  have c0 := Gr.at hb5 k4_0
  have c1 := Gr.at hb5 k4_1
  have c2 := Gr.at hb5 k4_2
  have c3 := Gr.at hb5 k4_3
  have c4 := Gr.at hb5 k4_4
  have c5 := Gr.at hb5 k4_5
  have c6 := Gr.at hb5 k4_6
  have c7 := Gr.at hb5 k4_7
  have c8 := Gr.at hb5 k4_8
  have c9 := Gr.at hb5 k4_9
  clear k4_0 k4_1 k4_2 k4_3 k4_4 k4_5 k4_6 k4_7 k4_8 k4_9 k4_10 k4_11 k4_12
  have a0 := fun o => Gr.at (Gr.alloc (Gr.refl w5) o) c0
  have a1 := fun o => Gr.at (Gr.alloc (Gr.refl w5) o) c1
  have a2 := fun o => Gr.at (Gr.alloc (Gr.refl w5) o) c2
  have a3 := fun o => Gr.at (Gr.alloc (Gr.refl w5) o) c3
  have a4 := fun o => Gr.at (Gr.alloc (Gr.refl w5) o) c4
  have a5 := fun o => Gr.at (Gr.alloc (Gr.refl w5) o) c5
  have a6 := fun o => Gr.at (Gr.alloc (Gr.refl w5) o) c6
  have a7 := fun o => Gr.at (Gr.alloc (Gr.refl w5) o) c7
  have a8 := fun o => Gr.at (Gr.alloc (Gr.refl w5) o) c8
  have a9 := fun o => Gr.at (Gr.alloc (Gr.refl w5) o) c9
  go_wp2_with fail
  clear a0 a1 a2 a3 a4 a5 a6 a7 a8 a9
  (first | refine name_world ?_ | refine (show (∀ W, W = _ → Calls _ _ _ W _) → Calls _ _ _ _ _ from fun h => h _ rfl) ?_); intro W6 hW6
  have g6 : Gr w W6 := by rw [hW6]; exact gr_auto
  have gb6_w1 : Gr w1 W6 := by (try clear g6); rw [hW6]; exact gr_auto
  have k6_0 : W6.cell? ⟨w1.heap.size, 0, none⟩ = some (.slice (some ⟨bn, 0, none⟩) 2 2) := by rw [hW6]; first | (simp [go_sem, *]; done) | (refine Gr.at ?_ (by assumption); exact gr_auto)
  have b6_0 : w1.heap.size < W6.heap.size := World.block_lt_of_cell? _ _ k6_0
  have k6_1 : W6.cell? ⟨w1.heap.size, 1, none⟩ = some (.slice (some ⟨bl, 0, none⟩) 1 1) := by rw [hW6]; first | (simp [go_sem, *]; done) | (refine Gr.at ?_ (by assumption); exact gr_auto)
  have k6_2 : W6.cell? ⟨w1.heap.size + 1, 0, none⟩ = some (.slice s1.vs.A s1.vs.n s1.vs.c) := by rw [hW6]; first | (simp [go_sem, *]; done) | (refine Gr.at ?_ (by assumption); exact gr_auto)
  have b6_2 : w1.heap.size + 1 < W6.heap.size := World.block_lt_of_cell? _ _ k6_2
  have k6_3 : W6.cell? ⟨w1.heap.size + 1, 1, none⟩ = some (.slice s1.ps.A s1.ps.n s1.ps.c) := by rw [hW6]; first | (simp [go_sem, *]; done) | (refine Gr.at ?_ (by assumption); exact gr_auto)
  have k6_4 : W6.cell? ⟨w1.heap.size + 1, 2, none⟩ = some (.slice s1.st.A s1.st.n s1.st.c) := by rw [hW6]; first | (simp [go_sem, *]; done) | (refine Gr.at ?_ (by assumption); exact gr_auto)
  have k6_5 : W6.cell? ⟨w1.heap.size + 1, 3, none⟩ = some (.slice s1.on.A s1.on.n s1.on.c) := by rw [hW6]; first | (simp [go_sem, *]; done) | (refine Gr.at ?_ (by assumption); exact gr_auto)
  have k6_6 : W6.cell? ⟨w1.heap.size + 2, 0, none⟩ = some (.slice s2.vs.A s2.vs.n s2.vs.c) := by rw [hW6]; first | (simp [go_sem, *]; done) | (refine Gr.at ?_ (by assumption); exact gr_auto)
  have b6_6 : w1.heap.size + 2 < W6.heap.size := World.block_lt_of_cell? _ _ k6_6
  have k6_7 : W6.cell? ⟨w1.heap.size + 2, 1, none⟩ = some (.slice s2.ps.A s2.ps.n s2.ps.c) := by rw [hW6]; first | (simp [go_sem, *]; done) | (refine Gr.at ?_ (by assumption); exact gr_auto)
  have k6_8 : W6.cell? ⟨w1.heap.size + 2, 2, none⟩ = some (.slice s2.st.A s2.st.n s2.st.c) := by rw [hW6]; first | (simp [go_sem, *]; done) | (refine Gr.at ?_ (by assumption); exact gr_auto)
  have k6_9 : W6.cell? ⟨w1.heap.size + 2, 3, none⟩ = some (.slice s2.on.A s2.on.n s2.on.c) := by rw [hW6]; first | (simp [go_sem, *]; done) | (refine Gr.at ?_ (by assumption); exact gr_auto)
  have k6_10 : W6.cell? ⟨w5.heap.size, 0, none⟩ = some (.string ⟨#[97]⟩) := by rw [hW6]; first | (simp [go_sem, *]; done) | (refine Gr.at ?_ (by assumption); exact gr_auto)
  have b6_10 : w5.heap.size < W6.heap.size := World.block_lt_of_cell? _ _ k6_10
  have k6_11 : W6.cell? ⟨w5.heap.size + 1, 0, none⟩ = some (.int .i64 20) := by rw [hW6]; first | (simp [go_sem, *]; done) | (refine Gr.at ?_ (by assumption); exact gr_auto)
  have b6_11 : w5.heap.size + 1 < W6.heap.size := World.block_lt_of_cell? _ _ k6_11
  have k6_12 : W6.cell? ⟨w5.heap.size + 1, 1, none⟩ = some (.int .i64 0) := by rw [hW6]; first | (simp [go_sem, *]; done) | (refine Gr.at ?_ (by assumption); exact gr_auto)
  have k6_13 : W6.cell? ⟨w5.heap.size + 1 + 1, 0, none⟩ = some (.int .i64 50) := by rw [hW6]; first | (simp [go_sem, *]; done) | (refine Gr.at ?_ (by assumption); exact gr_auto)
  have b6_13 : w5.heap.size + 1 + 1 < W6.heap.size := World.block_lt_of_cell? _ _ k6_13
  clear hW6
  have HI : Ba.SlI.At W6 ⟨some ⟨w5.heap.size + 1, 0, none⟩, 2, 2, w5.heap.size + 1, 0, fun i => if i = 0 then 20 else 0⟩ := at_two k6_11 k6_12 (Ba.i64_small (by omega)) (Ba.i64_small (by omega))
  have HG : Ba.Ledger.Ok W6 ⟨20, 50, ⟨some ⟨w5.heap.size + 1 + 1, 0, none⟩, 1, 1, w5.heap.size + 1 + 1, 0, fun _ => 50⟩⟩ := ⟨Ba.i64_small (by simp), Ba.i64_small (by simp), at_same fun i hi => ⟨by (obtain rfl : i = 0 := (by omega)); exact k6_13, Ba.i64_small (by omega)⟩⟩
  have HT : Ba.SlS.At W6 ⟨some ⟨w5.heap.size, 0, none⟩, 1, 1, w5.heap.size, 0, fun _ => ⟨#[97]⟩⟩ := ⟨fun _ => rfl, by simp, by simp, fun i hi => ⟨by (obtain rfl : i = 0 := (by simp only at hi; omega)); exact k6_10, (by show 1 ≤ 9223372036854775807; omega)⟩⟩
  obtain ⟨e1, e2⟩ := Ba.ex_part bt bn bl s1 s2 ⟨some ⟨w5.heap.size + 1, 0, none⟩, 2, 2, w5.heap.size + 1, 0, fun i => if i = 0 then 20 else 0⟩ ⟨20, 50, ⟨some ⟨w5.heap.size + 1 + 1, 0, none⟩, 1, 1, w5.heap.size + 1 + 1, 0, fun _ => 50⟩⟩ ⟨some ⟨w5.heap.size, 0, none⟩, 1, 1, w5.heap.size, 0, fun _ => ⟨#[97]⟩⟩ i1 i2 ⟨rfl, rfl⟩ ⟨rfl, rfl, rfl, rfl⟩ ⟨rfl, rfl⟩
  have HC := part_any (Ba.exN bt bn) (Ba.exL bl) s1 s2 ⟨some ⟨w5.heap.size + 1, 0, none⟩, 2, 2, w5.heap.size + 1, 0, fun i => if i = 0 then 20 else 0⟩ ⟨20, 50, ⟨some ⟨w5.heap.size + 1 + 1, 0, none⟩, 1, 1, w5.heap.size + 1 + 1, 0, fun _ => 50⟩⟩ W6 (hN.gr gb6_w1) (hL.gr gb6_w1) (o1.gr gb6_w1) (o2.gr gb6_w1) HI HG _ HT (by show 2 ≤ 12; omega) (by show 1 ≤ 20; omega) (by show 1 ≤ 1000; omega)
  rw [e1, e2] at HC
  clear e1 e2 HI HG HT
  refine HC.mono ?_
  rintro e w7 ⟨rfl, hb7⟩
  clear HC
  have g7 := g6.trans hb7
  have gb7 := gb6_w1.trans hb7
  have c0 := Gr.at hb7 k6_0
  have c1 := Gr.at hb7 k6_1
  have c2 := Gr.at hb7 k6_2
  have c3 := Gr.at hb7 k6_3
  have c4 := Gr.at hb7 k6_4
  have c5 := Gr.at hb7 k6_5
  have c6 := Gr.at hb7 k6_6
  have c7 := Gr.at hb7 k6_7
  have c8 := Gr.at hb7 k6_8
  have c9 := Gr.at hb7 k6_9
  clear k6_0 k6_1 k6_2 k6_3 k6_4 k6_5 k6_6 k6_7 k6_8 k6_9 k6_10 k6_11 k6_12 k6_13
  go_wp2_with fail
  go_ret
  exact ⟨rfl, gr_auto⟩
end Go.Proofs.YtkgbbcmgfbipaaaGreatDoor
