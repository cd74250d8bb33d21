/-
  Surfaces: the law's example: square, awake, few.
-/
import Derived.Test.YtajhhplgcegodaaDoorMsBo
import Derived.Test.YtajhhplgcegodaaDoorMsEs
set_option linter.unusedVariables false
set_option linter.unusedSimpArgs false
namespace Go.Proofs.YtajhhplgcegodaaDoor
open Go.RowKit
namespace Ms
/-- The surface of the example, in two blocks. -/
def sq (b1 b2 : Nat) : Mesh := ⟨⟨some ⟨b1, 0, none⟩, 4, 4, b1, 0, fun i => match i with | 0 => ⟨0, 0, 0⟩ | 1 => ⟨1000, 0, 0⟩ | 2 => ⟨1000, 1000, 0⟩ | _ => ⟨0, 1000, 0⟩⟩, ⟨some ⟨b2, 0, none⟩, 2, 2, b2, 0, fun i => match i with | 0 => ⟨0, 1, 2, 0⟩ | _ => ⟨0, 2, 3, 0⟩⟩⟩
theorem sq_vl (b1 b2 : Nat) : vlB (sq b1 b2) = true := by kernel_rfl
theorem sq_tot (b1 b2 : Nat) : totI (sq b1 b2) 2 = 2000000 := by kernel_rfl
theorem sq_nb (b1 b2 : Nat) : nb (sq b1 b2) 0 0 = -1 ∧ nb (sq b1 b2) 0 1 = -1 ∧ nb (sq b1 b2) 0 2 = 1 ∧ nb (sq b1 b2) 1 0 = 0 ∧ nb (sq b1 b2) 1 1 = -1 ∧ nb (sq b1 b2) 1 2 = -1 := ⟨by kernel_rfl, by kernel_rfl, by kernel_rfl, by kernel_rfl, by kernel_rfl, by kernel_rfl⟩
theorem sq_bS (b1 b2 : Nat) : (bS (sq b1 b2) 6).2 = [[0, 1, 4, 5]] := by kernel_rfl
end Ms
theorem sq_stl (b1 b2 : Nat) : stl (Ms.sq b1 b2) [0, 1, 4, 5] = [.int .i64 0, .int .i64 1, .int .i64 2, .int .i64 3] := by kernel_rfl
set_option maxRecDepth 100000 in
set_option maxHeartbeats 4000000 in
theorem sq_any (w : World) : Calls Tryd.prog 50 #[] w fun e w' => ∃ b1 b2, e = .returned (Ms.sq b1 b2).val ∧ (Ms.sq b1 b2).At w' ∧ Gr w w' := by
  go_enter Tryd.func50, Tryd.ntmps50
  -- @a
  go_wp2_with fail
  -- @b
  refine bodyPost_ret (by simp [results, Tryd.results50, go_sem]; try rfl) rfl ?_
  refine ⟨w.heap.size + 1, w.heap.size + 2, rfl, ⟨⟨fun _ => rfl, by show 4 ≤ 4; omega, by show 4 ≤ 9223372036854775807; omega, fun i hi => ?_⟩, ⟨fun _ => rfl, by show 2 ≤ 2; omega, by show 2 ≤ 9223372036854775807; omega, fun i hi => ?_⟩⟩, by exact gr_auto⟩
  · have hi : i < 4 := hi
    rcases (by omega : i = 0 ∨ i = 1 ∨ i = 2 ∨ i = 3) with rfl | rfl | rfl | rfl <;> exact ⟨⟨by simp [Ms.sq, go_sem], by simp [Ms.sq, go_sem], by simp [Ms.sq, go_sem]⟩, by simp [Ms.sq, Ba.Spot.Ok, Ba.i64]⟩
  · have hi : i < 2 := hi
    rcases (by omega : i = 0 ∨ i = 1) with rfl | rfl <;> exact ⟨⟨by simp [Ms.sq, go_sem], by simp [Ms.sq, go_sem], by simp [Ms.sq, go_sem], by simp [Ms.sq, go_sem]⟩, by simp [Ms.sq, Ba.Face.Ok, Ba.i64]⟩
theorem few_any (m : Ms.Mesh) (w : World) : Calls Tryd.prog 11 #[m.val] w fun e w' => e = .returned (.bool (decide (m.S.n ≤ 60) && decide (m.F.n ≤ 60))) ∧ Gr w w' := by
  unfold Ms.Mesh.val at *
  generalize m.S.A = sA at *; generalize m.S.n = sn at *; generalize m.S.c = sc at *; generalize m.F.A = fA at *; generalize m.F.n = fn at *; generalize m.F.c = fc at *
  go_enter Tryd.func11, Tryd.ntmps11
  cases h1 : decide (sn ≤ 60)
  · have := of_decide_eq_false h1
    go_wp2_with fail
    go_ret
    exact ⟨rfl, by exact gr_auto⟩
  · have := of_decide_eq_true h1
    cases h2 : decide (fn ≤ 60)
    · have h3 := of_decide_eq_false h2
      go_wp2_with fail
      go_ret
      exact ⟨by show Ending.returned (Value.bool (decide ((fn : Int) ≤ 60))) = _; rw [decide_eq_false (by omega)]; rfl, by exact gr_auto⟩
    · have h3 := of_decide_eq_true h2
      go_wp2_with fail
      go_ret
      exact ⟨by show Ending.returned (Value.bool (decide ((fn : Int) ≤ 60))) = _; rw [decide_eq_true (by omega)]; rfl, by exact gr_auto⟩
set_option maxRecDepth 100000 in
set_option maxHeartbeats 8000000 in
theorem aw_any (w : World) : Calls Tryd.prog 10 #[] w fun e w' => e = .returned (.bool true) ∧ Gr w w' := by
  have HQ := Lib.hid (fun W => sq_any W)
  have HN := Lib.hid (fun b1 b2 W (h : (Ms.sq b1 b2).At W) => ms_neigh (Ms.sq b1 b2) W h ⟨by show 4 ≤ 61; omega, by show 2 ≤ 61; omega⟩ (Ms.sq_vl b1 b2))
  have HT := Lib.hid (fun b1 b2 W (h : (Ms.sq b1 b2).At W) => show Calls Tryd.prog 34 #[(Ms.sq b1 b2).val] W fun e w' => e = .returned (.tuple #[.int .i64 2000000, .int .i64 0]) ∧ Gr W w' from by
    have z := ms_total (Ms.sq b1 b2) W h ⟨by show 4 ≤ 61; omega, by show 2 ≤ 61; omega⟩ (Ms.sq_vl b1 b2)
    rw [show Ms.totI (Ms.sq b1 b2) (Ms.sq b1 b2).F.n = 2000000 from Ms.sq_tot b1 b2] at z
    exact z)
  have HB := Lib.hid (fun b1 b2 W (h : (Ms.sq b1 b2).At W) => ms_border (Ms.sq b1 b2) W h ⟨by show 4 ≤ 61; omega, by show 2 ≤ 61; omega⟩ (Ms.sq_vl b1 b2))
  unfold RetNear at HN
  unfold RetBo at HB
  go_enter Tryd.func10, Tryd.ntmps10
  go_wp2_with fail
  -- @a
  refine (HQ.out _).mono ?_
  rintro e w1 ⟨p1, p2, rfl, hA1, g1⟩
  go_wp2_with fail
  -- @b
  refine (HN.out p1 p2 _ hA1).mono ?_
  rintro e w2 ⟨v, rfl, G, rfl, -, hcn, g2⟩
  have HC := Lib.hid (show ∀ t, t < 6 → w2.cell? ⟨G, t, none⟩ = some (.int .i64 (Ms.nb (Ms.sq p1 p2) (t / 3) (t % 3))) from hcn)
  obtain ⟨n0, n1, n2, n3, n4, n5⟩ := Ms.sq_nb p1 p2
  have c0 := HC.out 0 (by omega); have c1 := HC.out 1 (by omega); have c2 := HC.out 2 (by omega); have c3 := HC.out 3 (by omega); have c4 := HC.out 4 (by omega); have c5 := HC.out 5 (by omega)
  rw [show Ms.nb (Ms.sq p1 p2) (0 / 3) (0 % 3) = -1 from n0] at c0
  rw [show Ms.nb (Ms.sq p1 p2) (1 / 3) (1 % 3) = -1 from n1] at c1
  rw [show Ms.nb (Ms.sq p1 p2) (2 / 3) (2 % 3) = 1 from n2] at c2
  rw [show Ms.nb (Ms.sq p1 p2) (3 / 3) (3 % 3) = 0 from n3] at c3
  rw [show Ms.nb (Ms.sq p1 p2) (4 / 3) (4 % 3) = -1 from n4] at c4
  rw [show Ms.nb (Ms.sq p1 p2) (5 / 3) (5 % 3) = -1 from n5] at c5
  rw [show (Ms.sq p1 p2).F.n = 2 from rfl]
  clear hcn HC n0 n1 n2 n3 n4 n5 HN hA1
  go_wp2_with fail
  -- @c
  refine (HQ.out _).mono ?_
  rintro e w3 ⟨p3, p4, rfl, hA3, g3⟩
  go_wp2_with fail
  refine (HT.out p3 p4 _ hA3).mono ?_
  rintro e w4 ⟨rfl, g4⟩
  clear HT hA3
  go_wp2_with fail
  -- @d
  refine (HQ.out _).mono ?_
  rintro e w5 ⟨p5, p6, rfl, hA5, g5⟩
  go_wp2_with fail
  refine (HB.out p5 p6 _ hA5).mono ?_
  rintro e w6 ⟨v, rfl, V, hbr, g6⟩
  rw [show (3 * (Ms.sq p5 p6).F.n) = 6 from rfl, Ms.sq_bS] at hbr
  have hout := hbr.out
  have hrow := hbr.row 0 [0, 1, 4, 5] rfl
  rw [sq_stl] at hrow
  clear hbr HB hA5 HQ
  have g26 : Gr w2 w6 := g3.trans (g4.trans (g5.trans g6))
  have g06 : Gr w w6 := g1.trans (g2.trans g26)
  replace c0 := Gr.at g26 c0; replace c1 := Gr.at g26 c1; replace c2 := Gr.at g26 c2; replace c3 := Gr.at g26 c3; replace c4 := Gr.at g26 c4; replace c5 := Gr.at g26 c5
  obtain ⟨A, c, b, rfl, hA, hnc, hcb, hcel⟩ := ownsRow_at hout
  obtain ⟨A1, c1', b1, hV1, hA1, hnc1, hcb1, hcel1⟩ := ownsRow_at hrow
  have q0 := hcel 0 (by simp)
  rw [show (vs V [[0, 1, 4, 5]].length)[0]? = some (V 0) from rfl, hV1] at q0
  obtain rfl := hA (by simp)
  have r0 := hcel1 0 (by simp); have r1 := hcel1 1 (by simp); have r2 := hcel1 2 (by simp); have r3 := hcel1 3 (by simp)
  obtain rfl := hA1 (by simp)
  simp only [List.length_cons, List.length_nil, Nat.zero_add, Nat.reduceAdd] at *
  simp at r0 r1 r2 r3
  clear hcel hcel1 hA hA1 hV1 hout hrow g1 g2 g3 g4 g5 g6 g26
  -- @e
  have E3 := Lib.hid (fun (B : Nat) W (hg : Gr w6 W) (e0 : W.cell? ⟨B, 0, none⟩ = some (.int .i64 (-1))) (e1 : W.cell? ⟨B, 1, none⟩ = some (.int .i64 (-1))) (e2 : W.cell? ⟨B, 2, none⟩ = some (.int .i64 1)) (e3 : W.cell? ⟨B, 3, none⟩ = some (.int .i64 0)) (e4 : W.cell? ⟨B, 4, none⟩ = some (.int .i64 (-1))) (e5 : W.cell? ⟨B, 5, none⟩ = some (.int .i64 (-1))) =>
    eq_3 (fun i => if i = 0 then -1 else 0) (fun i => -1) (fun i => if i = 0 then 1 else -1) (some ⟨G, 0, none⟩) (some ⟨B, 0, none⟩) 2 2 2 G B W (by omega) (by omega) (by omega) (by omega) (fun _ => rfl) (fun _ => rfl)
      (fun i hi => by rcases (by omega : i = 0 ∨ i = 1) with rfl | rfl <;> exact ⟨Gr.at hg (by assumption), Gr.at hg (by assumption), Gr.at hg (by assumption)⟩)
      (fun i hi => by rcases (by omega : i = 0 ∨ i = 1) with rfl | rfl <;> exact ⟨by assumption, by assumption, by assumption⟩))
  have EI := Lib.hid (fun (B : Nat) W (hg : Gr w6 W) (e0 : W.cell? ⟨B, 0, none⟩ = some (.int .i64 0)) (e1 : W.cell? ⟨B, 1, none⟩ = some (.int .i64 1)) (e2 : W.cell? ⟨B, 2, none⟩ = some (.int .i64 2)) (e3 : W.cell? ⟨B, 3, none⟩ = some (.int .i64 3)) =>
    eq_i (fun i => (i : Int)) (some ⟨b1, 0, none⟩) (some ⟨B, 0, none⟩) 4 c1' 4 b1 B W hnc1 (by omega) hcb1 (by omega) (fun _ => rfl) (fun _ => rfl)
      (fun i hi => by rcases (by omega : i = 0 ∨ i = 1 ∨ i = 2 ∨ i = 3) with rfl | rfl | rfl | rfl <;> exact Gr.at hg (by assumption))
      (fun i hi => by rcases (by omega : i = 0 ∨ i = 1 ∨ i = 2 ∨ i = 3) with rfl | rfl | rfl | rfl <;> assumption))
  clear c0 c1 c2 c3 c4 c5 r0 r1 r2 r3
  -- @f
  go_wp2_with fail
  -- @g
  refine (E3.out w6.heap.size _ (by exact gr_auto) (by simp [go_sem]) (by simp [go_sem]) (by simp [go_sem]) (by simp [go_sem]) (by simp [go_sem]) (by simp [go_sem])).mono ?_
  rintro e w7 ⟨rfl, g7⟩
  have g67 : Gr w6 w7 := Gr.trans (by exact gr_auto) g7
  replace q0 := Gr.at g67 q0
  clear E3 g7
  go_wp2_with fail
  -- @h
  refine (EI.out w7.heap.size _ (by exact gr_auto) (by simp [go_sem]) (by simp [go_sem]) (by simp [go_sem]) (by simp [go_sem])).mono ?_
  rintro e w8 ⟨rfl, g8⟩
  have g68 : Gr w6 w8 := g67.trans (Gr.trans (by exact gr_auto) g8)
  go_wp2_with fail
  -- @i
  go_ret
  exact ⟨rfl, g06.trans g68⟩
end Go.Proofs.YtajhhplgcegodaaDoor
