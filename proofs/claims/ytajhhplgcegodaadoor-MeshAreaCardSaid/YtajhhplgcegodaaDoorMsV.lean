/-
  Surfaces: the reference's Neighbours.
-/
import Derived.Test.YtajhhplgcegodaaDoorMsU
set_option linter.unusedVariables false
set_option linter.unusedSimpArgs false
namespace Go.Proofs.YtajhhplgcegodaaDoor
open Go.RowKit
namespace Ms
/-- The neighbour across side k of face i; -1 if there is none. -/
def nb (m : Mesh) (i k : Nat) : Int := match acO m i k with | some t => ((t / 3 : Nat) : Int) | none => -1
/-- The neighbours of the faces below i, as cells. -/
def nbL (m : Mesh) : Nat → List Value
  | 0 => []
  | i + 1 => nbL m i ++ [.int .i64 (nb m i 0), .int .i64 (nb m i 1), .int .i64 (nb m i 2)]
theorem sdV_nb (m : Mesh) (i k : Nat) : ∃ y : Int, sdV (acO m i k) = .tuple #[.int .i64 (nb m i k), .int .i64 y] := by
  unfold nb
  cases acO m i k with
  | none => exact ⟨0, rfl⟩
  | some t => exact ⟨_, rfl⟩
end Ms
theorem info_nb : (Tryd.prog.info? 47).map (fun i => (i.zero, i.size, i.bytes)) = some (some (.agg #[.int .i64 0, .int .i64 0, .int .i64 0]), 3, 24) := by kernel_rfl
set_option maxRecDepth 100000 in
set_option maxHeartbeats 4000000 in
theorem rs_neigh (m : Ms.Mesh) (w : World) (h : m.F.At w) (hf : m.F.n ≤ 60) : Calls Tryd.prog 24 #[m.val] w fun e w' => ∃ v, e = .returned v ∧ w'.ownsRow w.heap.size 47 3 v m.F.n (Ms.nbL m m.F.n) ∧ Gr w w' := by
  have HAC := Lib.hid (fun i k (hi : i < m.F.n) (hk : k < 3) W (hW : Gr w W) => rs_across m i k hi hk W (h.gr hW))
  obtain ⟨ig, hi0, hz0, hz1, hz2⟩ := info_parts info_nb
  have GI := Lib.hid hi0; have GI0 := Lib.hid hz0; have GI1 := Lib.hid hz1; have GI2 := Lib.hid hz2
  have HV := Lib.hid (fun i k => Ms.sdV_nb m i k)
  have HNB := Lib.hid (fun i => show Ms.nbL m (i + 1) = Ms.nbL m i ++ [.int .i64 (Ms.nb m i 0), .int .i64 (Ms.nb m i 1), .int .i64 (Ms.nb m i 2)] from rfl)
  clear hi0 hz0 hz1 hz2 h
  unfold Ms.Mesh.val at *
  generalize m.S.A = sA at *; generalize m.S.n = sn at *; generalize m.S.c = sc at *; generalize m.F.A = fA at *; generalize m.F.n = fn at *; generalize m.F.c = fc' at *
  go_enter Tryd.func24, Tryd.ntmps24
  go_wp2_with fail
  obtain ⟨W0, hW0⟩ : ∃ W, w.alloc (Obj.cells #[.slice sA sn sc, .slice fA fn fc'] 25) = W := ⟨_, rfl⟩
  have d0 : W0.cell? ⟨w.heap.size, 0, none⟩ = some (.slice sA sn sc) := by rw [← hW0]; simp [go_sem]
  have d1 : W0.cell? ⟨w.heap.size, 1, none⟩ = some (.slice fA fn fc') := by rw [← hW0]; simp [go_sem]
  have g0 : Gr w W0 := hW0 ▸ Gr.alloc (Gr.refl w) _
  rw [hW0]
  clear hW0
  -- @a
  go_loopw [3, 4] (fun v x wr => ∃ i : Nat, i ≤ fn ∧ x = .int .i64 (i : Int) ∧ Hid (wr.ownsRow W0.heap.size 47 3 v i (Ms.nbL m i)) ∧ Gr W0 wr) (fun _ x _ => fn - (intOf x).toNat)
  case atStart => exact ⟨0, Nat.zero_le _, rfl, Lib.hid (World.ownsRow_nil _ _ _ _), Gr.refl _⟩
  case round =>
    obtain ⟨i, hi, rfl, HO, hg⟩ := hrel
    rename World => W1
    have c0 := Gr.at hg d0; have c1 := Gr.at hg d1
    by_cases hlt : i < fn
    · have A0 := Lib.hid (HAC.out i 0 hlt (by omega)); have A1 := Lib.hid (HAC.out i 1 hlt (by omega)); have A2 := Lib.hid (HAC.out i 2 hlt (by omega))
      obtain ⟨y0, e0⟩ := HV.out i 0; obtain ⟨y1, e1⟩ := HV.out i 1; obtain ⟨y2, e2⟩ := HV.out i 2
      rw [e0] at A0; rw [e1] at A1; rw [e2] at A2
      have HN1 := Lib.hid (HNB.out i)
      clear e0 e1 e2 HAC HV HNB
      generalize Ms.nb m i 0 = n0 at *; generalize Ms.nb m i 1 = n1 at *; generalize Ms.nb m i 2 = n2 at *
      have ib1 : (i : Int) < (fn : Int) := by omega
      -- @b
      go_wp2_with fail
      refine (A0.out _ (g0.trans hg)).mono ?_
      rintro e w2 ⟨rfl, hb2⟩
      replace c0 := Gr.at hb2 c0; replace c1 := Gr.at hb2 c1
      go_wp2_with fail
      refine (A1.out _ (g0.trans (hg.trans hb2))).mono ?_
      rintro e w3 ⟨rfl, hb3⟩
      replace c0 := Gr.at hb3 c0; replace c1 := Gr.at hb3 c1
      go_wp2_with fail
      refine (A2.out _ (g0.trans (hg.trans (hb2.trans hb3)))).mono ?_
      rintro e w4 ⟨rfl, hb4⟩
      clear A0 A1 A2 c0 c1
      have g4 : Gr W0 w4 := hg.trans (hb2.trans (hb3.trans hb4))
      have z4 := Gr.size g4
      have HO1 := Lib.hid (ownsRow_gr HO.out ((hb2.trans (hb3.trans hb4)).trans (Gr.alloc (Gr.refl w4) (Obj.cells #[.int .i64 n0, .int .i64 n1, .int .i64 n2] 47))))
      -- @c
      go_wp2_with (at_builtin; refine wpList_append_lies _ rfl _ _ 36 rfl W0.heap.size 47 ig (.agg #[.int .i64 0, .int .i64 0, .int .i64 0]) 3 24 Tryd.underlying36 GI.out GI0.out GI1.out GI2.out rfl (by decide) _ i (Ms.nbL m i) rfl HO1.out ⟨w4.heap.size, 0, none⟩ 1 1 [.int .i64 n0, .int .i64 n1, .int .i64 n2] rfl rfl (by intro p u hp; rcases p with _ | _ | _ | p <;> simp at hp <;> (try subst hp) <;> first | (simp [Addr.add, go_sem]; done) | (simp [Addr.add]; done)) (by intro u hu; simp at hu; rcases hu with rfl | rfl | rfl <;> rfl) (by decide) (by unfold maxLen; omega) (by omega) (by simp; omega) _ rfl ?_)
      intro gg pp vv ho hr ht hl
      -- @d
      have HO2 := Lib.hid (show vv.ownsRow W0.heap.size 47 3 _ (i + 1) (Ms.nbL m (i + 1)) from by rw [HN1.out]; exact ho)
      have hgv : Gr W0 vv := Gr.own (Gr.trans g4 (Gr.alloc (Gr.refl _) _)) (Nat.le_refl _) HO1.out hr
      clear ho hr ht hl HO HO1
      go_wp2_with fail
      go_roundw
      case rel => exact ⟨i + 1, by omega, by go_num, HO2, hgv⟩
      case measure => simp [intOf]; omega
    · obtain rfl : fn = i := by omega
      -- @e
      go_wp2_with fail
      go_ret
      exact ⟨_, rfl, ownsRow_base HO.out (Gr.size g0), g0.trans hg⟩
end Go.Proofs.YtajhhplgcegodaaDoor
