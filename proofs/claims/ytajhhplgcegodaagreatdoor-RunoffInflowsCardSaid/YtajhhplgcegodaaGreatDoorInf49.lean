/-
  Surfaces: the reference's Valid.
-/
import Derived.Test.YtajhhplgcegodaaGreatDoorInf48
import Derived.Test.YtajhhplgcegodaaGreatDoorInf20

set_option linter.unusedVariables false
set_option linter.unusedSimpArgs false
namespace Go.Proofs.YtajhhplgcegodaaGreatDoor
open Go.RowKit
set_option maxRecDepth 100000 in
set_option maxHeartbeats 4000000 in
theorem rs_valid (m : Ms.Mesh) (w : World) (h : m.At w) (hs : Ms.smB m = false ∨ (m.S.n ≤ 60 ∧ m.F.n ≤ 60)) : Calls Tryz.prog 13 #[m.val] w fun e w' => e = .returned (.bool (Ms.vlB m)) ∧ Gr w w' := by
  have HSM := Lib.hid (fun W => rs_small m W)
  cases hq : Ms.smB m
  · have HQ := Lib.hid (show Ms.vlB m = false from by unfold Ms.vlB; rw [hq]; rfl)
    rw [hq] at HSM
    clear h hs hq
    unfold Ms.Mesh.val at *
    generalize m.S.A = sA at *; generalize m.S.n = sn at *; generalize m.S.c = sc at *; generalize m.F.A = fA at *; generalize m.F.n = fn at *; generalize m.F.c = fc at *
    go_enter Tryz.func13, Tryz.ntmps13
    go_wp2_with fail
    refine (HSM.out _).mono ?_
    rintro e w2 ⟨rfl, hb2⟩
    clear HSM
    have g1 := Gr.alloc (Gr.refl w) (Obj.cells #[.slice sA sn sc, .slice fA fn fc] 25)
    go_wp2_with fail
    go_ret
    exact ⟨by rw [HQ.out]; rfl, g1.trans hb2⟩
  · rw [hq] at hs HSM
    obtain ⟨h1, h2⟩ := hs.resolve_left (by decide)
    have HC := Lib.hid (fun W (hW : Gr w W) => rs_check m W (h.gr hW) h1 h2)
    have HQ := Lib.hid (show Ms.vlB m = decide ((Ms.fnd m 7).length = 0) from by unfold Ms.vlB; rw [hq]; cases Ms.fnd m 7 <;> rfl)
    have hl := Ms.fnd_le m (Nat.le_trans h1 (by decide)) (Nat.le_trans h2 (by decide)) 7
    unfold RetRChk at HC
    clear h hs hq h1 h2
    unfold Ms.Mesh.val at *
    generalize m.S.A = sA at *; generalize m.S.n = sn at *; generalize m.S.c = sc at *; generalize m.F.A = fA at *; generalize m.F.n = fn at *; generalize m.F.c = fc at *
    generalize Ms.vlB m = q at *
    obtain ⟨L, hL⟩ : ∃ L, Ms.fnd m 7 = L := ⟨_, rfl⟩
    simp only [hL] at HC HQ hl
    clear hL
    go_enter Tryz.func13, Tryz.ntmps13
    go_wp2_with fail
    have g1 := Gr.alloc (Gr.refl w) (Obj.cells #[.slice sA sn sc, .slice fA fn fc] 25)
    refine (HSM.out _).mono ?_
    rintro e w2 ⟨rfl, hb2⟩
    clear HSM
    have m0 := Gr.at hb2 (show (w.alloc (Obj.cells #[.slice sA sn sc, .slice fA fn fc] 25)).cell? ⟨w.heap.size, 0, none⟩ = some (.slice sA sn sc) from by simp [go_sem])
    have m1 := Gr.at hb2 (show (w.alloc (Obj.cells #[.slice sA sn sc, .slice fA fn fc] 25)).cell? ⟨w.heap.size, 1, none⟩ = some (.slice fA fn fc) from by simp [go_sem])
    go_wp2_with fail
    refine (HC.out _ (g1.trans hb2)).mono ?_
    rintro e w3 ⟨v, rfl, ho, hb3⟩
    obtain ⟨A, c, rfl, -, -⟩ := own_slice ho
    clear HC ho
    by_cases h0 : L.length = 0
    · have t0 : ((L.length : Int) == 0) = true := by rw [h0]; rfl
      rw [decide_eq_true h0] at HQ
      clear h0
      go_wp2_with fail
      go_ret
      exact ⟨by rw [HQ.out]; rfl, (g1.trans hb2).trans hb3⟩
    · have t0 : ((L.length : Int) == 0) = false := beq_eq_false_iff_ne.2 (by omega)
      rw [decide_eq_false h0] at HQ
      clear h0
      go_wp2_with fail
      go_ret
      exact ⟨by rw [HQ.out]; rfl, (g1.trans hb2).trans hb3⟩
end Go.Proofs.YtajhhplgcegodaaGreatDoor
