/-
  Surfaces: mesh.Valid. (Printed by mki.py.)
-/
import Derived.Test.YtajhhplgcegodaaGreatDoorMsF
set_option linter.unusedVariables false
set_option linter.unusedSimpArgs false
namespace Go.Proofs.YtajhhplgcegodaaGreatDoor
open Go.RowKit
theorem own_slice {w : World} {base e size n : Nat} {v : Value} {xs : List Value} (h : w.ownsRow base e size v n xs) : ∃ (A : Option Addr) (c : Nat), v = .slice A n c ∧ n ≤ c ∧ c ≤ 9223372036854775807 := by
  obtain ⟨hl, ⟨rfl, rfl⟩ | ⟨g, cap, cur, rfl, hb, hc, hn, hm, r⟩⟩ := h
  · exact ⟨none, 0, rfl, Nat.le_refl _, by omega⟩
  · exact ⟨_, cap, rfl, hn, by unfold maxLen at hm; exact hm⟩
set_option maxRecDepth 100000 in
set_option maxHeartbeats 4000000 in
theorem ms_valid (m : Ms.Mesh) (w : World) (h : m.At w) (hs : Ms.smB m = false ∨ (m.S.n ≤ 61 ∧ m.F.n ≤ 61)) : Calls Tryz.prog 32 #[m.val] w fun e w' => e = .returned (.bool (Ms.vlB m)) ∧ Gr w w' := by
  cases hq : Ms.smB m
  · have HC := Lib.hid (fun W => ms_check_big m W hq)
    have HQ := Lib.hid (show Ms.vlB m = false from by unfold Ms.vlB; rw [hq]; rfl)
    clear h hs hq
    unfold Ms.Mesh.val at *
    generalize m.S.A = sA at *; generalize m.S.n = sn at *; generalize m.S.c = sc at *; generalize m.F.A = fA at *; generalize m.F.n = fn at *; generalize m.F.c = fc at *
    go_enter Tryz.func32, Tryz.ntmps32
    go_wp2_with fail
    refine (HC.out _).mono ?_
    rintro e w2 ⟨rfl, hb2⟩
    clear HC
    have g1 := Gr.alloc (Gr.refl w) (Obj.cells #[.slice sA sn sc, .slice fA fn fc] 25)
    go_wp2_with fail
    go_ret
    exact ⟨by rw [HQ.out]; rfl, g1.trans hb2⟩
  · rw [hq] at hs
    obtain ⟨h1, h2⟩ := hs.resolve_left (by decide)
    have HC := Lib.hid (fun W (hW : Gr w W) => ms_check m W (h.gr hW) h1 h2)
    have HQ := Lib.hid (show Ms.vlB m = decide ((Ms.fnd m 7).length = 0) from by unfold Ms.vlB; rw [hq]; cases Ms.fnd m 7 <;> rfl)
    have hl := Ms.fnd_le m h1 h2 7
    unfold RetChk at HC
    clear h hs hq h1 h2
    unfold Ms.Mesh.val at *
    generalize m.S.A = sA at *; generalize m.S.n = sn at *; generalize m.S.c = sc at *; generalize m.F.A = fA at *; generalize m.F.n = fn at *; generalize m.F.c = fc at *
    generalize Ms.vlB m = q at *
    obtain ⟨L, hL⟩ : ∃ L, Ms.fnd m 7 = L := ⟨_, rfl⟩
    simp only [hL] at HC HQ hl
    clear hL
    go_enter Tryz.func32, Tryz.ntmps32
    go_wp2_with fail
    have g1 := Gr.alloc (Gr.refl w) (Obj.cells #[.slice sA sn sc, .slice fA fn fc] 25)
    refine (HC.out _ g1).mono ?_
    rintro e w2 ⟨v, rfl, ho, hb2⟩
    obtain ⟨A, c, rfl, -, -⟩ := own_slice ho
    clear HC ho
    by_cases h0 : L.length = 0
    · have t0 : ((L.length : Int) == 0) = true := by rw [h0]; rfl
      rw [decide_eq_true h0] at HQ
      clear h0
      go_wp2_with fail
      go_ret
      exact ⟨by rw [HQ.out]; rfl, g1.trans hb2⟩
    · have t0 : ((L.length : Int) == 0) = false := beq_eq_false_iff_ne.2 (by omega)
      rw [decide_eq_false h0] at HQ
      clear h0
      go_wp2_with fail
      go_ret
      exact ⟨by rw [HQ.out]; rfl, g1.trans hb2⟩
end Go.Proofs.YtajhhplgcegodaaGreatDoor
