/-
  slices.Reverse on faces. (Printed by mkrv.py.)
-/
import Derived.Test.YtajhhplgcegodaaDoorMsMv
set_option linter.unusedVariables false
set_option linter.unusedSimpArgs false
namespace Go.Proofs.YtajhhplgcegodaaDoor
open Go.RowKit
/-- Faces in a block that may be written. -/
def RowF (w : World) (g n : Nat) (D : Nat → Ba.Face) : Prop := ∀ j, j < n → Own w g (j * 4) (.int .i64 (D j).a) ∧ Own w g (j * 4 + 1) (.int .i64 (D j).b) ∧ Own w g (j * 4 + 2) (.int .i64 (D j).c) ∧ Own w g (j * 4 + 3) (.int .i64 (D j).k)
theorem RowF.gr {w w' : World} {g n : Nat} {D : Nat → Ba.Face} (h : RowF w g n D) (hg : Gr w w') : RowF w' g n D := fun j hj => ⟨(h j hj).1.gr hg, (h j hj).2.1.gr hg, (h j hj).2.2.1.gr hg, (h j hj).2.2.2.gr hg⟩
def set4 (w : World) (g j : Nat) (d : Ba.Face) : World := (((w.setCell ⟨g, j * 4, none⟩ (.int .i64 d.a)).setCell ⟨g, j * 4 + 1, none⟩ (.int .i64 d.b)).setCell ⟨g, j * 4 + 2, none⟩ (.int .i64 d.c)).setCell ⟨g, j * 4 + 3, none⟩ (.int .i64 d.k)
theorem grx_set4 {g : Nat} {a w : World} (h : GrX g a w) (j : Nat) (d : Ba.Face) : GrX g a (set4 w g j d) :=
  GrX.setCell (p := ⟨g, j * 4 + 3, none⟩) (GrX.setCell (p := ⟨g, j * 4 + 2, none⟩) (GrX.setCell (p := ⟨g, j * 4 + 1, none⟩) (GrX.setCell (p := ⟨g, j * 4, none⟩) h rfl _) rfl _) rfl _) rfl _
theorem RowF.set {w : World} {g n : Nat} {D E : Nat → Ba.Face} {i : Nat} {d : Ba.Face} (h : RowF w g n D) (hi : E i = d) (ho : ∀ j, j < n → j ≠ i → E j = D j) : RowF (set4 w g i d) g n E := fun j hj => by
  obtain ⟨h0, h1, h2, h3⟩ := h j hj
  unfold set4
  by_cases e : j = i
  · subst e
    rw [hi]
    exact ⟨Own.other (Own.other (Own.other (Own.set h0) (Or.inr (by omega))) (Or.inr (by omega))) (Or.inr (by omega)),
      Own.other (Own.other (Own.set (Own.other h1 (Or.inr (by omega)))) (Or.inr (by omega))) (Or.inr (by omega)),
      Own.other (Own.set (Own.other (Own.other h2 (Or.inr (by omega))) (Or.inr (by omega)))) (Or.inr (by omega)),
      Own.set (Own.other (Own.other (Own.other h3 (Or.inr (by omega))) (Or.inr (by omega))) (Or.inr (by omega)))⟩
  · rw [ho j hj e]
    have q : ∀ o u, (∀ r, r < 4 → o ≠ i * 4 + r) → Own w g o u → Own ((((w.setCell ⟨g, i * 4, none⟩ (.int .i64 d.a)).setCell ⟨g, i * 4 + 1, none⟩ (.int .i64 d.b)).setCell ⟨g, i * 4 + 2, none⟩ (.int .i64 d.c)).setCell ⟨g, i * 4 + 3, none⟩ (.int .i64 d.k)) g o u := fun o u hne h =>
      Own.other (Own.other (Own.other (Own.other h (Or.inr (hne 0 (by omega)))) (Or.inr (hne 1 (by omega)))) (Or.inr (hne 2 (by omega)))) (Or.inr (hne 3 (by omega)))
    exact ⟨q _ _ (fun r hr => by omega) h0, q _ _ (fun r hr => by omega) h1, q _ _ (fun r hr => by omega) h2, q _ _ (fun r hr => by omega) h3⟩
/-- The faces when the outer i on each side have been exchanged. -/
def rvD (D : Nat → Ba.Face) (n i : Nat) (j : Nat) : Ba.Face := if j < i ∨ n - 1 - i < j then D (n - 1 - j) else D j
set_option maxRecDepth 100000 in
set_option maxHeartbeats 4000000 in
theorem rev_any (A : Option Addr) (n c g : Nat) (D : Nat → Ba.Face) (w : World) (hA : 0 < n → A = some ⟨g, 0, none⟩) (hn : n ≤ 1000) (hR : RowF w g n D) : Calls Tryd.prog 32 #[.slice A n c] w fun e w' => e = .returned (.tuple #[]) ∧ RowF w' g n (fun j => D (n - 1 - j)) ∧ GrX g w w' := by
  have HA := Lib.hid hA; have HR0 := Lib.hid hR
  clear hA hR
  go_enter Tryd.func32, Tryd.ntmps32
  go_wp2_with fail
  go_loopw [2, 3] (fun x y wr => ∃ i : Nat, 2 * i ≤ n + 1 ∧ x = .int .i64 (i : Int) ∧ y = .int .i64 ((n : Int) - 1 - (i : Int)) ∧ Hid (RowF wr g n (rvD D n i)) ∧ GrX g w wr) (fun x _ _ => n + 1 - (intOf x).toNat)
  case atStart => exact ⟨0, by omega, rfl, by simp, Lib.hid (fun j hj => by
    have : rvD D n 0 j = D j := by unfold rvD; rw [if_neg (by omega)]
    rw [this]; exact HR0.out j hj), GrX.refl _ _⟩
  case round =>
    clear HR0
    obtain ⟨i, hi, rfl, rfl, HR, hg⟩ := hrel
    by_cases hlt : 2 * i + 1 < n
    · obtain ⟨j, hj⟩ : ∃ j : Nat, n = i + j + 1 := ⟨n - 1 - i, by omega⟩
      have hij : i < j := by omega
      rw [show (n : Int) - 1 - (i : Int) = (j : Int) by omega]
      obtain rfl := HA.out (by omega)
      have ei : rvD D n i i = D i := by unfold rvD; rw [if_neg (by omega)]
      have ej : rvD D n i j = D j := by unfold rvD; rw [if_neg (by omega)]
      obtain ⟨⟨u0, f0⟩, ⟨u1, f1⟩, ⟨u2, f2⟩, ⟨u3, f3⟩⟩ := HR.out i (by omega)
      obtain ⟨⟨v0, h0⟩, ⟨v1, h1⟩, ⟨v2, h2⟩, ⟨v3, h3⟩⟩ := HR.out j (by omega)
      rw [ei] at u0 u1 u2 u3
      rw [ej] at v0 v1 v2 v3
      have HRn := Lib.hid (RowF.set (w := set4 _ g i (D j)) (g := g) (n := n) (D := fun k => if k = i then D j else rvD D n i k) (E := rvD D n (i + 1)) (i := j) (d := D i) (RowF.set HR.out (if_pos rfl) (fun k _ hk => if_neg hk)) (by
        unfold rvD; rw [if_pos (by omega)]; congr 1; omega) (fun k hk hkj => by
        by_cases q : k = i
        · subst q; rw [if_pos rfl]; unfold rvD; rw [if_pos (by omega)]; congr 1; omega
        · rw [if_neg q]; unfold rvD
          by_cases q2 : k < i ∨ n - 1 - i < k
          · rw [if_pos q2, if_pos (by omega)]
          · rw [if_neg q2, if_neg (by omega)]))
      have hgn := grx_set4 (grx_set4 hg i (D j)) j (D i)
      unfold set4 at HRn hgn
      have ib0 : (0 : Int) ≤ (i : Int) := by omega
      have ib1 : (i : Int) < (n : Int) := by omega
      have ib2 : (0 : Int) ≤ (j : Int) := by omega
      have ib3 : (j : Int) < (n : Int) := by omega
      have td : decide ((i : Int) < (j : Int)) = true := decide_eq_true (by omega)
      have nn1 : i * 4 ≠ j * 4 := by omega
      have HJ := Lib.hid hj
      clear HR ei ej hg hj
      generalize D i = di at *
      generalize D j = dj at *
      -- @a
      go_wp2_with fail
      go_region
      -- @b
      go_wp2_with fail
      go_roundw
      case rel => exact ⟨i + 1, by omega, by go_num, by (have := HJ.out; congr 1; omega), Lib.hid (HRn.out.gr (Gr.drew (Gr.refl _))), GrX.drew hgn⟩
      case measure => simp [intOf]; omega
    · have td : decide ((i : Int) < (n : Int) - 1 - (i : Int)) = false := decide_eq_false (by omega)
      have HRe := Lib.hid (show RowF _ g n (fun j => D (n - 1 - j)) from fun j hj => by
        have := HR.out j hj
        have e : rvD D n i j = D (n - 1 - j) := by
          unfold rvD
          by_cases q : j < i ∨ n - 1 - i < j
          · rw [if_pos q]
          · rw [if_neg q]; congr 1; omega
        rw [e] at this; exact this)
      clear HR
      go_wp2_with fail
      go_end0
      exact ⟨rfl, HRe.out, hg⟩
end Go.Proofs.YtajhhplgcegodaaDoor
