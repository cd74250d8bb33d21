import Derived.Test.YtlcbjkkcfenlmaaDoorCkWalkJ
set_option linter.unusedVariables false
set_option linter.unusedSimpArgs false
namespace Go.Proofs.YtlcbjkkcfenlmaaDoor
open Go.RowKit
set_option maxHeartbeats 1000000 in
theorem steps_bad (f s k a b o g : Int) (w : World) (h : Ck.inst f = false ∨ Ck.inst f = true ∧ (Ck.inst a = false ∨ Ck.inst a = true ∧ Ck.len s = false))
    (HO : ∀ W : World, Calls Tryd.prog 16 #[.int .i64 f, .int .i64 s, .int .i64 k, .int .i64 a, .int .i64 b] W fun e w' => e = .returned (.tuple #[.int .i64 o, .int .i64 g]) ∧ W = w')
    (HR : ∀ W : World, Calls Tryd.prog 17 #[.int .i64 f, .int .i64 s, .int .i64 k, .int .i64 a, .int .i64 b] W fun e w' => e = .returned (.tuple #[.int .i64 o, .int .i64 g]) ∧ W = w') :
    Calls Tryd.prog 3 #[.int .i64 f, .int .i64 s, .int .i64 k, .int .i64 a, .int .i64 b] w fun e w' => e = .returned (.bool true) ∧ Gr w w' := by
  have HO := Lib.hid HO; have HR := Lib.hid HR
  have HS := Lib.hid (fun W => step_bad f s a W h)
  have e1 : (o == o) = true := by simp
  have e2 : (g == g) = true := by simp
  rcases h with h | ⟨h1, h | ⟨h2, h⟩⟩
  all_goals
    go_enter Tryd.func3, Tryd.ntmps3
    go_wp2_with fail; refine (awake_any _).mono ?_; rintro e w1 ⟨rfl, hb1⟩; obtain ⟨hc1, hf1⟩ := Gr.cells hb1; have hz1 := Gr.size hb1; (try simp at hz1); (try have hy1_0 : w.heap.size < w1.heap.size := by omega); (try have hy1_1 : w.heap.size + 1 < w1.heap.size := by omega); (try have hy1_2 : w.heap.size + 1 + 1 < w1.heap.size := by omega); (try have hy1_3 : w.heap.size + 1 + 1 + 1 < w1.heap.size := by omega); (try have hy1_4 : w.heap.size + 1 + 1 + 1 + 1 < w1.heap.size := by omega); (try have hy1_5 : w.heap.size + 1 + 1 + 1 + 1 + 1 < w1.heap.size := by omega)
    go_wp2_with (first | (go_at_call 12; refine (HS.out _).mono ?_; rintro e w' ⟨rfl, rfl⟩) | (go_at_call 16; refine (HO.out _).mono ?_; rintro e w' ⟨rfl, rfl⟩) | (go_at_call 17; refine (HR.out _).mono ?_; rintro e w' ⟨rfl, rfl⟩) | (go_at_call 13; refine (rinstant_any _ _).mono ?_; rintro e w' ⟨rfl, rfl⟩) | (go_at_call 14; refine (rlength_any _ _).mono ?_; rintro e w' ⟨rfl, rfl⟩))
    go_ret
    exact ⟨rfl, (by repeat' (first | (with_reducible exact Gr.refl _) | (with_reducible assumption) | (with_reducible refine Gr.alloc ?_ _) | (with_reducible refine Gr.drew ?_) | (with_reducible refine Gr.drewN ?_ _) | (with_reducible refine Gr.setCell ?_ ?_ _) | (with_reducible refine Gr.trans ?_ (by with_reducible assumption)) | go_size))⟩
set_option maxHeartbeats 1000000 in
theorem steps_ok (f s k a b o g : Int) (w : World) (h1 : Ck.inst f = true) (h2 : Ck.inst a = true) (h3 : Ck.len s = true)
    (HO : ∀ W : World, Calls Tryd.prog 16 #[.int .i64 f, .int .i64 s, .int .i64 k, .int .i64 a, .int .i64 b] W fun e w' => e = .returned (.tuple #[.int .i64 o, .int .i64 g]) ∧ W = w')
    (HR : ∀ W : World, Calls Tryd.prog 17 #[.int .i64 f, .int .i64 s, .int .i64 k, .int .i64 a, .int .i64 b] W fun e w' => e = .returned (.tuple #[.int .i64 o, .int .i64 g]) ∧ W = w') :
    Calls Tryd.prog 3 #[.int .i64 f, .int .i64 s, .int .i64 k, .int .i64 a, .int .i64 b] w fun e w' => e = .returned (.bool true) ∧ Gr w w' := by
  have HO := Lib.hid HO; have HR := Lib.hid HR
  have HS := Lib.hid (fun W => step_any f s a W h1 h2 h3)
  have HT := Lib.hid (fun W => rstep_any f s a W h1 h2 h3)
  have e1 : (o == o) = true := by simp
  have e2 : (g == g) = true := by simp
  generalize (a - f) / s = q at *
  have e3 : (q != q) = false := by simp
  go_enter Tryd.func3, Tryd.ntmps3
  go_wp2_with fail; refine (awake_any _).mono ?_; rintro e w1 ⟨rfl, hb1⟩; obtain ⟨hc1, hf1⟩ := Gr.cells hb1; have hz1 := Gr.size hb1; (try simp at hz1); (try have hy1_0 : w.heap.size < w1.heap.size := by omega); (try have hy1_1 : w.heap.size + 1 < w1.heap.size := by omega); (try have hy1_2 : w.heap.size + 1 + 1 < w1.heap.size := by omega); (try have hy1_3 : w.heap.size + 1 + 1 + 1 < w1.heap.size := by omega); (try have hy1_4 : w.heap.size + 1 + 1 + 1 + 1 < w1.heap.size := by omega); (try have hy1_5 : w.heap.size + 1 + 1 + 1 + 1 + 1 < w1.heap.size := by omega)
  go_wp2_with (first | (go_at_call 12; refine (HS.out _).mono ?_; rintro e w' ⟨rfl, rfl⟩) | (go_at_call 15; refine (HT.out _).mono ?_; rintro e w' ⟨rfl, rfl⟩) | (go_at_call 16; refine (HO.out _).mono ?_; rintro e w' ⟨rfl, rfl⟩) | (go_at_call 17; refine (HR.out _).mono ?_; rintro e w' ⟨rfl, rfl⟩) | (go_at_call 13; refine (rinstant_any _ _).mono ?_; rintro e w' ⟨rfl, rfl⟩) | (go_at_call 14; refine (rlength_any _ _).mono ?_; rintro e w' ⟨rfl, rfl⟩))
  go_ret
  exact ⟨rfl, (by repeat' (first | (with_reducible exact Gr.refl _) | (with_reducible assumption) | (with_reducible refine Gr.alloc ?_ _) | (with_reducible refine Gr.drew ?_) | (with_reducible refine Gr.drewN ?_ _) | (with_reducible refine Gr.setCell ?_ ?_ _) | (with_reducible refine Gr.trans ?_ (by with_reducible assumption)) | go_size))⟩
theorem overs (f s k a b : Int) : ∃ o g : Int, (∀ W : World, Calls Tryd.prog 16 #[.int .i64 f, .int .i64 s, .int .i64 k, .int .i64 a, .int .i64 b] W fun e w' => e = .returned (.tuple #[.int .i64 o, .int .i64 g]) ∧ W = w') ∧ (∀ W : World, Calls Tryd.prog 17 #[.int .i64 f, .int .i64 s, .int .i64 k, .int .i64 a, .int .i64 b] W fun e w' => e = .returned (.tuple #[.int .i64 o, .int .i64 g]) ∧ W = w') := by
  by_cases hb : Ck.ovBad f s k a b
  · exact ⟨0, 2, fun W => over_bad f s k a b W hb, fun W => rover_bad f s k a b W hb⟩
  · have hall : Ck.inst f = true ∧ Ck.inst a = true ∧ Ck.inst b = true ∧ Ck.len s = true ∧ -1099511627776 ≤ k ∧ k ≤ 1099511627776 := by
      unfold Ck.ovBad at hb
      cases h1 : Ck.inst f <;> cases h2 : Ck.inst a <;> cases h3 : Ck.inst b <;> cases h4 : Ck.len s <;> simp [h1, h2, h3, h4] at hb ⊢
      omega
    obtain ⟨h1, h2, h3, h4, h5, h6⟩ := hall
    by_cases hab : a ≤ b
    · exact ⟨_, _, fun W => over_any f s k a b W h1 h2 h3 h4 h5 h6 hab, fun W => rover_any f s k a b W h1 h2 h3 h4 h5 h6 hab⟩
    · exact ⟨0, 17, fun W => over_order f s k a b W h1 h2 h3 h4 h5 h6 (by omega), fun W => rover_order f s k a b W h1 h2 h3 h4 h5 h6 (by omega)⟩
theorem steps_any (f s k a b : Int) (w : World) :
    Calls Tryd.prog 3 #[.int .i64 f, .int .i64 s, .int .i64 k, .int .i64 a, .int .i64 b] w fun e w' => e = .returned (.bool true) ∧ Gr w w' := by
  obtain ⟨o, g, HO, HR⟩ := overs f s k a b
  cases h1 : Ck.inst f
  · exact steps_bad f s k a b o g w (Or.inl h1) HO HR
  · cases h2 : Ck.inst a
    · exact steps_bad f s k a b o g w (Or.inr ⟨h1, Or.inl h2⟩) HO HR
    · cases h3 : Ck.len s
      · exact steps_bad f s k a b o g w (Or.inr ⟨h1, Or.inr ⟨h2, h3⟩⟩) HO HR
      · exact steps_ok f s k a b o g w h1 h2 h3 HO HR
end Go.Proofs.YtlcbjkkcfenlmaaDoor
