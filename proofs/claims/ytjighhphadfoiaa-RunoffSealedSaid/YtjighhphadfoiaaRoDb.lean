/-
  Law 25: RunoffDepths, all ways. (Printed by mkdb.py.)
-/
import Derived.Test.YtjighhphadfoiaaRoDa
import Derived.Test.YtjighhphadfoiaaRoRef
import Derived.Test.YtjighhphadfoiaaRoYl
set_option linter.unusedVariables false
set_option linter.unusedSimpArgs false
namespace Go.Proofs.Ytjighhphadfoiaa
open Go.RowKit
attribute [local go_sem ↓] Go.wp_at_zero Go.wp_at_succ

set_option maxRecDepth 100000 in
set_option maxHeartbeats 4000000 in
theorem depths_far (C : Ba.SlClass) (a : Ba.SlI) (s : Ba.Ser) (ar dp : Int) (w : World) (hC : C.At w) (ha : a.At w) (hs : s.Ok w) (hf : Ba.fewB C a s = false) : Calls Try.prog 8 #[.slice C.A C.n C.c, .slice a.A a.n a.c, s.val, .int .i64 ar, .int .i64 dp] w fun e w' => e = .returned (.bool true) ∧ Gr w w' := by
  have HF := Lib.hid (fun W (hh : Gr w W) => few_any C a s W (hC.gr hh) (ha.gr hh) (hs.gr hh))
  rw [hf] at HF
  have ms := Nat.le_trans hs.2.2.hc hs.2.2.hb
  unfold Ba.Ser.val at HF ⊢
  clear hC ha hs
  go_enter Try.func8, Try.ntmps8
  go_wp2_with fail
  refine (awake_any _).mono ?_
  rintro e w1 ⟨rfl, hb1⟩
  have g1 : Gr w w1 := Gr.trans (Gr.alloc (Gr.refl w) _) hb1
  have c0 : w1.cell? ⟨w.heap.size, 0, none⟩ = some (.int .i64 s.fr) := Gr.at hb1 (by simp [go_sem])
  have c1 : w1.cell? ⟨w.heap.size, 1, none⟩ = some (.int .i64 s.st) := Gr.at hb1 (by simp [go_sem])
  have c2 : w1.cell? ⟨w.heap.size, 2, none⟩ = some (.slice s.ds.A s.ds.n s.ds.c) := Gr.at hb1 (by simp [go_sem])
  clear hb1
  go_wp2_with fail
  refine (HF.out _ (by exact g1)).mono ?_
  rintro e w2 ⟨rfl, hb2⟩
  have g2 := g1.trans hb2
  replace c0 := Gr.at hb2 c0; replace c1 := Gr.at hb2 c1; replace c2 := Gr.at hb2 c2
  go_wp2_with fail
  go_ret
  exact ⟨rfl, gr_auto⟩

set_option maxRecDepth 100000 in
set_option maxHeartbeats 4000000 in
theorem depths_ok (C : Ba.SlClass) (a : Ba.SlI) (s : Ba.Ser) (ar dp : Int) (w : World) (hC : C.At w) (ha : a.At w) (hs : s.Ok w) (hf : Ba.fewB C a s = true) (b1 : 0 ≤ ar ∧ ar ≤ 1073741824) (b2 : 0 ≤ dp ∧ dp ≤ 4194304) : Calls Try.prog 8 #[.slice C.A C.n C.c, .slice a.A a.n a.c, s.val, .int .i64 ar, .int .i64 dp] w fun e w' => e = .returned (.bool true) ∧ Gr w w' := by
  have HF := Lib.hid (fun W (hh : Gr w W) => few_any C a s W (hC.gr hh) (ha.gr hh) (hs.gr hh))
  rw [hf] at HF
  have ms := Nat.le_trans hs.2.2.hc hs.2.2.hb
  have H1 := Lib.hid (fun W (hh : Gr w W) => dep_any C a s W (hC.gr hh) (ha.gr hh) (hs.gr hh))
  have H2 := Lib.hid (fun W (hh : Gr w W) => rdep_any C a s W (hC.gr hh) (ha.gr hh) (hs.gr hh))
  have HC := Lib.hid (fun W (hh : Gr w W) => coef_any C a s W (hC.gr hh) (ha.gr hh) (hs.gr hh))
  have HK := Lib.hid (fun W (hh : Gr w W) => rcoef_any C a s W (hC.gr hh) (ha.gr hh) (hs.gr hh))
  unfold RetDep at H1 H2
  generalize Ba.cofV C a s = cV at *
  generalize Ba.cofE C a s = cE at *
  obtain ⟨E, hE⟩ : ∃ z, Ba.depE C a s = z := ⟨_, rfl⟩
  rw [hE] at H1 H2
  clear hE
  unfold Ba.Ser.val at HF H1 H2 HC HK ⊢
  clear hC ha hs
  have HV := Lib.hid (fun W => vol_ok ar dp W b1 b2)
  have m := Ba.mul_bd b1 b2
  have m2 : -9223372036854775808 ≤ ar * dp ∧ ar * dp ≤ 9223372036854775807 := by omega
  clear m
  go_enter Try.func8, Try.ntmps8
  go_wp2_with fail
  refine (awake_any _).mono ?_
  rintro e w1 ⟨rfl, hb1⟩
  have g1 : Gr w w1 := Gr.trans (Gr.alloc (Gr.refl w) _) hb1
  have c0 : w1.cell? ⟨w.heap.size, 0, none⟩ = some (.int .i64 s.fr) := Gr.at hb1 (by simp [go_sem])
  have c1 : w1.cell? ⟨w.heap.size, 1, none⟩ = some (.int .i64 s.st) := Gr.at hb1 (by simp [go_sem])
  have c2 : w1.cell? ⟨w.heap.size, 2, none⟩ = some (.slice s.ds.A s.ds.n s.ds.c) := Gr.at hb1 (by simp [go_sem])
  clear hb1
  go_wp2_with fail
  refine (HF.out _ (by exact g1)).mono ?_
  rintro e w2 ⟨rfl, hb2⟩
  have g2 := g1.trans hb2
  replace c0 := Gr.at hb2 c0; replace c1 := Gr.at hb2 c1; replace c2 := Gr.at hb2 c2
  go_wp2_with fail
  refine (HV.out _).mono ?_
  rintro e w3 ⟨rfl, hb3⟩
  have g3 := g2.trans hb3
  replace c0 := Gr.at hb3 c0; replace c1 := Gr.at hb3 c1; replace c2 := Gr.at hb3 c2
  clear HV
  go_wp2_with fail
  refine (H1.out _ (by exact g3)).mono ?_
  rintro e w4 ⟨r, rfl, r1, r2, r3, hb4⟩
  have g4 := g3.trans hb4
  replace c0 := Gr.at hb4 c0; replace c1 := Gr.at hb4 c1; replace c2 := Gr.at hb4 c2
  replace r1 := Lib.hid r1; replace r2 := Lib.hid r2; replace r3 := Lib.hid r3
  clear H1
  go_wp2_with fail
  refine (HC.out _ (by exact g4)).mono ?_
  rintro e w5 ⟨rfl, hb5⟩
  have g5 := g4.trans hb5
  replace c0 := Gr.at hb5 c0; replace c1 := Gr.at hb5 c1; replace c2 := Gr.at hb5 c2
  clear HC
  go_wp2_with fail
  refine (H2.out _ (by exact g5)).mono ?_
  rintro e w6 ⟨q, rfl, q1, q2, q3, hb6⟩
  have g6 := g5.trans hb6
  replace c0 := Gr.at hb6 c0; replace c1 := Gr.at hb6 c1; replace c2 := Gr.at hb6 c2
  clear H2
  go_wp2_with fail
  refine (HK.out _ (by exact g6)).mono ?_
  rintro e w7 ⟨rfl, hb7⟩
  have g7 := g6.trans hb7
  replace c0 := Gr.at hb7 c0; replace c1 := Gr.at hb7 c1; replace c2 := Gr.at hb7 c2
  clear HK
  have HQ := Lib.hid (fun W (hh : Gr w7 W) => eq_ret r q E W (r1.out.gr (hb5.trans (hb6.trans (hb7.trans hh)))) (q1.gr (hb7.trans hh)) (fun h => ⟨(r2.out h).1, fun j hj => (r2.out h).2 j (by have := (r2.out h).1; omega)⟩) r3.out (fun h => ⟨(q2 h).1, fun j hj => (q2 h).2 j (by have := (q2 h).1; omega)⟩) q3)
  clear r1 r2 r3 q1 q2 q3
  go_wp2_with fail
  refine (HQ.out _ (by exact Gr.refl _)).mono ?_
  rintro e w8 ⟨rfl, hb8⟩
  clear HQ
  go_wp2_with fail
  go_ret
  exact ⟨rfl, g7.trans hb8⟩

set_option maxRecDepth 100000 in
set_option maxHeartbeats 4000000 in
theorem depths_no (C : Ba.SlClass) (a : Ba.SlI) (s : Ba.Ser) (ar dp : Int) (w : World) (hC : C.At w) (ha : a.At w) (hs : s.Ok w) (hf : Ba.fewB C a s = true) (hb : ar < 0 ∨ (0 ≤ ar ∧ 1073741824 < ar) ∨ ((0 ≤ ar ∧ ar ≤ 1073741824) ∧ dp < 0) ∨ ((0 ≤ ar ∧ ar ≤ 1073741824) ∧ (0 ≤ dp ∧ 4194304 < dp))) : Calls Try.prog 8 #[.slice C.A C.n C.c, .slice a.A a.n a.c, s.val, .int .i64 ar, .int .i64 dp] w fun e w' => e = .returned (.bool true) ∧ Gr w w' := by
  have HF := Lib.hid (fun W (hh : Gr w W) => few_any C a s W (hC.gr hh) (ha.gr hh) (hs.gr hh))
  rw [hf] at HF
  have ms := Nat.le_trans hs.2.2.hc hs.2.2.hb
  have H1 := Lib.hid (fun W (hh : Gr w W) => dep_any C a s W (hC.gr hh) (ha.gr hh) (hs.gr hh))
  have H2 := Lib.hid (fun W (hh : Gr w W) => rdep_any C a s W (hC.gr hh) (ha.gr hh) (hs.gr hh))
  have HC := Lib.hid (fun W (hh : Gr w W) => coef_any C a s W (hC.gr hh) (ha.gr hh) (hs.gr hh))
  have HK := Lib.hid (fun W (hh : Gr w W) => rcoef_any C a s W (hC.gr hh) (ha.gr hh) (hs.gr hh))
  unfold RetDep at H1 H2
  generalize Ba.cofV C a s = cV at *
  generalize Ba.cofE C a s = cE at *
  obtain ⟨E, hE⟩ : ∃ z, Ba.depE C a s = z := ⟨_, rfl⟩
  rw [hE] at H1 H2
  clear hE
  unfold Ba.Ser.val at HF H1 H2 HC HK ⊢
  clear hC ha hs
  have HV := Lib.hid (fun W => vol_no ar dp W (by omega))
  rcases hb with b1 | b1 | ⟨b1, b2⟩ | ⟨b1, b2⟩
  all_goals
    go_enter Try.func8, Try.ntmps8
    go_wp2_with fail
    refine (awake_any _).mono ?_
    rintro e w1 ⟨rfl, hb1⟩
    have g1 : Gr w w1 := Gr.trans (Gr.alloc (Gr.refl w) _) hb1
    have c0 : w1.cell? ⟨w.heap.size, 0, none⟩ = some (.int .i64 s.fr) := Gr.at hb1 (by simp [go_sem])
    have c1 : w1.cell? ⟨w.heap.size, 1, none⟩ = some (.int .i64 s.st) := Gr.at hb1 (by simp [go_sem])
    have c2 : w1.cell? ⟨w.heap.size, 2, none⟩ = some (.slice s.ds.A s.ds.n s.ds.c) := Gr.at hb1 (by simp [go_sem])
    clear hb1
    go_wp2_with fail
    refine (HF.out _ (by exact g1)).mono ?_
    rintro e w2 ⟨rfl, hb2⟩
    have g2 := g1.trans hb2
    replace c0 := Gr.at hb2 c0; replace c1 := Gr.at hb2 c1; replace c2 := Gr.at hb2 c2
    go_wp2_with fail
    refine (HV.out _).mono ?_
    rintro e w3 ⟨rfl, hb3⟩
    have g3 := g2.trans hb3
    replace c0 := Gr.at hb3 c0; replace c1 := Gr.at hb3 c1; replace c2 := Gr.at hb3 c2
    clear HV
    go_wp2_with fail
    refine (H1.out _ (by exact g3)).mono ?_
    rintro e w4 ⟨r, rfl, r1, r2, r3, hb4⟩
    have g4 := g3.trans hb4
    replace c0 := Gr.at hb4 c0; replace c1 := Gr.at hb4 c1; replace c2 := Gr.at hb4 c2
    replace r1 := Lib.hid r1; replace r2 := Lib.hid r2; replace r3 := Lib.hid r3
    clear H1
    go_wp2_with fail
    refine (HC.out _ (by exact g4)).mono ?_
    rintro e w5 ⟨rfl, hb5⟩
    have g5 := g4.trans hb5
    replace c0 := Gr.at hb5 c0; replace c1 := Gr.at hb5 c1; replace c2 := Gr.at hb5 c2
    clear HC
    go_wp2_with fail
    refine (H2.out _ (by exact g5)).mono ?_
    rintro e w6 ⟨q, rfl, q1, q2, q3, hb6⟩
    have g6 := g5.trans hb6
    replace c0 := Gr.at hb6 c0; replace c1 := Gr.at hb6 c1; replace c2 := Gr.at hb6 c2
    clear H2
    go_wp2_with fail
    refine (HK.out _ (by exact g6)).mono ?_
    rintro e w7 ⟨rfl, hb7⟩
    have g7 := g6.trans hb7
    replace c0 := Gr.at hb7 c0; replace c1 := Gr.at hb7 c1; replace c2 := Gr.at hb7 c2
    clear HK
    have HQ := Lib.hid (fun W (hh : Gr w7 W) => eq_ret r q E W (r1.out.gr (hb5.trans (hb6.trans (hb7.trans hh)))) (q1.gr (hb7.trans hh)) (fun h => ⟨(r2.out h).1, fun j hj => (r2.out h).2 j (by have := (r2.out h).1; omega)⟩) r3.out (fun h => ⟨(q2 h).1, fun j hj => (q2 h).2 j (by have := (q2 h).1; omega)⟩) q3)
    clear r1 r2 r3 q1 q2 q3
    go_wp2_with fail
    refine (HQ.out _ (by exact Gr.refl _)).mono ?_
    rintro e w8 ⟨rfl, hb8⟩
    clear HQ
    go_wp2_with fail
    go_ret
    exact ⟨rfl, g7.trans hb8⟩

theorem depths_law (C : Ba.SlClass) (a : Ba.SlI) (s : Ba.Ser) (ar dp : Int) (w : World) (hC : C.At w) (ha : a.At w) (hs : s.Ok w) (_ : -9223372036854775808 ≤ ar ∧ ar ≤ 9223372036854775807) (_ : -9223372036854775808 ≤ dp ∧ dp ≤ 9223372036854775807) : Calls Try.prog 8 #[.slice C.A C.n C.c, .slice a.A a.n a.c, s.val, .int .i64 ar, .int .i64 dp] w fun e w' => e = .returned (.bool true) ∧ Gr w w' := by
  cases hf : Ba.fewB C a s
  · exact depths_far C a s ar dp w hC ha hs hf
  by_cases h : (0 ≤ ar ∧ ar ≤ 1073741824) ∧ (0 ≤ dp ∧ dp ≤ 4194304)
  · exact depths_ok C a s ar dp w hC ha hs hf h.1 h.2
  · exact depths_no C a s ar dp w hC ha hs hf (by omega)
end Go.Proofs.Ytjighhphadfoiaa
