/-
  Law 25: RunoffMore, each way. (Printed by mkr.py.)
-/
import Derived.Test.YtjighhphadfoiaaRoO
import Derived.Test.YtjighhphadfoiaaRoP
import Derived.Test.YtjighhphadfoiaaRoQ
import Derived.Test.YtjighhphadfoiaaMade
import Derived.Test.YtjighhphadfoiaaRoL
set_option linter.unusedVariables false
set_option linter.unusedSimpArgs false
namespace Go.Proofs.Ytjighhphadfoiaa
open Go.RowKit
attribute [local go_sem ↓] Go.wp_at_zero Go.wp_at_succ

set_option maxRecDepth 100000 in
set_option maxHeartbeats 8000000 in
theorem more_far (C : Ba.SlClass) (a : Ba.SlI) (s : Ba.Ser) (more part : Int) (w : World) (hC : C.At w) (ha : a.At w) (hs : s.Ok w) (hf : Ba.fewB C a s = false ∨ Ba.fewB C a s = true ∧ (15 < C.n ∨ s.ds.n = 0)) : Calls Try.prog 3 #[.slice C.A C.n C.c, .slice a.A a.n a.c, s.val, .int .u16 more, .int .u32 part] w fun e w' => e = .returned (.bool true) ∧ Gr w w' := by
  rcases hf with hf | ⟨hf, hq⟩
  · have HF := Lib.hid (fun W (hh : Gr w W) => few_any C a s W (hC.gr hh) (ha.gr hh) (hs.gr hh))
    rw [hf] at HF
    unfold Ba.Ser.val at HF ⊢
    have mC := Nat.le_trans hC.hc hC.hb; have ma := Nat.le_trans ha.hc ha.hb; have ms := Nat.le_trans hs.2.2.hc hs.2.2.hb
    clear hC ha hs
    go_enter Try.func3, Try.ntmps3
    go_wp2_with fail
    refine (awake_any _).mono ?_
    rintro e w1 ⟨rfl, hb1⟩
    have g1 : Gr w w1 := Gr.trans (Gr.alloc (Gr.refl w) _) hb1
    have c0 : w1.cell? ⟨w.heap.size, 0, none⟩ = some (.int .i64 s.fr) := Gr.at hb1 (by simp [go_sem])
    have c1 : w1.cell? ⟨w.heap.size, 1, none⟩ = some (.int .i64 s.st) := Gr.at hb1 (by simp [go_sem])
    have c2 : w1.cell? ⟨w.heap.size, 2, none⟩ = some (.slice s.ds.A s.ds.n s.ds.c) := Gr.at hb1 (by simp [go_sem])
    clear hb1
    go_wp2_with fail
    refine (HF.out _ (by exact g1)).mono ?_
    rintro e w2 ⟨rfl, hb2⟩
    have g2 := g1.trans hb2
    replace c0 := Gr.at hb2 c0; replace c1 := Gr.at hb2 c1; replace c2 := Gr.at hb2 c2
    go_wp2_with fail
    go_ret
    exact ⟨rfl, gr_auto⟩
  · have HF := Lib.hid (fun W (hh : Gr w W) => few_any C a s W (hC.gr hh) (ha.gr hh) (hs.gr hh))
    rw [hf] at HF
    unfold Ba.Ser.val at HF ⊢
    have mC := Nat.le_trans hC.hc hC.hb; have ma := Nat.le_trans ha.hc ha.hb; have ms := Nat.le_trans hs.2.2.hc hs.2.2.hb
    clear hC ha hs
    by_cases hq1 : 15 < C.n
    · clear hq
      have q1 : (15 : Int) < (C.n : Int) := by omega
      go_enter Try.func3, Try.ntmps3
      go_wp2_with fail
      refine (awake_any _).mono ?_
      rintro e w1 ⟨rfl, hb1⟩
      have g1 : Gr w w1 := Gr.trans (Gr.alloc (Gr.refl w) _) hb1
      have c0 : w1.cell? ⟨w.heap.size, 0, none⟩ = some (.int .i64 s.fr) := Gr.at hb1 (by simp [go_sem])
      have c1 : w1.cell? ⟨w.heap.size, 1, none⟩ = some (.int .i64 s.st) := Gr.at hb1 (by simp [go_sem])
      have c2 : w1.cell? ⟨w.heap.size, 2, none⟩ = some (.slice s.ds.A s.ds.n s.ds.c) := Gr.at hb1 (by simp [go_sem])
      clear hb1
      go_wp2_with fail
      refine (HF.out _ (by exact g1)).mono ?_
      rintro e w2 ⟨rfl, hb2⟩
      have g2 := g1.trans hb2
      replace c0 := Gr.at hb2 c0; replace c1 := Gr.at hb2 c1; replace c2 := Gr.at hb2 c2
      go_wp2_with fail
      go_ret
      exact ⟨rfl, gr_auto⟩
    · replace hq : s.ds.n = 0 := by omega
      have q1 : (C.n : Int) ≤ 15 := by omega
      have q2 : ((s.ds.n : Int) == 0) = true := by rw [hq]; rfl
      clear hq
      go_enter Try.func3, Try.ntmps3
      go_wp2_with fail
      refine (awake_any _).mono ?_
      rintro e w1 ⟨rfl, hb1⟩
      have g1 : Gr w w1 := Gr.trans (Gr.alloc (Gr.refl w) _) hb1
      have c0 : w1.cell? ⟨w.heap.size, 0, none⟩ = some (.int .i64 s.fr) := Gr.at hb1 (by simp [go_sem])
      have c1 : w1.cell? ⟨w.heap.size, 1, none⟩ = some (.int .i64 s.st) := Gr.at hb1 (by simp [go_sem])
      have c2 : w1.cell? ⟨w.heap.size, 2, none⟩ = some (.slice s.ds.A s.ds.n s.ds.c) := Gr.at hb1 (by simp [go_sem])
      clear hb1
      go_wp2_with fail
      refine (HF.out _ (by exact g1)).mono ?_
      rintro e w2 ⟨rfl, hb2⟩
      have g2 := g1.trans hb2
      replace c0 := Gr.at hb2 c0; replace c1 := Gr.at hb2 c1; replace c2 := Gr.at hb2 c2
      go_wp2_with fail
      go_ret
      exact ⟨rfl, gr_auto⟩

set_option maxRecDepth 100000 in
set_option maxHeartbeats 8000000 in
theorem more_no (C : Ba.SlClass) (a : Ba.SlI) (s : Ba.Ser) (more part : Int) (w : World) (hC : C.At w) (ha : a.At w) (hs : s.Ok w) (hf : Ba.fewB C a s = true) (h15 : C.n ≤ 15) (h0 : 0 < s.ds.n) (he : Ba.depE C a s ≠ 0) : Calls Try.prog 3 #[.slice C.A C.n C.c, .slice a.A a.n a.c, s.val, .int .u16 more, .int .u32 part] w fun e w' => e = .returned (.bool true) ∧ Gr w w' := by
  have HD := Lib.hid (fun W (hh : Gr w W) => dep_any C a s W (hC.gr hh) (ha.gr hh) (hs.gr hh))
  have HF := Lib.hid (fun W (hh : Gr w W) => few_any C a s W (hC.gr hh) (ha.gr hh) (hs.gr hh))
  rw [hf] at HF
  unfold Ba.Ser.val at HF ⊢
  have mC := Nat.le_trans hC.hc hC.hb; have ma := Nat.le_trans ha.hc ha.hb; have ms := Nat.le_trans hs.2.2.hc hs.2.2.hb
  unfold Ba.Ser.val at HD
  unfold RetDep at HD
  clear hC ha hs
  have q1 : (C.n : Int) ≤ 15 := by omega
  have q2 : ((s.ds.n : Int) == 0) = false := beq_eq_false_iff_ne.2 (by omega)
  go_enter Try.func3, Try.ntmps3
  go_wp2_with fail
  refine (awake_any _).mono ?_
  rintro e w1 ⟨rfl, hb1⟩
  have g1 : Gr w w1 := Gr.trans (Gr.alloc (Gr.refl w) _) hb1
  have c0 : w1.cell? ⟨w.heap.size, 0, none⟩ = some (.int .i64 s.fr) := Gr.at hb1 (by simp [go_sem])
  have c1 : w1.cell? ⟨w.heap.size, 1, none⟩ = some (.int .i64 s.st) := Gr.at hb1 (by simp [go_sem])
  have c2 : w1.cell? ⟨w.heap.size, 2, none⟩ = some (.slice s.ds.A s.ds.n s.ds.c) := Gr.at hb1 (by simp [go_sem])
  clear hb1
  go_wp2_with fail
  refine (HF.out _ (by exact g1)).mono ?_
  rintro e w2 ⟨rfl, hb2⟩
  have g2 := g1.trans hb2
  replace c0 := Gr.at hb2 c0; replace c1 := Gr.at hb2 c1; replace c2 := Gr.at hb2 c2
  go_wp2_with fail
  refine (HD.out _ (by exact g2)).mono ?_
  rintro e w3 ⟨r, rfl, r1, r2, r3, hb3⟩
  have g3 := g2.trans hb3
  replace c0 := Gr.at hb3 c0; replace c1 := Gr.at hb3 c1; replace c2 := Gr.at hb3 c2
  have r3 := r3 he
  have e1 : (Ba.depE C a s == 0) = false := by simpa using he
  have e2 : (r.n : Int) = 0 := by omega
  clear HD HF r1 r2
  go_wp2_with fail
  go_ret
  exact ⟨rfl, gr_auto⟩

end Go.Proofs.Ytjighhphadfoiaa
