/-
  Law 25: RunoffOf, all ways. (Printed by mkog.py.)
-/
import Derived.Test.YtjighhphadfoiaaRoRef
import Derived.Test.YtjighhphadfoiaaRoO
set_option linter.unusedVariables false
set_option linter.unusedSimpArgs false
namespace Go.Proofs.Ytjighhphadfoiaa
open Go.RowKit
attribute [local go_sem ↓] Go.wp_at_zero Go.wp_at_succ

set_option maxRecDepth 100000 in
set_option maxHeartbeats 4000000 in
theorem offar (C : Ba.SlClass) (a u : Ba.SlI) (s : Ba.Ser) (w : World) (hC : C.At w) (ha : a.At w) (hu : u.At w) (hs : s.Ok w) (hf : Ba.fewB C a s = false ∨ Ba.fewB C a s = true ∧ 60 < u.n) : Calls Try.prog 4 #[.slice C.A C.n C.c, .slice a.A a.n a.c, .slice u.A u.n u.c, s.val] w fun e w' => e = .returned (.bool true) ∧ Gr w w' := by
  rcases hf with hf | ⟨hf, hq⟩
  · have HF := Lib.hid (fun W (hh : Gr w W) => few_any C a s W (hC.gr hh) (ha.gr hh) (hs.gr hh))
    rw [hf] at HF
    have mu := Nat.le_trans hu.hc hu.hb
    have ms := Nat.le_trans hs.2.2.hc hs.2.2.hb
    unfold Ba.Ser.val at HF ⊢
    clear hC ha hs hu
    go_enter Try.func4, Try.ntmps4
    go_wp2_with fail
    refine (awake_any _).mono ?_
    rintro e w1 ⟨rfl, hb1⟩
    have g1 : Gr w w1 := Gr.trans (Gr.alloc (Gr.refl w) _) hb1
    have c0 : w1.cell? ⟨w.heap.size, 0, none⟩ = some (.int .i64 s.fr) := Gr.at hb1 (by simp [go_sem])
    have c1 : w1.cell? ⟨w.heap.size, 1, none⟩ = some (.int .i64 s.st) := Gr.at hb1 (by simp [go_sem])
    have c2 : w1.cell? ⟨w.heap.size, 2, none⟩ = some (.slice s.ds.A s.ds.n s.ds.c) := Gr.at hb1 (by simp [go_sem])
    clear hb1
    go_wp2_with fail
    refine (HF.out _ (by exact g1)).mono ?_
    rintro e w2 ⟨rfl, hb2⟩
    have g2 := g1.trans hb2
    replace c0 := Gr.at hb2 c0; replace c1 := Gr.at hb2 c1; replace c2 := Gr.at hb2 c2
    go_wp2_with fail
    go_ret
    exact ⟨rfl, gr_auto⟩
  · have HF := Lib.hid (fun W (hh : Gr w W) => few_any C a s W (hC.gr hh) (ha.gr hh) (hs.gr hh))
    rw [hf] at HF
    have mu := Nat.le_trans hu.hc hu.hb
    have ms := Nat.le_trans hs.2.2.hc hs.2.2.hb
    unfold Ba.Ser.val at HF ⊢
    clear hC ha hs hu
    have q1 : (60 : Int) < (u.n : Int) := by omega
    clear hq
    go_enter Try.func4, Try.ntmps4
    go_wp2_with fail
    refine (awake_any _).mono ?_
    rintro e w1 ⟨rfl, hb1⟩
    have g1 : Gr w w1 := Gr.trans (Gr.alloc (Gr.refl w) _) hb1
    have c0 : w1.cell? ⟨w.heap.size, 0, none⟩ = some (.int .i64 s.fr) := Gr.at hb1 (by simp [go_sem])
    have c1 : w1.cell? ⟨w.heap.size, 1, none⟩ = some (.int .i64 s.st) := Gr.at hb1 (by simp [go_sem])
    have c2 : w1.cell? ⟨w.heap.size, 2, none⟩ = some (.slice s.ds.A s.ds.n s.ds.c) := Gr.at hb1 (by simp [go_sem])
    clear hb1
    go_wp2_with fail
    refine (HF.out _ (by exact g1)).mono ?_
    rintro e w2 ⟨rfl, hb2⟩
    have g2 := g1.trans hb2
    replace c0 := Gr.at hb2 c0; replace c1 := Gr.at hb2 c1; replace c2 := Gr.at hb2 c2
    go_wp2_with fail
    go_ret
    exact ⟨rfl, gr_auto⟩

set_option maxRecDepth 100000 in
set_option maxHeartbeats 4000000 in
theorem ofmain (C : Ba.SlClass) (a u : Ba.SlI) (s : Ba.Ser) (w : World) (hC : C.At w) (ha : a.At w) (hu : u.At w) (hs : s.Ok w) (hf : Ba.fewB C a s = true) (h60 : u.n ≤ 60) : Calls Try.prog 4 #[.slice C.A C.n C.c, .slice a.A a.n a.c, .slice u.A u.n u.c, s.val] w fun e w' => e = .returned (.bool true) ∧ Gr w w' := by
  have HF := Lib.hid (fun W (hh : Gr w W) => few_any C a s W (hC.gr hh) (ha.gr hh) (hs.gr hh))
  rw [hf] at HF
  have mu := Nat.le_trans hu.hc hu.hb
  have ms := Nat.le_trans hs.2.2.hc hs.2.2.hb
  have hfew := Ba.few_le hf
  have H1 := Lib.hid (fun W (hh : Gr w W) => of_any C a u s W (hC.gr hh) (ha.gr hh) (hu.gr hh) (hs.gr hh) (by omega))
  have H2 := Lib.hid (fun W (hh : Gr w W) => rof_any C a u s W (hC.gr hh) (ha.gr hh) (hu.gr hh) (hs.gr hh) (by omega))
  unfold Ba.Ser.val at HF H1 H2 ⊢
  unfold RetOf at H1 H2
  clear hC ha hs hu
  have q1 : (u.n : Int) ≤ 60 := by omega
  go_enter Try.func4, Try.ntmps4
  go_wp2_with fail
  refine (awake_any _).mono ?_
  rintro e w1 ⟨rfl, hb1⟩
  have g1 : Gr w w1 := Gr.trans (Gr.alloc (Gr.refl w) _) hb1
  have c0 : w1.cell? ⟨w.heap.size, 0, none⟩ = some (.int .i64 s.fr) := Gr.at hb1 (by simp [go_sem])
  have c1 : w1.cell? ⟨w.heap.size, 1, none⟩ = some (.int .i64 s.st) := Gr.at hb1 (by simp [go_sem])
  have c2 : w1.cell? ⟨w.heap.size, 2, none⟩ = some (.slice s.ds.A s.ds.n s.ds.c) := Gr.at hb1 (by simp [go_sem])
  clear hb1
  go_wp2_with fail
  refine (HF.out _ (by exact g1)).mono ?_
  rintro e w2 ⟨rfl, hb2⟩
  have g2 := g1.trans hb2
  replace c0 := Gr.at hb2 c0; replace c1 := Gr.at hb2 c1; replace c2 := Gr.at hb2 c2
  obtain ⟨E, hE⟩ : ∃ z, Ba.ofE C a u s = z := ⟨_, rfl⟩
  rw [hE] at H1 H2
  clear hE
  go_wp2_with fail
  refine (H1.out _ (by exact g2)).mono ?_
  rintro e w3 ⟨r, rfl, r1, r2, r3, hb3⟩
  have g3 := g2.trans hb3
  replace c0 := Gr.at hb3 c0; replace c1 := Gr.at hb3 c1; replace c2 := Gr.at hb3 c2
  replace r1 := Lib.hid r1; replace r2 := Lib.hid r2; replace r3 := Lib.hid r3
  clear H1
  go_wp2_with fail
  refine (H2.out _ (by exact g3)).mono ?_
  rintro e w4 ⟨q, rfl, s1, s2, s3, hb4⟩
  have g4 := g3.trans hb4
  have HQ := Lib.hid (fun W (hh : Gr w4 W) => show Calls Try.prog 15 #[.slice r.A r.n r.c, .slice q.A q.n q.c] W fun e w' => e = .returned (.bool true) ∧ Gr W w' from by
    have z := equal_any r q W ((r1.out.gr hb4).gr hh) (s1.gr hh)
    have e : Ba.eqI r q = true := by
      by_cases hE : E = 0
      · obtain ⟨a1, a2⟩ := r2.out hE
        obtain ⟨b1, b2⟩ := s2 hE
        exact Ba.eqI_of (a1.trans b1.symm) fun i hi => (a2 i hi).trans (b2 i (by omega)).symm
      · have a1 := r3.out hE; have b1 := s3 hE
        exact Ba.eqI_of (a1.trans b1.symm) fun i hi => absurd hi (by omega)
    rw [e] at z
    exact z)
  clear s1 s2 s3 r1 r2 r3 H2
  go_wp2_with fail
  refine (HQ.out _ (by exact Gr.refl _)).mono ?_
  rintro e w5 ⟨rfl, hb5⟩
  go_wp2_with fail
  go_ret
  exact ⟨rfl, g4.trans hb5⟩

theorem of_law (C : Ba.SlClass) (a u : Ba.SlI) (s : Ba.Ser) (w : World) (hC : C.At w) (ha : a.At w) (hu : u.At w) (hs : s.Ok w) : Calls Try.prog 4 #[.slice C.A C.n C.c, .slice a.A a.n a.c, .slice u.A u.n u.c, s.val] w fun e w' => e = .returned (.bool true) ∧ Gr w w' := by
  cases hf : Ba.fewB C a s
  · exact offar C a u s w hC ha hu hs (.inl hf)
  by_cases hq : 60 < u.n
  · exact offar C a u s w hC ha hu hs (.inr ⟨hf, hq⟩)
  · exact ofmain C a u s w hC ha hu hs hf (by omega)
end Go.Proofs.Ytjighhphadfoiaa
