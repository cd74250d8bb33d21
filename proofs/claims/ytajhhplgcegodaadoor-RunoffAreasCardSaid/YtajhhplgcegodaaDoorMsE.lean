/-
  Surfaces: the functions that mesh.Check makes of its own, and the test of sizes; strconv.Itoa of small numbers. (Printed by mke.py.)
-/
import Derived.Test.YtajhhplgcegodaaDoorMsC
import Derived.Test.YtajhhplgcegodaaDoorMsD
import Derived.Test.YtajhhplgcegodaaDoorShelf
set_option linter.unusedVariables false
set_option linter.unusedSimpArgs false
namespace Go.Proofs.YtajhhplgcegodaaDoor
open Go.RowKit
attribute [local go_sem ↓] Go.wp_at_zero Go.wp_at_succ
theorem ms_enter {P : Program} {f : FuncId} {fn : Func} (hf : P.funcs[f]? = some fn) (hn : (fn.name == "runtime.NumGoroutine") = false) (hb : fn.body.isNone = false) (args : Array Value) (w : World) :
    (callFunc f args).run P w = .ok (.enter f args) w := by
  have h1 : fn.name ≠ "runtime.NumGoroutine" := by simpa using hn
  have h2 : fn.body ≠ none := fun h => by rw [h] at hb; exact absurd hb (by decide)
  simp [callFunc, hf, h1, h2]

theorem itoa_small (n : Nat) (hn : n < 100) (w : World) : Calls Tryd.prog 62 #[.int .i64 (n : Int)] w fun e w' => e = .returned (.string ⟨(Lib.decDigits n).toArray⟩) ∧ w = w' :=
  (Tryd.strconv_Itoa_small n hn w).mono fun e w' ⟨he, hw⟩ => ⟨he, hw.symm⟩
set_option maxRecDepth 100000 in
set_option maxHeartbeats 4000000 in
theorem ms_ck1 (m : Ms.Mesh) (x : Int) (MB BF G : Nat) (w : World) (hm : m.S.n ≤ 9223372036854775807) (h0 : w.cell? ⟨MB, 0, none⟩ = some (.slice m.S.A m.S.n m.S.c)) (h1 : w.cell? ⟨BF, 0, none⟩ = some (.slice (some ⟨G, 0, none⟩) m.S.n m.S.n)) (hr : ∀ j, j < m.S.n → w.cell? ⟨G, j, none⟩ = some (.bool (!Ms.spB (m.S.D j)))) :
    Calls Tryd.prog 55 #[.int .i64 x, .pointer (some ⟨MB, 0, none⟩), .pointer (some ⟨BF, 0, none⟩)] w fun e w' => e = .returned (.bool (!Ms.inR m x)) ∧ Gr w w' := by
  unfold Ms.inR
  have HR := Lib.hid hr
  clear hr
  by_cases c1 : x < 0
  · have t1 : decide (x < 0) = true := decide_eq_true c1
    rw [decide_eq_false (by omega : ¬ 0 ≤ x)]
    clear HR h1 c1
    generalize m.S.A = A at *; generalize m.S.n = n at *; generalize m.S.c = c at *
    go_enter Tryd.func55, Tryd.ntmps55
    go_wp2_with fail
    go_ret
    exact ⟨rfl, gr_auto⟩
  have t1 : decide (x < 0) = false := decide_eq_false c1
  obtain ⟨i, rfl⟩ : ∃ i : Nat, x = (i : Int) := ⟨x.toNat, by omega⟩
  rw [decide_eq_true (by omega : (0 : Int) ≤ (i : Int)), Int.toNat_natCast]
  by_cases c2 : i < m.S.n
  · have t2 : decide ((m.S.n : Int) ≤ (i : Int)) = false := decide_eq_false (by omega)
    have t3 : decide (m.S.n ≤ i) = false := decide_eq_false (by omega)
    rw [decide_eq_true (by omega : (i : Int) < (m.S.n : Int))]
    have c := HR.out i c2
    have i0 : (0 : Int) ≤ (i : Int) := by omega
    have i1 : (i : Int) < (m.S.n : Int) := by omega
    clear HR c1
    generalize Ms.spB (m.S.D i) = q at *
    generalize m.S.A = A at *; generalize m.S.n = n at *; generalize m.S.c = c at *
    go_enter Tryd.func55, Tryd.ntmps55
    go_wp2_with fail
    go_ret
    exact ⟨by cases q <;> rfl, gr_auto⟩
  · have t2 : decide ((m.S.n : Int) ≤ (i : Int)) = true := decide_eq_true (by omega)
    have t3 : decide (m.S.n ≤ i) = true := decide_eq_true (by omega)
    rw [decide_eq_false (by omega : ¬ (i : Int) < (m.S.n : Int))]
    clear HR h1 c1 c2
    generalize m.S.A = A at *; generalize m.S.n = n at *; generalize m.S.c = c at *
    go_enter Tryd.func55, Tryd.ntmps55
    go_wp2_with fail
    go_ret
    exact ⟨rfl, gr_auto⟩
set_option maxRecDepth 100000 in
set_option maxHeartbeats 4000000 in
theorem ms_ck2 (t u : Ms.Tri) (TB : Nat) (w : World) (ht : Ms.tOk t) (hu : Ms.tOk u) (hc : t.Cells w TB 0) : Calls Tryd.prog 60 #[u.val, .pointer (some ⟨TB, 0, none⟩)] w fun e w' => e = .returned (.bool (Ms.ovB t u)) ∧ Gr w w' := by
  have H1 := Lib.hid (fun W => ms_sep t u W ht hu); have H2 := Lib.hid (fun W => ms_sep u t W hu ht)
  unfold Ms.ovB
  obtain ⟨tx0, ty0, tx1, ty1, tx2, ty2⟩ := t
  obtain ⟨ux0, uy0, ux1, uy1, ux2, uy2⟩ := u
  unfold Ba.Tri.val at *
  obtain ⟨c0, c1, c2, c3, c4, c5⟩ := hc
  simp only [Nat.zero_add] at *
  clear ht hu
  generalize Ms.sepB ⟨tx0, ty0, tx1, ty1, tx2, ty2⟩ ⟨ux0, uy0, ux1, uy1, ux2, uy2⟩ = p at *
  generalize Ms.sepB ⟨ux0, uy0, ux1, uy1, ux2, uy2⟩ ⟨tx0, ty0, tx1, ty1, tx2, ty2⟩ = q at *
  have hT : TB < w.heap.size := World.block_lt_of_cell? _ _ c0
  have hT2 : TB ≠ w.heap.size := by omega
  go_enter Tryd.func60, Tryd.ntmps60
  go_wp2_with fail
  (first | refine name_world ?_ | refine (show (∀ W, W = _ → Calls _ _ _ W _) → Calls _ _ _ _ _ from fun h => h _ rfl) ?_); intro W1 hW1
  have g1 : Gr w W1 := by rw [hW1]; exact gr_auto
  have k1_0 : W1.cell? ⟨w.heap.size, 0, none⟩ = some (.int .i64 ux0) := by rw [hW1]; first | (simp [go_sem, *]; done) | (refine Gr.at ?_ (by assumption); exact gr_auto)
  have b1_0 : w.heap.size < W1.heap.size := World.block_lt_of_cell? _ _ k1_0
  have k1_1 : W1.cell? ⟨w.heap.size, 1, none⟩ = some (.int .i64 uy0) := by rw [hW1]; first | (simp [go_sem, *]; done) | (refine Gr.at ?_ (by assumption); exact gr_auto)
  have k1_2 : W1.cell? ⟨w.heap.size, 2, none⟩ = some (.int .i64 ux1) := by rw [hW1]; first | (simp [go_sem, *]; done) | (refine Gr.at ?_ (by assumption); exact gr_auto)
  have k1_3 : W1.cell? ⟨w.heap.size, 3, none⟩ = some (.int .i64 uy1) := by rw [hW1]; first | (simp [go_sem, *]; done) | (refine Gr.at ?_ (by assumption); exact gr_auto)
  have k1_4 : W1.cell? ⟨w.heap.size, 4, none⟩ = some (.int .i64 ux2) := by rw [hW1]; first | (simp [go_sem, *]; done) | (refine Gr.at ?_ (by assumption); exact gr_auto)
  have k1_5 : W1.cell? ⟨w.heap.size, 5, none⟩ = some (.int .i64 uy2) := by rw [hW1]; first | (simp [go_sem, *]; done) | (refine Gr.at ?_ (by assumption); exact gr_auto)
  have k1_6 : W1.cell? ⟨TB, 0, none⟩ = some (.int .i64 tx0) := by rw [hW1]; first | (simp [go_sem, *]; done) | (refine Gr.at ?_ (by assumption); exact gr_auto)
  have b1_6 : TB < W1.heap.size := World.block_lt_of_cell? _ _ k1_6
  have k1_7 : W1.cell? ⟨TB, 1, none⟩ = some (.int .i64 ty0) := by rw [hW1]; first | (simp [go_sem, *]; done) | (refine Gr.at ?_ (by assumption); exact gr_auto)
  have k1_8 : W1.cell? ⟨TB, 2, none⟩ = some (.int .i64 tx1) := by rw [hW1]; first | (simp [go_sem, *]; done) | (refine Gr.at ?_ (by assumption); exact gr_auto)
  have k1_9 : W1.cell? ⟨TB, 3, none⟩ = some (.int .i64 ty1) := by rw [hW1]; first | (simp [go_sem, *]; done) | (refine Gr.at ?_ (by assumption); exact gr_auto)
  have k1_10 : W1.cell? ⟨TB, 4, none⟩ = some (.int .i64 tx2) := by rw [hW1]; first | (simp [go_sem, *]; done) | (refine Gr.at ?_ (by assumption); exact gr_auto)
  have k1_11 : W1.cell? ⟨TB, 5, none⟩ = some (.int .i64 ty2) := by rw [hW1]; first | (simp [go_sem, *]; done) | (refine Gr.at ?_ (by assumption); exact gr_auto)
  clear hW1
  refine (H1.out _).mono ?_
  rintro e w2 ⟨rfl, hb2⟩
  clear H1
  replace k1_0 := Gr.at hb2 k1_0
  replace k1_1 := Gr.at hb2 k1_1
  replace k1_2 := Gr.at hb2 k1_2
  replace k1_3 := Gr.at hb2 k1_3
  replace k1_4 := Gr.at hb2 k1_4
  replace k1_5 := Gr.at hb2 k1_5
  replace k1_6 := Gr.at hb2 k1_6
  replace k1_7 := Gr.at hb2 k1_7
  replace k1_8 := Gr.at hb2 k1_8
  replace k1_9 := Gr.at hb2 k1_9
  replace k1_10 := Gr.at hb2 k1_10
  replace k1_11 := Gr.at hb2 k1_11
  have g2 := g1.trans hb2
  cases p
  · clear c0 c1 c2 c3 c4 c5
    go_wp2_with fail
    refine (H2.out _).mono ?_
    rintro e w3 ⟨rfl, hb3⟩
    clear H2
    go_wp2_with fail
    go_ret
    exact ⟨rfl, g2.trans hb3⟩
  · clear c0 c1 c2 c3 c4 c5 H2
    go_wp2_with fail
    go_ret
    exact ⟨rfl, g2⟩
set_option maxRecDepth 100000 in
set_option maxHeartbeats 4000000 in
theorem ms_small (m : Ms.Mesh) (w : World) : Calls Tryd.prog 51 #[m.val] w fun e w' => e = .returned (.bool (Ms.smB m)) ∧ Gr w w' := by
  unfold Ms.smB Ms.Mesh.val
  generalize m.S.A = sA at *; generalize m.S.n = sn at *; generalize m.S.c = sc at *; generalize m.F.A = fA at *; generalize m.F.n = fn at *; generalize m.F.c = fc at *
  rw [show decide (sn ≤ 2000) = decide ((sn : Int) ≤ 2000) from decide_eq_decide.2 (by omega), show decide (fn ≤ 4000) = decide ((fn : Int) ≤ 4000) from decide_eq_decide.2 (by omega)]
  cases q1 : decide ((sn : Int) ≤ 2000)
  · go_enter Tryd.func51, Tryd.ntmps51
    go_wp2_with fail
    go_ret
    exact ⟨rfl, gr_auto⟩
  · cases q2 : decide ((fn : Int) ≤ 4000)
    · go_enter Tryd.func51, Tryd.ntmps51
      go_wp2_with fail
      go_ret
      exact ⟨rfl, gr_auto⟩
    · go_enter Tryd.func51, Tryd.ntmps51
      go_wp2_with fail
      go_ret
      exact ⟨rfl, gr_auto⟩
set_option maxRecDepth 100000 in
set_option maxHeartbeats 4000000 in
theorem rs_small (m : Ms.Mesh) (w : World) : Calls Tryd.prog 12 #[m.val] w fun e w' => e = .returned (.bool (Ms.smB m)) ∧ Gr w w' := by
  unfold Ms.smB Ms.Mesh.val
  generalize m.S.A = sA at *; generalize m.S.n = sn at *; generalize m.S.c = sc at *; generalize m.F.A = fA at *; generalize m.F.n = fn at *; generalize m.F.c = fc at *
  rw [show decide (sn ≤ 2000) = decide ((sn : Int) ≤ 2000) from decide_eq_decide.2 (by omega), show decide (fn ≤ 4000) = decide ((fn : Int) ≤ 4000) from decide_eq_decide.2 (by omega)]
  cases q1 : decide ((sn : Int) ≤ 2000)
  · go_enter Tryd.func12, Tryd.ntmps12
    go_wp2_with fail
    go_ret
    exact ⟨rfl, gr_auto⟩
  · cases q2 : decide ((fn : Int) ≤ 4000)
    · go_enter Tryd.func12, Tryd.ntmps12
      go_wp2_with fail
      go_ret
      exact ⟨rfl, gr_auto⟩
    · go_enter Tryd.func12, Tryd.ntmps12
      go_wp2_with fail
      go_ret
      exact ⟨rfl, gr_auto⟩
end Go.Proofs.YtajhhplgcegodaaDoor
