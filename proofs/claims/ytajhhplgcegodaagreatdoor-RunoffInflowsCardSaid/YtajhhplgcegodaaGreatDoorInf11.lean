/-
  Runoff: what does not run off, class by class: the program's. (Printed by mkb.py.)
-/
import Derived.Test.YtajhhplgcegodaaGreatDoorInf10
import Derived.Test.YtajhhplgcegodaaGreatDoorInf02
import Derived.Deep.DrawnRows
set_option linter.unusedVariables false
set_option linter.unusedSimpArgs false
namespace Go.Proofs.YtajhhplgcegodaaGreatDoor
open Go.RowKit
attribute [local go_sem ↓] Go.wp_at_zero Go.wp_at_succ
theorem name_post {P : Program} {f : Func} {R : Ending → World → Prop} {x : Exit} {a : Act} {w : World} (h : ∀ W, W = w → bodyPost P f R x a W) : bodyPost P f R x a w := h w rfl
namespace Ba
/-- What wets, what runs on, what seeps in, what runs off. -/
def rW (d : Class) (wet dep : Int) : Int := min dep (d.we - wet)
def rR (d : Class) (wet dep : Int) : Int := dep - rW d wet dep
def rH (d : Class) (wet held dep : Int) : Int := min (rR d wet dep) (d.ro - held)
def offI (d : Class) (wet held dep : Int) : Int := rR d wet dep * d.se + (rR d wet dep - rH d wet held dep) * (1000 - d.se)
def ceilI (n k : Int) : Int := (n + k - 1) / k
def hD (d : Class) (held sec : Int) : Int := max 0 (held - ceilI (held * d.dr * sec) 3600000)
def wD (d : Class) (wet sec : Int) : Int := max 0 (wet - ceilI (d.we * sec) 86400)
/-- A store after a step. -/
def stW (d : Class) (wet dep sec : Int) : Int := if (dep == 0) = true then wD d (wet + rW d wet dep) sec else wet + rW d wet dep
def stH (d : Class) (wet held dep sec : Int) : Int := hD d (held + rH d wet held dep) sec
/-- A class's numbers and its store are right. -/
structure Fit (d : Class) (wet held : Int) : Prop where
  se : 0 ≤ d.se ∧ d.se ≤ 1000
  we : 0 ≤ d.we ∧ d.we ≤ 100000
  ro : 0 ≤ d.ro ∧ d.ro ≤ 1000000
  dr : 0 ≤ d.dr ∧ d.dr ≤ 1000
  wet : 0 ≤ wet ∧ wet ≤ d.we
  held : 0 ≤ held ∧ held ≤ d.ro
theorem mul_bd {a b A B : Int} (ha : 0 ≤ a ∧ a ≤ A) (hb : 0 ≤ b ∧ b ≤ B) : 0 ≤ a * b ∧ a * b ≤ A * B :=
  ⟨Int.mul_nonneg ha.1 hb.1, Int.mul_le_mul ha.2 hb.2 hb.1 (by omega)⟩
section
variable {d : Class} {wet held dep sec : Int} (F : Fit d wet held) (hd : 0 ≤ dep ∧ dep ≤ 4194304)
include F hd
theorem Fit.w1 : 0 ≤ rW d wet dep ∧ rW d wet dep ≤ dep ∧ wet + rW d wet dep ≤ d.we := by
  have := F.wet; unfold rW; omega
theorem Fit.r1 : 0 ≤ rR d wet dep ∧ rR d wet dep ≤ dep := by
  have := F.w1 hd; unfold rR; omega
theorem Fit.h1 : 0 ≤ rH d wet held dep ∧ rH d wet held dep ≤ rR d wet dep ∧ held + rH d wet held dep ≤ d.ro := by
  have := F.r1 hd; have := F.held; unfold rH; omega
theorem Fit.parts : (0 ≤ rR d wet dep * d.se ∧ rR d wet dep * d.se ≤ 4194304000) ∧ (0 ≤ (rR d wet dep - rH d wet held dep) * (1000 - d.se) ∧ (rR d wet dep - rH d wet held dep) * (1000 - d.se) ≤ 4194304000) ∧ 0 ≤ offI d wet held dep ∧ offI d wet held dep ≤ 1000 * dep := by
  have r := F.r1 hd; have h := F.h1 hd; have s := F.se
  have a := mul_bd (a := rR d wet dep) (b := d.se) (A := 4194304) (B := 1000) (by omega) s
  have b := mul_bd (a := rR d wet dep - rH d wet held dep) (b := 1000 - d.se) (A := 4194304) (B := 1000) (by omega) (by omega)
  have c : (rR d wet dep - rH d wet held dep) * (1000 - d.se) ≤ rR d wet dep * (1000 - d.se) := Int.mul_le_mul_of_nonneg_right (by omega) (by omega)
  have e : rR d wet dep * d.se + rR d wet dep * (1000 - d.se) = rR d wet dep * 1000 := by rw [← Int.mul_add]; congr 1; omega
  unfold offI
  omega
theorem Fit.next (hs : 1 ≤ sec ∧ sec ≤ 86400) : Fit d (stW d wet dep sec) (stH d wet held dep sec) := by
  have w := F.w1 hd; have h := F.h1 hd; have a := F.wet; have b := F.held
  have p1 := mul_bd F.we (b := sec) (B := 86400) (by omega)
  have p2 := mul_bd (a := held + rH d wet held dep) (A := 1000000) (by have := F.ro; omega) F.dr
  have p3 := mul_bd p2 (b := sec) (B := 86400) (by omega)
  have c1 : 0 ≤ ceilI (d.we * sec) 86400 := Int.ediv_nonneg (by omega) (by omega)
  have c2 : 0 ≤ ceilI ((held + rH d wet held dep) * d.dr * sec) 3600000 := Int.ediv_nonneg (by omega) (by omega)
  refine ⟨F.se, F.we, F.ro, F.dr, ?_, ?_⟩
  · unfold stW wD; split <;> omega
  · unfold stH hD; omega
end
end Ba
set_option maxRecDepth 100000 in
set_option maxHeartbeats 4000000 in
theorem ceil_any (x k : Int) (w : World) (hx : 0 ≤ x ∧ x ≤ 1000000000000000) (hk : 1 ≤ k ∧ k ≤ 10000000) : Calls Tryz.prog 185 #[.int .i64 x, .int .i64 k] w fun e w' => e = .returned (.int .i64 (Ba.ceilI x k)) ∧ w = w' := by
  have hk0 : (k == 0) = false := beq_eq_false_iff_ne.2 (by omega)
  unfold Ba.ceilI
  go_enter Tryz.func185, Tryz.ntmps185
  go_wp2_with fail
  go_ret
  exact ⟨rfl, rfl⟩
set_option maxRecDepth 100000 in
set_option maxHeartbeats 4000000 in
theorem rain_any (nm : ByteArray) (se we ro dr wet held dep : Int) (B : Nat) (w : World) (F : Ba.Fit ⟨nm, se, we, ro, dr⟩ wet held) (hd : 0 ≤ dep ∧ dep ≤ 4194304) (h0 : Own w B 0 (.int .i64 wet)) (h1 : Own w B 1 (.int .i64 held)) : Calls Tryz.prog 173 #[.agg #[.string nm, .int .i64 se, .int .i64 we, .int .i64 ro, .int .i64 dr], .pointer (some ⟨B, 0, none⟩), .int .i64 dep] w fun e w' => e = .returned (.int .i64 (Ba.offI ⟨nm, se, we, ro, dr⟩ wet held dep)) ∧ GrX B w w' ∧ Own w' B 0 (.int .i64 (wet + Ba.rW ⟨nm, se, we, ro, dr⟩ wet dep)) ∧ Own w' B 1 (.int .i64 (held + Ba.rH ⟨nm, se, we, ro, dr⟩ wet held dep)) := by
  have q1 := F.w1 hd; have q2 := F.r1 hd; have q3 := F.h1 hd; have q4 := F.parts hd
  have b1 := F.se; have b2 := F.we; have b3 := F.ro; have b5 := F.wet; have b6 := F.held
  unfold Ba.offI at *
  simp only at b1 b2 b3 b5 b6
  have e1 : min dep (we - wet) = Ba.rW ⟨nm, se, we, ro, dr⟩ wet dep := rfl
  have e2 : dep - Ba.rW ⟨nm, se, we, ro, dr⟩ wet dep = Ba.rR ⟨nm, se, we, ro, dr⟩ wet dep := rfl
  have e3 : min (Ba.rR ⟨nm, se, we, ro, dr⟩ wet dep) (ro - held) = Ba.rH ⟨nm, se, we, ro, dr⟩ wet held dep := rfl
  generalize Ba.rW ⟨nm, se, we, ro, dr⟩ wet dep = w1 at *
  generalize Ba.rH ⟨nm, se, we, ro, dr⟩ wet held dep = h1' at *
  generalize Ba.rR ⟨nm, se, we, ro, dr⟩ wet dep = r1 at *
  simp only at q1 q2 q3 q4
  have E1 := Lib.hid e1; have E2 := Lib.hid e2; have E3 := Lib.hid e3
  clear F e1 e2 e3
  have hB : B < w.heap.size := World.block_lt_of_cell? w ⟨B, 0, none⟩ h0.1
  have hn : B ≠ w.heap.size := by omega
  have c0 := fun o => (h0.gr (Gr.alloc (Gr.refl w) o)).1; have f0 := fun o => (h0.gr (Gr.alloc (Gr.refl w) o)).2
  have c1 := fun o => (h1.gr (Gr.alloc (Gr.refl w) o)).1; have f1 := fun o => (h1.gr (Gr.alloc (Gr.refl w) o)).2
  go_enter Tryz.func173, Tryz.ntmps173
  go_wp2_with fail
  (first | refine name_world ?_ | refine (show (∀ W, W = _ → Calls _ _ _ W _) → Calls _ _ _ _ _ from fun h => h _ rfl) ?_); intro W1 hW1
  have g1 : Gr w W1 := by rw [hW1]; exact gr_auto
  have k1_0 : W1.cell? ⟨w.heap.size, 1, none⟩ = some (.int .i64 se) := by rw [hW1]; first | (simp [go_sem, *]; done) | (refine Gr.at ?_ (by assumption); exact gr_auto)
  have b1_0 : w.heap.size < W1.heap.size := World.block_lt_of_cell? _ _ k1_0
  have k1_1 : W1.cell? ⟨w.heap.size, 2, none⟩ = some (.int .i64 we) := by rw [hW1]; first | (simp [go_sem, *]; done) | (refine Gr.at ?_ (by assumption); exact gr_auto)
  have k1_2 : W1.cell? ⟨w.heap.size, 3, none⟩ = some (.int .i64 ro) := by rw [hW1]; first | (simp [go_sem, *]; done) | (refine Gr.at ?_ (by assumption); exact gr_auto)
  have k1_3 : W1.cell? ⟨B, 0, none⟩ = some (.int .i64 wet) := by rw [hW1]; first | (simp [go_sem, *]; done) | (refine Gr.at ?_ (by assumption); exact gr_auto)
  have b1_3 : B < W1.heap.size := World.block_lt_of_cell? _ _ k1_3
  have k1_4 : W1.cell? ⟨B, 1, none⟩ = some (.int .i64 held) := by rw [hW1]; first | (simp [go_sem, *]; done) | (refine Gr.at ?_ (by assumption); exact gr_auto)
  clear hW1
  have o0 : Own W1 B 0 (.int .i64 wet) := h0.gr g1; have o1 : Own W1 B 1 (.int .i64 held) := h1.gr g1
  clear c0 f0 c1 f1 h0 h1
  have bW : B ≠ W1.heap.size := by have := Gr.size g1; omega
  have wB : w.heap.size ≠ B := Ne.symm hn
  go_quiet (fail)
  rw [show (if we - wet < dep then we - wet else dep) = w1 by have := E1.out; split <;> omega]
  have f0 := o0.2; have f1 := o1.2
  have hr1 : -9223372036854775808 ≤ wet + w1 ∧ wet + w1 ≤ 9223372036854775807 := by omega
  have hr2 : -9223372036854775808 ≤ dep - w1 ∧ dep - w1 ≤ 9223372036854775807 := by omega
  go_wp2_with fail
  refine name_world ?_; intro W2 hW2
  have x2 : GrX B w W2 := by rw [hW2]; exact GrX.setCell (GrX.grown (GrX.refl B w) (by exact gr_auto)) rfl _
  have p0 : Own W2 B 0 (.int .i64 (wet + w1)) := by rw [hW2]; exact Own.set (o0.gr (by exact gr_auto))
  have p1 : Own W2 B 1 (.int .i64 held) := by rw [hW2]; exact Own.other (o1.gr (by exact gr_auto)) (Or.inr (by omega))
  have l1 : W2.cell? ⟨w.heap.size, 1, none⟩ = some (.int .i64 se) := by rw [hW2, World.cell?_setCell_other _ _ _ _ (by simp)]; exact Gr.at gr_auto k1_0
  have l3 : W2.cell? ⟨w.heap.size, 3, none⟩ = some (.int .i64 ro) := by rw [hW2, World.cell?_setCell_other _ _ _ _ (by simp)]; exact Gr.at gr_auto k1_2
  clear hW2 k1_0 k1_1 k1_2 k1_3 k1_4 o0 o1 f0 f1
  rw [E2.out]
  have c1 := p1.1; have f1 := p1.2
  have hr3 : -9223372036854775808 ≤ held + h1' ∧ held + h1' ≤ 9223372036854775807 := by omega
  have hr4 : -9223372036854775808 ≤ r1 - h1' ∧ r1 - h1' ≤ 9223372036854775807 := by omega
  go_quiet (fail)
  rw [show (if ro - held < r1 then ro - held else r1) = h1' by have := E3.out; split <;> omega]
  go_wp2_with fail
  go_ret
  exact ⟨rfl, GrX.setCell (GrX.grown x2 (by exact gr_auto)) rfl _, Own.other (p0.gr (by exact gr_auto)) (Or.inr (by omega)), Own.set (p1.gr (by exact gr_auto))⟩
set_option maxRecDepth 100000 in
set_option maxHeartbeats 4000000 in
theorem drain_any (nm : ByteArray) (se we ro dr wet held sec : Int) (dry : Bool) (B : Nat) (w : World) (F : Ba.Fit ⟨nm, se, we, ro, dr⟩ wet held) (hs : 1 ≤ sec ∧ sec ≤ 86400) (h0 : Own w B 0 (.int .i64 wet)) (h1 : Own w B 1 (.int .i64 held)) : Calls Tryz.prog 174 #[.agg #[.string nm, .int .i64 se, .int .i64 we, .int .i64 ro, .int .i64 dr], .pointer (some ⟨B, 0, none⟩), .int .i64 sec, .bool dry] w fun e w' => e = .returned (.tuple #[]) ∧ GrX B w w' ∧ Own w' B 0 (.int .i64 (if dry = true then Ba.wD ⟨nm, se, we, ro, dr⟩ wet sec else wet)) ∧ Own w' B 1 (.int .i64 (Ba.hD ⟨nm, se, we, ro, dr⟩ held sec)) := by
  have b2 := F.we; have b3 := F.ro; have b4 := F.dr; have b5 := F.wet; have b6 := F.held
  simp only at b2 b3 b4 b5 b6
  have p1 := Ba.mul_bd b2 (b := sec) (B := 86400) (by omega)
  have p0 := Ba.mul_bd (a := held) (A := 1000000) (by omega) b4
  have p2 := Ba.mul_bd p0 (b := sec) (B := 86400) (by omega)
  have HC1 := Lib.hid (fun W => ceil_any (held * dr * sec) 3600000 W (by omega) (by omega))
  have HC3 := Lib.hid (fun W => ceil_any (we * sec) 86400 W (by omega) (by omega))
  have d1 : 0 ≤ Ba.ceilI (held * dr * sec) 3600000 ∧ Ba.ceilI (held * dr * sec) 3600000 ≤ held * dr * sec + 3600000 - 1 := ⟨Int.ediv_nonneg (by omega) (by omega), Int.ediv_le_self _ (by omega)⟩
  have d2 : 0 ≤ Ba.ceilI (we * sec) 86400 ∧ Ba.ceilI (we * sec) 86400 ≤ we * sec + 86400 - 1 := ⟨Int.ediv_nonneg (by omega) (by omega), Int.ediv_le_self _ (by omega)⟩
  have e1 : max 0 (held - Ba.ceilI (held * dr * sec) 3600000) = Ba.hD ⟨nm, se, we, ro, dr⟩ held sec := rfl
  have e2 : max 0 (wet - Ba.ceilI (we * sec) 86400) = Ba.wD ⟨nm, se, we, ro, dr⟩ wet sec := rfl
  generalize Ba.hD ⟨nm, se, we, ro, dr⟩ held sec = hd at *
  generalize Ba.wD ⟨nm, se, we, ro, dr⟩ wet sec = wd at *
  have E1 := Lib.hid e1; have E2 := Lib.hid e2
  clear e1 e2 F
  generalize Ba.ceilI (held * dr * sec) 3600000 = k1 at *
  generalize Ba.ceilI (we * sec) 86400 = k2 at *
  have hB : B < w.heap.size := World.block_lt_of_cell? w ⟨B, 0, none⟩ h0.1
  have hn : B ≠ w.heap.size := by omega
  have c0 := fun o => (h0.gr (Gr.alloc (Gr.refl w) o)).1; have c1 := fun o => (h1.gr (Gr.alloc (Gr.refl w) o)).1
  have hr1 : -9223372036854775808 ≤ held - k1 ∧ held - k1 ≤ 9223372036854775807 := by omega
  have hr2 : -9223372036854775808 ≤ wet - k2 ∧ wet - k2 ≤ 9223372036854775807 := by omega
  go_enter Tryz.func174, Tryz.ntmps174
  go_wp2_with fail
  (first | refine name_world ?_ | refine (show (∀ W, W = _ → Calls _ _ _ W _) → Calls _ _ _ _ _ from fun h => h _ rfl) ?_); intro W1 hW1
  have g1 : Gr w W1 := by rw [hW1]; exact gr_auto
  have k1_0 : W1.cell? ⟨w.heap.size, 2, none⟩ = some (.int .i64 we) := by rw [hW1]; first | (simp [go_sem, *]; done) | (refine Gr.at ?_ (by assumption); exact gr_auto)
  have b1_0 : w.heap.size < W1.heap.size := World.block_lt_of_cell? _ _ k1_0
  have k1_1 : W1.cell? ⟨w.heap.size, 4, none⟩ = some (.int .i64 dr) := by rw [hW1]; first | (simp [go_sem, *]; done) | (refine Gr.at ?_ (by assumption); exact gr_auto)
  have k1_2 : W1.cell? ⟨B, 1, none⟩ = some (.int .i64 held) := by rw [hW1]; first | (simp [go_sem, *]; done) | (refine Gr.at ?_ (by assumption); exact gr_auto)
  have b1_2 : B < W1.heap.size := World.block_lt_of_cell? _ _ k1_2
  clear hW1
  have o0 : Own W1 B 0 (.int .i64 wet) := h0.gr g1; have o1 : Own W1 B 1 (.int .i64 held) := h1.gr g1
  clear c0 c1 h0 h1
  have wB : w.heap.size ≠ B := Ne.symm hn
  have s0 : ∀ gw : GW W1, gw.1.cell? ⟨w.heap.size, 4, none⟩ = some (.int .i64 dr) := fun gw => Gr.at gw.2 k1_1
  have s1 : ∀ gw : GW W1, gw.1.cell? ⟨B, 1, none⟩ = some (.int .i64 held) := fun gw => Gr.at gw.2 k1_2
  have HC := Lib.hid (fun gw : GW W1 => gw_same (HC1.out gw.1))
  refine wp_region_gr_tail 19 (by kernel_rfl) (by kernel_rfl) ?_
  simp only [List.take_succ_cons, List.take_zero, List.drop_succ_cons, List.drop_zero]
  repeat (go_big_quiet_step ((go_at_call 185; exact HC.out _)))
  refine wpQuiet_nil ?_
  intro w2 hb2
  clear s0 s1
  clear HC HC1
  replace o0 := o0.gr hb2; replace o1 := o1.gr hb2
  have l2 := Gr.at hb2 k1_0
  have x0 : GrX B w w2 := GrX.grown (GrX.refl B w) (g1.trans hb2)
  have c1 := o1.1; have f1 := o1.2
  have E1v : 0 < held - k1 ∧ hd = held - k1 ∨ held - k1 ≤ 0 ∧ hd = 0 := by have := E1.out; omega
  have E2v : 0 < wet - k2 ∧ wd = wet - k2 ∨ wet - k2 ≤ 0 ∧ wd = 0 := by have := E2.out; omega
  have H1 := Lib.hid E1v; have H2 := Lib.hid E2v
  clear E1v E2v
  cases dry
  · go_wp2_with fail
    all_goals
      go_end0
      refine ⟨rfl, GrX.setCell x0 rfl _, Own.other o0 (Or.inr (by omega)), ?_⟩
      rcases H1.out with ⟨h, e⟩ | ⟨h, e⟩ <;> first | (exfalso; omega) | (rw [e]; exact Own.set o1)
  · go_wp2_with fail
    all_goals
      refine name_world ?_; intro W3 hW3
      have m1 : Own W3 B 1 (.int .i64 hd) := by rcases H1.out with ⟨h, e⟩ | ⟨h, e⟩ <;> first | (exfalso; omega) | (rw [hW3, e]; exact Own.set o1)
      have m0 : Own W3 B 0 (.int .i64 wet) := by rw [hW3]; exact Own.other o0 (Or.inr (by omega))
      have x3 : GrX B w W3 := by rw [hW3]; exact GrX.setCell x0 rfl _
      have l3 : W3.cell? ⟨w.heap.size, 2, none⟩ = some (.int .i64 we) := by rw [hW3, World.cell?_setCell_other _ _ _ _ (by simp)]; exact l2
      clear hW3 o0 o1 l2 c1 f1 x0
      have c0 := m0.1
      have s0 : ∀ gw : GW W3, gw.1.cell? ⟨w.heap.size, 2, none⟩ = some (.int .i64 we) := fun gw => Gr.at gw.2 l3
      have s1 : ∀ gw : GW W3, gw.1.cell? ⟨B, 0, none⟩ = some (.int .i64 wet) := fun gw => Gr.at gw.2 c0
      have HC := Lib.hid (fun gw : GW W3 => gw_same (HC3.out gw.1))
      refine wp_region_gr_tail 14 (by kernel_rfl) (by kernel_rfl) ?_
      simp only [List.take_succ_cons, List.take_zero, List.drop_succ_cons, List.drop_zero]
      repeat (go_big_quiet_step ((go_at_call 185; exact HC.out _)))
      refine wpQuiet_nil ?_
      intro w4 hb4
      clear s0 s1
      clear HC HC3 c0 l3
      replace m0 := m0.gr hb4; replace m1 := m1.gr hb4
      have x4 : GrX B w w4 := GrX.grown x3 hb4
      have c0 := m0.1; have f0 := m0.2
      go_wp2_with fail
      all_goals
        go_end0
        refine ⟨rfl, GrX.setCell x4 rfl _, ?_, Own.other m1 (Or.inr (by omega))⟩
        rcases H2.out with ⟨h, e⟩ | ⟨h, e⟩ <;> first | (exfalso; omega) | (rw [e]; exact Own.set m0)
set_option maxRecDepth 100000 in
set_option maxHeartbeats 4000000 in
theorem lstep_any (nm : ByteArray) (se we ro dr wet held dep sec : Int) (w : World) (F : Ba.Fit ⟨nm, se, we, ro, dr⟩ wet held) (hd : 0 ≤ dep ∧ dep ≤ 4194304) (hs : 1 ≤ sec ∧ sec ≤ 86400) : Calls Tryz.prog 149 #[.agg #[.string nm, .int .i64 se, .int .i64 we, .int .i64 ro, .int .i64 dr], .agg #[.int .i64 wet, .int .i64 held], .int .i64 dep, .int .i64 sec] w fun e w' => e = .returned (.tuple #[.agg #[.int .i64 (Ba.stW ⟨nm, se, we, ro, dr⟩ wet dep sec), .int .i64 (Ba.stH ⟨nm, se, we, ro, dr⟩ wet held dep sec)], .int .i64 (Ba.offI ⟨nm, se, we, ro, dr⟩ wet held dep)]) ∧ Gr w w' := by
  have q1 := F.w1 hd; have q3 := F.h1 hd
  have F2 : Ba.Fit ⟨nm, se, we, ro, dr⟩ (wet + Ba.rW ⟨nm, se, we, ro, dr⟩ wet dep) (held + Ba.rH ⟨nm, se, we, ro, dr⟩ wet held dep) := ⟨F.se, F.we, F.ro, F.dr, by have := F.wet; omega, by have := F.held; omega⟩
  have HR := Lib.hid (fun B W h0 h1 => rain_any nm se we ro dr wet held dep B W F hd h0 h1)
  have HD := Lib.hid (fun B W h0 h1 => drain_any nm se we ro dr (wet + Ba.rW ⟨nm, se, we, ro, dr⟩ wet dep) (held + Ba.rH ⟨nm, se, we, ro, dr⟩ wet held dep) sec (dep == 0) B W F2 hs h0 h1)
  unfold Ba.stW Ba.stH
  generalize Ba.offI ⟨nm, se, we, ro, dr⟩ wet held dep = off at *
  generalize wet + Ba.rW ⟨nm, se, we, ro, dr⟩ wet dep = wet1 at *
  generalize held + Ba.rH ⟨nm, se, we, ro, dr⟩ wet held dep = held1 at *
  generalize (if (dep == 0) = true then Ba.wD ⟨nm, se, we, ro, dr⟩ wet1 sec else wet1) = wet2 at *
  generalize Ba.hD ⟨nm, se, we, ro, dr⟩ held1 sec = held2 at *
  clear F F2 q1 q3
  go_enter Tryz.func149, Tryz.ntmps149
  go_wp2_with fail
  refine (show (∀ W, W = _ → Calls _ _ _ W _) → Calls _ _ _ _ _ from fun h => h _ rfl) ?_; intro W1 hW1
  have g1 : Gr w W1 := by rw [hW1]; exact gr_auto
  have n0 : W1.cell? ⟨w.heap.size, 0, none⟩ = some (.string nm) := (by rw [hW1]; simp [go_sem]); have n1 : W1.cell? ⟨w.heap.size, 1, none⟩ = some (.int .i64 se) := (by rw [hW1]; simp [go_sem]); have n2 : W1.cell? ⟨w.heap.size, 2, none⟩ = some (.int .i64 we) := (by rw [hW1]; simp [go_sem]); have n3 : W1.cell? ⟨w.heap.size, 3, none⟩ = some (.int .i64 ro) := (by rw [hW1]; simp [go_sem]); have n4 : W1.cell? ⟨w.heap.size, 4, none⟩ = some (.int .i64 dr) := (by rw [hW1]; simp [go_sem])
  have o0 : Own W1 (w.heap.size + 1) 0 (.int .i64 wet) := by rw [hW1]; exact ⟨by simp [go_sem], by simp [go_sem]⟩
  have o1 : Own W1 (w.heap.size + 1) 1 (.int .i64 held) := by rw [hW1]; exact ⟨by simp [go_sem], by simp [go_sem]⟩
  have r0 : Own W1 (w.heap.size + 2) 0 (.int .i64 0) := by rw [hW1]; exact ⟨by simp [go_sem], by simp [go_sem]⟩
  have r1 : Own W1 (w.heap.size + 2) 1 (.int .i64 0) := by rw [hW1]; exact ⟨by simp [go_sem], by simp [go_sem]⟩
  clear hW1
  refine (HR.out _ _ o0 o1).mono ?_
  rintro e w2 ⟨rfl, x2, o0, o1⟩
  replace n0 := GrX.at x2 (by omega) n0; replace n1 := GrX.at x2 (by omega) n1; replace n2 := GrX.at x2 (by omega) n2; replace n3 := GrX.at x2 (by omega) n3; replace n4 := GrX.at x2 (by omega) n4
  replace r0 := r0.grx x2 (by omega); replace r1 := r1.grx x2 (by omega)
  have g2 : Gr w w2 := GrX.gr g1 (by omega) x2
  clear HR x2 g1
  go_wp2_with fail
  refine (HD.out _ _ o0 o1).mono ?_
  rintro e w3 ⟨rfl, x3, o0, o1⟩
  replace r0 := r0.grx x3 (by omega); replace r1 := r1.grx x3 (by omega)
  have g3 : Gr w w3 := GrX.gr g2 (by omega) x3
  have c0 := o0.1; have c1 := o1.1; have y0 := r0.1; have y1 := r1.1; have z0 := r0.2; have z1 := r1.2
  clear HD x3 g2 n0 n1 n2 n3 n4
  go_wp2_with fail
  refine name_post ?_; intro FW hFW
  have f0 : FW.cell? ⟨w.heap.size + 2, 0, none⟩ = some (.int .i64 wet2) := by rw [hFW]; first | (simp [go_sem, *]; done) | exact (by first | (simp [go_sem, *]; done) | ((try simp [go_sem, *]); refine World.cell?_setCell_same' _ _ _ ?_; simp [go_sem, *]; done))
  have f1 : FW.cell? ⟨w.heap.size + 2, 1, none⟩ = some (.int .i64 held2) := by rw [hFW]; first | (simp [go_sem, *]; done) | exact (by first | (simp [go_sem, *]; done) | ((try simp [go_sem, *]); refine World.cell?_setCell_same' _ _ _ ?_; simp [go_sem, *]; done))
  have gF : GrX (w.heap.size + 2) w3 FW := by
    rw [hFW]
    refine GrX.setCell (GrX.setCell (GrX.refl _ _) ?_ _) ?_ _ <;> rfl
  clear hFW
  refine bodyPost_ret (by simp [results, Tryz.results149, go_sem, f0, f1]; try rfl) rfl ?_
  exact ⟨rfl, GrX.gr g3 (by omega) gF⟩
namespace Ba
/-- Is one class right? -/
def cl1 (d : Class) : Bool := Dc.isName d.nm.data.toList && clN d
theorem cls_one (B : Nat) (d : Class) : clsB ⟨some ⟨B, 0, none⟩, 1, 1, B, 0, fun _ => d⟩ = cl1 d := by
  have e : cix ⟨some ⟨B, 0, none⟩, 1, 1, B, 0, fun _ => d⟩ d.nm = 0 := by
    unfold cix fstI
    simp only [fst, eqS, beq_self_eq_true, if_true]
    rfl
  unfold clsB cl1
  simp only [allB, clB, e]
  simp
end Ba
set_option maxRecDepth 100000 in
set_option maxHeartbeats 4000000 in
theorem one_any (d : Ba.Class) (w : World) (h : d.Ok w) : Calls Tryz.prog 172 #[d.val] w fun e w' => e = .returned (.bool (Ba.cl1 d)) ∧ Gr w w' := by
  have HV := Lib.hid (fun (B : Nat) (W : World) (hW : Gr w W) (hc : d.Cells W B 0) => by
    have := uvalid_any ⟨some ⟨B, 0, none⟩, 1, 1, B, 0, fun _ => d⟩ W ⟨fun _ => rfl, Nat.le_refl _, by simp only; omega, fun i hi => by
      obtain rfl : i = 0 := by (simp only at hi; omega)
      exact ⟨hc, h.gr hW⟩⟩
    rw [Ba.cls_one] at this
    exact this)
  clear h
  generalize Ba.cl1 d = q at *
  unfold Ba.Class.val
  unfold Ba.Class.Cells at HV
  go_enter Tryz.func172, Tryz.ntmps172
  go_wp2_with fail
  refine (HV.out (w.heap.size + 1) _ gr_auto (by refine ⟨?_, ?_, ?_, ?_, ?_⟩ <;> simp [go_sem])).mono ?_
  rintro e w1 ⟨rfl, hb1⟩
  go_wp2_with fail
  go_ret
  exact ⟨rfl, gr_auto⟩
set_option maxRecDepth 100000 in
set_option maxHeartbeats 4000000 in
theorem vstore_any (d : Ba.Class) (wet held : Int) (w : World) (h : d.Ok w) : Calls Tryz.prog 146 #[d.val, .agg #[.int .i64 wet, .int .i64 held]] w fun e w' => e = .returned (.bool (Ba.cl1 d && (Ba.bet wet 0 d.we && Ba.bet held 0 d.ro))) ∧ Gr w w' := by
  have HO := Lib.hid (fun W (hW : Gr w W) => one_any d W (h.gr hW))
  have HW0 := Lib.hid (fun W => lwithin_any wet d.we W); have HW1 := Lib.hid (fun W => lwithin_any held d.ro W)
  clear h
  generalize Ba.cl1 d = q at *
  generalize Ba.bet wet 0 d.we = q1 at *
  generalize Ba.bet held 0 d.ro = q2 at *
  unfold Ba.Class.val at *
  cases q
  · clear HW0 HW1
    go_enter Tryz.func146, Tryz.ntmps146
    go_wp2_with fail
    (first | refine name_world ?_ | refine (show (∀ W, W = _ → Calls _ _ _ W _) → Calls _ _ _ _ _ from fun h => h _ rfl) ?_); intro W1 hW1
    have g1 : Gr w W1 := by rw [hW1]; exact gr_auto
    have k1_0 : W1.cell? ⟨w.heap.size, 2, none⟩ = some (.int .i64 d.we) := by rw [hW1]; first | (simp [go_sem, *]; done) | (refine Gr.at ?_ (by assumption); exact gr_auto)
    have b1_0 : w.heap.size < W1.heap.size := World.block_lt_of_cell? _ _ k1_0
    have k1_1 : W1.cell? ⟨w.heap.size, 3, none⟩ = some (.int .i64 d.ro) := by rw [hW1]; first | (simp [go_sem, *]; done) | (refine Gr.at ?_ (by assumption); exact gr_auto)
    have k1_2 : W1.cell? ⟨w.heap.size + 1, 0, none⟩ = some (.int .i64 wet) := by rw [hW1]; first | (simp [go_sem, *]; done) | (refine Gr.at ?_ (by assumption); exact gr_auto)
    have b1_2 : w.heap.size + 1 < W1.heap.size := World.block_lt_of_cell? _ _ k1_2
    have k1_3 : W1.cell? ⟨w.heap.size + 1, 1, none⟩ = some (.int .i64 held) := by rw [hW1]; first | (simp [go_sem, *]; done) | (refine Gr.at ?_ (by assumption); exact gr_auto)
    clear hW1
    refine (HO.out _ g1).mono ?_
    rintro e w2 ⟨rfl, hb2⟩
    have g2 := g1.trans hb2
    have k1_0 := Gr.at (w1 := w2) gr_auto k1_0; have k1_1 := Gr.at (w1 := w2) gr_auto k1_1; have k1_2 := Gr.at (w1 := w2) gr_auto k1_2; have k1_3 := Gr.at (w1 := w2) gr_auto k1_3
    go_wp2_with fail
    go_ret
    exact ⟨rfl, g2⟩
  cases q1
  · clear HW1
    go_enter Tryz.func146, Tryz.ntmps146
    go_wp2_with fail
    (first | refine name_world ?_ | refine (show (∀ W, W = _ → Calls _ _ _ W _) → Calls _ _ _ _ _ from fun h => h _ rfl) ?_); intro W1 hW1
    have g1 : Gr w W1 := by rw [hW1]; exact gr_auto
    have k1_0 : W1.cell? ⟨w.heap.size, 2, none⟩ = some (.int .i64 d.we) := by rw [hW1]; first | (simp [go_sem, *]; done) | (refine Gr.at ?_ (by assumption); exact gr_auto)
    have b1_0 : w.heap.size < W1.heap.size := World.block_lt_of_cell? _ _ k1_0
    have k1_1 : W1.cell? ⟨w.heap.size, 3, none⟩ = some (.int .i64 d.ro) := by rw [hW1]; first | (simp [go_sem, *]; done) | (refine Gr.at ?_ (by assumption); exact gr_auto)
    have k1_2 : W1.cell? ⟨w.heap.size + 1, 0, none⟩ = some (.int .i64 wet) := by rw [hW1]; first | (simp [go_sem, *]; done) | (refine Gr.at ?_ (by assumption); exact gr_auto)
    have b1_2 : w.heap.size + 1 < W1.heap.size := World.block_lt_of_cell? _ _ k1_2
    have k1_3 : W1.cell? ⟨w.heap.size + 1, 1, none⟩ = some (.int .i64 held) := by rw [hW1]; first | (simp [go_sem, *]; done) | (refine Gr.at ?_ (by assumption); exact gr_auto)
    clear hW1
    refine (HO.out _ g1).mono ?_
    rintro e w2 ⟨rfl, hb2⟩
    have g2 := g1.trans hb2
    have k1_0 := Gr.at (w1 := w2) gr_auto k1_0; have k1_1 := Gr.at (w1 := w2) gr_auto k1_1; have k1_2 := Gr.at (w1 := w2) gr_auto k1_2; have k1_3 := Gr.at (w1 := w2) gr_auto k1_3
    go_wp2_with fail
    refine (HW0.out _).mono ?_
    rintro e w3 ⟨rfl, rfl⟩
    go_wp2_with fail
    go_ret
    exact ⟨rfl, g2⟩
  go_enter Tryz.func146, Tryz.ntmps146
  go_wp2_with fail
  (first | refine name_world ?_ | refine (show (∀ W, W = _ → Calls _ _ _ W _) → Calls _ _ _ _ _ from fun h => h _ rfl) ?_); intro W1 hW1
  have g1 : Gr w W1 := by rw [hW1]; exact gr_auto
  have k1_0 : W1.cell? ⟨w.heap.size, 2, none⟩ = some (.int .i64 d.we) := by rw [hW1]; first | (simp [go_sem, *]; done) | (refine Gr.at ?_ (by assumption); exact gr_auto)
  have b1_0 : w.heap.size < W1.heap.size := World.block_lt_of_cell? _ _ k1_0
  have k1_1 : W1.cell? ⟨w.heap.size, 3, none⟩ = some (.int .i64 d.ro) := by rw [hW1]; first | (simp [go_sem, *]; done) | (refine Gr.at ?_ (by assumption); exact gr_auto)
  have k1_2 : W1.cell? ⟨w.heap.size + 1, 0, none⟩ = some (.int .i64 wet) := by rw [hW1]; first | (simp [go_sem, *]; done) | (refine Gr.at ?_ (by assumption); exact gr_auto)
  have b1_2 : w.heap.size + 1 < W1.heap.size := World.block_lt_of_cell? _ _ k1_2
  have k1_3 : W1.cell? ⟨w.heap.size + 1, 1, none⟩ = some (.int .i64 held) := by rw [hW1]; first | (simp [go_sem, *]; done) | (refine Gr.at ?_ (by assumption); exact gr_auto)
  clear hW1
  refine (HO.out _ g1).mono ?_
  rintro e w2 ⟨rfl, hb2⟩
  have g2 := g1.trans hb2
  have k1_0 := Gr.at (w1 := w2) gr_auto k1_0; have k1_1 := Gr.at (w1 := w2) gr_auto k1_1; have k1_2 := Gr.at (w1 := w2) gr_auto k1_2; have k1_3 := Gr.at (w1 := w2) gr_auto k1_3
  go_wp2_with fail
  refine (HW0.out _).mono ?_
  rintro e w3 ⟨rfl, rfl⟩
  go_wp2_with fail
  refine (HW1.out _).mono ?_
  rintro e w4 ⟨rfl, rfl⟩
  go_wp2_with fail
  go_ret
  exact ⟨rfl, g2⟩
end Go.Proofs.YtajhhplgcegodaaGreatDoor
