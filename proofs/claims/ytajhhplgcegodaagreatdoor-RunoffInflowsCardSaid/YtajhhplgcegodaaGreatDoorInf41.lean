/-
  Runoff: the reference's step of one class. (Printed by mkrb.py.)
  Runoff: the references' tests: unit hydrographs, series, records, what is given. (Printed by mkra.py.)
  Runoff: the reference's shares: ref02 Part, Given, Share of what is right. (Printed by mkrd.py.)
  Runoff: the reference's shares and convolution. (Printed by mkre.py.)
  Runoff: the reference's Depths. (Printed by mkrc.py.)
  Runoff: the reference's convolution; its Of. (Printed by mkrf.py.)
-/
import Derived.Test.YtajhhplgcegodaaGreatDoorInf14
import Derived.Test.YtajhhplgcegodaaGreatDoorInf02
import Derived.Test.YtajhhplgcegodaaGreatDoorInf33
import Derived.Test.YtajhhplgcegodaaGreatDoorInf15
import Derived.Test.YtajhhplgcegodaaGreatDoorInf26
import Derived.Test.YtajhhplgcegodaaGreatDoorInf25
import Derived.Test.YtajhhplgcegodaaGreatDoorInf36
import Derived.Deep.AppendLies
set_option linter.unusedVariables false
set_option linter.unusedSimpArgs false
namespace Go.Proofs.YtajhhplgcegodaaGreatDoor
open Go.RowKit
attribute [local go_sem ↓] Go.wp_at_zero Go.wp_at_succ
set_option maxRecDepth 100000 in
set_option maxHeartbeats 4000000 in
theorem least_any (x y : Int) (w : World) : Calls Tryz.prog 187 #[.int .i64 x, .int .i64 y] w fun e w' => e = .returned (.int .i64 (min x y)) ∧ w = w' := by
  rcases (by omega : (x < y ∧ min x y = x) ∨ (y ≤ x ∧ min x y = y)) with ⟨h1, h2⟩ | ⟨h1, h2⟩
  all_goals
    rw [h2]
    clear h2
    go_enter Tryz.func187, Tryz.ntmps187
    go_wp2_with fail
    go_ret
    exact ⟨rfl, rfl⟩
set_option maxRecDepth 100000 in
set_option maxHeartbeats 4000000 in
theorem less_any (n x k : Int) (w : World) (hn : 0 ≤ n ∧ n ≤ 10000000) (hx : 0 ≤ x ∧ x ≤ 1000000000000000) (hk : 1 ≤ k ∧ k ≤ 10000000) : Calls Tryz.prog 180 #[.int .i64 n, .int .i64 x, .int .i64 k] w fun e w' => e = .returned (.int .i64 (max 0 (n - Ba.ceilI x k))) ∧ w = w' := by
  have hk0 : (k == 0) = false := beq_eq_false_iff_ne.2 (by omega)
  have c0 : 0 ≤ Ba.ceilI x k := Int.ediv_nonneg (by omega) (by omega)
  have c1 : Ba.ceilI x k ≤ 1000000010000000 := by
    have := Int.ediv_le_self (a := x + k - 1) k (by omega)
    unfold Ba.ceilI; omega
  have HE := Lib.hid (show (x + k - 1) / k = Ba.ceilI x k from rfl)
  generalize Ba.ceilI x k = c at *
  have he := HE.out
  clear HE
  rcases (by omega : (n < c ∧ max 0 (n - c) = 0) ∨ (c ≤ n ∧ max 0 (n - c) = n - c)) with ⟨h1, h2⟩ | ⟨h1, h2⟩
  all_goals
    rw [h2]
    clear h2
    go_enter Tryz.func180, Tryz.ntmps180
    go_wp2_with fail
    go_ret
    exact ⟨rfl, rfl⟩
set_option maxRecDepth 100000 in
set_option maxHeartbeats 4000000 in
theorem rrain_any (nm : ByteArray) (se we ro dr wet held dep : Int) (w : World) (F : Ba.Fit ⟨nm, se, we, ro, dr⟩ wet held) (hd : 0 ≤ dep ∧ dep ≤ 4194304) : Calls Tryz.prog 179 #[.agg #[.string nm, .int .i64 se, .int .i64 we, .int .i64 ro, .int .i64 dr], .agg #[.int .i64 wet, .int .i64 held], .int .i64 dep] w fun e w' => e = .returned (.tuple #[.agg #[.int .i64 (wet + Ba.rW ⟨nm, se, we, ro, dr⟩ wet dep), .int .i64 (held + Ba.rH ⟨nm, se, we, ro, dr⟩ wet held dep)], .int .i64 (Ba.offI ⟨nm, se, we, ro, dr⟩ wet held dep)]) ∧ Gr w w' := by
  have q1 := F.w1 hd; have q2 := F.r1 hd; have q3 := F.h1 hd; have q4 := F.parts hd
  have b1 := F.se; have b2 := F.we; have b3 := F.ro; have b5 := F.wet; have b6 := F.held
  unfold Ba.offI at *
  simp only at b1 b2 b3 b5 b6 q1 q2 q3 q4
  have H1 := Lib.hid (fun W => least_any dep (we - wet) W)
  have H2 := Lib.hid (fun W => least_any (Ba.rR ⟨nm, se, we, ro, dr⟩ wet dep) (ro - held) W)
  have e0 : Ba.rR ⟨nm, se, we, ro, dr⟩ wet dep = dep - Ba.rW ⟨nm, se, we, ro, dr⟩ wet dep := rfl
  rw [show min dep (we - wet) = Ba.rW ⟨nm, se, we, ro, dr⟩ wet dep from rfl] at H1
  rw [show min (Ba.rR ⟨nm, se, we, ro, dr⟩ wet dep) (ro - held) = Ba.rH ⟨nm, se, we, ro, dr⟩ wet held dep from rfl] at H2
  simp only
  generalize Ba.rH ⟨nm, se, we, ro, dr⟩ wet held dep = h at *
  generalize Ba.rR ⟨nm, se, we, ro, dr⟩ wet dep = r at *
  generalize Ba.rW ⟨nm, se, we, ro, dr⟩ wet dep = x at *
  clear F
  obtain ⟨y, hy⟩ : ∃ y, r * se = y := ⟨_, rfl⟩
  obtain ⟨z, hz⟩ : ∃ z, (r - h) * (1000 - se) = z := ⟨_, rfl⟩
  have q5 : y ≤ 4194304000 ∧ 0 ≤ y := by rw [← hy]; omega
  have q6 : z ≤ 4194304000 ∧ 0 ≤ z := by rw [← hz]; omega
  have HY := Lib.hid (And.intro hy hz)
  rw [hy, hz]
  clear hy hz q4
  go_enter Tryz.func179, Tryz.ntmps179
  go_wp2_with fail
  refine (H1.out _).mono ?_
  rintro e w1 ⟨rfl, rfl⟩
  rw [e0] at H2 q2 q3
  have HE := Lib.hid e0
  clear H1
  go_wp2_with fail
  refine (H2.out _).mono ?_
  rintro e w1 ⟨rfl, rfl⟩
  clear H2
  go_wp2_with fail
  (first | refine name_world ?_ | refine (show (∀ W, W = _ → Calls _ _ _ W _) → Calls _ _ _ _ _ from fun h => h _ rfl) ?_); intro W1 hW1
  have g1 : Gr w W1 := by rw [hW1]; exact gr_auto
  have k0 : W1.cell? ⟨w.heap.size, 0, none⟩ = some (.string nm) := by rw [hW1]; simp [go_sem]
  have k1 : W1.cell? ⟨w.heap.size, 1, none⟩ = some (.int .i64 se) := by rw [hW1]; simp [go_sem]
  have k2 : W1.cell? ⟨w.heap.size, 2, none⟩ = some (.int .i64 we) := by rw [hW1]; simp [go_sem]
  have k3 : W1.cell? ⟨w.heap.size, 3, none⟩ = some (.int .i64 ro) := by rw [hW1]; simp [go_sem]
  have k4 : W1.cell? ⟨w.heap.size, 4, none⟩ = some (.int .i64 dr) := by rw [hW1]; simp [go_sem]
  have k5 : W1.cell? ⟨w.heap.size + 1, 0, none⟩ = some (.int .i64 wet) := by rw [hW1]; simp [go_sem]
  have k6 : W1.cell? ⟨w.heap.size + 1, 1, none⟩ = some (.int .i64 held) := by rw [hW1]; simp [go_sem]
  have O1 : Own W1 (w.heap.size + 1 + 1) 0 (.int .i64 0) := ⟨by rw [hW1]; simp [go_sem], by rw [hW1]; simp [go_sem]⟩
  have O2 : Own W1 (w.heap.size + 1 + 1) 1 (.int .i64 0) := ⟨by rw [hW1]; simp [go_sem], by rw [hW1]; simp [go_sem]⟩
  have o10 := O1.1; have o11 := O1.2; have o20 := O2.1; have o21 := O2.2
  clear hW1
  have hyz := HY.out
  rw [HE.out] at hyz
  have hy := hyz.1; have hz := hyz.2
  clear hyz
  go_region
  have u0 := (Own.set (u := .int .i64 (wet + x)) O1)
  have u1 := ((Own.other (b' := w.heap.size + 1 + 1) (o' := 1) (u := .int .i64 (held + h)) u0 (Or.inr (by decide))).gr (Gr.drew (Gr.refl _))).1
  have u2 := ((Own.set (u := .int .i64 (held + h)) (Own.other (b' := w.heap.size + 1 + 1) (o' := 0) (u := .int .i64 (wet + x)) O2 (Or.inr (by decide)))).gr (Gr.drew (Gr.refl _))).1
  replace u0 := u0.1
  have gf : Gr w ((W1.setCell ⟨w.heap.size + 1 + 1, 0, none⟩ (.int .i64 (wet + x))).setCell ⟨w.heap.size + 1 + 1, 1, none⟩ (.int .i64 (held + h))).drew := Gr.drew (Gr.setCell (Gr.setCell g1 (by simp only; omega) _) (by simp only; omega) _)
  go_wp2_with fail
  refine bodyPost_ret (by simp [results, Tryz.results179, go_sem, u1, u2]; try rfl) rfl ?_
  exact ⟨by simp, by first | exact gf | exact gr_auto⟩
set_option maxRecDepth 100000 in
set_option maxHeartbeats 4000000 in
theorem rstep_any (nm : ByteArray) (se we ro dr wet held dep sec : Int) (w : World) (F : Ba.Fit ⟨nm, se, we, ro, dr⟩ wet held) (hd : 0 ≤ dep ∧ dep ≤ 4194304) (hs : 1 ≤ sec ∧ sec ≤ 86400) : Calls Tryz.prog 156 #[.agg #[.string nm, .int .i64 se, .int .i64 we, .int .i64 ro, .int .i64 dr], .agg #[.int .i64 wet, .int .i64 held], .int .i64 dep, .int .i64 sec] w fun e w' => e = .returned (.tuple #[.agg #[.int .i64 (Ba.stW ⟨nm, se, we, ro, dr⟩ wet dep sec), .int .i64 (Ba.stH ⟨nm, se, we, ro, dr⟩ wet held dep sec)], .int .i64 (Ba.offI ⟨nm, se, we, ro, dr⟩ wet held dep)]) ∧ Gr w w' := by
  have q1 := F.w1 hd; have q3 := F.h1 hd
  have b2 := F.we; have b3 := F.ro; have b4 := F.dr; have b5 := F.wet; have b6 := F.held
  simp only at b2 b3 b4 b5 b6 q1 q3
  have HR := Lib.hid (fun W => rrain_any nm se we ro dr wet held dep W F hd)
  unfold Ba.stW Ba.stH Ba.wD Ba.hD
  simp only
  generalize Ba.offI ⟨nm, se, we, ro, dr⟩ wet held dep = oo at *
  generalize Ba.rH ⟨nm, se, we, ro, dr⟩ wet held dep = rh at *
  generalize Ba.rW ⟨nm, se, we, ro, dr⟩ wet dep = rw_ at *
  clear F
  obtain ⟨wn, hwn⟩ : ∃ z, wet + rw_ = z := ⟨_, rfl⟩
  obtain ⟨hn, hhn⟩ : ∃ z, held + rh = z := ⟨_, rfl⟩
  rw [hwn, hhn] at HR
  rw [hwn, hhn]
  have n1 : 0 ≤ wn ∧ wn ≤ 100000 := by omega
  have n2 : 0 ≤ hn ∧ hn ≤ 1000000 := by omega
  clear hwn hhn q1 q3 b5 b6
  have p1 := Ba.mul_bd (A := 100000) (B := 86400) b2 (b := sec) (by omega)
  have p2 := Ba.mul_bd (A := 1000000) (B := 1000) n2 b4
  have p3 := Ba.mul_bd (A := 1000000 * 1000) (B := 86400) p2 (b := sec) (by omega)
  have L1 := Lib.hid (fun W => less_any hn (hn * dr * sec) 3600000 W (by omega) (by omega) (by omega))
  have L2 := Lib.hid (fun W => less_any wn (we * sec) 86400 W (by omega) (by omega) (by omega))
  generalize max 0 (hn - Ba.ceilI (hn * dr * sec) 3600000) = h2 at *
  generalize max 0 (wn - Ba.ceilI (we * sec) 86400) = w2 at *
  generalize hp1 : we * sec = m1 at *
  generalize hp2 : hn * dr = m2 at *
  generalize hp3 : m2 * sec = m3 at *
  by_cases hz : dep = 0
  · have tz : (dep == 0) = true := by rw [hz]; rfl
    rw [if_pos tz]
    clear hz
    go_enter Tryz.func156, Tryz.ntmps156
    go_wp2_with fail
    (first | refine name_world ?_ | refine (show (∀ W, W = _ → Calls _ _ _ W _) → Calls _ _ _ _ _ from fun h => h _ rfl) ?_); intro W1 hW1
    have g1 : Gr w W1 := by rw [hW1]; exact gr_auto
    have k0 : W1.cell? ⟨w.heap.size, 0, none⟩ = some (.string nm) := by rw [hW1]; simp [go_sem]
    have k1 : W1.cell? ⟨w.heap.size, 1, none⟩ = some (.int .i64 se) := by rw [hW1]; simp [go_sem]
    have k2 : W1.cell? ⟨w.heap.size, 2, none⟩ = some (.int .i64 we) := by rw [hW1]; simp [go_sem]
    have k3 : W1.cell? ⟨w.heap.size, 3, none⟩ = some (.int .i64 ro) := by rw [hW1]; simp [go_sem]
    have k4 : W1.cell? ⟨w.heap.size, 4, none⟩ = some (.int .i64 dr) := by rw [hW1]; simp [go_sem]
    have k5 : W1.cell? ⟨w.heap.size + 1, 0, none⟩ = some (.int .i64 wet) := by rw [hW1]; simp [go_sem]
    have k6 : W1.cell? ⟨w.heap.size + 1, 1, none⟩ = some (.int .i64 held) := by rw [hW1]; simp [go_sem]
    have O1 : Own W1 (w.heap.size + 1 + 1) 0 (.int .i64 0) := ⟨by rw [hW1]; simp [go_sem], by rw [hW1]; simp [go_sem]⟩
    have O2 : Own W1 (w.heap.size + 1 + 1) 1 (.int .i64 0) := ⟨by rw [hW1]; simp [go_sem], by rw [hW1]; simp [go_sem]⟩
    clear hW1
    refine (HR.out _).mono ?_
    rintro e w3 ⟨rfl, hb3⟩
    clear HR
    have g3 := g1.trans hb3
    replace O1 := O1.gr hb3; replace O2 := O2.gr hb3
    replace k0 := Gr.at hb3 k0
    replace k1 := Gr.at hb3 k1
    replace k2 := Gr.at hb3 k2
    replace k3 := Gr.at hb3 k3
    replace k4 := Gr.at hb3 k4
    replace k5 := Gr.at hb3 k5
    replace k6 := Gr.at hb3 k6
    have o10 := O1.1; have o11 := O1.2; have o20 := O2.1; have o21 := O2.2
    have zB := World.block_lt_of_cell? _ _ o10
    simp only at zB
    have zw : w.heap.size < w3.heap.size := World.block_lt_of_cell? _ _ k0
    go_wp2_with fail
    refine (L1.out _).mono ?_
    rintro e w4 ⟨rfl, rfl⟩
    clear L1
    go_wp2_with fail
    refine (L2.out _).mono ?_
    rintro e w4 ⟨rfl, rfl⟩
    clear L2
    have u0 := (Own.set (u := .int .i64 w2) O1)
    have u1 := fun o => Gr.at (Gr.alloc (Gr.refl _) o) (Own.other (b' := w.heap.size + 1 + 1) (o' := 1) (u := .int .i64 h2) u0 (Or.inr (by decide))).1
    have u2 := fun o => Gr.at (Gr.alloc (Gr.refl _) o) (Own.set (u := .int .i64 h2) (Own.other (b' := w.heap.size + 1 + 1) (o' := 0) (u := .int .i64 w2) O2 (Or.inr (by decide)))).1
    have gf := fun o => Gr.alloc (Gr.setCell (p := ⟨w.heap.size + 1 + 1, 1, none⟩) (Gr.setCell (p := ⟨w.heap.size + 1 + 1, 0, none⟩) g3 (by simp only; omega) (.int .i64 w2)) (by simp only; omega) (.int .i64 h2)) o
    clear u0
    go_wp2_with fail
    refine bodyPost_ret (by simp [results, Tryz.results156, go_sem, u1, u2]; try rfl) rfl ?_
    exact ⟨by simp, gf _⟩
  · have tz : (dep == 0) = false := beq_eq_false_iff_ne.2 hz
    rw [if_neg (by rw [tz]; decide)]
    clear hz L2
    go_enter Tryz.func156, Tryz.ntmps156
    go_wp2_with fail
    (first | refine name_world ?_ | refine (show (∀ W, W = _ → Calls _ _ _ W _) → Calls _ _ _ _ _ from fun h => h _ rfl) ?_); intro W1 hW1
    have g1 : Gr w W1 := by rw [hW1]; exact gr_auto
    have k0 : W1.cell? ⟨w.heap.size, 0, none⟩ = some (.string nm) := by rw [hW1]; simp [go_sem]
    have k1 : W1.cell? ⟨w.heap.size, 1, none⟩ = some (.int .i64 se) := by rw [hW1]; simp [go_sem]
    have k2 : W1.cell? ⟨w.heap.size, 2, none⟩ = some (.int .i64 we) := by rw [hW1]; simp [go_sem]
    have k3 : W1.cell? ⟨w.heap.size, 3, none⟩ = some (.int .i64 ro) := by rw [hW1]; simp [go_sem]
    have k4 : W1.cell? ⟨w.heap.size, 4, none⟩ = some (.int .i64 dr) := by rw [hW1]; simp [go_sem]
    have k5 : W1.cell? ⟨w.heap.size + 1, 0, none⟩ = some (.int .i64 wet) := by rw [hW1]; simp [go_sem]
    have k6 : W1.cell? ⟨w.heap.size + 1, 1, none⟩ = some (.int .i64 held) := by rw [hW1]; simp [go_sem]
    have O1 : Own W1 (w.heap.size + 1 + 1) 0 (.int .i64 0) := ⟨by rw [hW1]; simp [go_sem], by rw [hW1]; simp [go_sem]⟩
    have O2 : Own W1 (w.heap.size + 1 + 1) 1 (.int .i64 0) := ⟨by rw [hW1]; simp [go_sem], by rw [hW1]; simp [go_sem]⟩
    clear hW1
    refine (HR.out _).mono ?_
    rintro e w3 ⟨rfl, hb3⟩
    clear HR
    have g3 := g1.trans hb3
    replace O1 := O1.gr hb3; replace O2 := O2.gr hb3
    replace k0 := Gr.at hb3 k0
    replace k1 := Gr.at hb3 k1
    replace k2 := Gr.at hb3 k2
    replace k3 := Gr.at hb3 k3
    replace k4 := Gr.at hb3 k4
    replace k5 := Gr.at hb3 k5
    replace k6 := Gr.at hb3 k6
    have o10 := O1.1; have o11 := O1.2; have o20 := O2.1; have o21 := O2.2
    have zB := World.block_lt_of_cell? _ _ o10
    simp only at zB
    have zw : w.heap.size < w3.heap.size := World.block_lt_of_cell? _ _ k0
    go_wp2_with fail
    refine (L1.out _).mono ?_
    rintro e w4 ⟨rfl, rfl⟩
    clear L1
    have u0 := (Own.set (u := .int .i64 wn) O1)
    have u1 := fun o => Gr.at (Gr.alloc (Gr.refl _) o) (Own.other (b' := w.heap.size + 1 + 1) (o' := 1) (u := .int .i64 h2) u0 (Or.inr (by decide))).1
    have u2 := fun o => Gr.at (Gr.alloc (Gr.refl _) o) (Own.set (u := .int .i64 h2) (Own.other (b' := w.heap.size + 1 + 1) (o' := 0) (u := .int .i64 wn) O2 (Or.inr (by decide)))).1
    have gf := fun o => Gr.alloc (Gr.setCell (p := ⟨w.heap.size + 1 + 1, 1, none⟩) (Gr.setCell (p := ⟨w.heap.size + 1 + 1, 0, none⟩) g3 (by simp only; omega) (.int .i64 wn)) (by simp only; omega) (.int .i64 h2)) o
    clear u0
    go_wp2_with fail
    refine bodyPost_ret (by simp [results, Tryz.results156, go_sem, u1, u2]; try rfl) rfl ?_
    exact ⟨by simp, gf _⟩
end Go.Proofs.YtajhhplgcegodaaGreatDoor
namespace Go.Proofs.YtajhhplgcegodaaGreatDoor
open Go.RowKit
attribute [local go_sem ↓] Go.wp_at_zero Go.wp_at_succ
namespace Ba
theorem bet_no {x l h : Int} (e : ¬ bet x l h = true) : x < l ∨ h < x := by
  rw [bet_iff] at e; omega
end Ba
set_option maxRecDepth 100000 in
set_option maxHeartbeats 4000000 in
theorem rseries_any (s : Ba.SlI) (w : World) (h : s.At w) : Calls Tryz.prog 157 #[.slice s.A s.n s.c] w fun e w' => e = .returned (.bool (Ba.volB s)) ∧ Gr w w' := by
  have hm := Nat.le_trans h.hc h.hb
  have HA := Lib.hid h.hA; have HX := Lib.hid h.hX
  clear h
  unfold Ba.volB Ba.wiB
  obtain ⟨A, n, c, b, o, X⟩ := s
  simp only at *
  by_cases hn : 10000 < n
  · rw [decide_eq_false (by omega), Bool.false_and]
    have t0 : (10000 : Int) < (n : Int) := by omega
    clear HX HA hn
    go_enter Tryz.func157, Tryz.ntmps157
    go_wp2_with fail
    go_ret
    exact ⟨rfl, gr_auto⟩
  rw [decide_eq_true (by omega), Bool.true_and]
  have t0 : (n : Int) ≤ 10000 := by omega
  clear hn
  go_enter Tryz.func157, Tryz.ntmps157
  go_wp2_with fail
  go_loopw [3] (fun x wr => ∃ i : Nat, i ≤ n ∧ x = .int .i64 (i : Int) ∧ Hid (Ba.allB (fun i => Ba.bet (X i) (0) 1125899906842624) i = true) ∧ Gr w wr) (fun x _ => n - (intOf x).toNat)
  case atStart => exact ⟨0, Nat.zero_le _, rfl, Lib.hid rfl, Gr.refl _⟩
  case round =>
    obtain ⟨i, hi, rfl, HQ, hg⟩ := hrel
    by_cases hlt : i < n
    · obtain rfl := HA.out (by omega)
      have a0 := Gr.at hg ((HX.out i hlt).1)
      have a1 := (HX.out i hlt).2
      unfold Ba.i64 at a1
      have ib0 : (0 : Int) ≤ (i : Int) := by omega
      have ib1 : (i : Int) < (n : Int) := by omega
      by_cases hp : Ba.bet (X i) (0) 1125899906842624 = true
      · have HQ2 := Lib.hid (Ba.allB_go HQ.out hp)
        have p := (Ba.bet_iff _ _ _).1 hp
        clear HX HA HQ hp
        generalize X i = x at *
        go_wp2_with fail
        go_roundw
        case rel => exact ⟨i + 1, by omega, by go_num, HQ2, hg⟩
        case measure => simp [intOf]; omega
      · have HN := Lib.hid (Ba.allB_stop (p := (fun i => Ba.bet (X i) (0) 1125899906842624)) hlt (by simpa using hp))
        have p := Ba.bet_no hp
        clear HX HA HQ hp
        generalize X i = x at *
        rcases p with p | p
        all_goals
          go_wp2_with fail
          go_ret
          exact ⟨ret_bool HN.out.symm, hg⟩
    · obtain rfl : n = i := by omega
      clear HX HA
      go_wp2_with fail
      go_ret
      exact ⟨ret_bool HQ.out.symm, hg⟩
set_option maxRecDepth 100000 in
set_option maxHeartbeats 4000000 in
theorem runi_any (s : Ba.SlI) (w : World) (h : s.At w) : Calls Tryz.prog 60 #[.slice s.A s.n s.c] w fun e w' => e = .returned (.bool (Ba.uniB s)) ∧ Gr w w' := by
  have hm := Nat.le_trans h.hc h.hb
  have HA := Lib.hid h.hA; have HX := Lib.hid h.hX
  clear h
  unfold Ba.uniB Ba.wiB
  obtain ⟨A, n, c, b, o, X⟩ := s
  simp only at *
  by_cases h1 : n < 1
  · rw [decide_eq_false (by omega), Bool.false_and]
    have t0 : (n : Int) < 1 := by omega
    clear HX HA h1
    go_enter Tryz.func60, Tryz.ntmps60
    go_wp2_with fail
    go_ret
    exact ⟨rfl, gr_auto⟩
  rw [decide_eq_true (by omega), Bool.true_and]
  have t0 : (1 : Int) ≤ (n : Int) := by omega
  by_cases hn : 1000 < n
  · rw [decide_eq_false (by omega), Bool.false_and]
    have t1 : (1000 : Int) < (n : Int) := by omega
    clear HX HA hn
    go_enter Tryz.func60, Tryz.ntmps60
    go_wp2_with fail
    go_ret
    exact ⟨rfl, gr_auto⟩
  rw [decide_eq_true (by omega), Bool.true_and]
  have t1 : (n : Int) ≤ 1000 := by omega
  have ea := HX.out (n - 1) (by omega)
  have e0 := ea.1
  have e1 := ea.2
  unfold Ba.i64 at e1
  have f1 : ((n - 1 : Nat) : Int) = (n : Int) - 1 := by omega
  have f2 : (0 : Int) ≤ (n : Int) - 1 := by omega
  have f3 : (n : Int) - 1 < (n : Int) := by omega
  have f4 : ((n : Int) - 1).toNat = n - 1 := by omega
  have HL := Lib.hid (show (X (n - 1) != 0) = (X (n - 1) != 0) from rfl)
  clear hn ea HL
  go_enter Tryz.func60, Tryz.ntmps60
  go_wp2_with fail
  go_loopw [3] (fun x wr => ∃ i : Nat, i ≤ n ∧ x = .int .i64 (i : Int) ∧ Hid (Ba.allB (fun i => Ba.bet (X i) (0) 1073741824) i = true) ∧ Gr w wr) (fun x _ => n - (intOf x).toNat)
  case atStart => exact ⟨0, Nat.zero_le _, rfl, Lib.hid rfl, Gr.refl _⟩
  case round =>
    obtain ⟨i, hi, rfl, HQ, hg⟩ := hrel
    by_cases hlt : i < n
    · obtain rfl := HA.out (by omega)
      have a0 := Gr.at hg ((HX.out i hlt).1)
      have a1 := (HX.out i hlt).2
      unfold Ba.i64 at a1
      have ib0 : (0 : Int) ≤ (i : Int) := by omega
      have ib1 : (i : Int) < (n : Int) := by omega
      by_cases hp : Ba.bet (X i) (0) 1073741824 = true
      · have HQ2 := Lib.hid (Ba.allB_go HQ.out hp)
        have p := (Ba.bet_iff _ _ _).1 hp
        clear HX HA HQ hp
        generalize X i = x at *
        go_wp2_with fail
        go_roundw
        case rel => exact ⟨i + 1, by omega, by go_num, HQ2, hg⟩
        case measure => simp [intOf]; omega
      · have HN := Lib.hid (Ba.allB_stop (p := (fun i => Ba.bet (X i) (0) 1073741824)) hlt (by simpa using hp))
        have p := Ba.bet_no hp
        clear HX HA HQ hp
        generalize X i = x at *
        rcases p with p | p
        all_goals
          go_wp2_with fail
          go_ret
          exact ⟨ret_bool (by rw [HN.out, Bool.false_and]), hg⟩
    · obtain rfl : n = i := by omega
      obtain rfl := HA.out (by omega)
      have e2 := Gr.at hg e0
      have pl := (Ba.bet_iff _ _ _).1 (Ba.allB_at HQ.out (k := n - 1) (by omega))
      have HF := Lib.hid (show decide ((0 : Int) < X (n - 1)) = (Ba.allB (fun i => Ba.bet (X i) 0 1073741824) n && (X (n - 1) != 0)) from by
        rw [HQ.out, Bool.true_and]
        by_cases hx : X (n - 1) = 0
        · rw [hx]; rfl
        · rw [decide_eq_true (by omega), bne_iff_ne.2 hx])
      obtain ⟨x, hx⟩ : ∃ x, X (n - 1) = x := ⟨_, rfl⟩
      have HF2 := Lib.hid (show decide ((0 : Int) < x) = (Ba.allB (fun i => Ba.bet (X i) 0 1073741824) n && (X (n - 1) != 0)) from by rw [← hx]; exact HF.out)
      rw [hx] at e2 e1
      clear HX HA e0 pl HQ HF hx
      cases tt : decide ((0 : Int) < x)
      · go_wp2_with fail
        go_ret
        exact ⟨ret_bool (by rw [← HF2.out]; first | rfl | exact tt.symm | simp_all), hg⟩
      · go_wp2_with fail
        go_ret
        exact ⟨ret_bool (by rw [← HF2.out]; first | rfl | exact tt.symm | simp_all), hg⟩
set_option maxRecDepth 100000 in
set_option maxHeartbeats 4000000 in
theorem rsum_any (s : Ba.SlI) (w : World) (h : s.At w) (hn : s.n ≤ 100000) (hb : ∀ i, i < s.n → s.X i ≤ 1073741824) : Calls Tryz.prog 178 #[.slice s.A s.n s.c] w fun e w' => e = .returned (.int .i64 (Ba.sumP s.X s.n)) ∧ Gr w w' := by
  have HA := Lib.hid h.hA; have HX := Lib.hid h.hX; have HB := Lib.hid (fun i (hi : i ≤ s.n) => Ba.sumP_le (X := s.X) (n := i) (hi := 1073741824) (by omega) fun j hj => hb j (by omega)); have HB1 := Lib.hid hb
  clear h hb
  obtain ⟨A, n, c, b, o, X⟩ := s
  simp only at *
  go_enter Tryz.func178, Tryz.ntmps178
  go_wp2_with fail
  go_loopw [3, 4] (fun v x wr => ∃ i : Nat, i ≤ n ∧ x = .int .i64 (i : Int) ∧ v = .int .i64 (Ba.sumP X i) ∧ Gr w wr) (fun _ x _ => n - (intOf x).toNat)
  case atStart => exact ⟨0, Nat.zero_le _, rfl, rfl, Gr.refl _⟩
  case round =>
    obtain ⟨i, hi, rfl, rfl, hg⟩ := hrel
    have q := HB.out i hi
    by_cases hlt : i < n
    · obtain rfl := HA.out (by omega)
      have a0 := Gr.at hg ((HX.out i hlt).1)
      have a1 := (HX.out i hlt).2
      unfold Ba.i64 at a1
      have b1 := HB1.out i hlt
      have HT := Lib.hid (show Ba.sumP X (i + 1) = Ba.sumP X i + max 0 (X i) from rfl)
      have ib0 : (0 : Int) ≤ (i : Int) := by omega
      have ib1 : (i : Int) < (n : Int) := by omega
      have iN : (1073741824 : Int) * (i : Int) ≤ 1073741824 * 100000 := Int.mul_le_mul_of_nonneg_left (by omega) (by omega)
      have q2 : 0 ≤ Ba.sumP X i ∧ Ba.sumP X i ≤ 107374182400000 := by omega
      clear HX HA HB HB1 q iN
      generalize Ba.sumP X i = s at *
      generalize X i = x at *
      obtain ⟨m, hm⟩ : ∃ m, max 0 x = m := ⟨_, rfl⟩
      have m1 : 0 ≤ m ∧ m ≤ 1073741824 := by omega
      rw [hm] at HT
      go_wp2_with fail
      go_roundw
      case rel => exact ⟨i + 1, by omega, by go_num, by rw [HT.out], hg⟩
      case measure => simp [intOf]; omega
    · obtain rfl : n = i := by omega
      clear HX HA HB HB1
      go_wp2_with fail
      go_ret
      exact ⟨rfl, hg⟩
set_option maxRecDepth 100000 in
set_option maxHeartbeats 4000000 in
theorem rser_any (s : Ba.Ser) (w : World) (h : s.Ok w) : Calls Tryz.prog 59 #[s.val] w fun e w' => e = .returned (.bool (Ba.serB s)) ∧ Gr w w' := by
  obtain ⟨b1, b2, b3⟩ := h
  have hm := Nat.le_trans b3.hc b3.hb
  have HA := Lib.hid b3.hA; have HX := Lib.hid b3.hX
  clear b3
  unfold Ba.serB Ba.Ser.val Ba.dep
  obtain ⟨fr, st, ⟨A, n, c, b, o, X⟩⟩ := s
  simp only at *
  unfold Ba.i64 at b1 b2
  have HI := Lib.hid (fun W => rinstant_any fr W); have HL := Lib.hid (fun W => rlength_any st W)
  cases c0 : Ba.bet fr (-68719476736) 68719476736
  · rw [c0] at HI
    clear HX HA HL
    go_enter Tryz.func59, Tryz.ntmps59
    go_wp2_with fail
    refine (HI.out _).mono ?_
    rintro e w1 ⟨rfl, rfl⟩
    go_wp2_with fail
    go_ret
    exact ⟨rfl, gr_auto⟩
  rw [c0] at HI
  rw [Bool.true_and]
  cases c1 : Ba.bet st 1 86400
  · rw [c1] at HL
    clear HX HA
    go_enter Tryz.func59, Tryz.ntmps59
    go_wp2_with fail
    refine (HI.out _).mono ?_
    rintro e w1 ⟨rfl, rfl⟩
    go_wp2_with fail
    refine (HL.out _).mono ?_
    rintro e w1 ⟨rfl, rfl⟩
    go_wp2_with fail
    go_ret
    exact ⟨rfl, gr_auto⟩
  rw [c1] at HL
  rw [Bool.true_and]
  rw [Ba.bet_iff] at c0 c1
  by_cases hn : 10000 < n
  · rw [decide_eq_false (by omega), Bool.false_and]
    have t0 : (10000 : Int) < (n : Int) := by omega
    clear HX HA hn
    go_enter Tryz.func59, Tryz.ntmps59
    go_wp2_with fail
    refine (HI.out _).mono ?_
    rintro e w1 ⟨rfl, rfl⟩
    go_wp2_with fail
    refine (HL.out _).mono ?_
    rintro e w1 ⟨rfl, rfl⟩
    go_wp2_with fail
    go_ret
    exact ⟨rfl, gr_auto⟩
  rw [decide_eq_true (by omega), Bool.true_and]
  have t0 : (n : Int) ≤ 10000 := by omega
  clear hn
  have p0 : 0 ≤ st * (n : Int) := Int.mul_nonneg (by omega) (by omega)
  have p1 : st * (n : Int) ≤ 86400 * 10000 := Int.mul_le_mul c1.2 t0 (by omega) (by omega)
  have HJ := Lib.hid (fun W => rinstant_any (fr + st * (n : Int)) W)
  generalize hp : st * (n : Int) = pr at *
  cases c3 : Ba.bet (fr + pr) (-68719476736) 68719476736
  · rw [c3] at HJ
    clear HX HA
    go_enter Tryz.func59, Tryz.ntmps59
    go_wp2_with fail
    refine (HI.out _).mono ?_
    rintro e w1 ⟨rfl, rfl⟩
    go_wp2_with fail
    refine (HL.out _).mono ?_
    rintro e w1 ⟨rfl, rfl⟩
    go_wp2_with fail
    refine (HJ.out _).mono ?_
    rintro e w1 ⟨rfl, rfl⟩
    go_wp2_with fail
    go_ret
    exact ⟨rfl, gr_auto⟩
  rw [c3] at HJ
  rw [Bool.true_and]
  clear c3
  go_enter Tryz.func59, Tryz.ntmps59
  go_wp2_with fail
  refine (HI.out _).mono ?_
  rintro e w1 ⟨rfl, rfl⟩
  go_wp2_with fail
  refine (HL.out _).mono ?_
  rintro e w1 ⟨rfl, rfl⟩
  go_wp2_with fail
  refine (HJ.out _).mono ?_
  rintro e w1 ⟨rfl, rfl⟩
  go_wp2_with fail
  (first | refine name_world ?_ | refine (show (∀ W, W = _ → Calls _ _ _ W _) → Calls _ _ _ _ _ from fun h => h _ rfl) ?_); intro W1 hW1
  have g1 : Gr w W1 := by rw [hW1]; exact gr_auto
  have k1_0 : W1.cell? ⟨w.heap.size, 0, none⟩ = some (.int .i64 fr) := by rw [hW1]; first | (simp [go_sem, *]; done) | (refine Gr.at ?_ (by assumption); exact gr_auto)
  have b1_0 : w.heap.size < W1.heap.size := World.block_lt_of_cell? _ _ k1_0
  have k1_1 : W1.cell? ⟨w.heap.size, 1, none⟩ = some (.int .i64 st) := by rw [hW1]; first | (simp [go_sem, *]; done) | (refine Gr.at ?_ (by assumption); exact gr_auto)
  have k1_2 : W1.cell? ⟨w.heap.size, 2, none⟩ = some (.slice A n c) := by rw [hW1]; first | (simp [go_sem, *]; done) | (refine Gr.at ?_ (by assumption); exact gr_auto)
  clear hW1
  clear k1_0 k1_1 HI HL HJ
  go_loopw [3] (fun x wr => ∃ i : Nat, i ≤ n ∧ x = .int .i64 (i : Int) ∧ Hid (Ba.allB (fun i => Ba.bet (X i) (-1) 4194304) i = true) ∧ Gr W1 wr) (fun x _ => n - (intOf x).toNat)
  case atStart => exact ⟨0, Nat.zero_le _, rfl, Lib.hid rfl, Gr.refl _⟩
  case round =>
    obtain ⟨i, hi, rfl, HQ, hg⟩ := hrel
    have c2 := Gr.at hg k1_2
    by_cases hlt : i < n
    · obtain rfl := HA.out (by omega)
      have a0 := Gr.at (g1.trans hg) ((HX.out i hlt).1)
      have a1 := (HX.out i hlt).2
      unfold Ba.i64 at a1
      have ib0 : (0 : Int) ≤ (i : Int) := by omega
      have ib1 : (i : Int) < (n : Int) := by omega
      by_cases hp : Ba.bet (X i) (-1) 4194304 = true
      · have HQ2 := Lib.hid (Ba.allB_go HQ.out hp)
        have p := (Ba.bet_iff _ _ _).1 hp
        clear HX HA HQ hp
        generalize X i = x at *
        go_wp2_with fail
        go_roundw
        case rel => exact ⟨i + 1, by omega, by go_num, HQ2, hg⟩
        case measure => simp [intOf]; omega
      · have HN := Lib.hid (Ba.allB_stop (p := (fun i => Ba.bet (X i) (-1) 4194304)) hlt (by simpa using hp))
        have p := Ba.bet_no hp
        clear HX HA HQ hp
        generalize X i = x at *
        rcases p with p | p
        all_goals
          go_wp2_with fail
          go_ret
          exact ⟨ret_bool HN.out.symm, g1.trans hg⟩
    · obtain rfl : n = i := by omega
      clear HX HA
      go_wp2_with fail
      go_ret
      exact ⟨ret_bool HQ.out.symm, g1.trans hg⟩
set_option maxRecDepth 100000 in
set_option maxHeartbeats 4000000 in
theorem rgiv_no1 (A A2 DA : Option Addr) (n c an ac dn dc : Nat) (fr st : Int) (w : World) (mn : n ≤ 9223372036854775807) (ma : an ≤ 9223372036854775807) (md : dn ≤ 9223372036854775807) (HC : Hid (∀ W, Gr w W → Calls Tryz.prog 58 #[.slice A n c] W fun e w' => e = .returned (.bool false) ∧ Gr W w')) : Calls Tryz.prog 155 #[.slice A n c, .slice A2 an ac, .agg #[.int .i64 fr, .int .i64 st, .slice DA dn dc]] w fun e w' => e = .returned (.int .i64 1) ∧ Gr w w' := by
  go_enter Tryz.func155, Tryz.ntmps155
  go_wp2_with fail
  (first | refine name_world ?_ | refine (show (∀ W, W = _ → Calls _ _ _ W _) → Calls _ _ _ _ _ from fun h => h _ rfl) ?_); intro W1 hW1
  have g1 : Gr w W1 := by rw [hW1]; exact gr_auto
  have k1_0 : W1.cell? ⟨w.heap.size, 0, none⟩ = some (.int .i64 fr) := by rw [hW1]; first | (simp [go_sem, *]; done) | (refine Gr.at ?_ (by assumption); exact gr_auto)
  have b1_0 : w.heap.size < W1.heap.size := World.block_lt_of_cell? _ _ k1_0
  have k1_1 : W1.cell? ⟨w.heap.size, 1, none⟩ = some (.int .i64 st) := by rw [hW1]; first | (simp [go_sem, *]; done) | (refine Gr.at ?_ (by assumption); exact gr_auto)
  have k1_2 : W1.cell? ⟨w.heap.size, 2, none⟩ = some (.slice DA dn dc) := by rw [hW1]; first | (simp [go_sem, *]; done) | (refine Gr.at ?_ (by assumption); exact gr_auto)
  clear hW1
  refine (HC.out _ (by exact g1)).mono ?_
  rintro e w2 ⟨rfl, hb2⟩
  have g2 := g1.trans hb2
  have c0 := Gr.at hb2 k1_0; have c1 := Gr.at hb2 k1_1; have c2 := Gr.at hb2 k1_2
  clear k1_0 k1_1 k1_2
  go_wp2_with fail
  go_ret
  exact ⟨rfl, gr_auto⟩
set_option maxRecDepth 100000 in
set_option maxHeartbeats 4000000 in
theorem rgiv_no2 (A A2 DA : Option Addr) (n c an ac dn dc : Nat) (fr st : Int) (w : World) (mn : n ≤ 9223372036854775807) (ma : an ≤ 9223372036854775807) (md : dn ≤ 9223372036854775807) (HC : Hid (∀ W, Gr w W → Calls Tryz.prog 58 #[.slice A n c] W fun e w' => e = .returned (.bool true) ∧ Gr W w')) (HS : Hid (∀ W, Gr w W → Calls Tryz.prog 59 #[.agg #[.int .i64 fr, .int .i64 st, .slice DA dn dc]] W fun e w' => e = .returned (.bool false) ∧ Gr W w')) : Calls Tryz.prog 155 #[.slice A n c, .slice A2 an ac, .agg #[.int .i64 fr, .int .i64 st, .slice DA dn dc]] w fun e w' => e = .returned (.int .i64 1) ∧ Gr w w' := by
  go_enter Tryz.func155, Tryz.ntmps155
  go_wp2_with fail
  (first | refine name_world ?_ | refine (show (∀ W, W = _ → Calls _ _ _ W _) → Calls _ _ _ _ _ from fun h => h _ rfl) ?_); intro W1 hW1
  have g1 : Gr w W1 := by rw [hW1]; exact gr_auto
  have k1_0 : W1.cell? ⟨w.heap.size, 0, none⟩ = some (.int .i64 fr) := by rw [hW1]; first | (simp [go_sem, *]; done) | (refine Gr.at ?_ (by assumption); exact gr_auto)
  have b1_0 : w.heap.size < W1.heap.size := World.block_lt_of_cell? _ _ k1_0
  have k1_1 : W1.cell? ⟨w.heap.size, 1, none⟩ = some (.int .i64 st) := by rw [hW1]; first | (simp [go_sem, *]; done) | (refine Gr.at ?_ (by assumption); exact gr_auto)
  have k1_2 : W1.cell? ⟨w.heap.size, 2, none⟩ = some (.slice DA dn dc) := by rw [hW1]; first | (simp [go_sem, *]; done) | (refine Gr.at ?_ (by assumption); exact gr_auto)
  clear hW1
  refine (HC.out _ (by exact g1)).mono ?_
  rintro e w2 ⟨rfl, hb2⟩
  have g2 := g1.trans hb2
  have c0 := Gr.at hb2 k1_0; have c1 := Gr.at hb2 k1_1; have c2 := Gr.at hb2 k1_2
  clear k1_0 k1_1 k1_2
  go_wp2_with fail
  refine (HS.out _ (by exact g2)).mono ?_
  rintro e w3 ⟨rfl, hb3⟩
  have g3 := g2.trans hb3
  replace c0 := Gr.at hb3 c0; replace c1 := Gr.at hb3 c1; replace c2 := Gr.at hb3 c2
  go_wp2_with fail
  go_ret
  exact ⟨rfl, g3⟩
set_option maxRecDepth 100000 in
set_option maxHeartbeats 4000000 in
theorem rgiv_no3 (A A2 DA : Option Addr) (n c an ac dn dc : Nat) (fr st : Int) (w : World) (mn : n ≤ 9223372036854775807) (ma : an ≤ 9223372036854775807) (md : dn ≤ 9223372036854775807) (HC : Hid (∀ W, Gr w W → Calls Tryz.prog 58 #[.slice A n c] W fun e w' => e = .returned (.bool true) ∧ Gr W w')) (HS : Hid (∀ W, Gr w W → Calls Tryz.prog 59 #[.agg #[.int .i64 fr, .int .i64 st, .slice DA dn dc]] W fun e w' => e = .returned (.bool true) ∧ Gr W w')) (hne : ((an : Int) != (n : Int)) = true) : Calls Tryz.prog 155 #[.slice A n c, .slice A2 an ac, .agg #[.int .i64 fr, .int .i64 st, .slice DA dn dc]] w fun e w' => e = .returned (.int .i64 3) ∧ Gr w w' := by
  go_enter Tryz.func155, Tryz.ntmps155
  go_wp2_with fail
  (first | refine name_world ?_ | refine (show (∀ W, W = _ → Calls _ _ _ W _) → Calls _ _ _ _ _ from fun h => h _ rfl) ?_); intro W1 hW1
  have g1 : Gr w W1 := by rw [hW1]; exact gr_auto
  have k1_0 : W1.cell? ⟨w.heap.size, 0, none⟩ = some (.int .i64 fr) := by rw [hW1]; first | (simp [go_sem, *]; done) | (refine Gr.at ?_ (by assumption); exact gr_auto)
  have b1_0 : w.heap.size < W1.heap.size := World.block_lt_of_cell? _ _ k1_0
  have k1_1 : W1.cell? ⟨w.heap.size, 1, none⟩ = some (.int .i64 st) := by rw [hW1]; first | (simp [go_sem, *]; done) | (refine Gr.at ?_ (by assumption); exact gr_auto)
  have k1_2 : W1.cell? ⟨w.heap.size, 2, none⟩ = some (.slice DA dn dc) := by rw [hW1]; first | (simp [go_sem, *]; done) | (refine Gr.at ?_ (by assumption); exact gr_auto)
  clear hW1
  refine (HC.out _ (by exact g1)).mono ?_
  rintro e w2 ⟨rfl, hb2⟩
  have g2 := g1.trans hb2
  have c0 := Gr.at hb2 k1_0; have c1 := Gr.at hb2 k1_1; have c2 := Gr.at hb2 k1_2
  clear k1_0 k1_1 k1_2
  go_wp2_with fail
  refine (HS.out _ (by exact g2)).mono ?_
  rintro e w3 ⟨rfl, hb3⟩
  have g3 := g2.trans hb3
  replace c0 := Gr.at hb3 c0; replace c1 := Gr.at hb3 c1; replace c2 := Gr.at hb3 c2
  go_wp2_with fail
  go_ret
  exact ⟨rfl, g3⟩
set_option maxRecDepth 100000 in
set_option maxHeartbeats 4000000 in
theorem rgiv_ok (A A2 DA : Option Addr) (n c ac dn dc : Nat) (fr st : Int) (w : World) (mn : n ≤ 16) (md : dn ≤ 9223372036854775807) (HC : Hid (∀ W, Gr w W → Calls Tryz.prog 58 #[.slice A n c] W fun e w' => e = .returned (.bool true) ∧ Gr W w')) (HS : Hid (∀ W, Gr w W → Calls Tryz.prog 59 #[.agg #[.int .i64 fr, .int .i64 st, .slice DA dn dc]] W fun e w' => e = .returned (.bool true) ∧ Gr W w')) (b o : Nat) (X SM : Nat → Int) (HA : Hid (0 < n → A2 = some ⟨b, o, none⟩)) (HX : Hid (∀ i, i < n → w.cell? ⟨b, o + i, none⟩ = some (.int .i64 (X i)) ∧ Ba.i64 (X i))) (HS0 : Hid (SM 0 = 0)) (HSS : Hid (∀ i, SM (i + 1) = SM i + X i)) (HSB : Hid (∀ i, i ≤ n → Ba.allB (fun i => Ba.bet (X i) 0 1073741824) i = true → 0 ≤ SM i ∧ SM i ≤ 1099511627776))
    (rs ec : Int) (HU : Hid (∀ W, Gr w W → Calls Tryz.prog 178 #[.slice DA dn dc] W fun e w' => e = .returned (.int .i64 rs) ∧ Gr W w')) (hno2 : Hid (Ba.allB (fun i => Ba.bet (X i) 0 1073741824) n = false → ec = 2)) (hno1 : Hid (Ba.allB (fun i => Ba.bet (X i) 0 1073741824) n = true → (1073741824 < SM n ∨ 1073741824 < rs) → ec = 5)) (hok : Hid (Ba.allB (fun i => Ba.bet (X i) 0 1073741824) n = true → SM n ≤ 1073741824 → rs ≤ 1073741824 → ec = 0)) : Calls Tryz.prog 155 #[.slice A n c, .slice A2 n ac, .agg #[.int .i64 fr, .int .i64 st, .slice DA dn dc]] w fun e w' => e = .returned (.int .i64 ec) ∧ Gr w w' := by
  go_enter Tryz.func155, Tryz.ntmps155
  go_wp2_with fail
  (first | refine name_world ?_ | refine (show (∀ W, W = _ → Calls _ _ _ W _) → Calls _ _ _ _ _ from fun h => h _ rfl) ?_); intro W1 hW1
  have g1 : Gr w W1 := by rw [hW1]; exact gr_auto
  have k1_0 : W1.cell? ⟨w.heap.size, 0, none⟩ = some (.int .i64 fr) := by rw [hW1]; first | (simp [go_sem, *]; done) | (refine Gr.at ?_ (by assumption); exact gr_auto)
  have b1_0 : w.heap.size < W1.heap.size := World.block_lt_of_cell? _ _ k1_0
  have k1_1 : W1.cell? ⟨w.heap.size, 1, none⟩ = some (.int .i64 st) := by rw [hW1]; first | (simp [go_sem, *]; done) | (refine Gr.at ?_ (by assumption); exact gr_auto)
  have k1_2 : W1.cell? ⟨w.heap.size, 2, none⟩ = some (.slice DA dn dc) := by rw [hW1]; first | (simp [go_sem, *]; done) | (refine Gr.at ?_ (by assumption); exact gr_auto)
  clear hW1
  refine (HC.out _ (by exact g1)).mono ?_
  rintro e w2 ⟨rfl, hb2⟩
  have g2 := g1.trans hb2
  have c0 := Gr.at hb2 k1_0; have c1 := Gr.at hb2 k1_1; have c2 := Gr.at hb2 k1_2
  clear k1_0 k1_1 k1_2
  go_wp2_with fail
  refine (HS.out _ (by exact g2)).mono ?_
  rintro e w3 ⟨rfl, hb3⟩
  have g3 := g2.trans hb3
  replace c0 := Gr.at hb3 c0; replace c1 := Gr.at hb3 c1; replace c2 := Gr.at hb3 c2
  go_wp2_with fail
  clear HC HS
  go_loopw [7, 8] (fun v x wr => ∃ i : Nat, i ≤ n ∧ x = .int .i64 (i : Int) ∧ v = .int .i64 (SM i) ∧ Hid (Ba.allB (fun i => Ba.bet (X i) 0 1073741824) i = true) ∧ Gr w3 wr) (fun _ x _ => n - (intOf x).toNat)
  case atStart => exact ⟨0, Nat.zero_le _, rfl, by rw [HS0.out], Lib.hid rfl, Gr.refl _⟩
  case round =>
    obtain ⟨i, hi, rfl, rfl, HQ, hg⟩ := hrel
    have d2 := Gr.at hg c2
    have sb := HSB.out i hi HQ.out
    by_cases hlt : i < n
    · obtain rfl := HA.out (by omega)
      have a0 := Gr.at (g3.trans hg) ((HX.out i hlt).1)
      have a1 := (HX.out i hlt).2
      unfold Ba.i64 at a1
      have ib0 : (0 : Int) ≤ (i : Int) := by omega
      have ib1 : (i : Int) < (n : Int) := by omega
      have HT := Lib.hid (HSS.out i)
      by_cases hp : Ba.bet (X i) 0 1073741824 = true
      · have HQ2 := Lib.hid (Ba.allB_go HQ.out hp)
        have p := (Ba.bet_iff _ _ _).1 hp
        clear HX HA HQ hp HS0 HSS HSB HU hok hno1 hno2
        generalize SM i = s0 at *
        generalize X i = x at *
        go_wp2_with fail
        go_roundw
        case rel => exact ⟨i + 1, by omega, by go_num, by rw [HT.out], HQ2, hg⟩
        case measure => simp [intOf]; omega
      · have HN := Lib.hid (hno2.out (Ba.allB_stop (p := fun i => Ba.bet (X i) 0 1073741824) hlt (by simpa using hp)))
        have p := Ba.bet_no hp
        clear HX HA HQ hp HS0 HSS HSB HU HT hok hno1 hno2
        generalize SM i = s0 at *
        generalize X i = x at *
        rcases p with p | p
        all_goals
          go_wp2_with fail
          go_ret
          exact ⟨ret_int HN.out.symm, g3.trans hg⟩
    · obtain rfl : n = i := by omega
      have g4 := g3.trans hg
      have HE := Lib.hid (hno1.out HQ.out); have HE2 := Lib.hid (hok.out HQ.out)
      clear HX HA HQ HS0 HSS HSB hok hno1 hno2
      generalize SM n = s0 at *
      by_cases hb : 1073741824 < s0
      · go_wp2_with fail
        go_ret
        exact ⟨ret_int (HE.out (.inl hb)).symm, g4⟩
      · have hb2 : s0 ≤ 1073741824 := by omega
        by_cases hr : 1073741824 < rs
        · go_wp2_with fail
          refine (HU.out _ (by exact g4)).mono ?_
          rintro e w5 ⟨rfl, hb5⟩
          go_wp2_with fail
          go_ret
          exact ⟨ret_int (HE.out (.inr hr)).symm, g4.trans hb5⟩
        · have hr2 : rs ≤ 1073741824 := by omega
          have HE3 := Lib.hid (HE2.out hb2 hr2)
          go_wp2_with fail
          refine (HU.out _ (by exact g4)).mono ?_
          rintro e w5 ⟨rfl, hb5⟩
          go_wp2_with fail
          go_ret
          exact ⟨ret_int HE3.out.symm, g4.trans hb5⟩
theorem rgiven_any (C : Ba.SlClass) (a : Ba.SlI) (s : Ba.Ser) (w : World) (hC : C.At w) (ha : a.At w) (hs : s.Ok w) : Calls Tryz.prog 155 #[.slice C.A C.n C.c, .slice a.A a.n a.c, s.val] w fun e w' => e = .returned (.int .i64 (Ba.givR C a s)) ∧ Gr w w' := by
  have HC := Lib.hid (fun W (hh : Gr w W) => rvalid_any C W (hC.gr hh))
  have HS := Lib.hid (fun W (hh : Gr w W) => rser_any s W (hs.gr hh))
  have mC := Nat.le_trans hC.hc hC.hb; have ma := Nat.le_trans ha.hc ha.hb; have ms := Nat.le_trans hs.2.2.hc hs.2.2.hb
  unfold Ba.givR
  cases c1 : Ba.clsB C
  · rw [c1] at HC
    exact rgiv_no1 C.A a.A s.ds.A C.n C.c a.n a.c s.ds.n s.ds.c s.fr s.st w mC ma ms HC
  rw [c1] at HC
  rw [if_pos rfl]
  cases c2 : Ba.serB s
  · rw [c2] at HS
    exact rgiv_no2 C.A a.A s.ds.A C.n C.c a.n a.c s.ds.n s.ds.c s.fr s.st w mC ma ms HC HS
  rw [c2] at HS
  rw [if_pos rfl]
  by_cases c3 : a.n = C.n
  rotate_left
  · rw [if_neg c3]
    exact rgiv_no3 C.A a.A s.ds.A C.n C.c a.n a.c s.ds.n s.ds.c s.fr s.st w mC ma ms HC HS (bne_iff_ne.2 (by omega))
  rw [if_pos c3]
  have hfew : C.n ≤ 16 := by
    have h := c1
    unfold Ba.clsB at h
    simp only [Bool.and_eq_true, decide_eq_true_eq] at h
    omega
  have sp := Ba.ser_parts c2
  have hU := Lib.hid (fun W (hh : Gr w W) => rsum_any s.ds W (hs.2.2.gr hh) (by omega) (fun i hi => by have := (sp.2.2.2 i hi).2; omega))
  have hsum : ∀ i, i ≤ a.n → Ba.allB (fun i => Ba.bet (a.X i) 0 1073741824) i = true → 0 ≤ Ba.sumI a.X i ∧ Ba.sumI a.X i ≤ 1099511627776 := fun i hi hq => by
    have h := Ba.sumI_le (X := a.X) (lo := 0) (hi := 1073741824) (n := i) fun j hj => (Ba.bet_iff _ _ _).1 (Ba.allB_at hq hj)
    omega
  have hpp : Ba.allB (fun i => Ba.bet (a.X i) 0 1073741824) a.n = true → Ba.sumP a.X a.n = Ba.sumI a.X a.n := fun hq => by
    unfold Ba.sumP
    exact Ba.sumI_congr fun i hi => by have := (Ba.bet_iff _ _ _).1 (Ba.allB_at hq hi); omega
  have ea : Ba.SlI.At w ⟨a.A, a.n, a.c, a.b, a.o, a.X⟩ := ha
  have key := rgiv_ok C.A a.A s.ds.A a.n C.c a.c s.ds.n s.ds.c s.fr s.st w (by omega) ms (by rw [c3]; exact HC) HS a.b a.o a.X (Ba.sumI a.X) (Lib.hid ha.hA) (Lib.hid ha.hX) (Lib.hid rfl) (Lib.hid fun _ => rfl) (Lib.hid hsum) (Ba.sumP s.ds.X s.ds.n)
    (if Ba.allB (fun i => Ba.mtr (a.X i)) a.n = true then if 1073741824 < Ba.sumP a.X a.n then 5 else if 1073741824 < Ba.sumP s.ds.X s.ds.n then 5 else 0 else 2) hU
    (Lib.hid fun hq => by rw [if_neg]; intro h; exact absurd (hq.symm.trans h) (by decide))
    (Lib.hid fun hq hd => by
      rw [if_pos (show Ba.allB (fun i => Ba.mtr (a.X i)) a.n = true from hq), hpp hq]
      rcases hd with hd | hd
      · rw [if_pos hd]
      · split
        · rfl
        · first | rfl | rw [if_pos hd])
    (Lib.hid fun hq h1 h2 => by rw [if_pos (show Ba.allB (fun i => Ba.mtr (a.X i)) a.n = true from hq), hpp hq, if_neg (by omega), if_neg (by omega)])
  rw [← c3]
  exact key
end Go.Proofs.YtajhhplgcegodaaGreatDoor
namespace Go.Proofs.YtajhhplgcegodaaGreatDoor
open Go.RowKit
attribute [local go_sem ↓] Go.wp_at_zero Go.wp_at_succ
theorem and_pow_i64 (a k : Nat) (ha : a < 9223372036854775808) (hk : k ≤ 61) : bits .and .i64 (a : Int) ((2 ^ k : Nat) : Int) = (((a / 2 ^ k % 2) * 2 ^ k : Nat) : Int) := by
  have hp : 2 ^ k ≤ 2 ^ 61 := Nat.pow_le_pow_right (by decide) hk
  have hb : 2 ^ k < 18446744073709551616 := Nat.lt_of_le_of_lt hp (by decide)
  have h1 : (BitVec.ofInt 64 (a : Int)).toNat = a := by
    rw [BitVec.ofInt_natCast, BitVec.toNat_ofNat]; exact Nat.mod_eq_of_lt (by omega)
  have h2 : (BitVec.ofInt 64 ((2 ^ k : Nat) : Int)).toNat = 2 ^ k := by
    rw [BitVec.ofInt_natCast, BitVec.toNat_ofNat]; exact Nat.mod_eq_of_lt (by omega)
  have h3 : a &&& 2 ^ k = a / 2 ^ k % 2 * 2 ^ k := by
    have hb := Nat.testBit_eq_decide_div_mod_eq (x := a) (i := k)
    apply Nat.eq_of_testBit_eq
    intro i
    rw [Nat.testBit_and, Nat.testBit_two_pow]
    rcases Nat.mod_two_eq_zero_or_one (a / 2 ^ k) with q | q
    · rw [q, Nat.zero_mul, Nat.zero_testBit]
      by_cases e : k = i
      · subst e; rw [hb, q]; rfl
      · simp [e]
    · rw [q, Nat.one_mul, Nat.testBit_two_pow]
      by_cases e : k = i
      · subst e; rw [hb, q]; simp
      · simp [e]
  have h4 : a / 2 ^ k % 2 * 2 ^ k ≤ 2 ^ 61 := by
    rcases Nat.mod_two_eq_zero_or_one (a / 2 ^ k) with q | q
    · rw [q, Nat.zero_mul]; exact Nat.zero_le _
    · rw [q, Nat.one_mul]; exact hp
  show IntKind.i64.wrap ((BitVec.ofInt 64 (a : Int) &&& BitVec.ofInt 64 ((2 ^ k : Nat) : Int)).toNat : Int) = _
  rw [BitVec.toNat_and, h1, h2, h3, IntKind.wrap_i64]
  have h5 : ((a / 2 ^ k % 2 * 2 ^ k : Nat) : Int) ≤ ((2 ^ 61 : Nat) : Int) := Int.ofNat_le.2 h4
  rw [show ((2 ^ 61 : Nat) : Int) = 2305843009213693952 from rfl] at h5
  have h6 : (0 : Int) ≤ ((a / 2 ^ k % 2 * 2 ^ k : Nat) : Int) := Int.natCast_nonneg _
  generalize ((a / 2 ^ k % 2 * 2 ^ k : Nat) : Int) = z at *
  omega
namespace Ba
/-- The bit that is looked at, with k bits to come. -/
def btI : Nat → Int
  | 0 => 0
  | k + 1 => ((2 ^ k : Nat) : Int)
theorem btI_pos (k : Nat) (hk : k ≤ 61) : 0 < btI (k + 1) ∧ btI (k + 1) ≤ 2305843009213693952 := by
  have h : 2 ^ k ≤ 2 ^ 61 := Nat.pow_le_pow_right (by decide) hk
  have h2 : 0 < 2 ^ k := Nat.two_pow_pos k
  have h3 : ((2 ^ k : Nat) : Int) ≤ ((2 ^ 61 : Nat) : Int) := by exact_mod_cast h
  have h4 : (0 : Int) < ((2 ^ k : Nat) : Int) := by exact_mod_cast h2
  refine ⟨h4, h3⟩
theorem btI_half (k : Nat) : btI (k + 1) / 2 = btI k := by
  cases k with
  | zero => rfl
  | succ k =>
    show ((2 ^ (k + 1) : Nat) : Int) / 2 = ((2 ^ k : Nat) : Int)
    rw [Nat.pow_succ]; omega
/-- The leading digits of a total. -/
def topI (t k : Nat) : Int := ((t / 2 ^ k : Nat) : Int)
theorem topI_next (t k : Nat) : topI t k = 2 * topI t (k + 1) + ((t / 2 ^ k % 2 : Nat) : Int) := by
  unfold topI
  rw [Nat.pow_succ, ← Nat.div_div_eq_div_mul]
  omega
theorem topI_le (t k : Nat) : 0 ≤ topI t k ∧ topI t k ≤ t := by
  unfold topI
  have := Nat.div_le_self t (2 ^ k)
  exact ⟨Int.natCast_nonneg _, by exact_mod_cast this⟩
end Ba
set_option maxRecDepth 100000 in
set_option maxHeartbeats 4000000 in
theorem part02_any (t : Nat) (part whole : Int) (w : World) (ht : t ≤ 1125899906842624) (hp : 0 ≤ part ∧ part ≤ whole) (hw : 1 ≤ whole ∧ whole ≤ 1152921504606846976) : Calls Tryz.prog 159 #[.int .i64 (t : Int), .int .i64 part, .int .i64 whole] w fun e w' => e = .returned (.int .i64 ((t : Int) * part / whole)) ∧ Gr w w' := by
  go_enter Tryz.func159, Tryz.ntmps159
  go_wp2_with fail
  go_loopw [7, 8, 9] (fun vq vr vb wr => ∃ k : Nat, k ≤ 62 ∧ vb = .int .i64 (Ba.btI k) ∧ vq = .int .i64 (Ba.topI t k * part / whole) ∧ vr = .int .i64 (Ba.topI t k * part % whole) ∧ Hid (k ≤ 62) ∧ Gr w wr) (fun _ _ vb _ => (intOf vb).toNat)
  case atStart =>
    have e : Ba.topI t 62 = 0 := by
      unfold Ba.topI
      rw [Nat.div_eq_of_lt (by omega)]; rfl
    exact ⟨62, Nat.le_refl _, rfl, by rw [e, Int.zero_mul, Int.zero_ediv], by rw [e, Int.zero_mul, Int.zero_emod], Lib.hid (Nat.le_refl _), Gr.refl _⟩
  case round =>
    obtain ⟨k, hk, rfl, rfl, rfl, -, hg⟩ := hrel
    cases k with
    | zero =>
      have e : Ba.topI t 0 = (t : Int) := by unfold Ba.topI; simp
      have HE := Lib.hid (show Ba.topI t 0 * part / whole = (t : Int) * part / whole from by rw [e])
      have b0 : Ba.btI 0 = 0 := rfl
      rw [b0]
      clear e b0
      generalize Ba.topI t 0 * part / whole = qv at *
      generalize Ba.topI t 0 * part % whole = rv at *
      go_wp2_with fail
      go_ret
      exact ⟨ret_int HE.out, hg⟩
    | succ k =>
      have hb := Ba.btI_pos k (by omega)
      have HH := Lib.hid (Ba.btI_half k)
      have HA := Lib.hid (show bits BinOp.and IntKind.i64 (t : Int) (Ba.btI (k + 1)) = (((t / 2 ^ k % 2) * 2 ^ k : Nat) : Int) from and_pow_i64 t k (by omega) (by omega))
      have hn := Ba.topI_next t k
      have hl := Ba.topI_le t (k + 1); have hl0 := Ba.topI_le t k
      have q0 : 0 ≤ Ba.topI t (k + 1) * part := Int.mul_nonneg hl.1 hp.1
      have e := Int.mul_ediv_add_emod (Ba.topI t (k + 1) * part) whole
      have r0 := Int.emod_nonneg (Ba.topI t (k + 1) * part) (show whole ≠ 0 by omega)
      have r1 := Int.emod_lt_of_pos (Ba.topI t (k + 1) * part) (show 0 < whole by omega)
      have q1 : 0 ≤ Ba.topI t (k + 1) * part / whole := Int.ediv_nonneg q0 (by omega)
      have q2 : Ba.topI t (k + 1) * part / whole ≤ (t : Int) := by
        refine Int.le_trans (Int.ediv_le_of_le_mul (by omega) (Int.mul_le_mul_of_nonneg_left hp.2 hl.1)) hl.2
      have HV := Lib.hid (show ∀ x y : Int, 0 ≤ y → y < whole → x * whole + y = Ba.topI t k * part → x = Ba.topI t k * part / whole ∧ y = Ba.topI t k * part % whole from fun x y h1 h2 h3 => by
        have a1 : (Ba.topI t k * part) / whole = x := by
          rw [← h3, Int.add_comm, Int.add_mul_ediv_right _ _ (show whole ≠ 0 by omega), Int.ediv_eq_zero_of_lt h1 h2, Int.zero_add]
        have a2 : (Ba.topI t k * part) % whole = y := by
          rw [← h3, Int.add_comm, Int.add_mul_emod_self_right, Int.emod_eq_of_lt h1 h2]
        exact ⟨a1.symm, a2.symm⟩)
      have HX := Lib.hid (show ∀ x y : Int, 0 ≤ y → x * whole + y = Ba.topI t k * part → x ≤ (t : Int) from fun x y h1 h2 => by
        have a1 : x * whole ≤ (t : Int) * whole := by
          have b1 := Int.mul_le_mul_of_nonneg_left hp.2 hl0.1
          have b2 : Ba.topI t k * whole ≤ (t : Int) * whole := Int.mul_le_mul_of_nonneg_right hl0.2 (by omega)
          omega
        exact Int.le_of_mul_le_mul_right a1 (by omega))
      rcases Nat.mod_two_eq_zero_or_one (t / 2 ^ k) with hbit | hbit
      · have hz : (bits BinOp.and IntKind.i64 (t : Int) (Ba.btI (k + 1)) != 0) = false := by rw [HA.out, hbit, Nat.zero_mul]; rfl
        have HS := Lib.hid (show (2 * (Ba.topI t (k + 1) * part / whole)) * whole + 2 * (Ba.topI t (k + 1) * part % whole) = Ba.topI t k * part from by
          rw [hn, hbit]
          have : (2 * Ba.topI t (k + 1) + ((0 : Nat) : Int)) * part = 2 * (Ba.topI t (k + 1) * part) := by rw [show ((0 : Nat) : Int) = 0 from rfl, Int.add_zero, Int.mul_assoc]
          rw [this, Int.mul_assoc, Int.mul_comm (_ / _) whole]
          omega)
        clear HA hn q0 e hbit hl hl0
        have hk61 : k ≤ 61 := by omega
        have HK := Lib.hid hk61
        generalize Ba.topI t (k + 1) * part / whole = qv at *
        generalize Ba.topI t (k + 1) * part % whole = rv at *
        obtain ⟨V, hV⟩ : ∃ z, Ba.topI t k * part = z := ⟨_, rfl⟩
        rw [hV] at HV HX HS
        obtain ⟨QN, hqn⟩ : ∃ z, V / whole = z := ⟨_, rfl⟩
        obtain ⟨RN, hrn⟩ : ∃ z, V % whole = z := ⟨_, rfl⟩
        rw [hqn, hrn] at HV
        have HQN := Lib.hid (show Ba.topI t k * part / whole = QN from by rw [hV]; exact hqn); have HRN := Lib.hid (show Ba.topI t k * part % whole = RN from by rw [hV]; exact hrn)
        clear hqn hrn hV
        obtain ⟨bn, hbn⟩ : ∃ z, Ba.btI k = z := ⟨_, rfl⟩
        rw [hbn] at HH
        have HBN := Lib.hid hbn
        clear hbn
        generalize Ba.btI (k + 1) = bb at *
        go_wp2_with fail
        go_loopw [7, 8] (fun vq vr wz => ∃ x y : Int, vq = .int .i64 x ∧ vr = .int .i64 y ∧ 0 ≤ x ∧ 0 ≤ y ∧ y ≤ 4611686018427387904 ∧ Hid (x * whole + y = V) ∧ Gr w wz) (fun _ vr _ => (intOf vr).toNat)
        case atStart => exact ⟨_, _, rfl, rfl, by omega, by omega, by omega, HS, hg⟩
        case round =>
          clear HS hg q1 q2 r0 r1
          rename_i wq
          obtain ⟨x, y, rfl, rfl, x0, y0, y1, HS, hg⟩ := hrel
          have x2 := HX.out x y y0 HS.out
          by_cases hc : whole ≤ y
          · have HS2 := Lib.hid (show (x + 1) * whole + (y - whole) = V from by rw [Int.add_mul, Int.one_mul]; have := HS.out; omega)
            clear HS HV HX HH
            go_wp2_with fail
            go_roundw
            case rel => exact ⟨x + 1, y - whole, rfl, rfl, by omega, by omega, by omega, HS2, hg⟩
            case measure => simp [intOf]; omega
          · have hv := HV.out x y y0 (by omega) HS.out
            have h2 := HH.out
            have hv1 := Lib.hid hv
            clear hv HS HV HX
            have hc2 : y < whole := by omega
            clear hc
            go_wp2_with fail
            go_roundw
            case rel => exact ⟨k, Nat.le_succ_of_le HK.out, by rw [HBN.out, h2], by rw [hv1.out.1, HQN.out], by rw [hv1.out.2, HRN.out], Lib.hid (Nat.le_succ_of_le HK.out), hg⟩
            case measure => simp [intOf]; omega
      · have hz : (bits BinOp.and IntKind.i64 (t : Int) (Ba.btI (k + 1)) != 0) = true := by
          rw [HA.out, hbit, Nat.one_mul]
          exact bne_iff_ne.2 (by have h := hb.1; rw [show Ba.btI (k + 1) = ((2 ^ k : Nat) : Int) from rfl] at h; exact Int.ne_of_gt h)
        have HS := Lib.hid (show (2 * (Ba.topI t (k + 1) * part / whole)) * whole + (2 * (Ba.topI t (k + 1) * part % whole) + part) = Ba.topI t k * part from by
          rw [hn, hbit]
          have : (2 * Ba.topI t (k + 1) + ((1 : Nat) : Int)) * part = 2 * (Ba.topI t (k + 1) * part) + part := by rw [show ((1 : Nat) : Int) = 1 from rfl, Int.add_mul, Int.mul_assoc, Int.one_mul]
          rw [this, Int.mul_assoc, Int.mul_comm (_ / _) whole]
          omega)
        clear HA hn q0 e hbit hl hl0
        have hk61 : k ≤ 61 := by omega
        have HK := Lib.hid hk61
        generalize Ba.topI t (k + 1) * part / whole = qv at *
        generalize Ba.topI t (k + 1) * part % whole = rv at *
        obtain ⟨V, hV⟩ : ∃ z, Ba.topI t k * part = z := ⟨_, rfl⟩
        rw [hV] at HV HX HS
        obtain ⟨QN, hqn⟩ : ∃ z, V / whole = z := ⟨_, rfl⟩
        obtain ⟨RN, hrn⟩ : ∃ z, V % whole = z := ⟨_, rfl⟩
        rw [hqn, hrn] at HV
        have HQN := Lib.hid (show Ba.topI t k * part / whole = QN from by rw [hV]; exact hqn); have HRN := Lib.hid (show Ba.topI t k * part % whole = RN from by rw [hV]; exact hrn)
        clear hqn hrn hV
        obtain ⟨bn, hbn⟩ : ∃ z, Ba.btI k = z := ⟨_, rfl⟩
        rw [hbn] at HH
        have HBN := Lib.hid hbn
        clear hbn
        generalize Ba.btI (k + 1) = bb at *
        go_wp2_with fail
        go_loopw [7, 8] (fun vq vr wz => ∃ x y : Int, vq = .int .i64 x ∧ vr = .int .i64 y ∧ 0 ≤ x ∧ 0 ≤ y ∧ y ≤ 4611686018427387904 ∧ Hid (x * whole + y = V) ∧ Gr w wz) (fun _ vr _ => (intOf vr).toNat)
        case atStart => exact ⟨_, _, rfl, rfl, by omega, by omega, by omega, HS, hg⟩
        case round =>
          clear HS hg q1 q2 r0 r1
          rename_i wq
          obtain ⟨x, y, rfl, rfl, x0, y0, y1, HS, hg⟩ := hrel
          have x2 := HX.out x y y0 HS.out
          by_cases hc : whole ≤ y
          · have HS2 := Lib.hid (show (x + 1) * whole + (y - whole) = V from by rw [Int.add_mul, Int.one_mul]; have := HS.out; omega)
            clear HS HV HX HH
            go_wp2_with fail
            go_roundw
            case rel => exact ⟨x + 1, y - whole, rfl, rfl, by omega, by omega, by omega, HS2, hg⟩
            case measure => simp [intOf]; omega
          · have hv := HV.out x y y0 (by omega) HS.out
            have h2 := HH.out
            have hv1 := Lib.hid hv
            clear hv HS HV HX
            have hc2 : y < whole := by omega
            clear hc
            go_wp2_with fail
            go_roundw
            case rel => exact ⟨k, Nat.le_succ_of_le HK.out, by rw [HBN.out, h2], by rw [hv1.out.1, HQN.out], by rw [hv1.out.2, HRN.out], Lib.hid (Nat.le_succ_of_le HK.out), hg⟩
            case measure => simp [intOf]; omega
end Go.Proofs.YtajhhplgcegodaaGreatDoor
namespace Go.Proofs.YtajhhplgcegodaaGreatDoor
open Go.RowKit
attribute [local go_sem ↓] Go.wp_at_zero Go.wp_at_succ
set_option maxRecDepth 100000 in
set_option maxHeartbeats 4000000 in
theorem rshg_ok (A : Option Addr) (n c b oo : Nat) (X : Nat → Int) (t : Int) (w : World) (hn1 : 1 ≤ n) (hn : n ≤ 1000) (hA : A = some ⟨b, oo, none⟩) (ht : 0 ≤ t ∧ t ≤ 1125899906842624) (HX : Hid (∀ i, i < n → w.cell? ⟨b, oo + i, none⟩ = some (.int .i64 (X i)) ∧ 0 ≤ X i ∧ X i ≤ 1073741824)) (SM : Nat → Int) (HS0 : Hid (SM 0 = 0)) (HSS : Hid (∀ i, SM (i + 1) = SM i + X i)) (HSB : Hid (∀ i, i ≤ n → 0 ≤ SM i ∧ SM i ≤ 1099511627776)) (hpos : 0 < SM n) : Calls Tryz.prog 181 #[.int .i64 t, .slice A n c] w fun e w' => e = .returned (.int .i64 0) ∧ Gr w w' := by
  subst hA
  have HP := Lib.hid hpos
  clear hpos
  go_enter Tryz.func181, Tryz.ntmps181
  go_wp2_with fail
  go_loopw [5] (fun x wr => ∃ i : Nat, i ≤ n ∧ x = .int .i64 (i : Int) ∧ Gr w wr) (fun x _ => n - (intOf x).toNat)
  case atStart => exact ⟨0, Nat.zero_le _, rfl, Gr.refl _⟩
  case round =>
    obtain ⟨i, hi, rfl, hg⟩ := hrel
    by_cases hlt : i < n
    · obtain ⟨a0, x0, x1⟩ := HX.out i hlt
      replace a0 := Gr.at hg a0
      have ib0 : (0 : Int) ≤ (i : Int) := by omega
      have ib1 : (i : Int) < (n : Int) := by omega
      clear HX HS0 HSS HSB HP
      generalize X i = x at *
      go_wp2_with fail
      go_roundw
      case rel => exact ⟨i + 1, by omega, by go_num, hg⟩
      case measure => simp [intOf]; omega
    · obtain rfl : n = i := by omega
      have hg0 := hg
      go_wp2_with fail
      go_loopw [6, 7] (fun v x wz => ∃ i : Nat, i ≤ n ∧ x = .int .i64 (i : Int) ∧ v = .int .i64 (SM i) ∧ Gr w wz) (fun _ x _ => n - (intOf x).toNat)
      case atStart => exact ⟨0, Nat.zero_le _, rfl, by rw [HS0.out], hg0⟩
      case round =>
        clear hg hg0
        rename_i wq
        obtain ⟨i, hi, rfl, rfl, hg⟩ := hrel
        have tb := HSB.out i hi
        by_cases hlt : i < n
        · obtain ⟨a0, x0, x1⟩ := HX.out i hlt
          replace a0 := Gr.at hg a0
          have ib0 : (0 : Int) ≤ (i : Int) := by omega
          have ib1 : (i : Int) < (n : Int) := by omega
          have T := Lib.hid (HSS.out i)
          have tc := HSB.out (i + 1) hlt
          rw [T.out] at tc
          clear HX HS0 HSS HSB HP
          generalize SM i = s0 at *
          generalize X i = x at *
          go_wp2_with fail
          go_roundw
          case rel => exact ⟨i + 1, by omega, by go_num, by rw [T.out], hg⟩
          case measure => simp [intOf]; omega
        · obtain rfl : n = i := by omega
          have hp := HP.out
          clear HX HS0 HSS HSB HP
          generalize SM n = s0 at *
          have nz : (s0 == 0) = false := by simp; omega
          go_wp2_with fail
          go_ret
          exact ⟨rfl, hg⟩
set_option maxRecDepth 100000 in
set_option maxHeartbeats 4000000 in
theorem rshare_ok (A : Option Addr) (n c b oo : Nat) (X : Nat → Int) (t : Int) (w : World) (hn1 : 1 ≤ n) (hn : n ≤ 1000) (hA : A = some ⟨b, oo, none⟩) (ht : 0 ≤ t ∧ t ≤ 1125899906842624) (HX : Hid (∀ i, i < n → w.cell? ⟨b, oo + i, none⟩ = some (.int .i64 (X i)) ∧ 0 ≤ X i ∧ X i ≤ 1073741824)) (SM : Nat → Int) (HS0 : Hid (SM 0 = 0)) (HSS : Hid (∀ i, SM (i + 1) = SM i + X i)) (HSB : Hid (∀ i, i ≤ n → 0 ≤ SM i ∧ SM i ≤ 1099511627776)) (hpos : 0 < SM n) (HG : Hid (∀ W, Gr w W → Calls Tryz.prog 181 #[.int .i64 t, .slice A n c] W fun e w' => e = .returned (.int .i64 0) ∧ Gr W w'))
    (q : Nat → Int) (HQ0 : Hid (q 0 = 0)) (HQB : Hid (∀ i, i ≤ n → 0 ≤ q i ∧ q i ≤ 1125899906842624)) (HP : Hid (∀ i, i < n → ∀ W, Calls Tryz.prog 159 #[.int .i64 t, .int .i64 (SM (i + 1)), .int .i64 (SM n)] W fun e w' => e = .returned (.int .i64 (q (i + 1))) ∧ Gr W w')) :
    Calls Tryz.prog 158 #[.int .i64 t, .slice A n c] w (fun e w' => ∃ s : Ba.SlI, e = .returned (.tuple #[.slice s.A s.n s.c, .int .i64 0]) ∧ s.At w' ∧ s.n = n ∧ (∀ i, i < n → s.X i = q (i + 1) - q i) ∧ w.heap.size ≤ s.b ∧ Gr w w') := by
  subst hA
  obtain ⟨i1, hi0, hz0, hz1, hz2⟩ := info_parts info_int
  have KI := Lib.hid hi0; have KZ0 := Lib.hid hz0; have KZ1 := Lib.hid hz1; have KZ2 := Lib.hid hz2
  clear hi0 hz0 hz1 hz2 hpos
  go_enter Tryz.func158, Tryz.ntmps158
  go_wp2_with fail
  refine (HG.out _ (by exact gr_auto)).mono ?_
  rintro e w1 ⟨rfl, hb1⟩
  clear HG
  go_wp2_with fail
  go_loopw [7, 8] (fun v x wr => ∃ i : Nat, i ≤ n ∧ x = .int .i64 (i : Int) ∧ v = .int .i64 (SM i) ∧ Gr w wr) (fun _ x _ => n - (intOf x).toNat)
  case atStart => exact ⟨0, Nat.zero_le _, rfl, by rw [HS0.out], hb1⟩
  case round =>
    clear hb1
    obtain ⟨i, hi, rfl, rfl, hg⟩ := hrel
    have tb := HSB.out i hi
    by_cases hlt : i < n
    · obtain ⟨a0, x0, x1⟩ := HX.out i hlt
      replace a0 := Gr.at hg a0
      have ib0 : (0 : Int) ≤ (i : Int) := by omega
      have ib1 : (i : Int) < (n : Int) := by omega
      have T := Lib.hid (HSS.out i)
      have tc := HSB.out (i + 1) hlt
      rw [T.out] at tc
      clear HX HS0 HSS HSB HP HQ0 HQB
      generalize SM i = s0 at *
      generalize X i = x at *
      go_wp2_with fail
      go_roundw
      case rel => exact ⟨i + 1, by omega, by go_num, by rw [T.out], hg⟩
      case measure => simp [intOf]; omega
    · obtain rfl : n = i := by omega
      obtain ⟨sn, hsn⟩ : ∃ s, SM n = s := ⟨_, rfl⟩
      rw [hsn] at HP tb
      rw [hsn]
      clear hsn
      have hg0 := hg
      go_wp2_with fail
      go_loopw [9, 10, 11, 12] (fun va vf vb x wz => ∃ i : Nat, i ≤ n ∧ x = .int .i64 (i : Int) ∧ vf = .int .i64 (SM i) ∧ vb = .int .i64 (q i) ∧ Hid (wz.ownsRow w.heap.size 3 1 va i ((List.range i).map fun i => .int .i64 (q (i + 1) - q i))) ∧ Gr w wz) (fun _ _ _ x _ => n - (intOf x).toNat)
      case atStart => exact ⟨0, Nat.zero_le _, rfl, by rw [HS0.out], by rw [HQ0.out], Lib.hid ⟨rfl, Or.inl ⟨rfl, rfl⟩⟩, hg0⟩
      case round =>
        clear hg hg0 tb
        rename_i wq
        obtain ⟨i, hi_, rfl, rfl, rfl, HO, hg⟩ := hrel
        have tb := HSB.out i hi_
        have qb := HQB.out i hi_
        by_cases hlt : i < n
        · obtain ⟨a0, x0, x1⟩ := HX.out i hlt
          replace a0 := Gr.at hg a0
          have ib0 : (0 : Int) ≤ (i : Int) := by omega
          have ib1 : (i : Int) < (n : Int) := by omega
          have T := Lib.hid (HSS.out i)
          have tc := HSB.out (i + 1) hlt
          have qc := HQB.out (i + 1) hlt
          have HPi := Lib.hid (HP.out i hlt)
          rw [T.out] at tc HPi
          obtain ⟨qn, hqn⟩ : ∃ z, q (i + 1) = z := ⟨_, rfl⟩
          obtain ⟨qo, hqo⟩ : ∃ z, q i = z := ⟨_, rfl⟩
          have HQN := Lib.hid hqn; have HQO := Lib.hid hqo
          rw [hqn] at qc HPi
          rw [hqo] at qb
          rw [hqo]
          clear HX HS0 HSS HSB HQ0 HQB HP hqn hqo
          generalize SM i = s0 at *
          generalize X i = x at *
          go_wp2_with fail
          refine (HPi.out _).mono ?_
          rintro e w5 ⟨rfl, hb5⟩
          have g5 := hg.trans hb5
          have HO5 := Lib.hid (ownsRow_gr HO.out hb5)
          have bw3 := Gr.size g5
          clear HPi HO
          go_wp2_with (at_builtin; refine wpList_append_own _ rfl _ _ 26 rfl w.heap.size 3 i1 (.int .i64 0) 1 8 Tryz.underlying26 KI.out KZ0.out KZ1.out KZ2.out rfl (by decide) _ i ((List.range i).map fun i => .int .i64 (q (i + 1) - q i)) rfl (ownsRow_gr HO5.out (by exact gr_auto)) ⟨w5.heap.size, 0, none⟩ 1 1 [.int .i64 (qn - qo)] rfl rfl (by intro p u hp; rcases p with _ | p <;> simp at hp <;> (try subst hp) <;> first | (simp [Addr.add, go_sem]; done) | (simp [Addr.add]; done)) (by intro u hu; simp at hu; subst hu; rfl) (by unfold maxLen; omega) (by omega) (by simp; omega) ?_)
          intro v' w9 hown' hgrow hnil
          have hg9 : Gr w w9 := by
            refine Gr.own (base := w.heap.size) ?_ (Nat.le_refl _) (ownsRow_gr HO5.out ?_) hgrow
            · exact g5.trans (by exact gr_auto)
            · exact gr_auto
          have HO9 := Lib.hid (show w9.ownsRow w.heap.size 3 1 v' (i + 1) ((List.range (i + 1)).map fun i => .int .i64 (q (i + 1) - q i)) from by
            rw [List.range_succ, List.map_append, List.map_cons, List.map_nil, HQN.out, HQO.out]; exact hown')
          clear hown' hgrow hnil HO5
          go_wp2_with fail
          go_roundw
          case rel => exact ⟨i + 1, by omega, by go_num, by rw [T.out], by rw [HQN.out], HO9, hg9⟩
          case measure => simp [intOf]; omega
        · obtain rfl : n = i := by omega
          have hbo : ∀ i, i < n → Ba.i64 (q (i + 1) - q i) := fun i hi => by
            have h1 := HQB.out i (by omega); have h2 := HQB.out (i + 1) (by omega)
            unfold Ba.i64; omega
          obtain ⟨s, rfl, r1, r2, r3, r4⟩ := own_slib HO.out hbo hn1
          have R1 := Lib.hid r1; have R2 := Lib.hid r2; have R3 := Lib.hid r3; have R4 := Lib.hid r4
          clear r1 r2 r3 r4 hbo HX HS0 HSS HSB HQ0 HQB HP KI KZ0 KZ1 KZ2 HO
          go_wp2_with fail
          refine bodyPost_ret (by simp [results, Tryz.results158, go_sem]; try rfl) rfl ?_
          exact ⟨s, rfl, R1.out, R2.out, fun i hi => R3.out i (by rw [R2.out]; exact hi), R4.out, hg⟩
set_option maxHeartbeats 1000000 in
theorem rshare_any (s : Ba.SlI) (t : Int) (w : World) (hs : s.At w) (hu : Ba.uniB s = true) (ht : 0 ≤ t ∧ t ≤ 1125899906842624) : Calls Tryz.prog 158 #[.int .i64 t, .slice s.A s.n s.c] w (fun e w' => ∃ r : Ba.SlI, e = .returned (.tuple #[.slice r.A r.n r.c, .int .i64 0]) ∧ r.At w' ∧ r.n = s.n ∧ (∀ i, i < s.n → r.X i = Ba.shrI s.X t s.n i) ∧ w.heap.size ≤ r.b ∧ Gr w w') := by
  obtain ⟨h1, h2, h3, h4⟩ := Ba.uni_parts hu
  have h5 := fun i (hi : i ≤ s.n) => Ba.uni_sum hu hi
  have HG := Lib.hid (fun W (hh : Gr w W) => rshg_ok s.A s.n s.c s.b s.o s.X t W h1 h2 (hs.hA (by omega)) ht (Lib.hid fun i hi => ⟨Gr.at hh (hs.hX i hi).1, h3 i hi⟩) (Ba.sumI s.X) (Lib.hid rfl) (Lib.hid fun _ => rfl) (Lib.hid fun i hi => by have := h5 i hi; omega) h4)
  refine rshare_ok s.A s.n s.c s.b s.o s.X t w h1 h2 (hs.hA (by omega)) ht (Lib.hid fun i hi => ⟨(hs.hX i hi).1, h3 i hi⟩) (Ba.sumI s.X) (Lib.hid rfl) (Lib.hid fun _ => rfl) (Lib.hid fun i hi => by have := h5 i hi; omega) h4 HG
    (Ba.cutI s.X t s.n) (Lib.hid ?_) (Lib.hid fun i hi => by have := Ba.cut_le hu ht.1 hi; omega) (Lib.hid ?_)
  · show t * Ba.sumI s.X 0 / Ba.sumI s.X s.n = 0
    rw [show Ba.sumI s.X 0 = 0 from rfl, Int.mul_zero, Int.zero_ediv]
  · intro i hi W
    have a := h5 (i + 1) (by omega)
    obtain ⟨tn, rfl⟩ : ∃ m : Nat, t = (m : Int) := ⟨t.toNat, by omega⟩
    exact part02_any tn (Ba.sumI s.X (i + 1)) (Ba.sumI s.X s.n) W (by omega) ⟨a.1, a.2.1⟩ (by omega)
set_option maxRecDepth 100000 in
set_option maxHeartbeats 4000000 in
theorem rcnv_no1 (A A2 : Option Addr) (n c m c2 : Nat) (w : World) (hm1 : n ≤ 9223372036854775807) (hm2 : m ≤ 9223372036854775807) (HS : Hid (∀ W, Gr w W → Calls Tryz.prog 157 #[.slice A n c] W fun e w' => e = .returned (.bool false) ∧ Gr W w')) : Calls Tryz.prog 114 #[.slice A n c, .slice A2 m c2] w fun e w' => e = .returned (.tuple #[.slice none 0 0, .int .i64 1]) ∧ Gr w w' := by
  go_enter Tryz.func114, Tryz.ntmps114
  go_wp2_with fail
  refine (HS.out _ (by exact Gr.refl _)).mono ?_
  rintro e w1 ⟨rfl, hb1⟩
  go_wp2_with fail
  refine bodyPost_ret (by simp [results, Tryz.results114, go_sem]; try rfl) rfl ?_
  exact ⟨rfl, gr_auto⟩
set_option maxRecDepth 100000 in
set_option maxHeartbeats 4000000 in
theorem rcnv_no2 (A A2 : Option Addr) (n c m c2 : Nat) (w : World) (hm1 : n ≤ 9223372036854775807) (hm2 : m ≤ 9223372036854775807) (HS : Hid (∀ W, Gr w W → Calls Tryz.prog 157 #[.slice A n c] W fun e w' => e = .returned (.bool true) ∧ Gr W w')) (HV : Hid (∀ W, Gr w W → Calls Tryz.prog 60 #[.slice A2 m c2] W fun e w' => e = .returned (.bool false) ∧ Gr W w')) : Calls Tryz.prog 114 #[.slice A n c, .slice A2 m c2] w fun e w' => e = .returned (.tuple #[.slice none 0 0, .int .i64 1]) ∧ Gr w w' := by
  go_enter Tryz.func114, Tryz.ntmps114
  go_wp2_with fail
  refine (HS.out _ (by exact Gr.refl _)).mono ?_
  rintro e w1 ⟨rfl, hb1⟩
  go_wp2_with fail
  refine (HV.out _ (by exact hb1)).mono ?_
  rintro e w2 ⟨rfl, hb2⟩
  have g2 := hb1.trans hb2
  go_wp2_with fail
  refine bodyPost_ret (by simp [results, Tryz.results114, go_sem]; try rfl) rfl ?_
  exact ⟨rfl, gr_auto⟩
set_option maxRecDepth 100000 in
set_option maxHeartbeats 4000000 in
theorem rcnv_no3 (A A2 : Option Addr) (n c m c2 : Nat) (w : World) (hm1 : n ≤ 9223372036854775807) (hm2 : m ≤ 9223372036854775807) (HS : Hid (∀ W, Gr w W → Calls Tryz.prog 157 #[.slice A n c] W fun e w' => e = .returned (.bool true) ∧ Gr W w')) (HV : Hid (∀ W, Gr w W → Calls Tryz.prog 60 #[.slice A2 m c2] W fun e w' => e = .returned (.bool true) ∧ Gr W w')) (h0 : n = 0) : Calls Tryz.prog 114 #[.slice A n c, .slice A2 m c2] w fun e w' => e = .returned (.tuple #[.slice none 0 0, .int .i64 0]) ∧ Gr w w' := by
  have t0 : ((n : Int) == 0) = true := by rw [h0]; rfl
  clear h0
  go_enter Tryz.func114, Tryz.ntmps114
  go_wp2_with fail
  refine (HS.out _ (by exact Gr.refl _)).mono ?_
  rintro e w1 ⟨rfl, hb1⟩
  go_wp2_with fail
  refine (HV.out _ (by exact hb1)).mono ?_
  rintro e w2 ⟨rfl, hb2⟩
  have g2 := hb1.trans hb2
  go_wp2_with fail
  refine bodyPost_ret (by simp [results, Tryz.results114, go_sem]; try rfl) rfl ?_
  exact ⟨rfl, gr_auto⟩
set_option maxRecDepth 100000 in
set_option maxHeartbeats 4000000 in
theorem rcnv_no4 (A A2 : Option Addr) (n c m c2 : Nat) (w : World) (hm1 : n ≤ 9223372036854775807) (hm2 : m ≤ 9223372036854775807) (HS : Hid (∀ W, Gr w W → Calls Tryz.prog 157 #[.slice A n c] W fun e w' => e = .returned (.bool true) ∧ Gr W w')) (HV : Hid (∀ W, Gr w W → Calls Tryz.prog 60 #[.slice A2 m c2] W fun e w' => e = .returned (.bool true) ∧ Gr W w')) (h0 : ((n : Int) == 0) = false) (hn : n ≤ 10000) (hm : m ≤ 1000) (hl : (10000 : Int) < (n : Int) + (m : Int) - 1) : Calls Tryz.prog 114 #[.slice A n c, .slice A2 m c2] w fun e w' => e = .returned (.tuple #[.slice none 0 0, .int .i64 4]) ∧ Gr w w' := by
  go_enter Tryz.func114, Tryz.ntmps114
  go_wp2_with fail
  refine (HS.out _ (by exact Gr.refl _)).mono ?_
  rintro e w1 ⟨rfl, hb1⟩
  go_wp2_with fail
  refine (HV.out _ (by exact hb1)).mono ?_
  rintro e w2 ⟨rfl, hb2⟩
  have g2 := hb1.trans hb2
  go_wp2_with fail
  refine bodyPost_ret (by simp [results, Tryz.results114, go_sem]; try rfl) rfl ?_
  exact ⟨rfl, gr_auto⟩
end Go.Proofs.YtajhhplgcegodaaGreatDoor
namespace Go.Proofs.YtajhhplgcegodaaGreatDoor
open Go.RowKit
attribute [local go_sem ↓] Go.wp_at_zero Go.wp_at_succ
/-- A row of stores, each cell of which may be written. -/
def RowT (w : World) (g n : Nat) (W H : Nat → Int) : Prop := ∀ k, k < n → Own w g (k * 2) (.int .i64 (W k)) ∧ Own w g (k * 2 + 1) (.int .i64 (H k))
theorem RowT.gr {w w' : World} {g n : Nat} {W H : Nat → Int} (h : RowT w g n W H) (hg : Gr w w') : RowT w' g n W H := fun k hk => ⟨(h k hk).1.gr hg, (h k hk).2.gr hg⟩
theorem RowT.set {w : World} {g n k : Nat} {W H W2 H2 : Nat → Int} {a b : Int} (h : RowT w g n W H) (hw : W2 k = a) (hh : H2 k = b) (ho : ∀ j, j ≠ k → W2 j = W j ∧ H2 j = H j) : RowT ((w.setCell ⟨g, k * 2, none⟩ (.int .i64 a)).setCell ⟨g, k * 2 + 1, none⟩ (.int .i64 b)) g n W2 H2 := by
  intro j hj
  by_cases e : j = k
  · subst e
    rw [hw, hh]
    exact ⟨Own.other (Own.set (h j hj).1) (Or.inr (by omega)), Own.set (Own.other (h j hj).2 (Or.inr (by omega)))⟩
  · rw [(ho j e).1, (ho j e).2]
    exact ⟨Own.other (Own.other (h j hj).1 (Or.inr (by omega))) (Or.inr (by omega)), Own.other (Own.other (h j hj).2 (Or.inr (by omega))) (Or.inr (by omega))⟩
theorem RowT.far {w w' : World} {g n : Nat} {W H : Nat → Int} {e : Option Nat} (h : RowT w g n W H) (hg : w.grownBy w' e) (hne : some g ≠ e) : RowT w' g n W H := fun k hk =>
  ⟨⟨(hg.cell_far ⟨g, k * 2, none⟩ (World.block_lt_of_cell? _ _ (h k hk).1.1) hne).trans (h k hk).1.1, (hg.frozen_far ⟨g, k * 2, none⟩ (World.block_lt_of_cell? _ _ (h k hk).1.1) hne).trans (h k hk).1.2⟩, ⟨(hg.cell_far ⟨g, k * 2 + 1, none⟩ (World.block_lt_of_cell? _ _ (h k hk).2.1) hne).trans (h k hk).2.1, (hg.frozen_far ⟨g, k * 2 + 1, none⟩ (World.block_lt_of_cell? _ _ (h k hk).2.1) hne).trans (h k hk).2.2⟩⟩
theorem made_rowT {w : World} {base e g n : Nat} (h : w.ownsRow base e 2 (.slice (some ⟨g, 0, none⟩) n n) n (madeCells #[.int .i64 0, .int .i64 0] (n * 2)).toList) : RowT w g n (fun _ => 0) (fun _ => 0) := by
  obtain ⟨hl, ⟨h1, -⟩ | ⟨g', cap, cur, hv, hb, hc, h3, h4, h5, h6⟩⟩ := h
  · cases h1
  · simp only [Value.slice.injEq, Option.some.injEq, Addr.mk.injEq] at hv
    obtain ⟨⟨rfl, -, -⟩, -, rfl⟩ := hv
    rw [List.take_of_length_le (by simp [h5])] at h6
    have own : ∀ i, i < n * 2 → Own w g i (.int .i64 0) := fun i hi => by
      have hz : cur.toList[i]? = some (.int .i64 0) := by
        rw [h6]
        simp only [madeCells, Array.toList_map, Array.toList_range, List.getElem?_map, List.getElem?_range hi, Option.map_some]
        rcases Nat.mod_two_eq_zero_or_one i with q | q <;> simp [q]
      refine ⟨?_, ?_⟩
      · simp only [World.cell?, hc]; simpa using hz
      · simp only [World.frozen?, hc]; simp
    intro k hk
    exact ⟨own _ (by omega), own _ (by omega)⟩
set_option maxRecDepth 100000 in
set_option maxHeartbeats 8000000 in
theorem rdep_e (A A2 DA : Option Addr) (n c an ac dn dc : Nat) (fr st : Int) (w : World) (ec : Int) (hec : ec ≠ 0) (HG : Hid (∀ W, Gr w W → Calls Tryz.prog 155 #[.slice A n c, .slice A2 an ac, .agg #[.int .i64 fr, .int .i64 st, .slice DA dn dc]] W fun e w' => e = .returned (.int .i64 ec) ∧ Gr W w')) : Calls Tryz.prog 113 #[.slice A n c, .slice A2 an ac, .agg #[.int .i64 fr, .int .i64 st, .slice DA dn dc]] w fun e w' => e = .returned (.tuple #[.slice none 0 0, .int .i64 ec]) ∧ Gr w w' := by
  have t0 : (ec != 0) = true := by rw [bne_iff_ne]; exact hec
  clear hec
  go_enter Tryz.func113, Tryz.ntmps113
  go_wp2_with fail
  (first | refine name_world ?_ | refine (show (∀ W, W = _ → Calls _ _ _ W _) → Calls _ _ _ _ _ from fun h => h _ rfl) ?_); intro W1 hW1
  have g1 : Gr w W1 := by rw [hW1]; exact gr_auto
  have k1_0 : W1.cell? ⟨w.heap.size, 0, none⟩ = some (.int .i64 fr) := by rw [hW1]; first | (simp [go_sem, *]; done) | (refine Gr.at ?_ (by assumption); exact gr_auto)
  have b1_0 : w.heap.size < W1.heap.size := World.block_lt_of_cell? _ _ k1_0
  have k1_1 : W1.cell? ⟨w.heap.size, 1, none⟩ = some (.int .i64 st) := by rw [hW1]; first | (simp [go_sem, *]; done) | (refine Gr.at ?_ (by assumption); exact gr_auto)
  have k1_2 : W1.cell? ⟨w.heap.size, 2, none⟩ = some (.slice DA dn dc) := by rw [hW1]; first | (simp [go_sem, *]; done) | (refine Gr.at ?_ (by assumption); exact gr_auto)
  clear hW1
  refine (HG.out _ g1).mono ?_
  rintro e w2 ⟨rfl, hb2⟩
  have g2 := g1.trans hb2
  have k1_0 := Gr.at (w1 := w2) gr_auto k1_0; have k1_1 := Gr.at (w1 := w2) gr_auto k1_1; have k1_2 := Gr.at (w1 := w2) gr_auto k1_2
  go_wp2_with fail
  refine bodyPost_ret (by simp [results, Tryz.results113, go_sem]; try rfl) rfl ?_
  exact ⟨rfl, g2⟩
set_option maxRecDepth 100000 in
set_option maxHeartbeats 8000000 in
theorem rdep_ok (A A2 DA : Option Addr) (n c ac dn dc : Nat) (fr st : Int) (w : World) (HG : Hid (∀ W, Gr w W → Calls Tryz.prog 155 #[.slice A n c, .slice A2 n ac, .agg #[.int .i64 fr, .int .i64 st, .slice DA dn dc]] W fun e w' => e = .returned (.int .i64 0) ∧ Gr W w')) (hn1 : 1 ≤ n) (hn : n ≤ 16) (hdn : dn ≤ 10000) (b oo ab ao db do_ : Nat) (D : Nat → Ba.Class) (X Y : Nat → Int) (hA : A = some ⟨b, oo, none⟩) (hA2 : A2 = some ⟨ab, ao, none⟩) (HDA : Hid (0 < dn → DA = some ⟨db, do_, none⟩)) (HX : Hid (∀ j, j < dn → w.cell? ⟨db, do_ + j, none⟩ = some (.int .i64 (Y j))))
    (HD : Hid (∀ k, k < n → (D k).Cells w b (oo + k * 5))) (HAR : Hid (∀ k, k < n → w.cell? ⟨ab, ao + k, none⟩ = some (.int .i64 (X k)) ∧ 0 ≤ X k ∧ X k ≤ 1073741824))
    (sw sh off vo : Nat → Nat → Int) (lf ou : Nat → Int) (HZ : Hid (∀ i, sw 0 i = 0 ∧ sh 0 i = 0)) (HV0 : Hid (∀ j, vo j 0 = 0)) (HVS : Hid (∀ j k, vo j (k + 1) = vo j k + X k * off j k)) (HVB : Hid (∀ j, j < dn → ∀ k, k ≤ n → 0 ≤ vo j k ∧ vo j k ≤ 4503599627370496000)) (HOB : Hid (∀ j, j < dn → ∀ k, k < n → 0 ≤ X k * off j k ∧ X k * off j k ≤ 4503599627370496000))
    (HL0 : Hid (lf 0 = 0)) (HLS : Hid (∀ j, lf (j + 1) = (vo j n + lf j) % 1000)) (HOU : Hid (∀ j, ou j = (vo j n + lf j) / 1000)) (HLB : Hid (∀ j, 0 ≤ lf j ∧ lf j ≤ 999))
    (ec : Int) (hno : Hid (∀ j, j < dn → 1125899906842624 < ou j → ec = 5)) (hok : Hid ((∀ j, j < dn → ou j ≤ 1125899906842624) → ec = 0))
    (HST : Hid (∀ j, j < dn → ∀ k, k < n → ∀ W', Gr w W' → Calls Tryz.prog 156 #[(D k).val, .agg #[.int .i64 (sw j k), .int .i64 (sh j k)], .int .i64 (max 0 (Y j)), .int .i64 st] W' fun e w' => e = .returned (.tuple #[.agg #[.int .i64 (sw (j + 1) k), .int .i64 (sh (j + 1) k)], .int .i64 (off j k)]) ∧ Gr W' w')) : Calls Tryz.prog 113 #[.slice A n c, .slice A2 n ac, .agg #[.int .i64 fr, .int .i64 st, .slice DA dn dc]] w (fun e w' => ∃ r : Ba.SlI, e = .returned (.tuple #[.slice r.A r.n r.c, .int .i64 ec]) ∧ r.At w' ∧ (ec = 0 → r.n = dn ∧ ∀ j, j < dn → r.X j = ou j) ∧ (ec ≠ 0 → r.n = 0) ∧ Gr w w') := by
  subst hA hA2
  go_enter Tryz.func113, Tryz.ntmps113
  go_wp2_with fail
  (first | refine name_world ?_ | refine (show (∀ W, W = _ → Calls _ _ _ W _) → Calls _ _ _ _ _ from fun h => h _ rfl) ?_); intro W1 hW1
  have g1 : Gr w W1 := by rw [hW1]; exact gr_auto
  have k1_0 : W1.cell? ⟨w.heap.size, 0, none⟩ = some (.int .i64 fr) := by rw [hW1]; first | (simp [go_sem, *]; done) | (refine Gr.at ?_ (by assumption); exact gr_auto)
  have b1_0 : w.heap.size < W1.heap.size := World.block_lt_of_cell? _ _ k1_0
  have k1_1 : W1.cell? ⟨w.heap.size, 1, none⟩ = some (.int .i64 st) := by rw [hW1]; first | (simp [go_sem, *]; done) | (refine Gr.at ?_ (by assumption); exact gr_auto)
  have k1_2 : W1.cell? ⟨w.heap.size, 2, none⟩ = some (.slice DA dn dc) := by rw [hW1]; first | (simp [go_sem, *]; done) | (refine Gr.at ?_ (by assumption); exact gr_auto)
  clear hW1
  refine (HG.out _ g1).mono ?_
  rintro e w2 ⟨rfl, hb2⟩
  have g2 := g1.trans hb2
  have k1_0 := Gr.at (w1 := w2) gr_auto k1_0; have k1_1 := Gr.at (w1 := w2) gr_auto k1_1; have k1_2 := Gr.at (w1 := w2) gr_auto k1_2
  clear HG
  obtain ⟨i0, hi0, hz0, hz1, hz2⟩ := info_parts info_store
  have JI := Lib.hid hi0; have JZ0 := Lib.hid hz0; have JZ1 := Lib.hid hz1; have JZ2 := Lib.hid hz2
  clear hi0 hz0 hz1 hz2
  obtain ⟨i1, hi0, hz0, hz1, hz2⟩ := info_parts info_int
  have KI := Lib.hid hi0; have KZ0 := Lib.hid hz0; have KZ1 := Lib.hid hz1; have KZ2 := Lib.hid hz2
  clear hi0 hz0 hz1 hz2
  go_wp2_with (at_make; refine wpList_make_full _ rfl _ _ _ rfl w.heap.size 185 i0 (.agg #[.int .i64 0, .int .i64 0]) 2 Tryz.underlying135 JI.out JZ0.out JZ1.out .i64 .i64 n n n rfl rfl rfl rfl ?d1 ?d2 ?d3 ?_)
  case d1 => rw [JZ2.out]; omega
  case d2 => unfold maxLen; omega
  case d3 => exact Gr.size g2
  intro w3 hown hgrow
  have hT := Lib.hid (made_rowT hown)
  have G3 : Gr w2 w3 := Gr.own (Gr.refl _) (Nat.le_refl _) (n := 0) (e := 3) (size := 1) (xs := []) (v := .slice none 0 0) ⟨rfl, Or.inl ⟨rfl, rfl⟩⟩ hgrow
  obtain ⟨R, hR⟩ : ∃ R, R = w2.heap.size := ⟨_, rfl⟩
  have zB : w.heap.size < w2.heap.size := World.block_lt_of_cell? _ _ k1_0
  have zR3 : R < w3.heap.size := World.block_lt_of_cell? _ _ (show w3.cell? ⟨R, 0 * 2, none⟩ = some (.int .i64 0) from by rw [hR]; exact (hT.out 0 (by omega)).1.1)
  rw [← hR] at hT
  rw [← hR]
  have zR : w2.heap.size ≤ R := Nat.le_of_eq hR.symm
  have zBR : w.heap.size ≠ R := by omega
  clear hown hgrow hR
  go_wp2_with fail
  go_loopw [10, 11, 12] (fun vl_ vo_ x wr => ∃ j : Nat, j ≤ dn ∧ x = .int .i64 (j : Int) ∧ vl_ = .int .i64 (lf j) ∧ Hid (RowT wr R n (sw j) (sh j)) ∧ Hid (∀ i, i < j → ou i ≤ 1125899906842624) ∧ Hid (wr.ownsRow (R + 1) 3 1 vo_ j ((List.range j).map fun i => .int .i64 (ou i))) ∧ Gr w2 wr) (fun _ _ x _ => dn - (intOf x).toNat)
  case atStart => exact ⟨0, Nat.zero_le _, rfl, by rw [HL0.out], Lib.hid (by rw [show sw 0 = fun _ => 0 from funext fun i => (HZ.out i).1, show sh 0 = fun _ => 0 from funext fun i => (HZ.out i).2]; exact hT.out), Lib.hid (fun i hi => absurd hi (by omega)), Lib.hid ⟨rfl, Or.inl ⟨rfl, rfl⟩⟩, G3⟩
  case round =>
    clear hT G3
    obtain ⟨j, hj, rfl, rfl, HT, HQ, HO, hg⟩ := hrel
    have gr : Gr w wr := g2.trans hg
    have k0 := Gr.at hg k1_0; have k1 := Gr.at hg k1_1; have k2 := Gr.at hg k1_2
    have z3r := Gr.size hg
    by_cases hlt : j < dn
    · obtain rfl := HDA.out (by omega)
      have a0 := HX.out j hlt
      have lb := HLB.out j; have vbn := HVB.out j hlt n (Nat.le_refl _)
      have T1 := Lib.hid (HLS.out j); have T2 := Lib.hid (HOU.out j)
      have HSTj := Lib.hid (fun k hk W hW => HST.out j hlt k hk W hW)
      have HVBj := Lib.hid (HVB.out j hlt); have HOBj := Lib.hid (HOB.out j hlt); have HVSj := Lib.hid (HVS.out j)
      have hnoj := Lib.hid (hno.out j hlt)
      have HT0 := Lib.hid (show RowT wr R n (fun i => if i < 0 then sw (j + 1) i else sw j i) (fun i => if i < 0 then sh (j + 1) i else sh j i) from HT.out)
      have HV0j := HV0.out j
      clear HX HLS HOU HLB HVB HZ HL0 hno hok HST HVS HOB HT HV0
      generalize lf j = l at *
      obtain ⟨x, hx⟩ : ∃ x, Y j = x := ⟨_, rfl⟩
      rw [hx] at a0 HSTj
      obtain ⟨m, hm⟩ : ∃ m, max 0 x = m := ⟨_, rfl⟩
      rw [hm] at HSTj
      clear hx
      go_wp2_with fail
      go_loopw [13, 14] (fun v x wz => ∃ k : Nat, k ≤ n ∧ x = .int .i64 (k : Int) ∧ v = .int .i64 (vo j k) ∧ Hid (RowT wz R n (fun i => if i < k then sw (j + 1) i else sw j i) (fun i => if i < k then sh (j + 1) i else sh j i)) ∧ Hid (wz.ownsRow (R + 1) 3 1 u11 j ((List.range j).map fun i => .int .i64 (ou i))) ∧ Gr w2 wz) (fun _ x _ => n - (intOf x).toNat)
      case atStart => exact ⟨0, Nat.zero_le _, rfl, by rw [HV0j], HT0, HO, hg⟩
      case round =>
        clear HT0 HO hg gr k0 k1 k2 z3r HV0j
        rename_i wq
        obtain ⟨k, hk, rfl, rfl, HTk, HO, hg⟩ := hrel
        have gr : Gr w wr := g2.trans hg
        have k0 := Gr.at hg k1_0; have k1 := Gr.at hg k1_1; have k2 := Gr.at hg k1_2
        have z3r := Gr.size hg
        by_cases hkn : k < n
        · obtain ⟨a1, a2, a3, a4, a5⟩ := (HD.out k hkn).gr gr
          obtain ⟨r0, r1, r2⟩ := HAR.out k hkn
          have nab0 := World.block_lt_of_cell? _ _ r0
          simp only at nab0
          have nab : ab ≠ R := by omega
          replace r0 := Gr.at gr r0
          have a0r := Gr.at gr a0
          obtain ⟨t0, t1⟩ := HTk.out k hkn
          simp only [Nat.lt_irrefl, if_false] at t0 t1
          have s0 := t0.1; have s1 := t1.1; have sf0 := t0.2; have sf1 := t1.2
          have zRr := World.block_lt_of_cell? _ _ s0
          simp only at zRr
          have HSk := Lib.hid (HSTj.out k hkn)
          have vb := HVBj.out k hk; have vb2 := HVBj.out (k + 1) hkn; have ob := HOBj.out k hkn
          have TV := Lib.hid (HVSj.out k)
          rw [TV.out] at vb2
          have HTn := Lib.hid (fun (W : World) (hW : RowT W R n (fun i => if i < k then sw (j + 1) i else sw j i) (fun i => if i < k then sh (j + 1) i else sh j i)) (p q : Int) (hp : p = sw (j + 1) k) (hq : q = sh (j + 1) k) => show RowT ((W.setCell ⟨R, k * 2, none⟩ (.int .i64 p)).setCell ⟨R, k * 2 + 1, none⟩ (.int .i64 q)) R n (fun i => if i < k + 1 then sw (j + 1) i else sw j i) (fun i => if i < k + 1 then sh (j + 1) i else sh j i) from RowT.set hW (by rw [if_pos (Nat.lt_succ_self k), hp]) (by rw [if_pos (Nat.lt_succ_self k), hq]) (fun i hi => by
            by_cases c : i < k
            · rw [if_pos c, if_pos (by omega), if_pos c, if_pos (by omega)]; exact ⟨rfl, rfl⟩
            · rw [if_neg c, if_neg (by omega), if_neg c, if_neg (by omega)]; exact ⟨rfl, rfl⟩))
          have ib0 : (0 : Int) ≤ (j : Int) := by omega
          have ib1 : (j : Int) < (dn : Int) := by omega
          have kb0 : (0 : Int) ≤ (k : Int) := by omega
          have kb1 : (k : Int) < (n : Int) := by omega
          clear HD HAR HSTj HVBj HOBj HVSj hnoj T1 T2 a0 t0 t1 vbn
          generalize vo j k = v0 at *
          generalize off j k = oi at *
          obtain ⟨swi, hsw⟩ : ∃ z, sw (j + 1) k = z := ⟨_, rfl⟩
          obtain ⟨shi, hsh⟩ : ∃ z, sh (j + 1) k = z := ⟨_, rfl⟩
          obtain ⟨wi, hwi⟩ : ∃ z, sw j k = z := ⟨_, rfl⟩
          obtain ⟨hi_, hhi⟩ : ∃ z, sh j k = z := ⟨_, rfl⟩
          rw [hsw, hsh, hwi, hhi] at HSk
          rw [hwi] at s0
          rw [hhi] at s1
          have HSW := Lib.hid hsw; have HSH := Lib.hid hsh
          clear hsw hsh hwi hhi
          generalize X k = xk at *
          generalize D k = d at *
          unfold Ba.Class.val at HSk
          obtain ⟨nm, se, we, ro, dr⟩ := d
          simp only at HSk a1 a2 a3 a4 a5
          go_wp2_with fail
          refine name_world ?_; intro W20 hW20
          have g20 : Gr w W20 := by rw [hW20]; exact gr_auto
          have gb20_wr : Gr wr W20 := by rw [hW20]; exact gr_auto
          have zb20_wr := Gr.size gb20_wr
          have k20_0 : ∀ w', Gr W20 w' → w'.cell? ⟨b, oo + k * 5, none⟩ = some (.string nm) := fun w' hgW => by first | exact (Gr.at hgW (by rw [hW20]; simp [go_sem, *])) | (have hbW := Gr.trans gb20_wr hgW; simp [*]; done)
          have k20_1 : ∀ w', Gr W20 w' → w'.cell? ⟨b, oo + k * 5 + 1, none⟩ = some (.int .i64 se) := fun w' hgW => by first | exact (Gr.at hgW (by rw [hW20]; simp [go_sem, *])) | (have hbW := Gr.trans gb20_wr hgW; simp [*]; done)
          have k20_2 : ∀ w', Gr W20 w' → w'.cell? ⟨b, oo + k * 5 + 2, none⟩ = some (.int .i64 we) := fun w' hgW => by first | exact (Gr.at hgW (by rw [hW20]; simp [go_sem, *])) | (have hbW := Gr.trans gb20_wr hgW; simp [*]; done)
          have k20_3 : ∀ w', Gr W20 w' → w'.cell? ⟨b, oo + k * 5 + 3, none⟩ = some (.int .i64 ro) := fun w' hgW => by first | exact (Gr.at hgW (by rw [hW20]; simp [go_sem, *])) | (have hbW := Gr.trans gb20_wr hgW; simp [*]; done)
          have k20_4 : ∀ w', Gr W20 w' → w'.cell? ⟨b, oo + k * 5 + 4, none⟩ = some (.int .i64 dr) := fun w' hgW => by first | exact (Gr.at hgW (by rw [hW20]; simp [go_sem, *])) | (have hbW := Gr.trans gb20_wr hgW; simp [*]; done)
          have k20_5 : ∀ w', Gr W20 w' → w'.cell? ⟨R, k * 2, none⟩ = some (.int .i64 wi) := fun w' hgW => by first | exact (Gr.at hgW (by rw [hW20]; simp [go_sem, *])) | (have hbW := Gr.trans gb20_wr hgW; simp [*]; done)
          have k20_6 : ∀ w', Gr W20 w' → w'.cell? ⟨R, k * 2 + 1, none⟩ = some (.int .i64 hi_) := fun w' hgW => by first | exact (Gr.at hgW (by rw [hW20]; simp [go_sem, *])) | (have hbW := Gr.trans gb20_wr hgW; simp [*]; done)
          have k20_7 : ∀ w', Gr W20 w' → w'.cell? ⟨w.heap.size, 1, none⟩ = some (.int .i64 st) := fun w' hgW => by first | exact (Gr.at hgW (by rw [hW20]; simp [go_sem, *])) | (have hbW := Gr.trans gb20_wr hgW; simp [*]; done)
          have k20_8 : ∀ w', Gr W20 w' → w'.cell? ⟨w.heap.size, 2, none⟩ = some (.slice (some ⟨db, do_, none⟩) dn dc) := fun w' hgW => by first | exact (Gr.at hgW (by rw [hW20]; simp [go_sem, *])) | (have hbW := Gr.trans gb20_wr hgW; simp [*]; done)
          have k20_9 : ∀ w', Gr W20 w' → w'.cell? ⟨db, do_ + j, none⟩ = some (.int .i64 x) := fun w' hgW => by first | exact (Gr.at hgW (by rw [hW20]; simp [go_sem, *])) | (have hbW := Gr.trans gb20_wr hgW; simp [*]; done)
          clear hW20
          have zW20 := Gr.size g20
          go_region_held3 (fun w' => Gr W20 w') (exact gr_auto) ((go_at_call 156; refine (HSk.out _ (gr.trans (gb20_wr.trans gr_auto))).mono ?_; rintro e w21 ⟨rfl, hb21⟩; have q21 : Gr W20 w21 := Gr.trans gr_auto hb21; (first | (refine own_k2 (B := W20.heap.size) hb21 ?_ ?_ ?_ ?_ ?_; (solve | exact World.frozen?_alloc_new _ _ _ _ | simp | simp [go_sem]); (solve | exact World.frozen?_alloc_new _ _ _ _ | simp | simp [go_sem]); (solve | exact World.frozen?_alloc_new _ _ _ _ | simp | simp [go_sem]); (solve | exact World.frozen?_alloc_new _ _ _ _ | simp | simp [go_sem]); intro y0 y1 y2 y3) | skip)))
          all_goals
            first
            | ((first | refine name_world ?_ | refine (show (∀ W, W = _ → Exit.then _ _ _ _ W) → Exit.then _ _ _ _ _ from fun h => h _ rfl) ?_); intro W22 hW22; have gz : Gr wr W22 := (by rw [hW22]; exact gr_auto); have l0 : W22.cell? ⟨w21.heap.size, 0, none⟩ = some (.int .i64 swi) := (by rw [hW22]; first | (simp [go_sem, *]; done) | exact (by first | (simp [go_sem, *]; done) | ((try simp [go_sem, *]); refine World.cell?_setCell_same' _ _ _ ?_; simp [go_sem, *]; done))); have l1 : W22.cell? ⟨w21.heap.size, 1, none⟩ = some (.int .i64 shi) := (by rw [hW22]; first | (simp [go_sem, *]; done) | exact (by first | (simp [go_sem, *]; done) | ((try simp [go_sem, *]); refine World.cell?_setCell_same' _ _ _ ?_; simp [go_sem, *]; done))); have nbx : R < w21.heap.size := (by first | omega | (have := Gr.size hb21; simp at this; omega)); clear hW22; generalize w21.heap.size = bx at *)
            | ((first | refine name_world ?_ | refine (show (∀ W, W = _ → Exit.then _ _ _ _ W) → Exit.then _ _ _ _ _ from fun h => h _ rfl) ?_); intro W22 hW22; have gz : Gr wr W22 := (by rw [hW22]; exact gr_auto); have l0 : W22.cell? ⟨W20.heap.size, 0, none⟩ = some (.int .i64 swi) := (by rw [hW22]; first | (simp [go_sem, *]; done) | exact (by first | (simp [go_sem, *]; done) | ((try simp [go_sem, *]); refine World.cell?_setCell_same' _ _ _ ?_; simp [go_sem, *]; done))); have l1 : W22.cell? ⟨W20.heap.size, 1, none⟩ = some (.int .i64 shi) := (by rw [hW22]; first | (simp [go_sem, *]; done) | exact (by first | (simp [go_sem, *]; done) | ((try simp [go_sem, *]); refine World.cell?_setCell_same' _ _ _ ?_; simp [go_sem, *]; done))); have nbx : R < W20.heap.size := (by first | omega | (have := Gr.size hb21; simp at this; omega)); clear hW22; generalize W20.heap.size = bx at *)
          all_goals
            have gz2 := hg.trans gz
            have HT2 := Lib.hid (HTn.out _ (HTk.out.gr gz) swi shi HSW.out.symm HSH.out.symm)
            have HO2 := Lib.hid (ownsRow_set (B := R) (o := k * 2 + 1) (u := .int .i64 shi) (ownsRow_set (B := R) (o := k * 2) (u := .int .i64 swi) (ownsRow_gr HO.out gz) (Nat.lt_succ_self R)) (Nat.lt_succ_self R))
            have sg0 := Gr.at gz s0; have sg1 := Gr.at gz s1
            have sh0 := Gr.free gz s0 sf0; have sh1 := Gr.free gz s1 sf1
            have rg0 := Gr.at gz r0
            have hg9 : Gr w2 ((W22.setCell ⟨R, k * 2, none⟩ (.int .i64 swi)).setCell ⟨R, k * 2 + 1, none⟩ (.int .i64 shi)) := Gr.setCell (Gr.setCell gz2 zR _) zR _
            have nbr := Nat.ne_of_lt nbx; have nbr2 := Nat.ne_of_gt nbx
            clear HTk HO HTn
            go_wp2_with fail
            go_roundw
            case rel => exact ⟨k + 1, by omega, by go_num, by rw [TV.out], HT2, HO2, hg9⟩
            case measure => simp [intOf]; omega
        · obtain rfl : n = k := by omega
          have HTf := Lib.hid (show RowT wr R n (sw (j + 1)) (sh (j + 1)) from fun i hi => by have := HTk.out i hi; simp only [hi, if_true] at this; exact this)
          have zRr := World.block_lt_of_cell? _ _ (HTf.out 0 (by omega)).1.1
          simp only at zRr
          have T1c := Lib.hid (T1.out.trans (by rw [Int.add_comm])); have T2c := Lib.hid (T2.out.trans (by rw [Int.add_comm]))
          clear HTk HD HAR HSTj HVBj HOBj HVSj T1 T2 hm a0
          generalize vo j n = v at *
          have vl0 : 0 ≤ l + v ∧ l + v ≤ 9223372036854775807 := by omega
          go_wp2_with (at_builtin; refine wpList_append_own _ rfl _ _ 26 rfl (R + 1) 3 i1 (.int .i64 0) 1 8 Tryz.underlying26 KI.out KZ0.out KZ1.out KZ2.out rfl (by decide) _ j ((List.range j).map fun i => .int .i64 (ou i)) rfl (ownsRow_gr HO.out (by exact gr_auto)) ⟨wr.heap.size, 0, none⟩ 1 1 [.int .i64 ((l + v) / 1000)] rfl rfl (by intro p u hp; rcases p with _ | p <;> simp at hp <;> (try subst hp) <;> first | (simp [Addr.add, go_sem]; done) | (simp [Addr.add]; done)) (by intro u hu; simp at hu; subst hu; rfl) (by unfold maxLen; omega) (by omega) (by simp; omega) ?_)
          · have hbig : (1125899906842624 : Int) < (l + v) / 1000 := by assumption
            have he := hnoj.out (by rw [T2c.out]; exact hbig)
            refine bodyPost_ret (by simp [results, Tryz.results113, go_sem]; try rfl) rfl ?_
            exact ⟨⟨none, 0, 0, 0, 0, fun _ => 0⟩, by rw [he], ⟨fun h => absurd h (by simp), Nat.le_refl _, by simp, fun i hi => absurd hi (by simp)⟩, fun h => by omega, fun _ => rfl, g2.trans hg⟩
          · have hsm : (l + v) / 1000 ≤ 1125899906842624 := by assumption
            intro v' w9 hown' hgrow hnil
            have hfar := own_far HO.out (Nat.lt_succ_self R)
            have HT9 := Lib.hid (RowT.far (HTf.out.gr (show Gr wr _ from gr_auto)) hgrow hfar)
            have hg9 : Gr w2 w9 := by
              refine Gr.own (base := R + 1) ?_ (by omega) (ownsRow_gr HO.out ?_) hgrow
              · exact hg.trans (by exact gr_auto)
              · exact gr_auto
            have HO9 := Lib.hid (show w9.ownsRow (R + 1) 3 1 v' (j + 1) ((List.range (j + 1)).map fun i => .int .i64 (ou i)) from by
              rw [List.range_succ, List.map_append, List.map_cons, List.map_nil, T2c.out]; exact hown')
            have HQ2 := Lib.hid (fun i (hi : i < j + 1) => show ou i ≤ 1125899906842624 from by
              rcases (by omega : i < j ∨ i = j) with q | rfl
              · exact HQ.out i q
              · rw [T2c.out]; exact hsm)
            clear hown' hgrow hnil HO HQ hsm HTf
            go_wp2_with fail
            go_roundw
            case rel => exact ⟨j + 1, by omega, by go_num, by rw [T1c.out], HT9, HQ2, HO9, hg9⟩
            case measure => simp [intOf]; omega
    · obtain rfl : dn = j := by omega
      have HOK := Lib.hid (hok.out fun i hi => HQ.out i hi)
      have hbo : ∀ i, i < dn → Ba.i64 (ou i) := fun i hi => by
        have h1 := HQ.out i hi; have h2 := HVB.out i hi n (Nat.le_refl _); have h3 := HLB.out i
        have h4 := HOU.out i
        unfold Ba.i64; omega
      obtain ⟨r, rfl, r1, r2, r3⟩ := own_sli HO.out hbo
      have R1 := Lib.hid r1; have R2 := Lib.hid r2; have R3 := Lib.hid r3
      clear r1 r2 r3 hbo HX HLS HOU HLB HVB HZ HL0 hno hok HST HVS HOB HV0 HQ HO HT JI JZ0 JZ1 JZ2 KI KZ0 KZ1 KZ2 HD HAR
      go_wp2_with fail
      refine bodyPost_ret (by simp [results, Tryz.results113, go_sem]; try rfl) rfl ?_
      exact ⟨r, by rw [HOK.out], R1.out, fun _ => ⟨R2.out, fun i hi => R3.out i (by rw [R2.out]; exact hi)⟩, fun h => absurd HOK.out h, gr⟩
set_option maxRecDepth 100000 in
set_option maxHeartbeats 1000000 in
theorem rdep_any (C : Ba.SlClass) (a : Ba.SlI) (s : Ba.Ser) (w : World) (hC : C.At w) (ha : a.At w) (hs : s.Ok w) : Calls Tryz.prog 113 #[.slice C.A C.n C.c, .slice a.A a.n a.c, s.val] w (RetDep C a s w) := by
  have HG := Lib.hid (fun W (hh : Gr w W) => rgiven_any C a s W (hC.gr hh) (ha.gr hh) (hs.gr hh))
  by_cases hg : Ba.givR C a s = 0
  rotate_left
  · have e : Ba.depE C a s = Ba.givR C a s := by unfold Ba.depE; rw [if_neg hg]
    refine (rdep_e C.A a.A s.ds.A C.n C.c a.n a.c s.ds.n s.ds.c s.fr s.st w _ hg HG).mono fun e' w' ⟨h1, h2⟩ => ?_
    exact ⟨⟨none, 0, 0, 0, 0, fun _ => 0⟩, by rw [h1, e], ⟨fun h => absurd h (by simp), Nat.le_refl _, by simp, fun i hi => absurd hi (by simp)⟩, fun h => absurd (e ▸ h) hg, fun _ => rfl, h2⟩
  have R := Ba.right_of hg
  rw [hg] at HG
  have e : Ba.depE C a s = if Ba.allB (Ba.fitO C a s) s.ds.n = true then 0 else 5 := by unfold Ba.depE; rw [if_pos hg]
  have sp := Ba.ser_parts R.ser
  have rn := R.n
  have rf := R.few
  have HG' : Hid (∀ W, Gr w W → Calls Tryz.prog 155 #[.slice C.A C.n C.c, .slice a.A C.n a.c, .agg #[.int .i64 s.fr, .int .i64 s.st, .slice s.ds.A s.ds.n s.ds.c]] W fun e w' => e = .returned (.int .i64 0) ∧ Gr W w') := by
    have z := HG
    rw [rn] at z
    exact z
  have vle : ∀ j, j < s.ds.n → ∀ k, k ≤ C.n → 0 ≤ Ba.volI C a (fun i => (Ba.str C s j i).1) (fun i => (Ba.str C s j i).2) (Ba.dpt s j) k ∧ Ba.volI C a (fun i => (Ba.str C s j i).1) (fun i => (Ba.str C s j i).2) (Ba.dpt s j) k ≤ 4503599627370496000 := fun j hj k hk => by
    have h := Ba.volI_le (C := C) (a := a) (fun i hi => (R.mtr i hi).1) (fun i hi => R.fit hi j (by omega)) (R.dep hj) k hk
    have q := R.sum
    have q2 := Ba.sumI_up (X := a.X) (n := C.n) (i := k) (fun i hi => (R.mtr i hi).1) (C.n - k) (by omega)
    rw [show k + (C.n - k) = C.n by omega] at q2
    omega
  have ole : ∀ j, j < s.ds.n → ∀ k, k < C.n → 0 ≤ a.X k * Ba.offI (C.D k) (Ba.str C s j k).1 (Ba.str C s j k).2 (Ba.dpt s j) ∧ a.X k * Ba.offI (C.D k) (Ba.str C s j k).1 (Ba.str C s j k).2 (Ba.dpt s j) ≤ 4503599627370496000 := fun j hj k hk => by
    have p := (R.fit hk j (by omega)).parts (R.dep hj)
    have m := Ba.mul_bd (a := a.X k) (A := 1073741824) (b := Ba.offI (C.D k) (Ba.str C s j k).1 (Ba.str C s j k).2 (Ba.dpt s j)) (B := 4194304000) (R.mtr k hk) (by have := R.dep hj; omega)
    omega
  have hvs : ∀ j k, Ba.volI C a (fun i => (Ba.str C s j i).1) (fun i => (Ba.str C s j i).2) (Ba.dpt s j) (k + 1) = Ba.volI C a (fun i => (Ba.str C s j i).1) (fun i => (Ba.str C s j i).2) (Ba.dpt s j) k + a.X k * Ba.offI (C.D k) (Ba.str C s j k).1 (Ba.str C s j k).2 (Ba.dpt s j) := fun j k => by unfold Ba.volI; rw [Ba.sumI]
  have hls : ∀ j, Ba.lft C a s (j + 1) = (Ba.volI C a (fun i => (Ba.str C s j i).1) (fun i => (Ba.str C s j i).2) (Ba.dpt s j) C.n + Ba.lft C a s j) % 1000 := fun j => by rw [Ba.lft]; unfold Ba.vol; rfl
  have hou : ∀ j, Ba.out C a s j = (Ba.volI C a (fun i => (Ba.str C s j i).1) (fun i => (Ba.str C s j i).2) (Ba.dpt s j) C.n + Ba.lft C a s j) / 1000 := fun j => by unfold Ba.out Ba.vol; rfl
  have key' : ∀ {Q}, Calls Tryz.prog 113 #[.slice C.A C.n C.c, .slice a.A C.n a.c, .agg #[.int .i64 s.fr, .int .i64 s.st, .slice s.ds.A s.ds.n s.ds.c]] w Q → Calls Tryz.prog 113 #[.slice C.A C.n C.c, .slice a.A a.n a.c, s.val] w Q := fun h => by rw [rn]; exact h
  have key := rdep_ok C.A a.A s.ds.A C.n C.c a.c s.ds.n s.ds.c s.fr s.st w HG' rf.1 rf.2 sp.2.2.1 C.b C.o a.b a.o s.ds.b s.ds.o C.D a.X s.ds.X (hC.hA (by omega)) (ha.hA (by omega)) (Lib.hid hs.2.2.hA) (Lib.hid fun j hj => (hs.2.2.hX j hj).1) (Lib.hid fun k hk => (hC.hD k hk).1) (Lib.hid fun k hk => ⟨(ha.hX k (by omega)).1, R.mtr k hk⟩)
    (fun j i => (Ba.str C s j i).1) (fun j i => (Ba.str C s j i).2) (fun j k => Ba.offI (C.D k) (Ba.str C s j k).1 (Ba.str C s j k).2 (Ba.dpt s j)) (fun j k => Ba.volI C a (fun i => (Ba.str C s j i).1) (fun i => (Ba.str C s j i).2) (Ba.dpt s j) k) (Ba.lft C a s) (Ba.out C a s) (Lib.hid fun _ => ⟨rfl, rfl⟩) (Lib.hid fun _ => rfl) (Lib.hid fun j k => hvs j k) (Lib.hid vle) (Lib.hid ole) (Lib.hid rfl) (Lib.hid fun j => hls j) (Lib.hid fun j => hou j) (Lib.hid Ba.lft_le)
    (Ba.depE C a s) (Lib.hid fun j hj hb => by rw [e, Ba.allB_stop hj (show Ba.fitO C a s j = false from decide_eq_false (by omega)), if_neg (by decide)]) (Lib.hid fun h => by rw [e, Ba.allB_iff.2 fun j hj => show Ba.fitO C a s j = true from decide_eq_true (h j hj), if_pos rfl])
    (Lib.hid fun j hj k hk W' hW => by have z := rstep_any (C.D k).nm (C.D k).se (C.D k).we (C.D k).ro (C.D k).dr (Ba.str C s j k).1 (Ba.str C s j k).2 (Ba.dpt s j) s.st W' (R.fit hk j (by omega)) (R.dep hj) sp.2.1; unfold Ba.dpt at z ⊢; rw [Ba.str]; exact z)
  exact key' key
end Go.Proofs.YtajhhplgcegodaaGreatDoor
namespace Go.Proofs.YtajhhplgcegodaaGreatDoor
open Go.RowKit
attribute [local go_sem ↓] Go.wp_at_zero Go.wp_at_succ
set_option maxRecDepth 100000 in
set_option maxHeartbeats 4000000 in
theorem rcnv_ok (A A2 : Option Addr) (n c m c2 : Nat) (w : World) (hm1 : n ≤ 9223372036854775807) (hm2 : m ≤ 9223372036854775807) (HS : Hid (∀ W, Gr w W → Calls Tryz.prog 157 #[.slice A n c] W fun e w' => e = .returned (.bool true) ∧ Gr W w')) (HV : Hid (∀ W, Gr w W → Calls Tryz.prog 60 #[.slice A2 m c2] W fun e w' => e = .returned (.bool true) ∧ Gr W w')) (h0 : ((n : Int) == 0) = false) (hn0 : 0 < n) (hn : n ≤ 1000) (hm : 1 ≤ m ∧ m ≤ 1000) (N : Nat) (hN : (n : Int) + (m : Int) - 1 = (N : Int)) (hN2 : (N : Int) ≤ 10000) (b oo : Nat) (V : Nat → Int) (HA : Hid (0 < n → A = some ⟨b, oo, none⟩)) (HX : Hid (∀ i, i < n → w.cell? ⟨b, oo + i, none⟩ = some (.int .i64 (V i)) ∧ 0 ≤ V i ∧ V i ≤ 1125899906842624))
    (P : Nat → Nat → Int) (HPB : Hid (∀ i, i < n → ∀ k, k < m → 0 ≤ P i k ∧ P i k ≤ 1125899906842624)) (HSh : Hid (∀ i, i < n → ∀ W, Gr w W → Calls Tryz.prog 158 #[.int .i64 (V i), .slice A2 m c2] W fun e w' => ∃ s : Ba.SlI, e = .returned (.tuple #[.slice s.A s.n s.c, .int .i64 0]) ∧ s.At w' ∧ s.n = m ∧ (∀ k, k < m → s.X k = P i k) ∧ W.heap.size ≤ s.b ∧ Gr W w'))
    (cv : Nat → Nat → Int) (ck : Nat → Nat → Nat → Int) (HC0 : Hid (∀ j, cv 0 j = 0)) (HCE : Hid (∀ i, i < n → ck i m = cv (i + 1))) (HCS : Hid (∀ i, i < n → ck i 0 = cv i ∧ ∀ k, k < m → ck i (k + 1) (i + k) = ck i k (i + k) + P i k ∧ ∀ j, j ≠ i + k → ck i (k + 1) j = ck i k j)) (HCB : Hid (∀ i, i < n → ∀ k, k ≤ m → ∀ j, j < N → 0 ≤ ck i k j ∧ ck i k j ≤ 2305843009213693952))
    (okB : Bool) (hokT : Hid ((∀ j, j < N → cv n j ≤ 1125899906842624) → okB = true)) (hokF : Hid (∀ j, j < N → 1125899906842624 < cv n j → okB = false)) (HNB : Hid (∀ j, j < N → 0 ≤ cv n j ∧ cv n j ≤ 2305843009213693952)) :
    Calls Tryz.prog 114 #[.slice A n c, .slice A2 m c2] w (CnvP okB N (cv n) w) := by
  go_enter Tryz.func114, Tryz.ntmps114
  go_wp2_with fail
  refine (HS.out _ (by exact Gr.refl _)).mono ?_
  rintro e w1 ⟨rfl, hb1⟩
  go_wp2_with fail
  refine (HV.out _ (by exact hb1)).mono ?_
  rintro e w2 ⟨rfl, hb2⟩
  have g2 := hb1.trans hb2
  obtain ⟨i1, hi0, hz0, hz1, hz2⟩ := info_parts info_int
  have KI := Lib.hid hi0; have KZ0 := Lib.hid hz0; have KZ1 := Lib.hid hz1; have KZ2 := Lib.hid hz2
  clear hi0 hz0 hz1 hz2
  go_wp2_with (at_make; refine wpList_make_full _ rfl _ _ _ rfl w.heap.size 3 i1 (.int .i64 0) 1 Tryz.underlying26 KI.out KZ0.out KZ1.out .i64 .i64 N N N rfl rfl rfl rfl ?d1 ?d2 ?d3 ?_)
  case d1 => rw [KZ2.out]; omega
  case d2 => unfold maxLen; omega
  case d3 => exact Gr.size g2
  intro w3 hown hgrow
  obtain ⟨R, hR⟩ : ∃ R, R = w2.heap.size := ⟨_, rfl⟩
  rw [← hR] at hown
  have zR : w.heap.size ≤ R := by rw [hR]; exact Gr.size g2
  have hrow := Lib.hid (made_row hown)
  have G3 : Gr w w3 := Gr.trans g2 (Gr.own (Gr.refl _) (Nat.le_refl _) (n := 0) (e := 3) (size := 1) (xs := []) (v := .slice none 0 0) ⟨rfl, Or.inl ⟨rfl, rfl⟩⟩ hgrow)
  rw [← hR]
  clear hown hgrow hR HS HV
  go_wp2_with fail
  go_loopw [8] (fun x wr => ∃ i : Nat, i ≤ n ∧ x = .int .i64 (i : Int) ∧ Hid (Row wr R N (fun j => .int .i64 (cv i j))) ∧ Gr w wr) (fun x _ => n - (intOf x).toNat)
  case atStart => exact ⟨0, Nat.zero_le _, rfl, Lib.hid (by rw [show (fun j => Value.int .i64 (cv 0 j)) = fun _ => Value.int .i64 0 from funext fun j => by rw [HC0.out]]; exact hrow.out), G3⟩
  case round =>
    clear hrow
    obtain ⟨i, hi, rfl, HR, hg⟩ := hrel
    by_cases hlt : i < n
    · obtain rfl := HA.out (by omega)
      obtain ⟨a0, v0, v1⟩ := HX.out i hlt
      replace a0 := Gr.at hg a0
      have ib0 : (0 : Int) ≤ (i : Int) := by omega
      have ib1 : (i : Int) < (n : Int) := by omega
      have HShi := Lib.hid (fun W (hW : Gr w W) => HSh.out i hlt W hW)
      have HKS := Lib.hid (HCS.out i hlt); have HKB := Lib.hid (HCB.out i hlt); have HKP := Lib.hid (HPB.out i hlt)
      have HR0 := Lib.hid (show Row wr R N (fun j => .int .i64 (ck i 0 j)) from by rw [HKS.out.1]; exact HR.out)
      have HEi := Lib.hid (HCE.out i hlt)
      clear HX HC0 HCE HCS HCB HPB HSh HR
      generalize V i = v at *
      go_wp2_with fail
      have HRw := Lib.hid (HR0.out 0 (by omega)).1
      refine (HShi.out _ (by exact hg)).mono ?_
      rintro e w5 ⟨s, rfl, s1, s2, s3, s4, hb5⟩
      have g5 := hg.trans hb5
      replace HR0 := Lib.hid (HR0.out.gr hb5)
      have hRs : R < s.b := by
        have := Gr.size hb5
        have zz := Nat.lt_of_lt_of_le (World.block_lt_of_cell? _ _ (HRw.out)) s4
        exact zz
      obtain ⟨sA, sn, sc, sb, so, sX⟩ := s
      simp only at s2 s3 s4 hRs
      subst s2
      have HSC := Lib.hid s1.hA; have HSX := Lib.hid (fun k (hk : k < sn) => show w5.cell? ⟨sb, so + k, none⟩ = some (.int .i64 (P i k)) from by rw [← s3 k hk]; exact (s1.hX k hk).1)
      clear s1 s3 s4 HShi hb5 hg
      go_wp2_with fail
      go_loopw [11] (fun x wz => ∃ k : Nat, k ≤ sn ∧ x = .int .i64 (k : Int) ∧ Hid (Row wz R N (fun j => .int .i64 (ck i k j))) ∧ Hid (∀ k, k < sn → wz.cell? ⟨sb, so + k, none⟩ = some (.int .i64 (P i k))) ∧ Gr w wz) (fun x _ => sn - (intOf x).toNat)
      case atStart => exact ⟨0, Nat.zero_le _, rfl, HR0, HSX, g5⟩
      case round =>
        clear HR0 HSX g5 a0
        rename_i wq
        obtain ⟨k, hk, rfl, HRk, HX2, hgk⟩ := hrel
        by_cases hkn : k < sn
        · obtain rfl := HSC.out (by omega)
          have b0 := HX2.out k hkn
          have p := HKP.out k hkn
          have kb0 : (0 : Int) ≤ (k : Int) := by omega
          have kb1 : (k : Int) < (sn : Int) := by omega
          have eik : ((i + k : Nat) : Int) = (i : Int) + (k : Int) := by omega
          have ik0 : (0 : Int) ≤ (i : Int) + (k : Int) := by omega
          have ik1 : (i : Int) + (k : Int) < (N : Int) := by omega
          have ik2 : ((i : Int) + (k : Int)).toNat = i + k := by omega
          have r0 : wr.cell? ⟨R, i + k, none⟩ = some (.int .i64 (ck i k (i + k))) := (HRk.out (i + k) (by omega)).1
          have r1 := (HRk.out (i + k) (by omega)).2
          have cb := HKB.out k (by omega) (i + k) (by omega)
          have HN := Lib.hid ((HKS.out.2 k hkn).1)
          have HRn := Lib.hid (fun x (hx : x = ck i (k + 1) (i + k)) => show Row (wr.setCell ⟨R, i + k, none⟩ (.int .i64 x)).drew R N (fun j => .int .i64 (ck i (k + 1) j)) from Row.gr (Row.set (k := i + k) HRk.out (by show Value.int .i64 _ = _; rw [hx]) (fun j _ hj => by show Value.int .i64 _ = Value.int .i64 _; rw [(HKS.out.2 k hkn).2 j hj])) (Gr.drew (Gr.refl _)))
          have HXn := Lib.hid (fun x => show ∀ k', k' < sn → (wr.setCell ⟨R, i + k, none⟩ x).drew.cell? ⟨sb, so + k', none⟩ = some (.int .i64 (P i k')) from fun k' hk' => Gr.at (Gr.drew (Gr.refl _)) (by rw [World.cell?_setCell_other _ _ _ _ (fun e => by simp only [Addr.mk.injEq] at e; omega)]; exact HX2.out k' hk'))
          have HGn := Lib.hid (fun x => Gr.drew (Gr.setCell hgk (p := ⟨R, i + k, none⟩) zR x))
          clear HKS HKB HKP HX2 HRk HEi
          generalize P i k = pk at *
          generalize ck i k (i + k) = ckk at *
          go_wp2_with fail
          refine wp_region_tail 16 (by kernel_rfl) (by kernel_rfl) ?_
          simp only [List.take_succ_cons, List.take_zero, List.drop_succ_cons, List.drop_zero]
          repeat (go_big_quiet_step (skip))
          refine wpQuiet_nil ?_
          go_wp2_with fail
          go_roundw
          case rel => exact ⟨k + 1, by omega, by go_num, HRn.out _ (by rw [HN.out]), HXn.out _, HGn.out _⟩
          case measure => simp [intOf]; omega
        · obtain rfl : sn = k := by omega
          have HRn := Lib.hid (show Row wr R N (fun j => .int .i64 (cv (i + 1) j)) from by rw [← HEi.out]; exact HRk.out)
          clear HKS HKB HKP HX2 HRk HEi
          go_wp2_with fail
          go_roundw
          case rel => exact ⟨i + 1, by omega, by go_num, HRn, hgk⟩
          case measure => simp [intOf]; omega
    · obtain rfl : n = i := by omega
      have hg0 := hg
      have HRF := Lib.hid (fun (w6 : World) (h : Gr wr w6) => HR.out.gr h)
      clear HX HC0 HCE HCS HCB HPB HSh HR
      go_wp2_with fail
      go_loopw [12] (fun x wz => ∃ j : Nat, j ≤ N ∧ x = .int .i64 (j : Int) ∧ Hid (∀ k, k < j → cv n k ≤ 1125899906842624) ∧ Gr wr wz) (fun x _ => N - (intOf x).toNat)
      case atStart => exact ⟨0, Nat.zero_le _, rfl, Lib.hid (fun k hk => absurd hk (by omega)), Gr.refl _⟩
      case round =>
        rename_i wq _ _
        obtain ⟨j, hj, rfl, HQ, hgz⟩ := hrel
        by_cases hjn : j < N
        · have c0 := (HRF.out _ hgz j hjn).1
          simp only at c0
          have nb := HNB.out j hjn
          have hF := Lib.hid (hokF.out j hjn)
          have ib0 : (0 : Int) ≤ (j : Int) := by omega
          have ib1 : (j : Int) < (N : Int) := by omega
          by_cases hc : cv n j ≤ 1125899906842624
          · have HQ2 := Lib.hid (fun k (hk : k < j + 1) => show cv n k ≤ 1125899906842624 from by
              rcases (by omega : k < j ∨ k = j) with q | rfl
              · exact HQ.out k q
              · exact hc)
            clear HQ hF hokT hokF HNB HRF
            generalize cv n j = x at *
            go_wp2_with fail
            go_roundw
            case rel => exact ⟨j + 1, by omega, by go_num, HQ2, hgz⟩
            case measure => simp [intOf]; omega
          · have hb := Lib.hid (hF.out (by omega))
            have hc2 : 1125899906842624 < cv n j := by omega
            clear HQ hF hokT hokF HNB HRF hc
            generalize cv n j = x at *
            go_wp2_with fail
            refine bodyPost_ret (by simp [results, Tryz.results114, go_sem]; try rfl) rfl ?_
            exact ⟨none, 0, by rw [hb.out]; rfl, fun h => absurd (hb.out.symm.trans h) (by decide), fun _ => rfl, hg0.trans hgz⟩
        · obtain rfl : N = j := by omega
          have hb := Lib.hid (hokT.out fun k hk => HQ.out k hk)
          have HR2 := Lib.hid (HRF.out _ hgz)
          clear HQ hokT hokF HNB HRF
          go_wp2_with fail
          refine bodyPost_ret (by simp [results, Tryz.results114, go_sem]; try rfl) rfl ?_
          exact ⟨some ⟨R, 0, none⟩, _, by rw [hb.out]; rfl, fun _ => ⟨R, rfl, rfl, HR2.out, zR⟩, fun h => absurd (hb.out.symm.trans h) (by decide), hg0.trans hgz⟩
theorem rconvolve_any (l u : Ba.SlI) (w : World) (hl : l.At w) (hu : u.At w) (hn : l.n ≤ 1000) : Calls Tryz.prog 114 #[.slice l.A l.n l.c, .slice u.A u.n u.c] w (RetCnv l u w) := by
  have HS := Lib.hid (fun W (hh : Gr w W) => rseries_any l W (hl.gr hh))
  have HV := Lib.hid (fun W (hh : Gr w W) => runi_any u W (hu.gr hh))
  have m1 := Nat.le_trans hl.hc hl.hb; have m2 := Nat.le_trans hu.hc hu.hb
  have nil : ∀ {w : World}, Ba.SlI.At w ⟨none, 0, 0, 0, 0, fun _ => 0⟩ := ⟨fun h => absurd h (by simp), Nat.le_refl _, by simp, fun i hi => absurd hi (by simp)⟩
  cases hb : Ba.volB l
  · have e : Ba.cnvE l u = 1 := by unfold Ba.cnvE; rw [hb]; rfl
    rw [hb] at HS
    refine (rcnv_no1 l.A u.A l.n l.c u.n u.c w m1 m2 HS).mono ?_
    rintro e' w' ⟨rfl, h1⟩
    exact ⟨⟨none, 0, 0, 0, 0, fun _ => 0⟩, by rw [e], nil, fun h => by rw [e] at h; omega, fun _ => rfl, fun h => absurd h (by simp), h1⟩
  rw [hb] at HS
  cases hv : Ba.uniB u
  · have e : Ba.cnvE l u = 1 := by unfold Ba.cnvE; rw [hb, hv]; rfl
    rw [hv] at HV
    refine (rcnv_no2 l.A u.A l.n l.c u.n u.c w m1 m2 HS HV).mono ?_
    rintro e' w' ⟨rfl, h1⟩
    exact ⟨⟨none, 0, 0, 0, 0, fun _ => 0⟩, by rw [e], nil, fun h => by rw [e] at h; omega, fun _ => rfl, fun h => absurd h (by simp), h1⟩
  rw [hv] at HV
  obtain ⟨u1, u2, -, -⟩ := Ba.uni_parts hv
  by_cases h0 : l.n = 0
  · have e : Ba.cnvE l u = 0 := by unfold Ba.cnvE; rw [if_pos hb, if_pos hv, if_pos h0]
    refine (rcnv_no3 l.A u.A l.n l.c u.n u.c w m1 m2 HS HV h0).mono ?_
    rintro e' w' ⟨rfl, h1⟩
    exact ⟨⟨none, 0, 0, 0, 0, fun _ => 0⟩, by rw [e], nil, fun _ => ⟨by rw [if_pos h0], fun j hj => absurd hj (by simp)⟩, fun h => absurd e h, fun h => absurd h (by simp), h1⟩
  have t0 : ((l.n : Int) == 0) = false := beq_eq_false_iff_ne.2 (by omega)
  have vb := hb
  unfold Ba.volB Ba.wiB at vb
  simp only [Bool.and_eq_true, decide_eq_true_eq] at vb
  by_cases hx : (10000 : Int) < (Ba.cnvN l u : Int)
  · have e : Ba.cnvE l u = 4 := by unfold Ba.cnvE; rw [if_pos hb, if_pos hv, if_neg h0, if_pos hx]
    refine (rcnv_no4 l.A u.A l.n l.c u.n u.c w m1 m2 HS HV t0 (by omega) u2 (by unfold Ba.cnvN at hx; omega)).mono ?_
    rintro e' w' ⟨rfl, h1⟩
    exact ⟨⟨none, 0, 0, 0, 0, fun _ => 0⟩, by rw [e], nil, fun h => by rw [e] at h; omega, fun _ => rfl, fun h => absurd h (by simp), h1⟩
  have hV : ∀ i, i < l.n → 0 ≤ l.X i ∧ l.X i ≤ 1125899906842624 := fun i hi => (Ba.bet_iff _ _ _).1 (Ba.allB_at vb.2 hi)
  have hle := Ba.cvK_le hv hV
  have ckb : ∀ i, i < l.n → ∀ k, k ≤ u.n → ∀ j, 0 ≤ Ba.cvK l.X u i k j ∧ Ba.cvK l.X u i k j ≤ 2305843009213693952 := fun i hi k hk j => by
    have a := hle i (by omega) j
    have e : (1125899906842624 : Int) * (i : Int) ≤ 1125899906842624 * 1000 := Int.mul_le_mul_of_nonneg_left (by omega) (by omega)
    unfold Ba.cvK
    by_cases c : i ≤ j ∧ j < i + k
    · rw [if_pos c]
      have s := Ba.shr_le hv (hV i hi).1 (i := j - i) (by omega)
      have := hV i hi
      omega
    · rw [if_neg c]; omega
  refine (rcnv_ok l.A u.A l.n l.c u.n u.c w m1 m2 HS HV t0 (by omega) hn ⟨u1, u2⟩ (Ba.cnvN l u) (by unfold Ba.cnvN; omega) (by omega) l.b l.o l.X (Lib.hid hl.hA) (Lib.hid fun i hi => ⟨(hl.hX i hi).1, hV i hi⟩)
    (fun i k => Ba.shrI u.X (l.X i) u.n k) (Lib.hid fun i hi k hk => by have := Ba.shr_le hv (hV i hi).1 hk; have := hV i hi; omega) (Lib.hid fun i hi W hW => rshare_any u (l.X i) W (hu.gr hW) hv (hV i hi))
    (Ba.cvI l.X u) (Ba.cvK l.X u) (Lib.hid fun _ => rfl) (Lib.hid fun i _ => rfl) (Lib.hid fun i _ => ⟨funext fun j => Ba.cvK_zero l.X u i j, fun k _ => ⟨Ba.cvK_next l.X u i k, fun j hj => Ba.cvK_same l.X u i k j hj⟩⟩) (Lib.hid fun i hi k hk j _ => ckb i hi k hk j)
    (Ba.allB (fun j => Ba.bet (Ba.cvI l.X u l.n j) 0 1125899906842624) (Ba.cnvN l u)) (Lib.hid fun h => Ba.allB_iff.2 fun j hj => (Ba.bet_iff _ _ _).2 ⟨(hle l.n (Nat.le_refl _) j).1, h j hj⟩) (Lib.hid fun j hj h => Ba.allB_stop hj (by
      cases hb : Ba.bet (Ba.cvI l.X u l.n j) 0 1125899906842624
      · rfl
      · have := (Ba.bet_iff _ _ _).1 hb; omega)) (Lib.hid fun j _ => by
      have a := hle l.n (Nat.le_refl _) j
      have e : (1125899906842624 : Int) * (l.n : Int) ≤ 1125899906842624 * 1000 := Int.mul_le_mul_of_nonneg_left (by omega) (by omega)
      omega)).mono ?_
  rintro e' w' ⟨A, N', rfl, k1, k2, k3⟩
  cases hok : Ba.allB (fun j => Ba.bet (Ba.cvI l.X u l.n j) 0 1125899906842624) (Ba.cnvN l u)
  · have e : Ba.cnvE l u = 5 := by unfold Ba.cnvE; rw [if_pos hb, if_pos hv, if_neg h0, if_neg hx, hok]; rfl
    have z := k2 hok
    subst z
    exact ⟨⟨A, 0, 0, 0, 0, fun _ => 0⟩, by rw [e]; rfl, ⟨fun h => absurd h (by simp), Nat.le_refl _, by simp, fun i hi => absurd hi (by simp)⟩, fun h => by rw [e] at h; omega, fun _ => rfl, fun h => absurd h (by simp), k3⟩
  · have e : Ba.cnvE l u = 0 := by unfold Ba.cnvE; rw [if_pos hb, if_pos hv, if_neg h0, if_neg hx, hok]; rfl
    obtain ⟨R, rfl, rfl, hr, hR⟩ := k1 hok
    refine ⟨⟨some ⟨R, 0, none⟩, Ba.cnvN l u, Ba.cnvN l u, R, 0, Ba.cvI l.X u l.n⟩, by rw [e]; rfl, ⟨fun _ => rfl, Nat.le_refl _, by simp only; omega, fun j hj => ?_⟩, fun _ => ⟨by rw [if_neg h0], fun _ _ => rfl⟩, fun h => absurd e h, fun _ => hR, k3⟩
    simp only [Nat.zero_add]
    refine ⟨(hr j hj).1, ?_⟩
    have a := hle l.n (Nat.le_refl _) j
    have e : (1125899906842624 : Int) * (l.n : Int) ≤ 1125899906842624 * 1000 := Int.mul_le_mul_of_nonneg_left (by omega) (by omega)
    unfold Ba.i64; omega
theorem rdep_good (C : Ba.SlClass) (a : Ba.SlI) (s : Ba.Ser) (w : World) (hC : C.At w) (ha : a.At w) (hs : s.Ok w) (he : Ba.depE C a s = 0) : Calls Tryz.prog 113 #[.slice C.A C.n C.c, .slice a.A a.n a.c, s.val] w fun e w' => ∃ (A : Option Addr) (c b oo : Nat), e = .returned (.tuple #[.slice A s.ds.n c, .int .i64 0]) ∧ Ba.SlI.At w' ⟨A, s.ds.n, c, b, oo, Ba.out C a s⟩ ∧ Gr w w' := by
  refine (rdep_any C a s w hC ha hs).mono ?_
  rintro e w' ⟨r, rfl, r1, r2, -, r4⟩
  obtain ⟨q1, q2⟩ := r2 he
  refine ⟨r.A, r.c, r.b, r.o, by rw [he, q1], ⟨fun h => r1.hA (by simp only at h; omega), by have := r1.hc; simp only; omega, r1.hb, fun i hi => ?_⟩, r4⟩
  simp only at hi
  have := r1.hX i (by omega)
  rw [q2 i hi] at this
  exact this
set_option maxRecDepth 100000 in
set_option maxHeartbeats 4000000 in
theorem rof_no (A A2 A3 DA : Option Addr) (n c n2 c2 m c3 dn dc : Nat) (fr st : Int) (w : World) (hm1 : m ≤ 9223372036854775807) (hm2 : dn ≤ 9223372036854775807) (HV : Hid (∀ W, Gr w W → Calls Tryz.prog 60 #[.slice A3 m c3] W fun e w' => e = .returned (.bool false) ∧ Gr W w')) :
    Calls Tryz.prog 63 #[.slice A n c, .slice A2 n2 c2, .slice A3 m c3, .agg #[.int .i64 fr, .int .i64 st, .slice DA dn dc]] w fun e w' => e = .returned (.tuple #[.slice none 0 0, .int .i64 1]) ∧ Gr w w' := by
  go_enter Tryz.func63, Tryz.ntmps63
  go_wp2_with fail
  refine (HV.out _ gr_auto).mono ?_
  rintro e w1 ⟨rfl, hb1⟩
  have g1 : Gr w w1 := Gr.trans gr_auto hb1
  go_wp2_with fail
  refine bodyPost_ret (by simp [results, Tryz.results63, go_sem]; try rfl) rfl ?_
  exact ⟨rfl, g1⟩
set_option maxRecDepth 100000 in
set_option maxHeartbeats 4000000 in
theorem rof_bad (A A2 A3 DA : Option Addr) (n c n2 c2 m c3 dn dc : Nat) (fr st ec : Int) (w : World) (hm1 : m ≤ 9223372036854775807) (hm2 : dn ≤ 9223372036854775807) (HV : Hid (∀ W, Gr w W → Calls Tryz.prog 60 #[.slice A3 m c3] W fun e w' => e = .returned (.bool true) ∧ Gr W w')) (hec : (ec == 0) = false)
    (HD : Hid (∀ W, Gr w W → Calls Tryz.prog 113 #[.slice A n c, .slice A2 n2 c2, .agg #[.int .i64 fr, .int .i64 st, .slice DA dn dc]] W fun e w' => ∃ (A : Option Addr) (n c : Nat), e = .returned (.tuple #[.slice A n c, .int .i64 ec]) ∧ Gr W w')) :
    Calls Tryz.prog 63 #[.slice A n c, .slice A2 n2 c2, .slice A3 m c3, .agg #[.int .i64 fr, .int .i64 st, .slice DA dn dc]] w fun e w' => e = .returned (.tuple #[.slice none 0 0, .int .i64 ec]) ∧ Gr w w' := by
  go_enter Tryz.func63, Tryz.ntmps63
  go_wp2_with fail
  (first | refine name_world ?_ | refine (show (∀ W, W = _ → Calls _ _ _ W _) → Calls _ _ _ _ _ from fun h => h _ rfl) ?_); intro W1 hW1
  have g1 : Gr w W1 := by rw [hW1]; exact gr_auto
  have k1_0 : W1.cell? ⟨w.heap.size, 0, none⟩ = some (.int .i64 fr) := by rw [hW1]; first | (simp [go_sem, *]; done) | (refine Gr.at ?_ (by assumption); exact gr_auto)
  have b1_0 : w.heap.size < W1.heap.size := World.block_lt_of_cell? _ _ k1_0
  have k1_1 : W1.cell? ⟨w.heap.size, 1, none⟩ = some (.int .i64 st) := by rw [hW1]; first | (simp [go_sem, *]; done) | (refine Gr.at ?_ (by assumption); exact gr_auto)
  have k1_2 : W1.cell? ⟨w.heap.size, 2, none⟩ = some (.slice DA dn dc) := by rw [hW1]; first | (simp [go_sem, *]; done) | (refine Gr.at ?_ (by assumption); exact gr_auto)
  clear hW1
  refine (HV.out _ (by exact g1)).mono ?_
  rintro e w2 ⟨rfl, hb2⟩
  have g2 := g1.trans hb2
  have c0 := Gr.at hb2 k1_0; have c1 := Gr.at hb2 k1_1; have c2 := Gr.at hb2 k1_2
  clear k1_0 k1_1 k1_2
  go_wp2_with fail
  refine (HD.out _ (by exact g2)).mono ?_
  rintro e w3 ⟨A', n', c', rfl, hb3⟩
  go_wp2_with fail
  refine bodyPost_ret (by simp [results, Tryz.results63, go_sem]; try rfl) rfl ?_
  exact ⟨rfl, g2.trans hb3⟩
set_option maxRecDepth 100000 in
set_option maxHeartbeats 4000000 in
theorem rof_ok (A A2 A3 DA : Option Addr) (n c n2 c2 m c3 dn dc : Nat) (fr st : Int) {X : Nat → Int} {Q : Value → Int → World → Prop} (w : World) (hm1 : m ≤ 9223372036854775807) (hm2 : dn ≤ 9223372036854775807) (HV : Hid (∀ W, Gr w W → Calls Tryz.prog 60 #[.slice A3 m c3] W fun e w' => e = .returned (.bool true) ∧ Gr W w'))
    (HD : Hid (∀ W, Gr w W → Calls Tryz.prog 113 #[.slice A n c, .slice A2 n2 c2, .agg #[.int .i64 fr, .int .i64 st, .slice DA dn dc]] W fun e w' => ∃ (A : Option Addr) (c b oo : Nat), e = .returned (.tuple #[.slice A dn c, .int .i64 0]) ∧ Ba.SlI.At w' ⟨A, dn, c, b, oo, X⟩ ∧ Gr W w'))
    (HC : Hid (∀ (A' : Option Addr) (c' b' o' : Nat) W, Ba.SlI.At W ⟨A', dn, c', b', o', X⟩ → Gr w W → Calls Tryz.prog 114 #[.slice A' dn c', .slice A3 m c3] W fun e w' => ∃ (A : Option Addr) (n c : Nat) (ec : Int), e = .returned (.tuple #[.slice A n c, .int .i64 ec]) ∧ Q (.slice A n c) ec w' ∧ Gr W w')) :
    Calls Tryz.prog 63 #[.slice A n c, .slice A2 n2 c2, .slice A3 m c3, .agg #[.int .i64 fr, .int .i64 st, .slice DA dn dc]] w fun e w' => ∃ (A : Option Addr) (n c : Nat) (ec : Int), e = .returned (.tuple #[.slice A n c, .int .i64 ec]) ∧ Q (.slice A n c) ec w' ∧ Gr w w' := by
  go_enter Tryz.func63, Tryz.ntmps63
  go_wp2_with fail
  (first | refine name_world ?_ | refine (show (∀ W, W = _ → Calls _ _ _ W _) → Calls _ _ _ _ _ from fun h => h _ rfl) ?_); intro W1 hW1
  have g1 : Gr w W1 := by rw [hW1]; exact gr_auto
  have k1_0 : W1.cell? ⟨w.heap.size, 0, none⟩ = some (.int .i64 fr) := by rw [hW1]; first | (simp [go_sem, *]; done) | (refine Gr.at ?_ (by assumption); exact gr_auto)
  have b1_0 : w.heap.size < W1.heap.size := World.block_lt_of_cell? _ _ k1_0
  have k1_1 : W1.cell? ⟨w.heap.size, 1, none⟩ = some (.int .i64 st) := by rw [hW1]; first | (simp [go_sem, *]; done) | (refine Gr.at ?_ (by assumption); exact gr_auto)
  have k1_2 : W1.cell? ⟨w.heap.size, 2, none⟩ = some (.slice DA dn dc) := by rw [hW1]; first | (simp [go_sem, *]; done) | (refine Gr.at ?_ (by assumption); exact gr_auto)
  clear hW1
  refine (HV.out _ (by exact g1)).mono ?_
  rintro e w2 ⟨rfl, hb2⟩
  have g2 := g1.trans hb2
  have c0 := Gr.at hb2 k1_0; have c1 := Gr.at hb2 k1_1; have c2 := Gr.at hb2 k1_2
  clear k1_0 k1_1 k1_2
  go_wp2_with fail
  refine (HD.out _ (by exact g2)).mono ?_
  rintro e w3 ⟨A', c', b', o', rfl, h1, hb3⟩
  have HCi := Lib.hid (HC.out A' c' b' o' w3 h1 (g2.trans hb3))
  clear h1
  go_wp2_with fail
  refine HCi.out.mono ?_
  rintro e w4 ⟨A4, n4, c4, ec, rfl, h4, hb4⟩
  replace h4 := Lib.hid h4
  go_wp2_with fail
  refine bodyPost_ret (by simp [results, Tryz.results63, go_sem]; try rfl) rfl ?_
  exact ⟨A4, n4, c4, ec, rfl, h4.out, (g2.trans hb3).trans hb4⟩
theorem rof_any (C : Ba.SlClass) (a u : Ba.SlI) (s : Ba.Ser) (w : World) (hC : C.At w) (ha : a.At w) (hu : u.At w) (hs : s.Ok w) (hn : s.ds.n ≤ 1000) : Calls Tryz.prog 63 #[.slice C.A C.n C.c, .slice a.A a.n a.c, .slice u.A u.n u.c, s.val] w (RetOf C a u s w) := by
  have HV := Lib.hid (fun W (hh : Gr w W) => runi_any u W (hu.gr hh))
  have m1 := Nat.le_trans hu.hc hu.hb; have m2 := Nat.le_trans hs.2.2.hc hs.2.2.hb
  cases hv : Ba.uniB u
  · have e : Ba.ofE C a u s = 1 := by unfold Ba.ofE; rw [hv]; rfl
    rw [hv] at HV
    refine (rof_no C.A a.A u.A s.ds.A C.n C.c a.n a.c u.n u.c s.ds.n s.ds.c s.fr s.st w m1 m2 HV).mono ?_
    rintro e' w' ⟨rfl, h1⟩
    exact ⟨⟨none, 0, 0, 0, 0, fun _ => 0⟩, by rw [e], nil_at, fun h => by rw [e] at h; omega, fun _ => rfl, fun h => absurd h (by simp), h1⟩
  rw [hv] at HV
  by_cases hd : Ba.depE C a s = 0
  rotate_left
  · have e : Ba.ofE C a u s = Ba.depE C a s := by unfold Ba.ofE; rw [if_pos hv, if_neg hd]
    refine (rof_bad C.A a.A u.A s.ds.A C.n C.c a.n a.c u.n u.c s.ds.n s.ds.c s.fr s.st (Ba.depE C a s) w m1 m2 HV (beq_eq_false_iff_ne.2 hd) (Lib.hid fun W hW => (rdep_any C a s W (hC.gr hW) (ha.gr hW) (hs.gr hW)).mono ?_)).mono ?_
    · rintro e' w' ⟨r, rfl, -, -, -, h1⟩
      exact ⟨_, _, _, rfl, h1⟩
    rintro e' w' ⟨rfl, h1⟩
    exact ⟨⟨none, 0, 0, 0, 0, fun _ => 0⟩, by rw [e], nil_at, fun h => absurd (e ▸ h) hd, fun _ => rfl, fun h => absurd h (by simp), h1⟩
  have e : Ba.ofE C a u s = Ba.cnvE (Ba.outL C a s) u := by unfold Ba.ofE; rw [if_pos hv, if_pos hd]
  refine (rof_ok (X := Ba.out C a s) (Q := fun v ec w' => ∃ r : Ba.SlI, v = .slice r.A r.n r.c ∧ ec = Ba.cnvE (Ba.outL C a s) u ∧ r.At w' ∧ (Ba.cnvE (Ba.outL C a s) u = 0 → r.n = Ba.ofN C a u s ∧ ∀ j, j < r.n → r.X j = Ba.ofX C a u s j) ∧ (Ba.cnvE (Ba.outL C a s) u ≠ 0 → r.n = 0) ∧ (0 < r.n → w.heap.size ≤ r.b)) C.A a.A u.A s.ds.A C.n C.c a.n a.c u.n u.c s.ds.n s.ds.c s.fr s.st w m1 m2 HV (Lib.hid fun W hW => rdep_good C a s W (hC.gr hW) (ha.gr hW) (hs.gr hW) hd) (Lib.hid fun A' c' b' o' W hA' hW => ?_)).mono ?_
  · refine (rconvolve_any ⟨A', s.ds.n, c', b', o', Ba.out C a s⟩ u W hA' (hu.gr hW) hn).mono ?_
    rintro e' w' ⟨r, rfl, r1, r2, r3, r5, r4⟩
    exact ⟨r.A, r.n, r.c, _, rfl, ⟨r, rfl, rfl, r1, r2, r3, fun h => Nat.le_trans (Gr.size hW) (r5 h)⟩, r4⟩
  rintro e' w' ⟨A', n', c', ec, rfl, ⟨r, hr, rfl, r1, r2, r3, r5⟩, h1⟩
  simp only [Value.slice.injEq] at hr
  obtain ⟨rfl, rfl, rfl⟩ := hr
  exact ⟨r, by rw [e], r1, fun h => r2 (e ▸ h), fun h => r3 (fun z => h (e.trans z)), r5, h1⟩
end Go.Proofs.YtajhhplgcegodaaGreatDoor
