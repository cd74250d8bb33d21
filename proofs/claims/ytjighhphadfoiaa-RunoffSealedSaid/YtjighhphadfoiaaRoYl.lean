/-
  Law 25: RunoffSums, all ways. (Printed by mkyl.py.)
-/
import Derived.Test.YtjighhphadfoiaaRoSmB
import Derived.Test.YtjighhphadfoiaaRoSmA
import Derived.Test.YtjighhphadfoiaaRoO
set_option linter.unusedVariables false
set_option linter.unusedSimpArgs false
namespace Go.Proofs.Ytjighhphadfoiaa
open Go.RowKit
attribute [local go_sem ↓] Go.wp_at_zero Go.wp_at_succ
/-- What Dry answers, in every way. -/
def RetD (nd : ByteArray) (s : Ba.SlI) (daily step n : Int) (w : World) (e : Ending) (w' : World) : Prop := ∃ r : Ba.SlI, e = .returned (.tuple #[.agg #[.string (if Ba.dryE nd daily step n s = 0 then nd else ⟨#[]⟩), .slice r.A r.n r.c], .int .i64 (Ba.dryE nd daily step n s)]) ∧ r.At w' ∧ (Ba.dryE nd daily step n s = 0 → r.n = n.toNat ∧ ∀ i : Nat, i < r.n → r.X i = Ba.upI s.X daily s.n (((i + 1 : Nat) : Int) * step) - Ba.upI s.X daily s.n ((i : Int) * step)) ∧ (Ba.dryE nd daily step n s ≠ 0 → r.n = 0) ∧ Gr w w'

theorem pdry_all (nd : ByteArray) (s : Ba.SlI) (daily step n : Int) (w : World) (hm : nd.size ≤ 9223372036854775807) (hs : s.At w) : Calls Try.prog 24 #[.string nd, .int .i64 daily, .slice s.A s.n s.c, .int .i64 step, .int .i64 n] w (RetD nd s daily step n w) := by
  by_cases he : Ba.dryE nd daily step n s = 0
  · obtain ⟨h1, h2, h3, h4, h5, h6⟩ := dryE_ok he
    obtain ⟨kk, rfl⟩ : ∃ kk : Nat, n = (kk : Int) := ⟨n.toNat, by omega⟩
    refine (dry_any nd s daily step kk w hm h1 hs h2 h3 h4 h5 (by omega)).mono ?_
    rintro e w' ⟨r, rfl, r1, r2, r3, r4⟩
    exact ⟨r, by rw [he, if_pos rfl], r1, fun _ => ⟨by rw [r2]; rfl, fun i hi => r3 i (by omega)⟩, fun h => absurd he h, r4⟩
  · refine (dry_no nd s daily step n w hm hs he).mono ?_
    rintro e w' ⟨rfl, h1⟩
    exact ⟨⟨none, 0, 0, 0, 0, fun _ => 0⟩, by rw [if_neg he], nil_atz, fun h => absurd h he, fun _ => rfl, h1⟩

theorem rdry_all (nd : ByteArray) (s : Ba.SlI) (daily step n : Int) (w : World) (hm : nd.size ≤ 9223372036854775807) (hs : s.At w) : Calls Try.prog 27 #[.string nd, .int .i64 daily, .slice s.A s.n s.c, .int .i64 step, .int .i64 n] w (RetD nd s daily step n w) := by
  by_cases he : Ba.dryE nd daily step n s = 0
  · obtain ⟨h1, h2, h3, h4, h5, h6⟩ := dryE_ok he
    obtain ⟨kk, rfl⟩ : ∃ kk : Nat, n = (kk : Int) := ⟨n.toNat, by omega⟩
    refine (rdry_any nd s daily step kk w hm h1 hs h2 h3 h4 h5 (by omega)).mono ?_
    rintro e w' ⟨r, rfl, r1, r2, r3, r4⟩
    exact ⟨r, by rw [he, if_pos rfl], r1, fun _ => ⟨by rw [r2]; rfl, fun i hi => r3 i (by omega)⟩, fun h => absurd he h, r4⟩
  · refine (rdry_no nd s daily step n w hm hs he).mono ?_
    rintro e w' ⟨rfl, h1⟩
    exact ⟨⟨none, 0, 0, 0, 0, fun _ => 0⟩, by rw [if_neg he], nil_atz, fun h => absurd h he, fun _ => rfl, h1⟩

set_option maxRecDepth 100000 in
set_option maxHeartbeats 4000000 in
theorem sumf_any (d : Ba.Inflow) (w : World) (h : d.Ok w) : Calls Try.prog 21 #[d.val] w fun e w' => e = .returned (.bool (decide ((60 : Int) < (d.vs.n : Int)) || decide ((100 : Int) < (d.nm.size : Int)))) ∧ Gr w w' := by
  have h1 := h.1; have h2 := Nat.le_trans h.2.hc h.2.hb
  clear h
  unfold Ba.Inflow.val
  obtain ⟨nm, ⟨A, n, c, b, o, X⟩⟩ := d
  simp only at *
  cases t0 : decide ((60 : Int) < (n : Int))
  · cases t1 : decide ((100 : Int) < (nm.size : Int))
    · go_enter Try.func21, Try.ntmps21
      go_wp2_with fail
      go_ret
      exact ⟨rfl, gr_auto⟩
    · go_enter Try.func21, Try.ntmps21
      go_wp2_with fail
      go_ret
      exact ⟨rfl, gr_auto⟩
  · go_enter Try.func21, Try.ntmps21
    go_wp2_with fail
    go_ret
    exact ⟨rfl, gr_auto⟩
namespace Ba
def bigS (G : SlInflow) : Bool := any (fun i => decide ((60 : Int) < ((G.D i).vs.n : Int)) || decide ((100 : Int) < ((G.D i).nm.size : Int))) G.n
end Ba

set_option maxRecDepth 100000 in
set_option maxHeartbeats 4000000 in
theorem sums_f1 (G : Ba.SlInflow) (nd : ByteArray) (daily : Int) (s : Ba.SlI) (step n : Int) (w : World) (hG : G.At w) (hm : nd.size ≤ 9223372036854775807) (hs : s.At w) (a1 : (20 : Int) < (G.n : Int)) : Calls Try.prog 5 #[.slice G.A G.n G.c, .string nd, .int .i64 daily, .slice s.A s.n s.c, .int .i64 step, .int .i64 n] w fun e w' => e = .returned (.bool true) ∧ Gr w w' := by
  have mG := Nat.le_trans hG.hc hG.hb; have ms := Nat.le_trans hs.hc hs.hb
  clear hG hs
  go_enter Try.func5, Try.ntmps5
  go_wp2_with fail
  refine (awake_any _).mono ?_
  rintro e w1 ⟨rfl, g1⟩
  go_wp2_with fail
  go_ret
  exact ⟨rfl, gr_auto⟩

set_option maxRecDepth 100000 in
set_option maxHeartbeats 4000000 in
theorem sums_f2 (G : Ba.SlInflow) (nd : ByteArray) (daily : Int) (s : Ba.SlI) (step n : Int) (w : World) (hG : G.At w) (hm : nd.size ≤ 9223372036854775807) (hs : s.At w) (a1 : (G.n : Int) ≤ 20) (a2 : (100 : Int) < (nd.size : Int)) : Calls Try.prog 5 #[.slice G.A G.n G.c, .string nd, .int .i64 daily, .slice s.A s.n s.c, .int .i64 step, .int .i64 n] w fun e w' => e = .returned (.bool true) ∧ Gr w w' := by
  have mG := Nat.le_trans hG.hc hG.hb; have ms := Nat.le_trans hs.hc hs.hb
  clear hG hs
  go_enter Try.func5, Try.ntmps5
  go_wp2_with fail
  refine (awake_any _).mono ?_
  rintro e w1 ⟨rfl, g1⟩
  go_wp2_with fail
  go_ret
  exact ⟨rfl, gr_auto⟩

set_option maxRecDepth 100000 in
set_option maxHeartbeats 4000000 in
theorem sums_f3 (G : Ba.SlInflow) (nd : ByteArray) (daily : Int) (s : Ba.SlI) (step n : Int) (w : World) (hG : G.At w) (hm : nd.size ≤ 9223372036854775807) (hs : s.At w) (a1 : (G.n : Int) ≤ 20) (a2 : (nd.size : Int) ≤ 100) (a3 : (100 : Int) < (s.n : Int)) : Calls Try.prog 5 #[.slice G.A G.n G.c, .string nd, .int .i64 daily, .slice s.A s.n s.c, .int .i64 step, .int .i64 n] w fun e w' => e = .returned (.bool true) ∧ Gr w w' := by
  have mG := Nat.le_trans hG.hc hG.hb; have ms := Nat.le_trans hs.hc hs.hb
  clear hG hs
  go_enter Try.func5, Try.ntmps5
  go_wp2_with fail
  refine (awake_any _).mono ?_
  rintro e w1 ⟨rfl, g1⟩
  go_wp2_with fail
  go_ret
  exact ⟨rfl, gr_auto⟩

set_option maxRecDepth 100000 in
set_option maxHeartbeats 4000000 in
theorem sums_f4 (G : Ba.SlInflow) (nd : ByteArray) (daily : Int) (s : Ba.SlI) (step n : Int) (w : World) (hG : G.At w) (hm : nd.size ≤ 9223372036854775807) (hs : s.At w) (a1 : (G.n : Int) ≤ 20) (a2 : (nd.size : Int) ≤ 100) (a3 : (s.n : Int) ≤ 100) (a4 : 60 < n) (a5 : n ≤ 10000) : Calls Try.prog 5 #[.slice G.A G.n G.c, .string nd, .int .i64 daily, .slice s.A s.n s.c, .int .i64 step, .int .i64 n] w fun e w' => e = .returned (.bool true) ∧ Gr w w' := by
  have mG := Nat.le_trans hG.hc hG.hb; have ms := Nat.le_trans hs.hc hs.hb
  clear hG hs
  go_enter Try.func5, Try.ntmps5
  go_wp2_with fail
  refine (awake_any _).mono ?_
  rintro e w1 ⟨rfl, g1⟩
  go_wp2_with fail
  go_ret
  exact ⟨rfl, gr_auto⟩

theorem eq_ret {L : Nat} {V : Nat → Int} (r q : Ba.SlI) (E : Int) (W : World) (r1 : r.At W) (q1 : q.At W) (r2 : E = 0 → r.n = L ∧ ∀ j, j < r.n → r.X j = V j) (r3 : E ≠ 0 → r.n = 0) (q2 : E = 0 → q.n = L ∧ ∀ j, j < q.n → q.X j = V j) (q3 : E ≠ 0 → q.n = 0) : Calls Try.prog 15 #[.slice r.A r.n r.c, .slice q.A q.n q.c] W fun e w' => e = .returned (.bool true) ∧ Gr W w' := by
  have z := equal_any r q W r1 q1
  have e : Ba.eqI r q = true := by
    by_cases hE : E = 0
    · obtain ⟨a1, a2⟩ := r2 hE
      obtain ⟨b1, b2⟩ := q2 hE
      exact Ba.eqI_of (a1.trans b1.symm) fun i hi => (a2 i hi).trans (b2 i (by omega)).symm
    · have a1 := r3 hE; have b1 := q3 hE
      exact Ba.eqI_of (a1.trans b1.symm) fun i hi => absurd hi (by omega)
  rw [e] at z
  exact z

set_option maxRecDepth 100000 in
set_option maxHeartbeats 4000000 in
theorem sums_f5 (G : Ba.SlInflow) (nd : ByteArray) (daily : Int) (s : Ba.SlI) (step n : Int) (w : World) (hG : G.At w) (hm : nd.size ≤ 9223372036854775807) (hs : s.At w) (a1 : (G.n : Int) ≤ 20) (a2 : (nd.size : Int) ≤ 100) (a3 : (s.n : Int) ≤ 100) (hn : n ≤ 60 ∨ 10000 < n) (hb : Ba.bigS G = true) : Calls Try.prog 5 #[.slice G.A G.n G.c, .string nd, .int .i64 daily, .slice s.A s.n s.c, .int .i64 step, .int .i64 n] w fun e w' => e = .returned (.bool true) ∧ Gr w w' := by
  have mG := Nat.le_trans hG.hc hG.hb; have ms := Nat.le_trans hs.hc hs.hb
  have HB := Lib.hid (fun W (hh : Gr w W) => has_inflow 21 #[] G (fun i => decide ((60 : Int) < ((G.D i).vs.n : Int)) || decide ((100 : Int) < ((G.D i).nm.size : Int))) W (hG.gr hh) (enter_of Try.func21 (by kernel_rfl) (by kernel_rfl)) fun i hi W' hW => sumf_any (G.D i) W' (((hG.gr hh).hD i hi).2.gr hW))
  rw [show Ba.any (fun i => decide ((60 : Int) < ((G.D i).vs.n : Int)) || decide ((100 : Int) < ((G.D i).nm.size : Int))) G.n = true from hb] at HB
  clear hG hs
  rcases hn with hn | hn
  all_goals
    go_enter Try.func5, Try.ntmps5
    go_wp2_with fail
    refine (awake_any _).mono ?_
    rintro e w1 ⟨rfl, g1⟩
    go_wp2_with fail
    refine (HB.out _ (by exact g1)).mono ?_
    rintro e w2 ⟨rfl, hb2⟩
    have g2 := g1.trans hb2
    go_wp2_with fail
    go_ret
    exact ⟨rfl, gr_auto⟩

set_option maxRecDepth 100000 in
set_option maxHeartbeats 4000000 in
theorem sums_main (G : Ba.SlInflow) (nd : ByteArray) (daily : Int) (s : Ba.SlI) (step n : Int) (w : World) (hG : G.At w) (hm : nd.size ≤ 9223372036854775807) (hs : s.At w) (a1 : (G.n : Int) ≤ 20) (a2 : (nd.size : Int) ≤ 100) (a3 : (s.n : Int) ≤ 100) (hn : n ≤ 60 ∨ 10000 < n) (hb : Ba.bigS G = false) : Calls Try.prog 5 #[.slice G.A G.n G.c, .string nd, .int .i64 daily, .slice s.A s.n s.c, .int .i64 step, .int .i64 n] w fun e w' => e = .returned (.bool true) ∧ Gr w w' := by
  have mG := Nat.le_trans hG.hc hG.hb; have ms := Nat.le_trans hs.hc hs.hb
  have HB := Lib.hid (fun W (hh : Gr w W) => has_inflow 21 #[] G (fun i => decide ((60 : Int) < ((G.D i).vs.n : Int)) || decide ((100 : Int) < ((G.D i).nm.size : Int))) W (hG.gr hh) (enter_of Try.func21 (by kernel_rfl) (by kernel_rfl)) fun i hi W' hW => sumf_any (G.D i) W' (((hG.gr hh).hD i hi).2.gr hW))
  rw [show Ba.any (fun i => decide ((60 : Int) < ((G.D i).vs.n : Int)) || decide ((100 : Int) < ((G.D i).nm.size : Int))) G.n = false from hb] at HB
  have HT := Lib.hid (fun W (hh : Gr w W) => ptot_any G W (hG.gr hh))
  have HS := Lib.hid (fun W (hh : Gr w W) => psum_any_ G nd W (hG.gr hh))
  have HD := Lib.hid (fun W (hh : Gr w W) => pdry_all nd s daily step n W hm (hs.gr hh))
  have RT := Lib.hid (fun W (hh : Gr w W) => rtot_any G W (hG.gr hh))
  have RS := Lib.hid (fun W (hh : Gr w W) => rsm_any G nd W (hG.gr hh))
  have RD := Lib.hid (fun W (hh : Gr w W) => rdry_all nd s daily step n W hm (hs.gr hh))
  unfold RetSum at HS RS
  unfold RetD at HD RD
  obtain ⟨E1, hE1⟩ : ∃ z, Ba.smE G nd = z := ⟨_, rfl⟩
  rw [hE1] at HS RS
  clear hE1
  obtain ⟨E2, hE2⟩ : ∃ z, Ba.dryE nd daily step n s = z := ⟨_, rfl⟩
  rw [hE2] at HD RD
  clear hE2
  obtain ⟨NM, hNM⟩ : ∃ z : ByteArray, (if E2 = 0 then nd else ⟨#[]⟩) = z := ⟨_, rfl⟩
  rw [hNM] at HD RD
  clear hNM
  generalize Ba.totV G = TV at *
  generalize Ba.totE G = TE at *
  clear hG hs
  rcases hn with hn | hn
  all_goals
    go_enter Try.func5, Try.ntmps5
    go_wp2_with fail
    refine (awake_any _).mono ?_
    rintro e w1 ⟨rfl, g1⟩
    go_wp2_with fail
    refine (HB.out _ (by exact g1)).mono ?_
    rintro e w2 ⟨rfl, hb2⟩
    have g2 := g1.trans hb2
    go_wp2_with fail
    refine (HT.out _ (by exact g2)).mono ?_
    rintro e w3 ⟨rfl, hb3⟩
    have g3 := g2.trans hb3
    clear HT
    go_wp2_with fail
    refine (HS.out _ (by exact g3)).mono ?_
    rintro e w4 ⟨r, rfl, r1, r2, r3, hb4⟩
    have g4 := g3.trans hb4
    clear HS
    replace r1 := Lib.hid r1; replace r2 := Lib.hid r2; replace r3 := Lib.hid r3
    go_wp2_with fail
    refine (HD.out _ (by exact g4)).mono ?_
    rintro e w5 ⟨x, rfl, x1, x2, x3, hb5⟩
    have g5 := g4.trans hb5
    clear HD
    replace x1 := Lib.hid x1; replace x2 := Lib.hid x2; replace x3 := Lib.hid x3
    go_wp2_with fail
    (first | refine name_world ?_ | refine (show (∀ W, W = _ → Calls _ _ _ W _) → Calls _ _ _ _ _ from fun h => h _ rfl) ?_); intro W6 hW6
    have g6 : Gr w W6 := by rw [hW6]; exact gr_auto
    have gb6_w5 : Gr w5 W6 := by (try clear g6); rw [hW6]; exact gr_auto
    have k6_0 : W6.cell? ⟨w5.heap.size, 0, none⟩ = some (.string NM) := by rw [hW6]; first | (simp [go_sem, *]; done) | (refine Gr.at ?_ (by assumption); exact gr_auto)
    have b6_0 : w5.heap.size < W6.heap.size := World.block_lt_of_cell? _ _ k6_0
    have k6_1 : W6.cell? ⟨w5.heap.size, 1, none⟩ = some (.slice x.A x.n x.c) := by rw [hW6]; first | (simp [go_sem, *]; done) | (refine Gr.at ?_ (by assumption); exact gr_auto)
    clear hW6
    refine (RT.out _ (by exact g6)).mono ?_
    rintro e w7 ⟨rfl, hb7⟩
    have g7 := g6.trans hb7
    have d0 := Gr.at hb7 k6_0; have d1 := Gr.at hb7 k6_1
    clear RT k6_0 k6_1
    go_wp2_with fail
    refine (RS.out _ (by exact g7)).mono ?_
    rintro e w8 ⟨q, rfl, q1, q2, q3, hb8⟩
    have g8 := g7.trans hb8
    replace d0 := Gr.at hb8 d0; replace d1 := Gr.at hb8 d1
    replace q1 := Lib.hid q1; replace q2 := Lib.hid q2; replace q3 := Lib.hid q3
    clear RS
    go_wp2_with fail
    refine (RD.out _ (by exact g8)).mono ?_
    rintro e w9 ⟨y, rfl, y1, y2, y3, hb9⟩
    have g9 := g8.trans hb9
    replace d0 := Gr.at hb9 d0; replace d1 := Gr.at hb9 d1
    replace y1 := Lib.hid y1; replace y2 := Lib.hid y2; replace y3 := Lib.hid y3
    clear RD
    have gA : Gr w4 w9 := hb5.trans (gb6_w5.trans (hb7.trans (hb8.trans hb9)))
    have gB : Gr w5 w9 := gb6_w5.trans (hb7.trans (hb8.trans hb9))
    have HQ1 := Lib.hid (fun W (hh : Gr w9 W) => eq_ret r q E1 W (r1.out.gr (gA.trans hh)) (q1.out.gr (hb9.trans hh)) r2.out r3.out q2.out q3.out)
    have HQ2 := Lib.hid (fun W (hh : Gr w9 W) => eq_ret x y E2 W (x1.out.gr (gB.trans hh)) (y1.out.gr hh) x2.out x3.out y2.out y3.out)
    clear r1 r2 r3 q1 q2 q3 x1 x2 x3 y1 y2 y3
    go_wp2_with fail
    (first | refine name_world ?_ | refine (show (∀ W, W = _ → Calls _ _ _ W _) → Calls _ _ _ _ _ from fun h => h _ rfl) ?_); intro W10 hW10
    have g10 : Gr w W10 := by rw [hW10]; exact gr_auto
    have gb10_w9 : Gr w9 W10 := by (try clear g10); rw [hW10]; exact gr_auto
    have k10_0 : W10.cell? ⟨w5.heap.size, 0, none⟩ = some (.string NM) := by rw [hW10]; first | (simp [go_sem, *]; done) | (refine Gr.at ?_ (by assumption); exact gr_auto)
    have b10_0 : w5.heap.size < W10.heap.size := World.block_lt_of_cell? _ _ k10_0
    have k10_1 : W10.cell? ⟨w5.heap.size, 1, none⟩ = some (.slice x.A x.n x.c) := by rw [hW10]; first | (simp [go_sem, *]; done) | (refine Gr.at ?_ (by assumption); exact gr_auto)
    have k10_2 : W10.cell? ⟨w9.heap.size, 0, none⟩ = some (.string NM) := by rw [hW10]; first | (simp [go_sem, *]; done) | (refine Gr.at ?_ (by assumption); exact gr_auto)
    have b10_2 : w9.heap.size < W10.heap.size := World.block_lt_of_cell? _ _ k10_2
    have k10_3 : W10.cell? ⟨w9.heap.size, 1, none⟩ = some (.slice y.A y.n y.c) := by rw [hW10]; first | (simp [go_sem, *]; done) | (refine Gr.at ?_ (by assumption); exact gr_auto)
    clear hW10
    refine (HQ1.out _ (by exact gb10_w9)).mono ?_
    rintro e w11 ⟨rfl, hb11⟩
    have e0 := Gr.at hb11 k10_0; have e1 := Gr.at hb11 k10_1; have e2 := Gr.at hb11 k10_2; have e3 := Gr.at hb11 k10_3
    clear k10_0 k10_1 k10_2 k10_3
    go_wp2_with fail
    refine (HQ2.out _ (by exact (gb10_w9.trans hb11))).mono ?_
    rintro e w12 ⟨rfl, hb12⟩
    go_wp2_with fail
    go_ret
    exact ⟨rfl, (g9.trans gb10_w9).trans (hb11.trans hb12)⟩

theorem sums_law (G : Ba.SlInflow) (nd : ByteArray) (daily : Int) (s : Ba.SlI) (step n : Int) (w : World) (hG : G.At w) (hm : nd.size ≤ 9223372036854775807) (hs : s.At w) : Calls Try.prog 5 #[.slice G.A G.n G.c, .string nd, .int .i64 daily, .slice s.A s.n s.c, .int .i64 step, .int .i64 n] w fun e w' => e = .returned (.bool true) ∧ Gr w w' := by
  by_cases a1 : (20 : Int) < (G.n : Int)
  · exact sums_f1 G nd daily s step n w hG hm hs a1
  by_cases a2 : (100 : Int) < (nd.size : Int)
  · exact sums_f2 G nd daily s step n w hG hm hs (by omega) a2
  by_cases a3 : (100 : Int) < (s.n : Int)
  · exact sums_f3 G nd daily s step n w hG hm hs (by omega) (by omega) a3
  by_cases a4 : 60 < n ∧ n ≤ 10000
  · exact sums_f4 G nd daily s step n w hG hm hs (by omega) (by omega) (by omega) a4.1 a4.2
  cases hb : Ba.bigS G
  · exact sums_main G nd daily s step n w hG hm hs (by omega) (by omega) (by omega) (by omega) hb
  · exact sums_f5 G nd daily s step n w hG hm hs (by omega) (by omega) (by omega) (by omega) hb
theorem sums_lawb (G : Ba.SlInflow) (nd : ByteArray) (daily : Int) (s : Ba.SlI) (step n : Int) (w : World) (hG : G.At w) (hm : nd.size ≤ 9223372036854775807) (_ : -9223372036854775808 ≤ daily ∧ daily ≤ 9223372036854775807) (hs : s.At w) (_ : -9223372036854775808 ≤ step ∧ step ≤ 9223372036854775807) (_ : -9223372036854775808 ≤ n ∧ n ≤ 9223372036854775807) : Calls Try.prog 5 #[.slice G.A G.n G.c, .string nd, .int .i64 daily, .slice s.A s.n s.c, .int .i64 step, .int .i64 n] w fun e w' => e = .returned (.bool true) ∧ Gr w w' := sums_law G nd daily s step n w hG hm hs
end Go.Proofs.Ytjighhphadfoiaa
