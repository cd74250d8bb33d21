/-
  Law 25: RunoffMore, the long way. (Printed by mks.py.)
  Runoff: runoff.Of.
-/
import Derived.Test.YtajhhplgcegodaaGreatDoorInf35
import Derived.Test.YtajhhplgcegodaaGreatDoorInf14
import Derived.Test.YtajhhplgcegodaaGreatDoorInf16
import Derived.Test.YtajhhplgcegodaaGreatDoorInf02
import Derived.Test.YtajhhplgcegodaaGreatDoorInf32
import Derived.Test.YtajhhplgcegodaaGreatDoorInf33
import Derived.Deep.RegionLaw
import Derived.Deep.AppendLies
set_option linter.unusedVariables false
set_option linter.unusedSimpArgs false
namespace Go.Proofs.YtajhhplgcegodaaGreatDoor
open Go.RowKit
attribute [local go_sem ↓] Go.wp_at_zero Go.wp_at_succ
theorem dep_good (C : Ba.SlClass) (a : Ba.SlI) (s : Ba.Ser) (w : World) (hC : C.At w) (ha : a.At w) (hs : s.Ok w) (he : Ba.depE C a s = 0) : Calls Tryz.prog 49 #[.slice C.A C.n C.c, .slice a.A a.n a.c, s.val] w fun e w' => ∃ (A : Option Addr) (c b oo : Nat), e = .returned (.tuple #[.slice A s.ds.n c, .int .i64 0]) ∧ Ba.SlI.At w' ⟨A, s.ds.n, c, b, oo, Ba.out C a s⟩ ∧ Gr w w' := by
  refine (dep_any C a s w hC ha hs).mono ?_
  rintro e w' ⟨r, rfl, r1, r2, -, r4⟩
  obtain ⟨q1, q2⟩ := r2 he
  refine ⟨r.A, r.c, r.b, r.o, by rw [he, q1], ⟨fun h => r1.hA (by simp only at h; omega), by have := r1.hc; simp only; omega, r1.hb, fun i hi => ?_⟩, r4⟩
  simp only at hi
  have := r1.hX i (by omega)
  rw [q2 i hi] at this
  exact this
namespace Ba
theorem few_le {C : SlClass} {a : SlI} {s : Ser} (h : fewB C a s = true) : C.n ≤ 20 ∧ a.n ≤ 30 ∧ s.ds.n ≤ 100 := by
  unfold fewB at h
  simp only [Bool.and_eq_true, decide_eq_true_eq] at h
  omega
end Ba
end Go.Proofs.YtajhhplgcegodaaGreatDoor
set_option linter.unusedVariables false
set_option linter.unusedSimpArgs false
namespace Go.Proofs.YtajhhplgcegodaaGreatDoor
open Go.RowKit
attribute [local go_sem ↓] Go.wp_at_zero Go.wp_at_succ
namespace Ba
/-- What runs off, as a row. -/
def outL (C : SlClass) (a : SlI) (s : Ser) : SlI := ⟨none, s.ds.n, 0, 0, 0, out C a s⟩
def ofE (C : SlClass) (a u : SlI) (s : Ser) : Int := if uniB u = true then if depE C a s = 0 then cnvE (outL C a s) u else depE C a s else 1
def ofN (C : SlClass) (a u : SlI) (s : Ser) : Nat := if s.ds.n = 0 then 0 else s.ds.n + u.n - 1
def ofX (C : SlClass) (a u : SlI) (s : Ser) : Nat → Int := cvI (out C a s) u s.ds.n
end Ba
/-- What Of answers. -/
def RetOf (C : Ba.SlClass) (a u : Ba.SlI) (s : Ba.Ser) (w : World) (e : Ending) (w' : World) : Prop := ∃ r : Ba.SlI, e = .returned (.tuple #[.slice r.A r.n r.c, .int .i64 (Ba.ofE C a u s)]) ∧ r.At w' ∧ (Ba.ofE C a u s = 0 → r.n = Ba.ofN C a u s ∧ ∀ j, j < r.n → r.X j = Ba.ofX C a u s j) ∧ (Ba.ofE C a u s ≠ 0 → r.n = 0) ∧ (0 < r.n → w.heap.size ≤ r.b) ∧ Gr w w'
theorem nil_at {w : World} : Ba.SlI.At w ⟨none, 0, 0, 0, 0, fun _ => 0⟩ := ⟨fun h => absurd h (by simp), Nat.le_refl _, by simp, fun i hi => absurd hi (by simp)⟩
set_option maxRecDepth 100000 in
set_option maxHeartbeats 4000000 in
theorem of_no (A A2 A3 DA : Option Addr) (n c n2 c2 m c3 dn dc : Nat) (fr st : Int) (w : World) (hm1 : m ≤ 9223372036854775807) (hm2 : dn ≤ 9223372036854775807) (HV : Hid (∀ W, Gr w W → Calls Tryz.prog 94 #[.slice A3 m c3] W fun e w' => e = .returned (.bool false) ∧ Gr W w')) :
    Calls Tryz.prog 57 #[.slice A n c, .slice A2 n2 c2, .slice A3 m c3, .agg #[.int .i64 fr, .int .i64 st, .slice DA dn dc]] w fun e w' => e = .returned (.tuple #[.slice none 0 0, .int .i64 1]) ∧ Gr w w' := by
  go_enter Tryz.func57, Tryz.ntmps57
  go_wp2_with fail
  refine (HV.out _ gr_auto).mono ?_
  rintro e w1 ⟨rfl, hb1⟩
  have g1 : Gr w w1 := Gr.trans gr_auto hb1
  go_wp2_with fail
  refine bodyPost_ret (by simp [results, Tryz.results57, go_sem]; try rfl) rfl ?_
  exact ⟨rfl, g1⟩
set_option maxRecDepth 100000 in
set_option maxHeartbeats 4000000 in
theorem of_bad (A A2 A3 DA : Option Addr) (n c n2 c2 m c3 dn dc : Nat) (fr st ec : Int) (w : World) (hm1 : m ≤ 9223372036854775807) (hm2 : dn ≤ 9223372036854775807) (HV : Hid (∀ W, Gr w W → Calls Tryz.prog 94 #[.slice A3 m c3] W fun e w' => e = .returned (.bool true) ∧ Gr W w')) (hec : (ec == 0) = false)
    (HD : Hid (∀ W, Gr w W → Calls Tryz.prog 49 #[.slice A n c, .slice A2 n2 c2, .agg #[.int .i64 fr, .int .i64 st, .slice DA dn dc]] W fun e w' => ∃ (A : Option Addr) (n c : Nat), e = .returned (.tuple #[.slice A n c, .int .i64 ec]) ∧ Gr W w')) :
    Calls Tryz.prog 57 #[.slice A n c, .slice A2 n2 c2, .slice A3 m c3, .agg #[.int .i64 fr, .int .i64 st, .slice DA dn dc]] w fun e w' => e = .returned (.tuple #[.slice none 0 0, .int .i64 ec]) ∧ Gr w w' := by
  go_enter Tryz.func57, Tryz.ntmps57
  go_wp2_with fail
  (first | refine name_world ?_ | refine (show (∀ W, W = _ → Calls _ _ _ W _) → Calls _ _ _ _ _ from fun h => h _ rfl) ?_); intro W1 hW1
  have g1 : Gr w W1 := by rw [hW1]; exact gr_auto
  have k1_0 : W1.cell? ⟨w.heap.size, 0, none⟩ = some (.int .i64 fr) := by rw [hW1]; first | (simp [go_sem, *]; done) | (refine Gr.at ?_ (by assumption); exact gr_auto)
  have b1_0 : w.heap.size < W1.heap.size := World.block_lt_of_cell? _ _ k1_0
  have k1_1 : W1.cell? ⟨w.heap.size, 1, none⟩ = some (.int .i64 st) := by rw [hW1]; first | (simp [go_sem, *]; done) | (refine Gr.at ?_ (by assumption); exact gr_auto)
  have k1_2 : W1.cell? ⟨w.heap.size, 2, none⟩ = some (.slice DA dn dc) := by rw [hW1]; first | (simp [go_sem, *]; done) | (refine Gr.at ?_ (by assumption); exact gr_auto)
  clear hW1
  refine (HV.out _ (by exact g1)).mono ?_
  rintro e w2 ⟨rfl, hb2⟩
  have g2 := g1.trans hb2
  have c0 := Gr.at hb2 k1_0; have c1 := Gr.at hb2 k1_1; have c2 := Gr.at hb2 k1_2
  clear k1_0 k1_1 k1_2
  go_wp2_with fail
  refine (HD.out _ (by exact g2)).mono ?_
  rintro e w3 ⟨A', n', c', rfl, hb3⟩
  go_wp2_with fail
  refine bodyPost_ret (by simp [results, Tryz.results57, go_sem]; try rfl) rfl ?_
  exact ⟨rfl, g2.trans hb3⟩
set_option maxRecDepth 100000 in
set_option maxHeartbeats 4000000 in
theorem of_ok (A A2 A3 DA : Option Addr) (n c n2 c2 m c3 dn dc : Nat) (fr st : Int) {X : Nat → Int} {Q : Value → Int → World → Prop} (w : World) (hm1 : m ≤ 9223372036854775807) (hm2 : dn ≤ 9223372036854775807) (HV : Hid (∀ W, Gr w W → Calls Tryz.prog 94 #[.slice A3 m c3] W fun e w' => e = .returned (.bool true) ∧ Gr W w'))
    (HD : Hid (∀ W, Gr w W → Calls Tryz.prog 49 #[.slice A n c, .slice A2 n2 c2, .agg #[.int .i64 fr, .int .i64 st, .slice DA dn dc]] W fun e w' => ∃ (A : Option Addr) (c b oo : Nat), e = .returned (.tuple #[.slice A dn c, .int .i64 0]) ∧ Ba.SlI.At w' ⟨A, dn, c, b, oo, X⟩ ∧ Gr W w'))
    (HC : Hid (∀ (A' : Option Addr) (c' b' o' : Nat) W, Ba.SlI.At W ⟨A', dn, c', b', o', X⟩ → Gr w W → Calls Tryz.prog 108 #[.slice A' dn c', .slice A3 m c3] W fun e w' => ∃ (A : Option Addr) (n c : Nat) (ec : Int), e = .returned (.tuple #[.slice A n c, .int .i64 ec]) ∧ Q (.slice A n c) ec w' ∧ Gr W w')) :
    Calls Tryz.prog 57 #[.slice A n c, .slice A2 n2 c2, .slice A3 m c3, .agg #[.int .i64 fr, .int .i64 st, .slice DA dn dc]] w fun e w' => ∃ (A : Option Addr) (n c : Nat) (ec : Int), e = .returned (.tuple #[.slice A n c, .int .i64 ec]) ∧ Q (.slice A n c) ec w' ∧ Gr w w' := by
  go_enter Tryz.func57, Tryz.ntmps57
  go_wp2_with fail
  (first | refine name_world ?_ | refine (show (∀ W, W = _ → Calls _ _ _ W _) → Calls _ _ _ _ _ from fun h => h _ rfl) ?_); intro W1 hW1
  have g1 : Gr w W1 := by rw [hW1]; exact gr_auto
  have k1_0 : W1.cell? ⟨w.heap.size, 0, none⟩ = some (.int .i64 fr) := by rw [hW1]; first | (simp [go_sem, *]; done) | (refine Gr.at ?_ (by assumption); exact gr_auto)
  have b1_0 : w.heap.size < W1.heap.size := World.block_lt_of_cell? _ _ k1_0
  have k1_1 : W1.cell? ⟨w.heap.size, 1, none⟩ = some (.int .i64 st) := by rw [hW1]; first | (simp [go_sem, *]; done) | (refine Gr.at ?_ (by assumption); exact gr_auto)
  have k1_2 : W1.cell? ⟨w.heap.size, 2, none⟩ = some (.slice DA dn dc) := by rw [hW1]; first | (simp [go_sem, *]; done) | (refine Gr.at ?_ (by assumption); exact gr_auto)
  clear hW1
  refine (HV.out _ (by exact g1)).mono ?_
  rintro e w2 ⟨rfl, hb2⟩
  have g2 := g1.trans hb2
  have c0 := Gr.at hb2 k1_0; have c1 := Gr.at hb2 k1_1; have c2 := Gr.at hb2 k1_2
  clear k1_0 k1_1 k1_2
  go_wp2_with fail
  refine (HD.out _ (by exact g2)).mono ?_
  rintro e w3 ⟨A', c', b', o', rfl, h1, hb3⟩
  have HCi := Lib.hid (HC.out A' c' b' o' w3 h1 (g2.trans hb3))
  clear h1
  go_wp2_with fail
  refine HCi.out.mono ?_
  rintro e w4 ⟨A4, n4, c4, ec, rfl, h4, hb4⟩
  replace h4 := Lib.hid h4
  go_wp2_with fail
  refine bodyPost_ret (by simp [results, Tryz.results57, go_sem]; try rfl) rfl ?_
  exact ⟨A4, n4, c4, ec, rfl, h4.out, (g2.trans hb3).trans hb4⟩
theorem of_any (C : Ba.SlClass) (a u : Ba.SlI) (s : Ba.Ser) (w : World) (hC : C.At w) (ha : a.At w) (hu : u.At w) (hs : s.Ok w) (hn : s.ds.n ≤ 1000) : Calls Tryz.prog 57 #[.slice C.A C.n C.c, .slice a.A a.n a.c, .slice u.A u.n u.c, s.val] w (RetOf C a u s w) := by
  have HV := Lib.hid (fun W (hh : Gr w W) => hvalid_any u W (hu.gr hh))
  have m1 := Nat.le_trans hu.hc hu.hb; have m2 := Nat.le_trans hs.2.2.hc hs.2.2.hb
  cases hv : Ba.uniB u
  · have e : Ba.ofE C a u s = 1 := by unfold Ba.ofE; rw [hv]; rfl
    rw [hv] at HV
    refine (of_no C.A a.A u.A s.ds.A C.n C.c a.n a.c u.n u.c s.ds.n s.ds.c s.fr s.st w m1 m2 HV).mono ?_
    rintro e' w' ⟨rfl, h1⟩
    exact ⟨⟨none, 0, 0, 0, 0, fun _ => 0⟩, by rw [e], nil_at, fun h => by rw [e] at h; omega, fun _ => rfl, fun h => absurd h (by simp), h1⟩
  rw [hv] at HV
  by_cases hd : Ba.depE C a s = 0
  rotate_left
  · have e : Ba.ofE C a u s = Ba.depE C a s := by unfold Ba.ofE; rw [if_pos hv, if_neg hd]
    refine (of_bad C.A a.A u.A s.ds.A C.n C.c a.n a.c u.n u.c s.ds.n s.ds.c s.fr s.st (Ba.depE C a s) w m1 m2 HV (beq_eq_false_iff_ne.2 hd) (Lib.hid fun W hW => (dep_any C a s W (hC.gr hW) (ha.gr hW) (hs.gr hW)).mono ?_)).mono ?_
    · rintro e' w' ⟨r, rfl, -, -, -, h1⟩
      exact ⟨_, _, _, rfl, h1⟩
    rintro e' w' ⟨rfl, h1⟩
    exact ⟨⟨none, 0, 0, 0, 0, fun _ => 0⟩, by rw [e], nil_at, fun h => absurd (e ▸ h) hd, fun _ => rfl, fun h => absurd h (by simp), h1⟩
  have e : Ba.ofE C a u s = Ba.cnvE (Ba.outL C a s) u := by unfold Ba.ofE; rw [if_pos hv, if_pos hd]
  refine (of_ok (X := Ba.out C a s) (Q := fun v ec w' => ∃ r : Ba.SlI, v = .slice r.A r.n r.c ∧ ec = Ba.cnvE (Ba.outL C a s) u ∧ r.At w' ∧ (Ba.cnvE (Ba.outL C a s) u = 0 → r.n = Ba.ofN C a u s ∧ ∀ j, j < r.n → r.X j = Ba.ofX C a u s j) ∧ (Ba.cnvE (Ba.outL C a s) u ≠ 0 → r.n = 0) ∧ (0 < r.n → w.heap.size ≤ r.b)) C.A a.A u.A s.ds.A C.n C.c a.n a.c u.n u.c s.ds.n s.ds.c s.fr s.st w m1 m2 HV (Lib.hid fun W hW => dep_good C a s W (hC.gr hW) (ha.gr hW) (hs.gr hW) hd) (Lib.hid fun A' c' b' o' W hA' hW => ?_)).mono ?_
  · refine (convolve_any ⟨A', s.ds.n, c', b', o', Ba.out C a s⟩ u W hA' (hu.gr hW) hn).mono ?_
    rintro e' w' ⟨r, rfl, r1, r2, r3, r5, r4⟩
    exact ⟨r.A, r.n, r.c, _, rfl, ⟨r, rfl, rfl, r1, r2, r3, fun h => Nat.le_trans (Gr.size hW) (r5 h)⟩, r4⟩
  rintro e' w' ⟨A', n', c', ec, rfl, ⟨r, hr, rfl, r1, r2, r3, r5⟩, h1⟩
  simp only [Value.slice.injEq] at hr
  obtain ⟨rfl, rfl, rfl⟩ := hr
  exact ⟨r, by rw [e], r1, fun h => r2 (e ▸ h), fun h => r3 (fun z => h (e.trans z)), r5, h1⟩
end Go.Proofs.YtajhhplgcegodaaGreatDoor
