/-
  Law 25: RunoffMore, the long way. (Printed by mks.py.)
-/
import Derived.Test.YtjighhphadfoiaaRoR
import Derived.Test.YtjighhphadfoiaaHeld
import Derived.Deep.RegionLaw
import Derived.Deep.AppendLies
set_option linter.unusedVariables false
set_option linter.unusedSimpArgs false
namespace Go.Proofs.Ytjighhphadfoiaa
open Go.RowKit
attribute [local go_sem ↓] Go.wp_at_zero Go.wp_at_succ
theorem dep_good (C : Ba.SlClass) (a : Ba.SlI) (s : Ba.Ser) (w : World) (hC : C.At w) (ha : a.At w) (hs : s.Ok w) (he : Ba.depE C a s = 0) : Calls Try.prog 12 #[.slice C.A C.n C.c, .slice a.A a.n a.c, s.val] w fun e w' => ∃ (A : Option Addr) (c b oo : Nat), e = .returned (.tuple #[.slice A s.ds.n c, .int .i64 0]) ∧ Ba.SlI.At w' ⟨A, s.ds.n, c, b, oo, Ba.out C a s⟩ ∧ Gr w w' := by
  refine (dep_any C a s w hC ha hs).mono ?_
  rintro e w' ⟨r, rfl, r1, r2, -, r4⟩
  obtain ⟨q1, q2⟩ := r2 he
  refine ⟨r.A, r.c, r.b, r.o, by rw [he, q1], ⟨fun h => r1.hA (by simp only at h; omega), by have := r1.hc; simp only; omega, r1.hb, fun i hi => ?_⟩, r4⟩
  simp only at hi
  have := r1.hX i (by omega)
  rw [q2 i hi] at this
  exact this
theorem out_sum {C : Ba.SlClass} {a : Ba.SlI} {s : Ba.Ser} (he : Ba.depE C a s = 0) (hn : s.ds.n ≤ 100) : ∀ i, i ≤ s.ds.n → Ba.i64 (Ba.sumI (Ba.out C a s) i) := fun i hi => by
  have h := Ba.sumI_le (X := Ba.out C a s) (lo := 0) (hi := 1125899906842624) (n := i) fun j hj => (Ba.dep_right he).2 j (by omega)
  unfold Ba.i64
  have : (i : Int) ≤ 100 := by omega
  omega

namespace Ba
def upS (s : Ser) (G c m : Nat) (z : Int) : Ser := ⟨s.fr, s.st, ⟨some ⟨G, 0, none⟩, s.ds.n, c, G, 0, fun i => if i = m then z else s.ds.X i⟩⟩
end Ba
theorem at_pre {w : World} {A : Option Addr} {n m c b o : Nat} {X : Nat → Int} (h : Ba.SlI.At w ⟨A, n, c, b, o, X⟩) (hm : m ≤ n) : Ba.SlI.At w ⟨A, m, c, b, o, X⟩ :=
  ⟨fun h1 => h.hA (by simp only at h1 ⊢; omega), by have := h.hc; simp only at this ⊢; omega, h.hb, fun i hi => h.hX i (by simp only at hi ⊢; omega)⟩
namespace Ba
theorem few_le {C : SlClass} {a : SlI} {s : Ser} (h : fewB C a s = true) : C.n ≤ 20 ∧ a.n ≤ 30 ∧ s.ds.n ≤ 100 := by
  unfold fewB at h
  simp only [Bool.and_eq_true, decide_eq_true_eq] at h
  omega
end Ba

set_option maxRecDepth 100000 in
set_option maxHeartbeats 8000000 in
theorem more_ok (C : Ba.SlClass) (a : Ba.SlI) (s : Ba.Ser) (more part : Int) (w : World) (hC : C.At w) (ha : a.At w) (hs : s.Ok w) (hmo : 0 ≤ more ∧ more ≤ 65535) (hpa : 0 ≤ part ∧ part ≤ 4294967295) (hf : Ba.fewB C a s = true) (h15 : C.n ≤ 15) (h0 : 0 < s.ds.n) (he : Ba.depE C a s = 0) : Calls Try.prog 3 #[.slice C.A C.n C.c, .slice a.A a.n a.c, s.val, .int .u16 more, .int .u32 part] w fun e w' => e = .returned (.bool true) ∧ Gr w w' := by
  obtain ⟨j1, hi0, hz0, hz1, hz2⟩ := info_parts info_int
  have JI := Lib.hid hi0; have JZ0 := Lib.hid hz0; have JZ1 := Lib.hid hz1; have JZ2 := Lib.hid hz2
  clear hi0 hz0 hz1 hz2
  obtain ⟨i1, hi0, hz0, hz1, hz2⟩ := info_parts info_class
  have KI := Lib.hid hi0; have KZ0 := Lib.hid hz0; have KZ1 := Lib.hid hz1; have KZ2 := Lib.hid hz2
  clear hi0 hz0 hz1 hz2
  have HF := Lib.hid (fun W (hh : Gr w W) => few_any C a s W (hC.gr hh) (ha.gr hh) (hs.gr hh))
  rw [hf] at HF
  unfold Ba.Ser.val at HF ⊢
  have mC := Nat.le_trans hC.hc hC.hb; have ma := Nat.le_trans ha.hc ha.hb; have ms := Nat.le_trans hs.2.2.hc hs.2.2.hb
  have R := (Ba.dep_right he).1
  have hfew := Ba.few_le hf
  have HD := Lib.hid (fun W (hh : Gr w W) => dep_good C a s W (hC.gr hh) (ha.gr hh) (hs.gr hh) he)
  have HCL := Lib.hid (fun W (hh : Gr w W) => clonei_any s.ds W (hs.2.2.gr hh) (by omega) (fun h => absurd (hs.2.2.hA h0) (by rw [h]; simp)))
  have HSER := Lib.hid hs
  have HAT := Lib.hid ha
  have HCT := Lib.hid hC
  unfold Ba.Ser.val at HD
  obtain ⟨m, hm⟩ : ∃ m, s.ds.n = m + 1 := ⟨s.ds.n - 1, by omega⟩
  have HM := Lib.hid hm
  clear hm
  clear hC ha hs
  have q1 : (C.n : Int) ≤ 15 := by omega
  have q2 : ((s.ds.n : Int) == 0) = false := beq_eq_false_iff_ne.2 (by omega)
  go_enter Try.func3, Try.ntmps3
  go_wp2_with fail
  refine (awake_any _).mono ?_
  rintro e w1 ⟨rfl, hb1⟩
  have g1 : Gr w w1 := Gr.trans (Gr.alloc (Gr.refl w) _) hb1
  have c0 : w1.cell? ⟨w.heap.size, 0, none⟩ = some (.int .i64 s.fr) := Gr.at hb1 (by simp [go_sem])
  have c1 : w1.cell? ⟨w.heap.size, 1, none⟩ = some (.int .i64 s.st) := Gr.at hb1 (by simp [go_sem])
  have c2 : w1.cell? ⟨w.heap.size, 2, none⟩ = some (.slice s.ds.A s.ds.n s.ds.c) := Gr.at hb1 (by simp [go_sem])
  clear hb1
  go_wp2_with fail
  refine (HF.out _ (by exact g1)).mono ?_
  rintro e w2 ⟨rfl, hb2⟩
  have g2 := g1.trans hb2
  replace c0 := Gr.at hb2 c0; replace c1 := Gr.at hb2 c1; replace c2 := Gr.at hb2 c2
  go_wp2_with fail
  refine (HD.out _ (by exact g2)).mono ?_
  rintro e w3 ⟨rA, rc, rb, ro, rfl, r1, hb3⟩
  have g3 := g2.trans hb3
  replace c0 := Gr.at hb3 c0; replace c1 := Gr.at hb3 c1; replace c2 := Gr.at hb3 c2
  obtain rfl : rA = some ⟨rb, ro, none⟩ := r1.hA h0
  replace r1 := Lib.hid r1
  have zU0 : w.heap.size < w3.heap.size := World.block_lt_of_cell? _ _ c0
  go_wp2_with fail
  (first | refine name_world ?_ | refine (show (∀ W, W = _ → Calls _ _ _ W _) → Calls _ _ _ _ _ from fun h => h _ rfl) ?_); intro W4 hW4
  have g4 : Gr w W4 := by rw [hW4]; exact gr_auto
  have gb4 : Gr w3 W4 := by clear g4; rw [hW4]; exact gr_auto
  have O0 : Own W4 w3.heap.size 0 (.int .i64 s.fr) := ⟨by rw [hW4]; simp [go_sem, *], by rw [hW4]; simp [go_sem, *]⟩
  have O1 : Own W4 w3.heap.size 1 (.int .i64 s.st) := ⟨by rw [hW4]; simp [go_sem, *], by rw [hW4]; simp [go_sem, *]⟩
  have O2 : Own W4 w3.heap.size 2 (.slice s.ds.A s.ds.n s.ds.c) := ⟨by rw [hW4]; simp [go_sem, *], by rw [hW4]; simp [go_sem, *]⟩
  clear hW4
  replace c0 := Gr.at gb4 c0; replace c1 := Gr.at gb4 c1; replace c2 := Gr.at gb4 c2
  have bU4 : w3.heap.size < W4.heap.size := World.block_lt_of_cell? _ _ O0.1
  refine (HCL.out _ (by exact g4)).mono ?_
  rintro e w5 ⟨A5, c5, G, rfl, hA5, hG, hc5, hb5c, hrow, hb5⟩
  obtain rfl := hA5 h0
  clear hA5
  replace hrow := Lib.hid hrow
  have g5 := g4.trans hb5
  replace c0 := Gr.at hb5 c0; replace c1 := Gr.at hb5 c1; replace c2 := Gr.at hb5 c2
  replace O0 := O0.gr hb5; replace O1 := O1.gr hb5; replace O2 := O2.gr hb5
  have x20 := O2.1; have x21 := O2.2
  have zU : w.heap.size < w3.heap.size := zU0
  have zm : (s.ds.n : Int) - 1 = (m : Int) := by have := HM.out; omega
  have zmn : m < s.ds.n := by have := HM.out; omega
  have cm := (hrow.out m zmn)
  have cm0 : w5.cell? ⟨G, m, none⟩ = some (.int .i64 (s.ds.X m)) := cm.1; have cm1 := cm.2
  clear cm
  have zG : w3.heap.size < G := by omega
  have dm := R.dep zmn
  unfold Ba.dpt at dm
  have DM := Lib.hid dm
  obtain ⟨x, hx⟩ : ∃ x, s.ds.X m = x := ⟨_, rfl⟩
  rw [hx] at cm0 dm DM
  have HXM := Lib.hid hx
  clear hx
  go_wp2_with fail
  (first | refine name_world ?_ | refine (show (∀ W, W = _ → Calls _ _ _ W _) → Calls _ _ _ _ _ from fun h => h _ rfl) ?_); intro W6 hW6
  have g6 : Gr w W6 := by rw [hW6]; exact gr_auto
  have gb6 : Gr w3 W6 := by clear g6; rw [hW6]; refine Gr.setCell (gb4.trans hb5) ?_ _; simp
  replace O0 : Own W6 w3.heap.size 0 (.int .i64 s.fr) := by rw [hW6]; exact O0.other (Or.inr (by decide))
  replace O1 : Own W6 w3.heap.size 1 (.int .i64 s.st) := by rw [hW6]; exact O1.other (Or.inr (by decide))
  replace O2 : Own W6 w3.heap.size 2 (.slice (some ⟨G, 0, none⟩) s.ds.n c5) := by rw [hW6]; exact O2.set
  have hrow6 : Row W6 G s.ds.n (fun j => .int .i64 (s.ds.X j)) := fun j hj => by rw [hW6]; exact (hrow.out j hj).other (Or.inl (by omega))
  have k0 := O0.1; have k1 := O1.1; have k2 := O2.1
  have km : W6.cell? ⟨G, m, none⟩ = some (.int .i64 (s.ds.X m)) := (hrow6 m zmn).1; have km1 := (hrow6 m zmn).2
  rw [HXM.out] at km
  replace hrow6 := Lib.hid hrow6
  have gx6 : GrX w3.heap.size w5 W6 := by rw [hW6]; exact GrX.setCell (p := ⟨w3.heap.size, 2, none⟩) (GrX.refl _ _) rfl _
  replace c0 := GrX.at gx6 (by omega) c0; replace c1 := GrX.at gx6 (by omega) c1; replace c2 := GrX.at gx6 (by omega) c2
  clear hW6 cm0 cm1 x20 x21 hrow gx6
  refine wp_region_tail 19 (by kernel_rfl) (by kernel_rfl) ?_
  simp only [List.take_succ_cons, List.take_zero, List.drop_succ_cons, List.drop_zero]
  repeat (go_big_quiet_step (skip))
  refine wpQuiet_nil ?_
  go_wp2_with fail
  (first | refine name_world ?_ | refine (show (∀ W, W = _ → Calls _ _ _ W _) → Calls _ _ _ _ _ from fun h => h _ rfl) ?_); intro W7 hW7
  have g7 : Gr w W7 := by rw [hW7]; exact Gr.drew (Gr.setCell g6 (by simp only; omega) _)
  have gb7 : Gr w3 W7 := by rw [hW7]; exact Gr.drew (Gr.setCell gb6 (by simp only; omega) _)
  have hrow7 : Row W7 G s.ds.n (fun j => .int .i64 (if j = m then max 0 x + more else s.ds.X j)) := by rw [hW7]; exact ((hrow6.out).set (by simp only [if_true]) (by intro j hj hne; simp only [hne, if_false])).gr (Gr.drew (Gr.refl _))
  have gx7 : GrX G W6 W7 := by rw [hW7]; exact (GrX.setCell (p := ⟨G, m, none⟩) (GrX.refl _ _) rfl _).drew
  clear hW7
  replace c0 := GrX.at gx7 (by omega) c0; replace c1 := GrX.at gx7 (by omega) c1; replace c2 := GrX.at gx7 (by omega) c2
  clear O0 O1 O2 k0 k1 k2 km km1 hrow6 gx7
  have HT : Ba.Ser.Ok W7 (Ba.upS s G c5 m (max 0 x + more)) := ⟨HSER.out.1, HSER.out.2.1, ⟨fun _ => rfl, hc5, hb5c, fun i hi => by
  have z := hrow7 i hi
  refine ⟨by simp only [Ba.upS, Nat.zero_add]; exact z.1, ?_⟩
  simp only [Ba.upS]
  split
  · unfold Ba.i64; omega
  · exact (HSER.out.2.2.hX i hi).2⟩⟩
  have hup : (∀ j, j < m → Ba.out C a s j = Ba.out C a (Ba.upS s G c5 m (max 0 x + more)) j) ∧ Ba.out C a s m ≤ Ba.out C a (Ba.upS s G c5 m (max 0 x + more)) m := Ba.more_rain R rfl HM.out (fun i hi => by simp only [Ba.upS]; rw [if_neg (by omega)]) (by rw [HXM.out]; simp only [Ba.upS, if_true]; omega)
  replace hup := Lib.hid hup
  clear hrow7
  have hsd := Lib.hid (out_sum he hfew.2.2)
  obtain ⟨OS, hOS⟩ : ∃ z, Ba.out C a s = z := ⟨_, rfl⟩
  rw [hOS] at hsd hup r1
  have HOS := Lib.hid hOS
  clear hOS
  by_cases heT : Ba.depE C a (Ba.upS s G c5 m (max 0 x + more)) = 0
  · have HDT : Calls Try.prog 12 #[.slice C.A C.n C.c, .slice a.A a.n a.c, .agg #[.int .i64 s.fr, .int .i64 s.st, .slice (some ⟨G, 0, none⟩) s.ds.n c5]] W7 fun e w' => ∃ (A : Option Addr) (c b oo : Nat), e = .returned (.tuple #[.slice A s.ds.n c, .int .i64 0]) ∧ Ba.SlI.At w' ⟨A, s.ds.n, c, b, oo, Ba.out C a (Ba.upS s G c5 m (max 0 x + more))⟩ ∧ Gr W7 w' := dep_good C a (Ba.upS s G c5 m (max 0 x + more)) W7 (HCT.out.gr g7) (HAT.out.gr g7) HT heT
    have hsb := Lib.hid (out_sum (s := (Ba.upS s G c5 m (max 0 x + more))) heT hfew.2.2)
    have hse : Ba.sumI OS s.ds.n ≤ Ba.sumI (Ba.out C a (Ba.upS s G c5 m (max 0 x + more))) s.ds.n := by
      rw [HM.out, Ba.sumI, Ba.sumI, Ba.sumI_congr hup.out.1]
      have := hup.out.2
      omega
    have hpe := Lib.hid (fun (A A2 : Option Addr) (c b o c2 b2 o2 : Nat) => Ba.eqI_of (a := ⟨A, m, c, b, o, Ba.out C a (Ba.upS s G c5 m (max 0 x + more))⟩) (b := ⟨A2, m, c2, b2, o2, OS⟩) rfl (fun i hi => (hup.out.1 i hi).symm))
    clear hup HT
    generalize Ba.out C a (Ba.upS s G c5 m (max 0 x + more)) = OT at *
    clear heT
    refine HDT.mono ?_
    clear HDT
    rintro e w8 ⟨qA, qc, qb, qo, rfl, q1, hb8⟩
    obtain rfl : qA = some ⟨qb, qo, none⟩ := q1.hA h0
    have qm1 : m ≤ qc := by have := q1.hc; simp only at this; omega
    have qm2 : qc ≤ 9223372036854775807 := q1.hb
    have rm1 : m ≤ rc := by have := r1.out.hc; simp only at this; omega
    have rm2 : rc ≤ 9223372036854775807 := r1.out.hb
    have rm3 : s.ds.n ≤ rc := r1.out.hc
    have qm3 : s.ds.n ≤ qc := q1.hc
    have im0 : (0 : Int) ≤ (m : Int) := by omega
    replace q1 := Lib.hid q1
    have g8 := g7.trans hb8
    have gb8 := gb7.trans hb8
    replace c0 := Gr.at hb8 c0; replace c1 := Gr.at hb8 c1; replace c2 := Gr.at hb8 c2
    go_wp2_with fail
    (first | refine name_world ?_ | refine (show (∀ W, W = _ → Calls _ _ _ W _) → Calls _ _ _ _ _ from fun h => h _ rfl) ?_); intro W9 hW9
    have g9 : Gr w W9 := by rw [hW9]; exact gr_auto
    have gb9_w8 : Gr w8 W9 := by (try clear g9); rw [hW9]; exact gr_auto
    have k9_0 : W9.cell? ⟨w.heap.size, 0, none⟩ = some (.int .i64 s.fr) := by rw [hW9]; first | (simp [go_sem, *]; done) | (refine Gr.at ?_ (by assumption); exact gr_auto)
    have b9_0 : w.heap.size < W9.heap.size := World.block_lt_of_cell? _ _ k9_0
    have k9_1 : W9.cell? ⟨w.heap.size, 1, none⟩ = some (.int .i64 s.st) := by rw [hW9]; first | (simp [go_sem, *]; done) | (refine Gr.at ?_ (by assumption); exact gr_auto)
    have k9_2 : W9.cell? ⟨w.heap.size, 2, none⟩ = some (.slice s.ds.A s.ds.n s.ds.c) := by rw [hW9]; first | (simp [go_sem, *]; done) | (refine Gr.at ?_ (by assumption); exact gr_auto)
    clear hW9
    have s9_0 : ∀ gw : GW W9, gw.1.cell? ⟨w.heap.size, 0, none⟩ = some (.int .i64 s.fr) := fun gw => Gr.at gw.2 k9_0
    have s9_1 : ∀ gw : GW W9, gw.1.cell? ⟨w.heap.size, 1, none⟩ = some (.int .i64 s.st) := fun gw => Gr.at gw.2 k9_1
    have s9_2 : ∀ gw : GW W9, gw.1.cell? ⟨w.heap.size, 2, none⟩ = some (.slice s.ds.A s.ds.n s.ds.c) := fun gw => Gr.at gw.2 k9_2
    have HS1 := Lib.hid (fun gw : GW W9 => gw_call (lsum_any ⟨some ⟨qb, qo, none⟩, s.ds.n, qc, qb, qo, OT⟩ gw.1 (q1.out.gr (gb9_w8.trans gw.2)) hsb.out))
    have HS2 := Lib.hid (fun gw : GW W9 => gw_call (lsum_any ⟨some ⟨rb, ro, none⟩, s.ds.n, rc, rb, ro, OS⟩ gw.1 (r1.out.gr ((gb8.trans gb9_w8).trans gw.2)) hsd.out))
    have HE := Lib.hid (fun gw : GW W9 => gw_call (show Calls Try.prog 15 #[.slice (some ⟨qb, qo, none⟩) m qc, .slice (some ⟨rb, ro, none⟩) m rc] gw.1 fun e w' => e = .returned (.bool true) ∧ Gr gw.1 w' from by
          have z := equal_any ⟨some ⟨qb, qo, none⟩, m, qc, qb, qo, OT⟩ ⟨some ⟨rb, ro, none⟩, m, rc, rb, ro, OS⟩ gw.1 ((at_pre q1.out (by omega)).gr (gb9_w8.trans gw.2)) ((at_pre r1.out (by omega)).gr ((gb8.trans gb9_w8).trans gw.2))
          rw [hpe.out] at z
          exact z))
    generalize Ba.sumI OT s.ds.n = ST at *
    generalize Ba.sumI OS s.ds.n = SS at *
    have hsf : decide (ST < SS) = false := decide_eq_false (by omega)
    have hsf2 : ¬ ST < SS := by omega
    refine wp_region_gr (by kernel_rfl) (by kernel_rfl) ?_
    repeat (go_big_quiet_step (first | (go_at_call 14; with_reducible exact HS1.out _) | (go_at_call 14; with_reducible exact HS2.out _) | (go_at_call 15; with_reducible exact HE.out _)))
    refine wpQuiet_nil ?_
    intro w10 hb10
    clear s9_0 s9_1 s9_2
    have g10 : Gr w w10 := g9.trans hb10
    have k9_0 := Gr.at hb10 k9_0
    have k9_1 := Gr.at hb10 k9_1
    have k9_2 := Gr.at hb10 k9_2
    have gl : Gr w3 w10 := gb8.trans (gb9_w8.trans hb10)
    have hn1 := R.few
    have han := Lib.hid R.n
    have hCA := HCT.out.hA (show 0 < C.n by omega)
    have haA := HAT.out.hA (show 0 < a.n by rw [han.out]; omega)
    obtain ⟨d0, d1, d2, d3, d4⟩ := (HCT.out.hD 0 (by omega)).1.gr g10
    simp only [Nat.zero_mul, Nat.add_zero] at d0 d1 d2 d3 d4
    have HCC := Lib.hid (fun W (hh : Gr w W) => clonec_any C W (HCT.out.gr hh) (by omega) (by omega))
    rw [hCA] at HCC
    have HCN := Lib.hid (fun W (hh : Gr w W) => clonen_any a W (HAT.out.gr hh) (by rw [han.out]; omega) (by omega))
    rw [haA] at HCN
    have a0 := Gr.at g10 (HAT.out.hX 0 (by rw [han.out]; omega)).1
    simp only [Nat.add_zero] at a0
    have aR := R.mtr 0 (by omega)
    have z0 : (0 : Int) < (C.n : Int) := by omega
    have z1 : (0 : Int) < (a.n : Int) := by have := han.out; omega
    have z2 : 0 < C.n := by omega
    have z3 : 0 < a.n := by have := han.out; omega
    go_wp2_with fail
    (first | refine name_world ?_ | refine (show (∀ W, W = _ → Calls _ _ _ W _) → Calls _ _ _ _ _ from fun h => h _ rfl) ?_); intro W11 hW11
    have g11 : Gr w W11 := by rw [hW11]; exact gr_auto
    have gb11_w10 : Gr w10 W11 := by (try clear g11); rw [hW11]; exact gr_auto
    have k11_0 : W11.cell? ⟨w10.heap.size, 0, none⟩ = some (.string ⟨#[111, 116, 104, 101, 114, 95, 116, 119, 105, 110, 95, 99, 108, 97, 115, 115]⟩) := by rw [hW11]; first | (simp [go_sem, *]; done) | (refine Gr.at ?_ (by assumption); exact gr_auto)
    have b11_0 : w10.heap.size < W11.heap.size := World.block_lt_of_cell? _ _ k11_0
    have k11_1 : W11.cell? ⟨w10.heap.size, 1, none⟩ = some (.int .i64 (C.D 0).se) := by rw [hW11]; first | (simp [go_sem, *]; done) | (refine Gr.at ?_ (by assumption); exact gr_auto)
    have k11_2 : W11.cell? ⟨w10.heap.size, 2, none⟩ = some (.int .i64 (C.D 0).we) := by rw [hW11]; first | (simp [go_sem, *]; done) | (refine Gr.at ?_ (by assumption); exact gr_auto)
    have k11_3 : W11.cell? ⟨w10.heap.size, 3, none⟩ = some (.int .i64 (C.D 0).ro) := by rw [hW11]; first | (simp [go_sem, *]; done) | (refine Gr.at ?_ (by assumption); exact gr_auto)
    have k11_4 : W11.cell? ⟨w10.heap.size, 4, none⟩ = some (.int .i64 (C.D 0).dr) := by rw [hW11]; first | (simp [go_sem, *]; done) | (refine Gr.at ?_ (by assumption); exact gr_auto)
    have k11_5 : W11.cell? ⟨w.heap.size, 0, none⟩ = some (.int .i64 s.fr) := by rw [hW11]; first | (simp [go_sem, *]; done) | (refine Gr.at ?_ (by assumption); exact gr_auto)
    have b11_5 : w.heap.size < W11.heap.size := World.block_lt_of_cell? _ _ k11_5
    have k11_6 : W11.cell? ⟨w.heap.size, 1, none⟩ = some (.int .i64 s.st) := by rw [hW11]; first | (simp [go_sem, *]; done) | (refine Gr.at ?_ (by assumption); exact gr_auto)
    have k11_7 : W11.cell? ⟨w.heap.size, 2, none⟩ = some (.slice s.ds.A s.ds.n s.ds.c) := by rw [hW11]; first | (simp [go_sem, *]; done) | (refine Gr.at ?_ (by assumption); exact gr_auto)
    have k11_8 : W11.cell? ⟨a.b, a.o, none⟩ = some (.int .i64 (a.X 0)) := by rw [hW11]; first | (simp [go_sem, *]; done) | (refine Gr.at ?_ (by assumption); exact gr_auto)
    have b11_8 : a.b < W11.heap.size := World.block_lt_of_cell? _ _ k11_8
    clear hW11
    go_region_law (first | (go_simp; go_at_call 16; refine (HCC.out _ (g11.trans gr_auto)).mono ?_; rintro e w12 ⟨A3, c3, rfl, ho3, hb12⟩; have gc12 : Gr W11 w12 := Gr.trans gr_auto hb12; have u12_0 := Gr.at gc12 k11_0; have u12_1 := Gr.at gc12 k11_1; have u12_2 := Gr.at gc12 k11_2; have u12_3 := Gr.at gc12 k11_3; have u12_4 := Gr.at gc12 k11_4; replace ho3 := Lib.hid ho3; have zz12 := Gr.size hb12; have zc12 := Gr.size gc12; (try simp at zz12)) | (refine step_append_lies _ (by rfl) _ _ 22 (by rfl) _ 37 i1 (.agg #[.string ⟨#[]⟩, .int .i64 0, .int .i64 0, .int .i64 0, .int .i64 0]) 5 48 Try.underlying22 KI.out KZ0.out KZ1.out KZ2.out rfl (by decide) (.slice A3 C.n c3) C.n (flatC C.D C.n) (by rfl) (ownsRow_gr ho3.out (by exact gr_auto)) _ 1 1 [.string ⟨#[111, 116, 104, 101, 114, 95, 116, 119, 105, 110, 95, 99, 108, 97, 115, 115]⟩, .int .i64 (C.D 0).se, .int .i64 (C.D 0).we, .int .i64 (C.D 0).ro, .int .i64 (C.D 0).dr] (by rfl) rfl (by intro p u hp; rcases p with _ | _ | _ | _ | _ | p <;> simp at hp <;> (try subst hp) <;> first | (simp [Addr.add, go_sem]; done) | (simp [Addr.add]; done) | (refine Gr.at hb12 ?_; simp [Addr.add, go_sem]; done) | (refine Gr.at (show Gr w12 _ from gr_auto) (Gr.at hb12 ?_); simp [Addr.add, go_sem]; done)) (by intro u hu; simp at hu; rcases hu with rfl | rfl | rfl | rfl | rfl <;> rfl) (by omega) (by unfold maxLen; omega) (by omega) (by first | omega | (simp; done) | (simp; omega)) _ rfl ?_; intro G13 cp13 w13 hown13 hgrow13 hat13 hlt13; have gr13 : Gr W11 w13 := Gr.own gr_auto (by first | (simp; done) | omega | (simp; omega)) (ownsRow_gr ho3.out gr_auto) hgrow13))
    all_goals
      have g13 := g11.trans gr13
      replace hown13 := Lib.hid hown13
      have k13 := Gr.at gr13 k11_8
      have h5 := Gr.at gr13 k11_5; have h6 := Gr.at gr13 k11_6; have h7 := Gr.at gr13 k11_7
      (try clear u12_0 u12_1 u12_2 u12_3 u12_4)
      clear k11_0 k11_1 k11_2 k11_3 k11_4 k11_5 k11_6 k11_7 k11_8 hat13 hgrow13 d0 d1 d2 d3 d4 a0 c0 c1 c2
      (try clear HS1 HS2 HE hpe hsf hsf2)
      go_wp2_with fail
      have hkb : 0 ≤ part % (a.X 0 + 1) ∧ part % (a.X 0 + 1) ≤ a.X 0 := ⟨Int.emod_nonneg _ (by omega), by have := Int.emod_lt_of_pos part (show 0 < a.X 0 + 1 by omega); omega⟩
      generalize part % (a.X 0 + 1) = kk at *
      refine (HCN.out _ (by exact g13)).mono ?_
      rintro e w14 ⟨A4, c4, rfl, ho4, hb14⟩
      replace ho4 := Lib.hid ho4
      have k14 := Gr.at hb14 k13
      go_wp2_with (at_builtin; refine wpList_append_lies _ (by rfl) _ _ 23 (by rfl) w13.heap.size 3 j1 (.int .i64 0) 1 8 Try.underlying23 JI.out JZ0.out JZ1.out JZ2.out rfl (by decide) (.slice A4 a.n c4) a.n (flatN a.X a.n) (by rfl) (ownsRow_gr ho4.out (by exact gr_auto)) ⟨w14.heap.size, 0, none⟩ 1 1 [.int .i64 kk] (by rfl) rfl (by intro p u hp; rcases p with _ | p <;> simp at hp; subst hp; simp [Addr.add, go_sem]) (by intro u hu; simp at hu; subst hu; rfl) (by omega) (by have := han.out; unfold maxLen; omega) (by have := han.out; omega) (by have := Gr.size hb14; simp; try omega) _ rfl ?_)
      intro G15 cp15 w15 hown15 hgrow15 hat15 hlt15
      have gr15 : Gr w13 w15 := Gr.own (show Gr w13 _ from gr_auto) (Nat.le_refl _) (ownsRow_gr ho4.out gr_auto) hgrow15
      have g15 := g13.trans gr15
      have hrow15 := own_rowN (X := fun i => if i = a.n then kk else a.X i) (show w15.ownsRow w13.heap.size 3 1 (.slice (some ⟨G15, 0, none⟩) (a.n + 1) cp15) (a.n + 1) (flatN (fun i => if i = a.n then kk else a.X i) (a.n + 1)) from by
        rw [flatN, if_pos rfl, flatN_congr (Y := a.X) (fun i hi => by (try dsimp only); rw [if_neg (by omega)])]; exact hown15)
      obtain ⟨A6, c6, G6, hv6, hA6, hG6, hc6, hm6, hrow6⟩ := hrow15
      simp only [Value.slice.injEq] at hv6
      obtain ⟨rfl, -, rfl⟩ := hv6
      replace hA6 := hA6 (by omega)
      simp only [Option.some.injEq, Addr.mk.injEq] at hA6
      obtain ⟨rfl, -, -⟩ := hA6
      have kb0 : w15.cell? ⟨G15, 0, none⟩ = some (.int .i64 (a.X 0)) := by
        have z : w15.cell? ⟨G15, 0, none⟩ = some (.int .i64 (if 0 = a.n then kk else a.X 0)) := (hrow6 0 (by omega)).1
        rw [if_neg (by omega)] at z; exact z
      have kb1 := (hrow6 0 (by omega)).2
      have z15 : w.heap.size < w13.heap.size := World.block_lt_of_cell? _ _ h5
      have nG : w.heap.size ≠ G15 := by omega
      have nG2 : G15 ≠ w.heap.size := by omega
      have i5 := Gr.at gr15 h5; have i6 := Gr.at gr15 h6; have i7 := Gr.at gr15 h7
      replace hrow6 := Lib.hid hrow6
      clear hown15 hgrow15 hat15 ho4 k13 k14 h5 h6 h7
      have z4 : (0 : Int) < (a.n : Int) + 1 := by omega
      go_wp2_with fail
      (first | refine name_world ?_ | refine (show (∀ W, W = _ → Calls _ _ _ W _) → Calls _ _ _ _ _ from fun h => h _ rfl) ?_); intro W16 hW16
      have gr16 : Gr w13 W16 := by rw [hW16]; exact Gr.setCell gr15 (by simp only; omega) _
      have g16 := g13.trans gr16
      have hrow16 : Row W16 G15 (a.n + 1) (fun j => .int .i64 (if j = 0 then a.X 0 - kk else if j = a.n then kk else a.X j)) := by rw [hW16]; exact hrow6.out.set (by simp only [if_true]) (by intro j hj hne; simp only [hne, if_false])
      clear hW16 kb0 kb1 i5 i6 i7
      have hb16 : Ba.SlI.At W16 ⟨some ⟨G15, 0, none⟩, a.n + 1, cp15, G15, 0, fun i => if i = 0 then a.X 0 - kk else if i = a.n then kk else a.X i⟩ := ⟨fun _ => rfl, hc6, hm6, fun i hi => by
        have z := (hrow16 i hi).1
        refine ⟨by simp only [Nat.zero_add]; exact z, ?_⟩
        have y := (HAT.out.hX (if i = a.n then 0 else i) (by simp only at hi; split <;> omega)).2
        unfold Ba.i64 at y ⊢
        simp only
        split
        · omega
        · split
          · omega
          · rw [if_neg (by assumption)] at y; exact y⟩
      obtain ⟨bs, hbs⟩ := (show ∃ z, w13.ownsRow z 37 5 (.slice (some ⟨G13, 0, none⟩) (C.n + 1) cp13) (C.n + 1) (flatC C.D C.n ++ [.string ⟨#[111, 116, 104, 101, 114, 95, 116, 119, 105, 110, 95, 99, 108, 97, 115, 115]⟩, .int .i64 (C.D 0).se, .int .i64 (C.D 0).we, .int .i64 (C.D 0).ro, .int .i64 (C.D 0).dr]) from ⟨_, hown13.out⟩)
      have hown16 : W16.ownsRow bs 37 5 (.slice (some ⟨G13, 0, none⟩) (C.n + 1) cp13) (C.n + 1) (flatC (fun i => if i < C.n then C.D i else ⟨⟨#[111, 116, 104, 101, 114, 95, 116, 119, 105, 110, 95, 99, 108, 97, 115, 115]⟩, (C.D 0).se, (C.D 0).we, (C.D 0).ro, (C.D 0).dr⟩) (C.n + 1)) := by
        rw [flatC, flatC_congr (E := C.D) (fun i hi => by (try dsimp only); rw [if_pos hi])]
        simp only [Nat.lt_irrefl, if_false]
        exact ownsRow_gr hbs gr16
      obtain ⟨E, hEv, hE, hEn, hED⟩ := own_slc hown16 (fun i hi => by
        (try dsimp only)
        split
        · exact ((HCT.out.hD i (by assumption)).2.gr g16)
        · have z := (HCT.out.hD 0 (by omega)).2
          exact ⟨z.1, z.2.1, z.2.2.1, z.2.2.2.1, (show (16 : Nat) ≤ 9223372036854775807 by omega)⟩)
      simp only [Value.slice.injEq] at hEv
      obtain ⟨hE1, hE2, hE3⟩ := hEv
      have TWN : Ba.Twin C E kk a ⟨some ⟨G15, 0, none⟩, a.n + 1, cp15, G15, 0, fun i => if i = 0 then a.X 0 - kk else if i = a.n then kk else a.X i⟩ := ⟨hEn, rfl, fun i hi => by rw [hED]; simp only; rw [if_pos hi], by rw [hED]; simp only [Nat.lt_irrefl, if_false], by rw [hED]; simp only [Nat.lt_irrefl, if_false], by rw [hED]; simp only [Nat.lt_irrefl, if_false], by rw [hED]; simp only [Nat.lt_irrefl, if_false], by simp only [if_true], fun i h1 h2 => by simp only; rw [if_neg (by omega), if_neg (by omega)], by simp only; rw [if_neg (by omega), if_pos trivial]⟩
      rcases Ba.twin_err TWN he hkb with ⟨hx1, hx2⟩ | hx
      · have HSO : Calls Try.prog 12 #[.slice E.A E.n E.c, .slice (some ⟨G15, 0, none⟩) (a.n + 1) cp15, .agg #[.int .i64 s.fr, .int .i64 s.st, .slice s.ds.A s.ds.n s.ds.c]] W16 (RetDep E ⟨some ⟨G15, 0, none⟩, a.n + 1, cp15, G15, 0, fun i => if i = 0 then a.X 0 - kk else if i = a.n then kk else a.X i⟩ s W16) := dep_any E ⟨some ⟨G15, 0, none⟩, a.n + 1, cp15, G15, 0, fun i => if i = 0 then a.X 0 - kk else if i = a.n then kk else a.X i⟩ s W16 hE hb16 (HSER.out.gr g16)
        unfold RetDep at HSO
        rw [hx2] at HSO
        have HV := Lib.hid (fun W (hh : Gr W16 W) => rvalid_any E W (hE.gr hh))
        rw [hx1] at HV
        rw [← hE1, ← hE2, ← hE3] at HSO HV
        clear TWN hE hE1 hE2 hE3 hEn hED hb16 hrow16 hown16 hx1 hx2
        refine HSO.mono ?_
        rintro e w17 ⟨q17, rfl, -, -, -, hb17⟩
        clear HSO
        go_wp2_with fail
        refine (HV.out _ (by exact hb17)).mono ?_
        rintro e w18 ⟨rfl, hb18⟩
        go_wp2_with fail
        go_ret
        exact ⟨rfl, (g16.trans hb17).trans hb18⟩
      · have HSO : Calls Try.prog 12 #[.slice E.A E.n E.c, .slice (some ⟨G15, 0, none⟩) (a.n + 1) cp15, .agg #[.int .i64 s.fr, .int .i64 s.st, .slice s.ds.A s.ds.n s.ds.c]] W16 (fun e w' => ∃ (A : Option Addr) (c b oo : Nat), e = .returned (.tuple #[.slice A s.ds.n c, .int .i64 0]) ∧ Ba.SlI.At w' ⟨A, s.ds.n, c, b, oo, OS⟩ ∧ Gr W16 w') := by
          have z := dep_good E ⟨some ⟨G15, 0, none⟩, a.n + 1, cp15, G15, 0, fun i => if i = 0 then a.X 0 - kk else if i = a.n then kk else a.X i⟩ s W16 hE hb16 (HSER.out.gr g16) hx
          rw [show Ba.out E ⟨some ⟨G15, 0, none⟩, a.n + 1, cp15, G15, 0, fun i => if i = 0 then a.X 0 - kk else if i = a.n then kk else a.X i⟩ s = OS from by rw [← HOS.out]; funext j; exact Ba.out_twin TWN s hn1.1 han.out j] at z
          exact z
        rw [← hE1, ← hE2, ← hE3] at HSO
        clear TWN hE hE1 hE2 hE3 hEn hED hb16 hrow16 hown16 hx
        refine HSO.mono ?_
        rintro e w17 ⟨xA, xc, xb, xo, rfl, x1, hb17⟩
        clear HSO
        have g17 := g16.trans hb17
        have X1 := Lib.hid (fun W (hh : Gr w17 W) => lsum_any ⟨xA, s.ds.n, xc, xb, xo, OS⟩ W (x1.gr hh) hsd.out)
        have X2 := Lib.hid (fun W (hh : Gr w17 W) => lsum_any ⟨some ⟨rb, ro, none⟩, s.ds.n, rc, rb, ro, OS⟩ W (r1.out.gr ((gl.trans ((gb11_w10.trans gr13).trans (gr16.trans hb17))).trans hh)) hsd.out)
        clear x1
        simp only at X1 X2
        generalize Ba.sumI OS s.ds.n = SZ at *
        go_wp2_with fail
        refine (X1.out _ (by exact Gr.refl _)).mono ?_
        rintro e w18 ⟨rfl, hb18⟩
        go_wp2_with fail
        refine (X2.out _ (by exact hb18)).mono ?_
        rintro e w19 ⟨rfl, hb19⟩
        go_wp2_with fail
        go_ret
        exact ⟨by simp, (g17.trans hb18).trans hb19⟩
  · have HDT := Lib.hid (dep_any C a (Ba.upS s G c5 m (max 0 x + more)) W7 (HCT.out.gr g7) (HAT.out.gr g7) HT)
    obtain ⟨dE, hdE⟩ : ∃ z, Ba.depE C a (Ba.upS s G c5 m (max 0 x + more)) = z := ⟨_, rfl⟩
    unfold RetDep at HDT
    rw [hdE] at HDT heT
    clear hdE
    have zE : (dE == 0) = false := beq_eq_false_iff_ne.2 heT
    refine HDT.out.mono ?_
    clear HDT
    rintro e w8 ⟨q, rfl, q1, -, -, hb8⟩
    have g8 := g7.trans hb8
    have gb8 := gb7.trans hb8
    replace c0 := Gr.at hb8 c0; replace c1 := Gr.at hb8 c1; replace c2 := Gr.at hb8 c2
    clear hup HT
    go_wp2_with fail
    (first | refine name_world ?_ | refine (show (∀ W, W = _ → Calls _ _ _ W _) → Calls _ _ _ _ _ from fun h => h _ rfl) ?_); intro W9 hW9
    have g9 : Gr w W9 := by rw [hW9]; exact gr_auto
    have gb9_w8 : Gr w8 W9 := by (try clear g9); rw [hW9]; exact gr_auto
    have k9_0 : W9.cell? ⟨w.heap.size, 0, none⟩ = some (.int .i64 s.fr) := by rw [hW9]; first | (simp [go_sem, *]; done) | (refine Gr.at ?_ (by assumption); exact gr_auto)
    have b9_0 : w.heap.size < W9.heap.size := World.block_lt_of_cell? _ _ k9_0
    have k9_1 : W9.cell? ⟨w.heap.size, 1, none⟩ = some (.int .i64 s.st) := by rw [hW9]; first | (simp [go_sem, *]; done) | (refine Gr.at ?_ (by assumption); exact gr_auto)
    have k9_2 : W9.cell? ⟨w.heap.size, 2, none⟩ = some (.slice s.ds.A s.ds.n s.ds.c) := by rw [hW9]; first | (simp [go_sem, *]; done) | (refine Gr.at ?_ (by assumption); exact gr_auto)
    clear hW9
    have s9_0 : ∀ gw : GW W9, gw.1.cell? ⟨w.heap.size, 0, none⟩ = some (.int .i64 s.fr) := fun gw => Gr.at gw.2 k9_0
    have s9_1 : ∀ gw : GW W9, gw.1.cell? ⟨w.heap.size, 1, none⟩ = some (.int .i64 s.st) := fun gw => Gr.at gw.2 k9_1
    have s9_2 : ∀ gw : GW W9, gw.1.cell? ⟨w.heap.size, 2, none⟩ = some (.slice s.ds.A s.ds.n s.ds.c) := fun gw => Gr.at gw.2 k9_2
    have hnn := Nat.le_refl 0
    refine wp_region_gr (by kernel_rfl) (by kernel_rfl) ?_
    repeat (go_big_quiet_step (skip))
    refine wpQuiet_nil ?_
    intro w10 hb10
    clear s9_0 s9_1 s9_2
    have g10 : Gr w w10 := g9.trans hb10
    have k9_0 := Gr.at hb10 k9_0
    have k9_1 := Gr.at hb10 k9_1
    have k9_2 := Gr.at hb10 k9_2
    have gl : Gr w3 w10 := gb8.trans (gb9_w8.trans hb10)
    have hn1 := R.few
    have han := Lib.hid R.n
    have hCA := HCT.out.hA (show 0 < C.n by omega)
    have haA := HAT.out.hA (show 0 < a.n by rw [han.out]; omega)
    obtain ⟨d0, d1, d2, d3, d4⟩ := (HCT.out.hD 0 (by omega)).1.gr g10
    simp only [Nat.zero_mul, Nat.add_zero] at d0 d1 d2 d3 d4
    have HCC := Lib.hid (fun W (hh : Gr w W) => clonec_any C W (HCT.out.gr hh) (by omega) (by omega))
    rw [hCA] at HCC
    have HCN := Lib.hid (fun W (hh : Gr w W) => clonen_any a W (HAT.out.gr hh) (by rw [han.out]; omega) (by omega))
    rw [haA] at HCN
    have a0 := Gr.at g10 (HAT.out.hX 0 (by rw [han.out]; omega)).1
    simp only [Nat.add_zero] at a0
    have aR := R.mtr 0 (by omega)
    have z0 : (0 : Int) < (C.n : Int) := by omega
    have z1 : (0 : Int) < (a.n : Int) := by have := han.out; omega
    have z2 : 0 < C.n := by omega
    have z3 : 0 < a.n := by have := han.out; omega
    go_wp2_with fail
    (first | refine name_world ?_ | refine (show (∀ W, W = _ → Calls _ _ _ W _) → Calls _ _ _ _ _ from fun h => h _ rfl) ?_); intro W11 hW11
    have g11 : Gr w W11 := by rw [hW11]; exact gr_auto
    have gb11_w10 : Gr w10 W11 := by (try clear g11); rw [hW11]; exact gr_auto
    have k11_0 : W11.cell? ⟨w10.heap.size, 0, none⟩ = some (.string ⟨#[111, 116, 104, 101, 114, 95, 116, 119, 105, 110, 95, 99, 108, 97, 115, 115]⟩) := by rw [hW11]; first | (simp [go_sem, *]; done) | (refine Gr.at ?_ (by assumption); exact gr_auto)
    have b11_0 : w10.heap.size < W11.heap.size := World.block_lt_of_cell? _ _ k11_0
    have k11_1 : W11.cell? ⟨w10.heap.size, 1, none⟩ = some (.int .i64 (C.D 0).se) := by rw [hW11]; first | (simp [go_sem, *]; done) | (refine Gr.at ?_ (by assumption); exact gr_auto)
    have k11_2 : W11.cell? ⟨w10.heap.size, 2, none⟩ = some (.int .i64 (C.D 0).we) := by rw [hW11]; first | (simp [go_sem, *]; done) | (refine Gr.at ?_ (by assumption); exact gr_auto)
    have k11_3 : W11.cell? ⟨w10.heap.size, 3, none⟩ = some (.int .i64 (C.D 0).ro) := by rw [hW11]; first | (simp [go_sem, *]; done) | (refine Gr.at ?_ (by assumption); exact gr_auto)
    have k11_4 : W11.cell? ⟨w10.heap.size, 4, none⟩ = some (.int .i64 (C.D 0).dr) := by rw [hW11]; first | (simp [go_sem, *]; done) | (refine Gr.at ?_ (by assumption); exact gr_auto)
    have k11_5 : W11.cell? ⟨w.heap.size, 0, none⟩ = some (.int .i64 s.fr) := by rw [hW11]; first | (simp [go_sem, *]; done) | (refine Gr.at ?_ (by assumption); exact gr_auto)
    have b11_5 : w.heap.size < W11.heap.size := World.block_lt_of_cell? _ _ k11_5
    have k11_6 : W11.cell? ⟨w.heap.size, 1, none⟩ = some (.int .i64 s.st) := by rw [hW11]; first | (simp [go_sem, *]; done) | (refine Gr.at ?_ (by assumption); exact gr_auto)
    have k11_7 : W11.cell? ⟨w.heap.size, 2, none⟩ = some (.slice s.ds.A s.ds.n s.ds.c) := by rw [hW11]; first | (simp [go_sem, *]; done) | (refine Gr.at ?_ (by assumption); exact gr_auto)
    have k11_8 : W11.cell? ⟨a.b, a.o, none⟩ = some (.int .i64 (a.X 0)) := by rw [hW11]; first | (simp [go_sem, *]; done) | (refine Gr.at ?_ (by assumption); exact gr_auto)
    have b11_8 : a.b < W11.heap.size := World.block_lt_of_cell? _ _ k11_8
    clear hW11
    go_region_law (first | (go_simp; go_at_call 16; refine (HCC.out _ (g11.trans gr_auto)).mono ?_; rintro e w12 ⟨A3, c3, rfl, ho3, hb12⟩; have gc12 : Gr W11 w12 := Gr.trans gr_auto hb12; have u12_0 := Gr.at gc12 k11_0; have u12_1 := Gr.at gc12 k11_1; have u12_2 := Gr.at gc12 k11_2; have u12_3 := Gr.at gc12 k11_3; have u12_4 := Gr.at gc12 k11_4; replace ho3 := Lib.hid ho3; have zz12 := Gr.size hb12; have zc12 := Gr.size gc12; (try simp at zz12)) | (refine step_append_lies _ (by rfl) _ _ 22 (by rfl) _ 37 i1 (.agg #[.string ⟨#[]⟩, .int .i64 0, .int .i64 0, .int .i64 0, .int .i64 0]) 5 48 Try.underlying22 KI.out KZ0.out KZ1.out KZ2.out rfl (by decide) (.slice A3 C.n c3) C.n (flatC C.D C.n) (by rfl) (ownsRow_gr ho3.out (by exact gr_auto)) _ 1 1 [.string ⟨#[111, 116, 104, 101, 114, 95, 116, 119, 105, 110, 95, 99, 108, 97, 115, 115]⟩, .int .i64 (C.D 0).se, .int .i64 (C.D 0).we, .int .i64 (C.D 0).ro, .int .i64 (C.D 0).dr] (by rfl) rfl (by intro p u hp; rcases p with _ | _ | _ | _ | _ | p <;> simp at hp <;> (try subst hp) <;> first | (simp [Addr.add, go_sem]; done) | (simp [Addr.add]; done) | (refine Gr.at hb12 ?_; simp [Addr.add, go_sem]; done) | (refine Gr.at (show Gr w12 _ from gr_auto) (Gr.at hb12 ?_); simp [Addr.add, go_sem]; done)) (by intro u hu; simp at hu; rcases hu with rfl | rfl | rfl | rfl | rfl <;> rfl) (by omega) (by unfold maxLen; omega) (by omega) (by first | omega | (simp; done) | (simp; omega)) _ rfl ?_; intro G13 cp13 w13 hown13 hgrow13 hat13 hlt13; have gr13 : Gr W11 w13 := Gr.own gr_auto (by first | (simp; done) | omega | (simp; omega)) (ownsRow_gr ho3.out gr_auto) hgrow13))
    all_goals
      have g13 := g11.trans gr13
      replace hown13 := Lib.hid hown13
      have k13 := Gr.at gr13 k11_8
      have h5 := Gr.at gr13 k11_5; have h6 := Gr.at gr13 k11_6; have h7 := Gr.at gr13 k11_7
      (try clear u12_0 u12_1 u12_2 u12_3 u12_4)
      clear k11_0 k11_1 k11_2 k11_3 k11_4 k11_5 k11_6 k11_7 k11_8 hat13 hgrow13 d0 d1 d2 d3 d4 a0 c0 c1 c2
      (try clear HS1 HS2 HE hpe hsf hsf2)
      go_wp2_with fail
      have hkb : 0 ≤ part % (a.X 0 + 1) ∧ part % (a.X 0 + 1) ≤ a.X 0 := ⟨Int.emod_nonneg _ (by omega), by have := Int.emod_lt_of_pos part (show 0 < a.X 0 + 1 by omega); omega⟩
      generalize part % (a.X 0 + 1) = kk at *
      refine (HCN.out _ (by exact g13)).mono ?_
      rintro e w14 ⟨A4, c4, rfl, ho4, hb14⟩
      replace ho4 := Lib.hid ho4
      have k14 := Gr.at hb14 k13
      go_wp2_with (at_builtin; refine wpList_append_lies _ (by rfl) _ _ 23 (by rfl) w13.heap.size 3 j1 (.int .i64 0) 1 8 Try.underlying23 JI.out JZ0.out JZ1.out JZ2.out rfl (by decide) (.slice A4 a.n c4) a.n (flatN a.X a.n) (by rfl) (ownsRow_gr ho4.out (by exact gr_auto)) ⟨w14.heap.size, 0, none⟩ 1 1 [.int .i64 kk] (by rfl) rfl (by intro p u hp; rcases p with _ | p <;> simp at hp; subst hp; simp [Addr.add, go_sem]) (by intro u hu; simp at hu; subst hu; rfl) (by omega) (by have := han.out; unfold maxLen; omega) (by have := han.out; omega) (by have := Gr.size hb14; simp; try omega) _ rfl ?_)
      intro G15 cp15 w15 hown15 hgrow15 hat15 hlt15
      have gr15 : Gr w13 w15 := Gr.own (show Gr w13 _ from gr_auto) (Nat.le_refl _) (ownsRow_gr ho4.out gr_auto) hgrow15
      have g15 := g13.trans gr15
      have hrow15 := own_rowN (X := fun i => if i = a.n then kk else a.X i) (show w15.ownsRow w13.heap.size 3 1 (.slice (some ⟨G15, 0, none⟩) (a.n + 1) cp15) (a.n + 1) (flatN (fun i => if i = a.n then kk else a.X i) (a.n + 1)) from by
        rw [flatN, if_pos rfl, flatN_congr (Y := a.X) (fun i hi => by (try dsimp only); rw [if_neg (by omega)])]; exact hown15)
      obtain ⟨A6, c6, G6, hv6, hA6, hG6, hc6, hm6, hrow6⟩ := hrow15
      simp only [Value.slice.injEq] at hv6
      obtain ⟨rfl, -, rfl⟩ := hv6
      replace hA6 := hA6 (by omega)
      simp only [Option.some.injEq, Addr.mk.injEq] at hA6
      obtain ⟨rfl, -, -⟩ := hA6
      have kb0 : w15.cell? ⟨G15, 0, none⟩ = some (.int .i64 (a.X 0)) := by
        have z : w15.cell? ⟨G15, 0, none⟩ = some (.int .i64 (if 0 = a.n then kk else a.X 0)) := (hrow6 0 (by omega)).1
        rw [if_neg (by omega)] at z; exact z
      have kb1 := (hrow6 0 (by omega)).2
      have z15 : w.heap.size < w13.heap.size := World.block_lt_of_cell? _ _ h5
      have nG : w.heap.size ≠ G15 := by omega
      have nG2 : G15 ≠ w.heap.size := by omega
      have i5 := Gr.at gr15 h5; have i6 := Gr.at gr15 h6; have i7 := Gr.at gr15 h7
      replace hrow6 := Lib.hid hrow6
      clear hown15 hgrow15 hat15 ho4 k13 k14 h5 h6 h7
      have z4 : (0 : Int) < (a.n : Int) + 1 := by omega
      go_wp2_with fail
      (first | refine name_world ?_ | refine (show (∀ W, W = _ → Calls _ _ _ W _) → Calls _ _ _ _ _ from fun h => h _ rfl) ?_); intro W16 hW16
      have gr16 : Gr w13 W16 := by rw [hW16]; exact Gr.setCell gr15 (by simp only; omega) _
      have g16 := g13.trans gr16
      have hrow16 : Row W16 G15 (a.n + 1) (fun j => .int .i64 (if j = 0 then a.X 0 - kk else if j = a.n then kk else a.X j)) := by rw [hW16]; exact hrow6.out.set (by simp only [if_true]) (by intro j hj hne; simp only [hne, if_false])
      clear hW16 kb0 kb1 i5 i6 i7
      have hb16 : Ba.SlI.At W16 ⟨some ⟨G15, 0, none⟩, a.n + 1, cp15, G15, 0, fun i => if i = 0 then a.X 0 - kk else if i = a.n then kk else a.X i⟩ := ⟨fun _ => rfl, hc6, hm6, fun i hi => by
        have z := (hrow16 i hi).1
        refine ⟨by simp only [Nat.zero_add]; exact z, ?_⟩
        have y := (HAT.out.hX (if i = a.n then 0 else i) (by simp only at hi; split <;> omega)).2
        unfold Ba.i64 at y ⊢
        simp only
        split
        · omega
        · split
          · omega
          · rw [if_neg (by assumption)] at y; exact y⟩
      obtain ⟨bs, hbs⟩ := (show ∃ z, w13.ownsRow z 37 5 (.slice (some ⟨G13, 0, none⟩) (C.n + 1) cp13) (C.n + 1) (flatC C.D C.n ++ [.string ⟨#[111, 116, 104, 101, 114, 95, 116, 119, 105, 110, 95, 99, 108, 97, 115, 115]⟩, .int .i64 (C.D 0).se, .int .i64 (C.D 0).we, .int .i64 (C.D 0).ro, .int .i64 (C.D 0).dr]) from ⟨_, hown13.out⟩)
      have hown16 : W16.ownsRow bs 37 5 (.slice (some ⟨G13, 0, none⟩) (C.n + 1) cp13) (C.n + 1) (flatC (fun i => if i < C.n then C.D i else ⟨⟨#[111, 116, 104, 101, 114, 95, 116, 119, 105, 110, 95, 99, 108, 97, 115, 115]⟩, (C.D 0).se, (C.D 0).we, (C.D 0).ro, (C.D 0).dr⟩) (C.n + 1)) := by
        rw [flatC, flatC_congr (E := C.D) (fun i hi => by (try dsimp only); rw [if_pos hi])]
        simp only [Nat.lt_irrefl, if_false]
        exact ownsRow_gr hbs gr16
      obtain ⟨E, hEv, hE, hEn, hED⟩ := own_slc hown16 (fun i hi => by
        (try dsimp only)
        split
        · exact ((HCT.out.hD i (by assumption)).2.gr g16)
        · have z := (HCT.out.hD 0 (by omega)).2
          exact ⟨z.1, z.2.1, z.2.2.1, z.2.2.2.1, (show (16 : Nat) ≤ 9223372036854775807 by omega)⟩)
      simp only [Value.slice.injEq] at hEv
      obtain ⟨hE1, hE2, hE3⟩ := hEv
      have TWN : Ba.Twin C E kk a ⟨some ⟨G15, 0, none⟩, a.n + 1, cp15, G15, 0, fun i => if i = 0 then a.X 0 - kk else if i = a.n then kk else a.X i⟩ := ⟨hEn, rfl, fun i hi => by rw [hED]; simp only; rw [if_pos hi], by rw [hED]; simp only [Nat.lt_irrefl, if_false], by rw [hED]; simp only [Nat.lt_irrefl, if_false], by rw [hED]; simp only [Nat.lt_irrefl, if_false], by rw [hED]; simp only [Nat.lt_irrefl, if_false], by simp only [if_true], fun i h1 h2 => by simp only; rw [if_neg (by omega), if_neg (by omega)], by simp only; rw [if_neg (by omega), if_pos trivial]⟩
      rcases Ba.twin_err TWN he hkb with ⟨hx1, hx2⟩ | hx
      · have HSO : Calls Try.prog 12 #[.slice E.A E.n E.c, .slice (some ⟨G15, 0, none⟩) (a.n + 1) cp15, .agg #[.int .i64 s.fr, .int .i64 s.st, .slice s.ds.A s.ds.n s.ds.c]] W16 (RetDep E ⟨some ⟨G15, 0, none⟩, a.n + 1, cp15, G15, 0, fun i => if i = 0 then a.X 0 - kk else if i = a.n then kk else a.X i⟩ s W16) := dep_any E ⟨some ⟨G15, 0, none⟩, a.n + 1, cp15, G15, 0, fun i => if i = 0 then a.X 0 - kk else if i = a.n then kk else a.X i⟩ s W16 hE hb16 (HSER.out.gr g16)
        unfold RetDep at HSO
        rw [hx2] at HSO
        have HV := Lib.hid (fun W (hh : Gr W16 W) => rvalid_any E W (hE.gr hh))
        rw [hx1] at HV
        rw [← hE1, ← hE2, ← hE3] at HSO HV
        clear TWN hE hE1 hE2 hE3 hEn hED hb16 hrow16 hown16 hx1 hx2
        refine HSO.mono ?_
        rintro e w17 ⟨q17, rfl, -, -, -, hb17⟩
        clear HSO
        go_wp2_with fail
        refine (HV.out _ (by exact hb17)).mono ?_
        rintro e w18 ⟨rfl, hb18⟩
        go_wp2_with fail
        go_ret
        exact ⟨rfl, (g16.trans hb17).trans hb18⟩
      · have HSO : Calls Try.prog 12 #[.slice E.A E.n E.c, .slice (some ⟨G15, 0, none⟩) (a.n + 1) cp15, .agg #[.int .i64 s.fr, .int .i64 s.st, .slice s.ds.A s.ds.n s.ds.c]] W16 (fun e w' => ∃ (A : Option Addr) (c b oo : Nat), e = .returned (.tuple #[.slice A s.ds.n c, .int .i64 0]) ∧ Ba.SlI.At w' ⟨A, s.ds.n, c, b, oo, OS⟩ ∧ Gr W16 w') := by
          have z := dep_good E ⟨some ⟨G15, 0, none⟩, a.n + 1, cp15, G15, 0, fun i => if i = 0 then a.X 0 - kk else if i = a.n then kk else a.X i⟩ s W16 hE hb16 (HSER.out.gr g16) hx
          rw [show Ba.out E ⟨some ⟨G15, 0, none⟩, a.n + 1, cp15, G15, 0, fun i => if i = 0 then a.X 0 - kk else if i = a.n then kk else a.X i⟩ s = OS from by rw [← HOS.out]; funext j; exact Ba.out_twin TWN s hn1.1 han.out j] at z
          exact z
        rw [← hE1, ← hE2, ← hE3] at HSO
        clear TWN hE hE1 hE2 hE3 hEn hED hb16 hrow16 hown16 hx
        refine HSO.mono ?_
        rintro e w17 ⟨xA, xc, xb, xo, rfl, x1, hb17⟩
        clear HSO
        have g17 := g16.trans hb17
        have X1 := Lib.hid (fun W (hh : Gr w17 W) => lsum_any ⟨xA, s.ds.n, xc, xb, xo, OS⟩ W (x1.gr hh) hsd.out)
        have X2 := Lib.hid (fun W (hh : Gr w17 W) => lsum_any ⟨some ⟨rb, ro, none⟩, s.ds.n, rc, rb, ro, OS⟩ W (r1.out.gr ((gl.trans ((gb11_w10.trans gr13).trans (gr16.trans hb17))).trans hh)) hsd.out)
        clear x1
        simp only at X1 X2
        generalize Ba.sumI OS s.ds.n = SZ at *
        go_wp2_with fail
        refine (X1.out _ (by exact Gr.refl _)).mono ?_
        rintro e w18 ⟨rfl, hb18⟩
        go_wp2_with fail
        refine (X2.out _ (by exact hb18)).mono ?_
        rintro e w19 ⟨rfl, hb19⟩
        go_wp2_with fail
        go_ret
        exact ⟨by simp, (g17.trans hb18).trans hb19⟩

end Go.Proofs.Ytjighhphadfoiaa
