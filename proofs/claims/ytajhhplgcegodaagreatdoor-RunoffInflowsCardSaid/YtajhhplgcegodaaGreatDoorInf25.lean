/-
  Runoff: runoff.Dry, of what is right. (Printed by mkj.py.)
-/
import Derived.Test.YtajhhplgcegodaaGreatDoorInf24
import Derived.Test.YtajhhplgcegodaaGreatDoorInf02
import Derived.Deep.RegionLaw
import Derived.Deep.AppendLies
set_option linter.unusedVariables false
set_option linter.unusedSimpArgs false
namespace Go.Proofs.YtajhhplgcegodaaGreatDoor
open Go.RowKit
attribute [local go_sem ↓] Go.wp_at_zero Go.wp_at_succ
theorem GrY.grow {R M : Nat} {a b c : World} {base E size n : Nat} {v : Value} {xs : List Value} (h : GrY R M a b) (hb : a.heap.size ≤ base) (ho : b.ownsRow base E size v n xs) (hgr : b.grownBy c v.ownBlock) : GrY R M a c :=
  ⟨hgr.os.trans h.os, hgr.tape.trans h.tape, hgr.output.trans h.output, Nat.le_trans h.size hgr.size, fun k hk hR hM => (hgr.block k (Nat.lt_of_lt_of_le hk h.size) (fun e => by have := (ho.lt k (by first | exact e | exact e.symm)).1; omega)).trans (h.block k hk hR hM)⟩
theorem wrap_in (x : Int) (h : -9223372036854775808 ≤ x ∧ x ≤ 9223372036854775807) : IntKind.i64.wrap x = x := by rw [IntKind.wrap_i64]; omega
theorem GrY.keep {R M : Nat} {w w' : World} (h : GrY R M w w') {b o : Nat} {v : Value} (hR : b ≠ R) (hM : b ≠ M) (hc : Own w b o v) : Own w' b o v := by
  have hlt := World.block_lt_of_cell? w ⟨b, o, none⟩ hc.1
  have e := h.block b hlt hR hM
  exact ⟨(World.cell?_of_block (w := w) e).trans hc.1, (World.frozen?_of_block (w := w) (a := ⟨b, o, none⟩) e).trans hc.2⟩
theorem own_far {w : World} {base E size n B : Nat} {v : Value} {xs : List Value} (ho : w.ownsRow base E size v n xs) (hB : B < base) : some B ≠ v.ownBlock := fun e => by
  have := (ho.lt B (by first | exact e | exact e.symm)).1; omega
theorem ownsRow_set {w : World} {base E size n B o : Nat} {v u : Value} {xs : List Value} (h : w.ownsRow base E size v n xs) (hB : B < base) : (w.setCell ⟨B, o, none⟩ u).ownsRow base E size v n xs := by
  obtain ⟨hl, h | ⟨g, cap, cur, hv, hb, hc, r⟩⟩ := h
  · exact ⟨hl, Or.inl h⟩
  · exact ⟨hl, Or.inr ⟨g, cap, cur, hv, hb, (Below.heap_setCell _ _ _ _ (by simp only; omega)).trans hc, r⟩⟩
set_option maxRecDepth 100000 in
set_option maxHeartbeats 8000000 in
theorem dry_ok (nd : ByteArray) (A : Option Addr) (n c kk : Nat) (daily step : Int) (w : World) (hn1 : 1 ≤ n) (hn : n ≤ 1000) (hdv : Hid (86400 % (n : Int) = 0)) (hst : 1 ≤ step ∧ step ≤ 86400) (hk : kk ≤ 10000)
    (HN : Hid (∀ W, Calls Tryz.prog 76 #[.string nd] W fun e w' => e = .returned (.bool true) ∧ W = w'))
    (HV : Hid (∀ W, Gr w W → Calls Tryz.prog 94 #[.slice A n c] W fun e w' => e = .returned (.bool true) ∧ Gr W w'))
    (HW1 : Hid (∀ W, Calls Tryz.prog 95 #[.int .i64 daily, .int .i64 1099511627776] W fun e w' => e = .returned (.bool true) ∧ W = w'))
    (HW2 : Hid (∀ W, Calls Tryz.prog 95 #[.int .i64 (kk : Int), .int .i64 10000] W fun e w' => e = .returned (.bool true) ∧ W = w'))
    (Y : Nat → Int) (HSh : Hid (∀ W, Gr w W → Calls Tryz.prog 96 #[.int .i64 daily, .slice A n c] W fun e w' => ∃ s : Ba.SlI, e = .returned (.tuple #[.slice s.A s.n s.c, .int .i64 0]) ∧ s.At w' ∧ s.n = n ∧ (∀ i, i < n → s.X i = Y i) ∧ Gr W w'))
    (ln : Int) (hln : Hid (86400 / (n : Int) = ln)) (up : Nat → Int) (HUB : Hid (∀ j, j ≤ kk → 0 ≤ up j ∧ up j ≤ 4000000000000000000)) (HTB : Hid (∀ j : Nat, j ≤ kk → 0 ≤ (j : Int) * step ∧ (j : Int) * step ≤ 864000000)) (HT1 : Hid (∀ j : Nat, ((j + 1 : Nat) : Int) * step = ((j : Int) + 1) * step))
    (HU : Hid (∀ j, j ≤ kk → ∀ (s : Ba.SlI) (BL BD BP : Nat) (W : World), s.At W → s.n = n → (∀ i, i < n → s.X i = Y i) → W.cell? ⟨BL, 0, none⟩ = some (.int .i64 ln) → W.cell? ⟨BD, 0, none⟩ = some (.int .i64 daily) → W.cell? ⟨BP, 0, none⟩ = some (.slice s.A s.n s.c) → Calls Tryz.prog 97 #[.int .i64 ((j : Int) * step), .pointer (some ⟨BL, 0, none⟩), .pointer (some ⟨BD, 0, none⟩), .pointer (some ⟨BP, 0, none⟩)] W fun e w' => e = .returned (.int .i64 (up j)) ∧ Gr W w')) : Calls Tryz.prog 50 #[.string nd, .int .i64 daily, .slice A n c, .int .i64 step, .int .i64 (kk : Int)] w (fun e w' => ∃ r : Ba.SlI, e = .returned (.tuple #[.agg #[.string nd, .slice r.A r.n r.c], .int .i64 0]) ∧ r.At w' ∧ r.n = kk ∧ (∀ i, i < kk → r.X i = up (i + 1) - up i) ∧ Gr w w') := by

  obtain ⟨i1, hi0, hz0, hz1, hz2⟩ := info_parts info_int
  have KI := Lib.hid hi0; have KZ0 := Lib.hid hz0; have KZ1 := Lib.hid hz1; have KZ2 := Lib.hid hz2
  clear hi0 hz0 hz1 hz2
  have hdv' := hdv.out; have hln' := hln.out
  have nz : (n : Int) ≠ 0 := by omega
  go_enter Tryz.func50, Tryz.ntmps50
  go_wp2_with fail
  refine (HN.out _).mono ?_
  rintro e w2 ⟨rfl, rfl⟩
  go_wp2_with fail
  (first | refine name_world ?_ | refine (show (∀ W, W = _ → Calls _ _ _ W _) → Calls _ _ _ _ _ from fun h => h _ rfl) ?_); intro W1 hW1
  have g1 : Gr w W1 := by rw [hW1]; exact gr_auto
  have k1_0 : W1.cell? ⟨w.heap.size, 0, none⟩ = some (.int .i64 daily) := by rw [hW1]; simp [go_sem, *]
  have O1 : Own W1 (w.heap.size + 1) 0 (.string ⟨#[]⟩) := ⟨by rw [hW1]; simp [go_sem, *], by rw [hW1]; simp [go_sem, *]⟩
  have O2 : Own W1 (w.heap.size + 1) 1 (.slice none 0 0) := ⟨by rw [hW1]; simp [go_sem, *], by rw [hW1]; simp [go_sem, *]⟩
  clear hW1
  refine (HV.out _ g1).mono ?_
  rintro e w2 ⟨rfl, hb2⟩
  have g2 := g1.trans hb2
  replace k1_0 := Gr.at hb2 k1_0; replace O1 := O1.gr hb2; replace O2 := O2.gr hb2
  clear HV
  go_wp2_with fail
  refine (HW1.out _).mono ?_
  rintro e w3 ⟨rfl, rfl⟩
  go_wp2_with fail
  refine (HW2.out _).mono ?_
  rintro e w3 ⟨rfl, rfl⟩
  go_wp2_with fail
  refine (HSh.out _ (by exact g2)).mono ?_
  rintro e w5 ⟨s, rfl, s1, s2, s3, hb5⟩
  have g5 := g2.trans hb5
  replace k1_0 := Gr.at hb5 k1_0; replace O1 := O1.gr hb5; replace O2 := O2.gr hb5
  clear HSh HN HW1 HW2
  obtain ⟨sA, sn, sc, sb, so, sX⟩ := s
  simp only at s1 s2 s3
  subst s2
  have HS1 := Lib.hid s1; have HS3 := Lib.hid s3
  clear s1 s3
  have k0 := k1_0; have o10 := O1.1; have o11 := O1.2; have o20 := O2.1; have o21 := O2.2
  have zB := World.block_lt_of_cell? _ _ o10
  simp only at zB
  go_wp2_with fail
  (first | refine name_world ?_ | refine (show (∀ W, W = _ → Calls _ _ _ W _) → Calls _ _ _ _ _ from fun h => h _ rfl) ?_); intro W6 hW6
  have gs6 : Gr w5 W6 := by rw [hW6]; exact gr_auto
  have cP : W6.cell? ⟨w5.heap.size, 0, none⟩ = some (.slice sA sn sc) := by rw [hW6]; simp [go_sem, *]
  have cL : W6.cell? ⟨w5.heap.size + 1, 0, none⟩ = some (.int .i64 ln) := by rw [hW6]; simp [go_sem, *]
  have P1 : Own W6 (w5.heap.size + 1 + 1) 0 (.string nd) := ⟨by rw [hW6]; simp [go_sem, *], by rw [hW6]; simp [go_sem, *]⟩
  have P2 : Own W6 (w5.heap.size + 1 + 1) 1 (.slice none 0 0) := ⟨by rw [hW6]; simp [go_sem, *], by rw [hW6]; simp [go_sem, *]⟩
  have nB : w5.heap.size + 1 + 1 < W6.heap.size := World.block_lt_of_cell? _ _ P1.1
  have nw : w.heap.size < w5.heap.size + 1 + 1 := by omega
  have nw1 : w.heap.size + 1 < w5.heap.size + 1 + 1 := by omega
  clear hW6
  replace k1_0 := Gr.at gs6 k1_0; replace O1 := O1.gr gs6; replace O2 := O2.gr gs6
  have HS6 := Lib.hid (HS1.out.gr gs6)
  have g6 := g5.trans gs6
  have HP := Lib.hid (And.intro P1 P2)
  have HO12 := Lib.hid (And.intro O1 O2)
  have HU6 := Lib.hid (fun j hj W (hW : GrY (w5.heap.size + 1 + 1) (w5.heap.size + 1 + 1) W6 W) (hsA : Ba.SlI.At W ⟨sA, sn, sc, sb, so, sX⟩) => HU.out j hj ⟨sA, sn, sc, sb, so, sX⟩ (w5.heap.size + 1) w.heap.size w5.heap.size W hsA rfl HS3.out (GrY.at hW (by omega) (by omega) cL) (GrY.at hW (by omega) (by omega) k1_0) (GrY.at hW (by omega) (by omega) cP))
  have hsb : sb ≠ w5.heap.size + 1 + 1 ∨ sn = 0 := by
    rcases Nat.eq_zero_or_pos sn with q | q
    · exact .inr q
    · refine .inl ?_
      have := World.block_lt_of_cell? _ _ (HS1.out.hX 0 q).1
      simp only at this
      omega
  have HSY := Lib.hid (fun W (hW : GrY (w5.heap.size + 1 + 1) (w5.heap.size + 1 + 1) W6 W) => show Ba.SlI.At W ⟨sA, sn, sc, sb, so, sX⟩ from ⟨HS6.out.hA, HS6.out.hc, HS6.out.hb, fun i hi => ⟨GrY.at hW (by simp only at hi ⊢; omega) (by simp only at hi ⊢; omega) (HS6.out.hX i hi).1, (HS6.out.hX i hi).2⟩⟩)
  clear HU HS1 HS6 cL cP k1_0 k0 o10 o11 o20 o21 O1 O2 P1 P2 hsb HS3
  generalize w5.heap.size + 1 + 1 = BO at *
  go_loopw [69] (fun x wr => ∃ i : Nat, i ≤ kk ∧ x = .int .i64 (i : Int) ∧ (∃ va, Hid (Own wr BO 1 va) ∧ Hid (wr.ownsRow W6.heap.size 3 1 va i ((List.range i).map fun i => .int .i64 (up (i + 1) - up i)))) ∧ Hid (Own wr BO 0 (.string nd)) ∧ GrY BO BO W6 wr) (fun x _ => kk - (intOf x).toNat)
  case atStart => exact ⟨0, Nat.zero_le _, rfl, ⟨_, Lib.hid HP.out.2, Lib.hid ⟨rfl, Or.inl ⟨rfl, rfl⟩⟩⟩, Lib.hid HP.out.1, GrY.refl _ _ _⟩
  case round =>
    clear HP hln' hdv'
    obtain ⟨i, hi, rfl, ⟨va, HC, HO⟩, HD0, hg⟩ := hrel
    by_cases hlt : i < kk
    · have t0 := HTB.out i hi; have t1 := HTB.out (i + 1) hlt
      rw [HT1.out] at t1
      have HU1 := Lib.hid (fun W (hW : Gr wr W) => HU6.out (i + 1) hlt W (hg.gr hW) (HSY.out W (hg.gr hW)))
      have HU0 := Lib.hid (fun W (hW : Gr wr W) => HU6.out i hi W (hg.gr hW) (HSY.out W (hg.gr hW)))
      rw [HT1.out] at HU1
      have ub0 := HUB.out i hi; have ub1 := HUB.out (i + 1) hlt
      obtain ⟨un, hun⟩ : ∃ z, up (i + 1) = z := ⟨_, rfl⟩
      obtain ⟨uo, huo⟩ : ∃ z, up i = z := ⟨_, rfl⟩
      rw [hun] at HU1 ub1
      rw [huo] at HU0 ub0
      have HUN := Lib.hid hun; have HUO := Lib.hid huo
      have ew1 : IntKind.i64.wrap (IntKind.i64.wrap ((i : Int) + 1) * step) = ((i : Int) + 1) * step := by rw [wrap_in ((i : Int) + 1) (by omega), wrap_in _ (by omega)]
      have ew0 : IntKind.i64.wrap ((i : Int) * step) = (i : Int) * step := wrap_in _ (by omega)
      have HDN := Lib.hid (wrap_in (un - uo) (by omega))
      rw [← ew1] at HU1
      rw [← ew0] at HU0
      clear ew1 ew0
      have c1 := HC.out.1; have f1 := HC.out.2; have d1 := HD0.out.1; have df1 := HD0.out.2
      have hfar : some BO ≠ va.ownBlock := own_far HO.out nB
      have bw := hg.size
      have bBO := World.block_lt_of_cell? _ _ c1
      simp only at bBO
      clear HU6 HSY HUB HTB HT1 hun huo HC HD0
      generalize w5.heap.size = B5 at *
      generalize w.heap.size = B0 at *
      go_wp2_with fail
      go_region_law (first | (go_simp; go_at_call_of 97 (Value.int IntKind.i64 (IntKind.i64.wrap (IntKind.i64.wrap ((i : Int) + 1) * step))); refine (HU1.out _ gr_auto).mono ?_; rintro e w21 ⟨rfl, hb21⟩; have c21 := Gr.at (w1 := w21) (show Gr wr w21 from gr_auto) c1; have z21 := Gr.size (show Gr wr w21 from gr_auto); have n21 : BO ≠ w21.heap.size := Nat.ne_of_lt (Nat.lt_of_lt_of_le bBO z21); have l21 : BO < w21.heap.size := Nat.lt_of_lt_of_le bBO z21) | (go_simp; go_at_call_of 97 (Value.int IntKind.i64 (IntKind.i64.wrap ((i : Int) * step))); refine (HU0.out _ gr_auto).mono ?_; rintro e w22 ⟨rfl, hb22⟩; have c22 := Gr.at (w1 := w22) (show Gr wr w22 from gr_auto) c1; have z22 := Gr.size (show Gr wr w22 from gr_auto); have n22 : BO ≠ w22.heap.size := Nat.ne_of_lt (Nat.lt_of_lt_of_le bBO z22); have l22 : BO < w22.heap.size := Nat.lt_of_lt_of_le bBO z22) | (refine step_append_lies _ (by rfl) _ _ 26 (by rfl) W6.heap.size 3 i1 (.int .i64 0) 1 8 Tryz.underlying26 KI.out KZ0.out KZ1.out KZ2.out rfl (by decide) va i ((List.range i).map fun i => .int .i64 (up (i + 1) - up i)) (by rfl) (ownsRow_gr HO.out (by exact gr_auto)) ⟨w22.heap.size, 0, none⟩ 1 1 [.int .i64 (IntKind.i64.wrap (un - uo))] (by rfl) rfl (by intro p u hp; rcases p with _ | p <;> simp at hp <;> (try subst hp) <;> first | (simp [Addr.add, go_sem]; done) | (simp [Addr.add]; done)) (by intro u hu; simp at hu; subst hu; rfl) (by omega) (by unfold maxLen; omega) (by omega) (by simp; omega) _ rfl ?_; intro g9 cp9 w9 hown9 hgrow9 hat9 hlt9; have c9 : w9.cell? ⟨BO, 1, none⟩ = some va := (hgrow9.cell_far ⟨BO, 1, none⟩ (by simp; omega) hfar).trans (Gr.at (show Gr wr _ from gr_auto) c1); have f9 : w9.frozen? ⟨BO, 1, none⟩ = false := (hgrow9.frozen_far ⟨BO, 1, none⟩ (by simp; omega) hfar).trans (Gr.free (show Gr wr _ from gr_auto) c1 f1); have gy9 : GrY BO BO W6 w9 := GrY.grow (base := W6.heap.size) (GrY.gr hg (show Gr wr _ from gr_auto)) (Nat.le_refl _) (ownsRow_gr HO.out (show Gr wr _ from gr_auto)) hgrow9; have hd9 : Own w9 BO 0 (.string nd) := ⟨(hgrow9.cell_far ⟨BO, 0, none⟩ (by simp; omega) hfar).trans (Gr.at (show Gr wr _ from gr_auto) d1), (hgrow9.frozen_far ⟨BO, 0, none⟩ (by simp; omega) hfar).trans (Gr.free (show Gr wr _ from gr_auto) d1 df1)⟩))
      all_goals
        have HOn := Lib.hid (show (w9.setCell ⟨BO, 1, none⟩ (.slice (some ⟨g9, 0, none⟩) (i + 1) cp9)).ownsRow W6.heap.size 3 1 (.slice (some ⟨g9, 0, none⟩) (i + 1) cp9) (i + 1) ((List.range (i + 1)).map fun i => .int .i64 (up (i + 1) - up i)) from ownsRow_set (by rw [List.range_succ, List.map_append, List.map_cons, List.map_nil, HUN.out, HUO.out, ← HDN.out]; exact hown9) nB)
        have HCn := Lib.hid (show Own (w9.setCell ⟨BO, 1, none⟩ (.slice (some ⟨g9, 0, none⟩) (i + 1) cp9)) BO 1 (.slice (some ⟨g9, 0, none⟩) (i + 1) cp9) from Own.set ⟨c9, f9⟩)
        have HDn := Lib.hid (show Own (w9.setCell ⟨BO, 1, none⟩ (.slice (some ⟨g9, 0, none⟩) (i + 1) cp9)) BO 0 (.string nd) from Own.other hd9 (Or.inr (by decide)))
        have gyn := GrY.setCell gy9 (p := ⟨BO, 1, none⟩) rfl (.slice (some ⟨g9, 0, none⟩) (i + 1) cp9)
        clear hown9 hgrow9 hat9 hd9 c9 f9 gy9 HU1 HU0
        go_wp2_with fail
        go_roundw
        case rel => exact ⟨i + 1, by omega, by go_num, ⟨_, HCn, HOn⟩, HDn, gyn⟩
        case measure => simp [intOf]; omega
    · obtain rfl : kk = i := by omega
      clear HU6 HSY HTB HT1
      have c1 := HC.out.1; have f1 := HC.out.2; have d1 := HD0.out.1; have df1 := HD0.out.2
      have r0 := GrY.keep hg (by omega) (by omega) HO12.out.1; have r1 := GrY.keep hg (by omega) (by omega) HO12.out.2
      have e0 := r0.1; have e1 := r0.2; have e2 := r1.1; have e3 := r1.2
      have nq : BO ≠ w.heap.size + 1 := by omega
      clear r0 r1
      have hbo : ∀ i, i < kk → Ba.i64 (up (i + 1) - up i) := fun i hi => by
        have h1 := HUB.out i (by omega); have h2 := HUB.out (i + 1) (by omega)
        unfold Ba.i64; omega
      obtain ⟨A9, c9, b9, rfl, q1, q2, q3, q4⟩ := ownsRow_at HO.out
      clear q1 q2 q3 q4
      have HOf := Lib.hid (own_sli (ownsRow_set (B := w.heap.size + 1) (o := 1) (u := .slice A9 kk c9) (ownsRow_set (B := w.heap.size + 1) (o := 0) (u := .string nd) HO.out (by omega)) (by omega)) hbo)
      have gf : Gr w ((wr.setCell ⟨w.heap.size + 1, 0, none⟩ (.string nd)).setCell ⟨w.heap.size + 1, 1, none⟩ (.slice A9 kk c9)) := Gr.setCell (Gr.setCell (GrY.below g6 (by omega) (by omega) hg) (by simp) _) (by simp) _
      have u0 : (wr.setCell ⟨w.heap.size + 1, 0, none⟩ (.string nd)).cell? ⟨w.heap.size + 1, 0, none⟩ = some (.string nd) := (Own.set (o := 0) ⟨e0, e1⟩).1
      have u1 : ((wr.setCell ⟨w.heap.size + 1, 0, none⟩ (.string nd)).setCell ⟨w.heap.size + 1, 1, none⟩ (.slice A9 kk c9)).cell? ⟨w.heap.size + 1, 1, none⟩ = some (.slice A9 kk c9) := (Own.set (Own.other (o := 1) (o' := 0) ⟨e2, e3⟩ (Or.inr (by decide)))).1
      clear hbo HC HO HD0 HO12 HUB
      go_wp2_with fail
      refine bodyPost_ret (by simp [results, Tryz.results50, go_sem, u0, u1]; try rfl) rfl ?_
      obtain ⟨s, hs, s1, s2, s3⟩ := HOf.out
      simp only [Value.slice.injEq] at hs
      obtain ⟨h1, h2, h3⟩ := hs
      exact ⟨s, by rw [← h1, ← h2, ← h3], s1, s2, fun i hi => s3 i (by omega), gf⟩
end Go.Proofs.YtajhhplgcegodaaGreatDoor
