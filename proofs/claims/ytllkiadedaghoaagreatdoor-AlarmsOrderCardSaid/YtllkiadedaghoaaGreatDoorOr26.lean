/-
  Alarms: alarm. Typed.
  Alarms: the walk of telemetry.Valid. Typed. (UNDER WAY)
  Alarms: valid lists of messages; telemetry.Sorted. Typed.
-/
import Derived.Test.YtllkiadedaghoaaGreatDoorOr25
import Derived.Test.YtllkiadedaghoaaGreatDoorOr23
import Derived.Test.YtllkiadedaghoaaGreatDoorOr10
import Derived.Test.YtllkiadedaghoaaGreatDoorOr24
import Derived.Test.YtllkiadedaghoaaGreatDoorOr18

set_option linter.unusedVariables false
set_option linter.unusedSimpArgs false
namespace Go.Proofs.YtllkiadedaghoaaGreatDoor
open Go.RowKit
attribute [local go_sem ↓] Go.wp_at_zero Go.wp_at_succ
theorem infoI : (Tryz.prog.info? 3).map (fun i => (i.zero, i.size, i.bytes)) = some (some (.int .i64 0), 1, 8) := by kernel_rfl
set_option maxRecDepth 100000 in
set_option maxHeartbeats 4000000 in
theorem alarm_w (kd : Int) (A : Option Addr) (n c b o : Nat) (D : Nat → Al.M) (ln : ByteArray) (lt : Int) (w : World) (hA : A = some ⟨b, o, none⟩) (hn : n ≤ 1000000) (hc : n ≤ c) (h0 : 0 < n) (hl : (D (n - 1)).nd = ln ∧ (D (n - 1)).tm = lt) (hD : Hid (∀ i, i < n → (D i).Cells w b (o + i * 5))) :
    Calls Tryz.prog 109 #[.int .i64 kd, .slice A n c] w fun e w' => ∃ v, e = .returned (.agg #[.int .i64 kd, .string ln, .int .i64 lt, v]) ∧ w'.ownsRow w.heap.size 3 1 v n ((List.range n).map fun i => .int .i64 (D i).nu) ∧ Gr w w' := by
  obtain ⟨i1, k0, k1, k2, k3⟩ := info_parts infoI
  have KI := Lib.hid k0; have KZ0 := Lib.hid k1; have KZ1 := Lib.hid k2; have KZ2 := Lib.hid k3
  clear k0 k1 k2 k3
  subst hA
  obtain ⟨q0, q1, q2, q3, q4⟩ := hD.out (n - 1) (by omega)
  rw [hl.1] at q0; rw [hl.2] at q2
  clear hl
  generalize (D (n - 1)).nu = lu at *; generalize (D (n - 1)).ar = la at *; generalize (D (n - 1)).lv = ll at *
  obtain ⟨m, hm⟩ : ∃ m, n - 1 = m := ⟨_, rfl⟩
  rw [hm] at q0 q1 q2 q3 q4
  have ib0 : (0 : Int) ≤ (m : Int) := by omega
  have ib1 : (m : Int) < (n : Int) := by omega
  have ib2 : (n : Int) - 1 = (m : Int) := by omega
  have bb : b < w.heap.size := World.block_lt_of_cell? w _ q0
  have HM := Lib.hid hm
  clear hm
  go_enter Tryz.func109, Tryz.ntmps109
  go_wp2_with fail
  refine name_world ?_
  intro W6 hW6
  have g6 : Gr w W6 := by rw [hW6]; exact gr_auto
  have P0 : Own W6 (w.heap.size + 1 + 1) 0 (.int .i64 kd) := by rw [hW6]; exact ⟨by simp [go_sem], by simp [go_sem]⟩
  have P1 : Own W6 (w.heap.size + 1 + 1) 1 (.string ln) := by rw [hW6]; exact ⟨by simp [go_sem], by simp [go_sem]⟩
  have P2 : Own W6 (w.heap.size + 1 + 1) 2 (.int .i64 lt) := by rw [hW6]; exact ⟨by simp [go_sem], by simp [go_sem]⟩
  have P3 : Own W6 (w.heap.size + 1 + 1) 3 (.slice none 0 0) := by rw [hW6]; exact ⟨by simp [go_sem], by simp [go_sem]⟩
  have R0 : Own W6 w.heap.size 0 (.int .i64 0) := by rw [hW6]; exact ⟨by simp [go_sem], by simp [go_sem]⟩
  have R1 : Own W6 w.heap.size 1 (.string ⟨#[]⟩) := by rw [hW6]; exact ⟨by simp [go_sem], by simp [go_sem]⟩
  have R2 : Own W6 w.heap.size 2 (.int .i64 0) := by rw [hW6]; exact ⟨by simp [go_sem], by simp [go_sem]⟩
  have R3 : Own W6 w.heap.size 3 (.slice none 0 0) := by rw [hW6]; exact ⟨by simp [go_sem], by simp [go_sem]⟩
  clear hW6 q0 q1 q2 q3 q4 ib0 ib1 ib2
  have nB : w.heap.size + 1 + 1 < W6.heap.size := World.block_lt_of_cell? _ _ P0.1
  obtain ⟨BO, hBO⟩ : ∃ B, B = w.heap.size + 1 + 1 := ⟨_, rfl⟩
  rw [← hBO] at P0 P1 P2 P3 nB ⊢
  have hB1 : w.heap.size < BO := by omega
  clear hBO
  replace P0 := Lib.hid P0; replace P1 := Lib.hid P1; replace P2 := Lib.hid P2; replace P3 := Lib.hid P3
  replace R0 := Lib.hid R0; replace R1 := Lib.hid R1; replace R2 := Lib.hid R2; replace R3 := Lib.hid R3
  go_loopw [23] (fun x wr => ∃ k : Nat, k ≤ n ∧ x = .int .i64 (k : Int) ∧ (∃ va, Hid (Own wr BO 3 va) ∧ Hid (wr.ownsRow W6.heap.size 3 1 va k ((List.range k).map fun i => .int .i64 (D i).nu))) ∧ Hid (Own wr BO 0 (.int .i64 kd)) ∧ Hid (Own wr BO 1 (.string ln)) ∧ Hid (Own wr BO 2 (.int .i64 lt)) ∧ GrY BO BO W6 wr) (fun x _ => n - (intOf x).toNat)
  case atStart => exact ⟨0, Nat.zero_le _, rfl, ⟨_, P3, Lib.hid ⟨rfl, Or.inl ⟨rfl, rfl⟩⟩⟩, P0, P1, P2, GrY.refl _ _ _⟩
  case round =>
    clear P0 P1 P2 P3
    obtain ⟨k, hk, rfl, ⟨va, HC, HO⟩, HD0, HD1, HD2, hg⟩ := hrel
    have gw : Gr w wr := GrY.below g6 (by omega) (by omega) hg
    by_cases hlt : k < n
    · have ib0 : (0 : Int) ≤ (k : Int) := by omega
      have ib1 : (k : Int) < (n : Int) := by omega
      obtain ⟨d0, d1, d2, d3, d4⟩ := (hD.out k hlt).gr gw
      have c3 := HC.out.1
      have hfar : some BO ≠ va.ownBlock := own_far HO.out nB
      have bw := hg.size
      have bB : BO < wr.heap.size := by omega
      have bb2 : b < wr.heap.size := by omega
      clear R0 R1 R2 R3 hD HM
      obtain ⟨mk, hmk⟩ : ∃ z, (D k).nu = z := ⟨_, rfl⟩
      rw [hmk] at d1
      replace hmk := Lib.hid hmk
      generalize (D k).nd = xn at *; generalize (D k).tm = xt at *; generalize (D k).ar = xa at *; generalize (D k).lv = xl at *
      go_wp2_with (at_builtin; refine wpList_append_own _ rfl _ _ 29 rfl W6.heap.size 3 i1 (.int .i64 0) 1 8 Tryz.underlying29 KI.out KZ0.out KZ1.out KZ2.out rfl (by decide) _ k ((List.range k).map fun i => .int .i64 (D i).nu) rfl (ownsRow_gr HO.out (by exact gr_auto)) ⟨wr.heap.size + 1, 0, none⟩ 1 1 [.int .i64 mk] rfl rfl (by intro p u hp; rcases p with _ | p <;> simp at hp <;> (try subst hp) <;> first | (simp [Addr.add, go_sem]; done) | (simp [Addr.add]; done)) (by intro u hu; simp at hu; subst hu; rfl) (by unfold maxLen; omega) (by omega) (by simp; omega) ?_)
      intro v' w9 hown' hgrow hnil
      obtain ⟨A9, cc9, g9, hv9, -⟩ := ownsRow_atn hown'
      subst hv9
      have gx8 := Gr.alloc (Gr.alloc (Gr.refl wr) (Obj.cells #[.string xn, .int .i64 mk, .int .i64 xt, .int .i64 xa, .int .i64 xl] 53)) (Obj.cells #[.int .i64 mk] 3)
      have C9 := own_grow (HC.out.gr gx8) hgrow hfar; have D9 := own_grow (HD0.out.gr gx8) hgrow hfar; have E9 := own_grow (HD1.out.gr gx8) hgrow hfar; have F9 := own_grow (HD2.out.gr gx8) hgrow hfar
      have HCn := Lib.hid (show Own (w9.setCell ⟨BO, 3, none⟩ (.slice A9 (k + 1) cc9)) BO 3 (.slice A9 (k + 1) cc9) from C9.set)
      have HDn := Lib.hid (D9.other (b' := BO) (o' := 3) (u := .slice A9 (k + 1) cc9) (Or.inr (by decide))); have HEn := Lib.hid (E9.other (b' := BO) (o' := 3) (u := .slice A9 (k + 1) cc9) (Or.inr (by decide))); have HFn := Lib.hid (F9.other (b' := BO) (o' := 3) (u := .slice A9 (k + 1) cc9) (Or.inr (by decide)))
      have HOn := Lib.hid (show (w9.setCell ⟨BO, 3, none⟩ (.slice A9 (k + 1) cc9)).ownsRow W6.heap.size 3 1 (.slice A9 (k + 1) cc9) (k + 1) ((List.range (k + 1)).map fun i => .int .i64 (D i).nu) from ownsRow_set (by rw [List.range_succ, List.map_append, List.map_cons, List.map_nil, hmk.out]; exact hown') nB)
      have HGn := Lib.hid (GrY.setCell (p := ⟨BO, 3, none⟩) (GrY.grow (hg.gr gx8) (Nat.le_refl _) (ownsRow_gr HO.out gx8) hgrow) rfl (.slice A9 (k + 1) cc9))
      have c9 := C9.1; have f9 := C9.2
      clear C9 D9 E9 F9 hown' hgrow hnil HO HC HD0 HD1 HD2
      go_wp2_with fail
      go_roundw
      case rel => exact ⟨k + 1, by omega, by go_num, ⟨_, HCn, HOn⟩, HDn, HEn, HFn, HGn.out⟩
      case measure => simp [intOf]; omega
    · obtain rfl : n = k := by omega
      have K0 := hg.keep (by omega) (by omega) R0.out; have K1 := hg.keep (by omega) (by omega) R1.out; have K2 := hg.keep (by omega) (by omega) R2.out; have K3 := hg.keep (by omega) (by omega) R3.out
      obtain ⟨x0, f0⟩ := K0; obtain ⟨x1, f1⟩ := K1; obtain ⟨x2, f2⟩ := K2; obtain ⟨x3, f3⟩ := K3
      have d0 := HD0.out.1; have d1 := HD1.out.1; have d2 := HD2.out.1; have d3 := HC.out.1
      have HRow := Lib.hid HO.out
      have bw := hg.size
      have bB : BO < wr.heap.size := by omega
      have bR : w.heap.size < wr.heap.size := by omega
      clear R0 R1 R2 R3 HD0 HD1 HD2 HC HO hD HM
      obtain ⟨A9, cc9, g9, hv9, z1, z2, z3, z4, z5⟩ := ownsRow_atn HRow.out
      subst hv9
      clear z1 z2 z3 z4 z5
      go_wp2_with fail
      refine bodyPost_ret (by simp [results, Tryz.results109, go_sem, x0, x1, x2, x3, f0, f1, f2, f3]; try rfl) rfl ?_
      have hr4 : w.heap.size < W6.heap.size := by omega
      refine ⟨_, rfl, ownsRow_base (ownsRow_set (ownsRow_set (ownsRow_set (ownsRow_set HRow.out hr4) hr4) hr4) hr4) (by omega), ?_⟩
      exact GrX.gr gw (Nat.le_refl _) (show GrX w.heap.size wr _ from (by repeat' (first | (with_reducible assumption) | (with_reducible exact GrX.refl _ _) | (with_reducible refine GrX.drew ?_) | (with_reducible refine GrX.drewN ?_ _) | (with_reducible refine GrX.setCell ?_ ?_ _) | (rfl; done) | (with_reducible refine GrX.alloc ?_ _) | (with_reducible refine GrX.grown ?_ (by with_reducible assumption)))))
/-- alarm: an alarm that messages explain; its numbers lie in a block of their own. -/
theorem alarm_any (kd : Int) (s : Al.SlM) (w : World) (h : s.At w) (h0 : 0 < s.n) (hn : s.n ≤ 1000000) :
    Calls Tryz.prog 109 #[.int .i64 kd, .slice s.A s.n s.c] w fun e w' => ∃ a : Al.A, e = .returned (.agg a.enc.toArray) ∧ a.con = Al.alm kd s.lst ∧ a.Own w' ∧ Gr w w' := by
  refine (alarm_w kd s.A s.n s.c s.b s.o s.D _ _ w (h.hA h0) hn h.hc h0 ⟨rfl, rfl⟩ (Lib.hid fun i hi => (h.hD i hi).1)).mono ?_
  rintro e w' ⟨v, rfl, hr, hg⟩
  have hr' := hr
  obtain ⟨hl, ⟨-, z⟩ | ⟨g, cap, cur, rfl, hb, hc, hn', hm, r⟩⟩ := hr
  · omega
  · have hlast : s.lst.getLast?.getD default = s.D (s.n - 1) := by
      unfold Al.SlM.lst
      rw [List.getLast?_map, List.getLast?_range, if_neg (by omega)]
      rfl
    refine ⟨⟨kd, (s.D (s.n - 1)).nd, (s.D (s.n - 1)).tm, some ⟨g, 0, none⟩, g, 0, s.n, cap, fun i => (s.D i).nu⟩, rfl, ?_, ⟨⟨show s.n ≤ 9223372036854775807 by omega, fun _ => rfl, fun i hi => ?_⟩, ⟨_, _, hc⟩, h0⟩, hg⟩
    · unfold Al.alm Al.A.con
      simp only [hlast, Al.C.mk.injEq, true_and]
      unfold Al.SlM.lst Al.lst
      rw [List.map_map]
      rfl
    · simp only at hi ⊢
      rw [Nat.zero_add]
      have := hr'.cellAt i (by omega)
      rw [this]
      simp [hi]
end Go.Proofs.YtllkiadedaghoaaGreatDoor
set_option linter.unusedVariables false
set_option linter.unusedSimpArgs false
namespace Go.Proofs.YtllkiadedaghoaaGreatDoor
open Go.RowKit Go.Maps
attribute [local go_sem ↓] Go.wp_at_zero Go.wp_at_succ
theorem zero_bool (w : World) : (zeroValue 4).run Tryz.prog w = .ok (.bool false) w := by kernel_rfl
set_option maxRecDepth 100000 in
set_option maxHeartbeats 4000000 in
theorem tvalid_any (s : Al.SlM) (w : World) (h : s.At w) : Calls Tryz.prog 57 #[.slice s.A s.n s.c] w fun e w' => e = .returned (.bool s.vB) ∧ Gr w w' := by
  unfold Al.SlM.vB
  have hn9 : s.n ≤ 9223372036854775807 := Nat.le_trans h.hc h.hb
  have HA := Lib.hid h.hA; have HX := Lib.hid h.hD
  have HR := Lib.hid (fun m W (hm : Al.M.Ok m) => right_any m W hm)
  have HK := Lib.hid (fun m W => keyof_any m W)
  have hmm := @run_makeMap Tryz.prog
  clear h
  cases s with | mk A n c b o D =>
  simp only [] at *
  by_cases hb : 10000 < n
  · have e : decide (n ≤ 10000) = false := decide_eq_false (by omega)
    have hb' : (10000 : Int) < (n : Int) := by omega
    rw [e, Bool.false_and]
    clear HA HX HR HK e
    go_enter Tryz.func57, Tryz.ntmps57
    go_wp2_with fail
    go_ret
    exact ⟨rfl, gr_auto⟩
  · have e : decide (n ≤ 10000) = true := decide_eq_true (by omega)
    have hb' : (n : Int) ≤ 10000 := by omega
    rw [e, Bool.true_and]
    have HE := Lib.hid (fun i (hi : i < n) (h : Al.msB D (i + 1) = false) => Al.msB_no h hi)
    obtain ⟨r, hr⟩ : ∃ r, r = Al.msB D n := ⟨_, rfl⟩
    rw [← hr] at HE ⊢
    have HRr := Lib.hid hr
    clear e hr
    go_enter Tryz.func57, Tryz.ntmps57
    go_wp2_with fail
    go_loopw [12] (fun x wr => ∃ i : Nat, i ≤ n ∧ x = .int .i64 (i : Int) ∧ Hid (Al.msB D i = true) ∧ Hid (MapIs Tryz.prog 126 wr w.heap.size i (Al.setF (Al.kP D i))) ∧ Gr w wr) (fun x _ => n - (intOf x).toNat)
    case atStart => exact ⟨0, Nat.zero_le _, rfl, Lib.hid rfl, Lib.hid (show MapIs Tryz.prog 126 (w.alloc (.map #[] 0)) w.heap.size 0 (Al.setF (Al.kP D 0)) from by rw [Al.kP_nil]; exact MapIs.made _ _ _), gr_auto⟩
    case round =>
      obtain ⟨i, hi, rfl, HQ, HM, hg⟩ := hrel
      by_cases hlt : i < n
      · obtain rfl := HA.out (by omega)
        obtain ⟨hc, hok⟩ := HX.out i hlt
        obtain ⟨a0, a1, a2, a3, a4⟩ := hc.gr hg
        have ib0 : (0 : Int) ≤ (i : Int) := by omega
        have ib1 : (i : Int) < (n : Int) := by omega
        have HRi := Lib.hid (fun W => HR.out (D i) W hok)
        have HKi := Lib.hid (fun W => HK.out (D i) W)
        have HF := Lib.hid (fun (hx : (Al.mOk (D i) && !Al.hasK D (D i).nd (D i).nu i) = false) => HE.out i hlt (by rw [Al.msB, HQ.out, hx]; rfl))
        have HT := Lib.hid (fun (hx : (Al.mOk (D i) && !Al.hasK D (D i).nd (D i).nu i) = true) => show Al.msB D (i + 1) = true from by rw [Al.msB, HQ.out, hx]; rfl)
        have HD := Lib.hid (Al.setF_of (Al.kP_iff (D := D) (i := i) (a := (D i).nd) (b := (D i).nu)))
        have HN := Lib.hid (show Al.setF (Al.kP D (i + 1)) = Al.setF (fun x => Al.kP D i x ∨ x = Al.kM (D i).nd (D i).nu) from Al.setF_congr Al.kP_next)
        have HL := key_msg hok.nd hok.nu
        obtain ⟨kl, HL⟩ := HL
        have HLk := Lib.hid HL
        have HOk := Lib.hid hok
        have hMlt := HM.out.lt
        clear hc hok HL HX HR HK HE HQ HA
        unfold Al.M.enc at HRi HKi
        generalize Al.hasK D (D i).nd (D i).nu i = dup at *
        generalize Al.mOk (D i) = ok at *
        obtain ⟨F1, hF1⟩ : ∃ F, F = Al.setF (Al.kP D (i + 1)) := ⟨_, rfl⟩
        obtain ⟨F0, hF0⟩ : ∃ F, F = Al.setF (Al.kP D i) := ⟨_, rfl⟩
        generalize D i = d at *
        cases ok
        · have hr := HF.out (by simp)
          have HR2 := Lib.hid hr
          clear hr HF HT HD HN HKi HM HLk
          go_wp2_with fail
          refine (HRi.out _).mono ?_
          rintro e w1 ⟨rfl, hb1⟩
          go_wp2_with fail
          go_ret
          exact ⟨by rw [HR2.out]; rfl, gr_auto⟩
        · -- @d
          go_wp2_with fail
          refine (HRi.out _).mono ?_
          rintro e w1 ⟨rfl, hb1⟩
          have q0 : w1.cell? ⟨wr.heap.size, 0, none⟩ = some (.string d.nd) := Gr.at hb1 (by simp [go_sem])
          have q1 : w1.cell? ⟨wr.heap.size, 1, none⟩ = some (.int .i64 d.nu) := Gr.at hb1 (by simp [go_sem])
          have q2 : w1.cell? ⟨wr.heap.size, 2, none⟩ = some (.int .i64 d.tm) := Gr.at hb1 (by simp [go_sem])
          have q3 : w1.cell? ⟨wr.heap.size, 3, none⟩ = some (.int .i64 d.ar) := Gr.at hb1 (by simp [go_sem])
          have q4 : w1.cell? ⟨wr.heap.size, 4, none⟩ = some (.int .i64 d.lv) := Gr.at hb1 (by simp [go_sem])
          have g1 : Gr w w1 := (Gr.alloc hg _).trans hb1
          have HM1 := Lib.hid (HM.out.gr ((Gr.alloc (Gr.refl wr) _).trans hb1))
          clear hb1 HM a0 a1 a2 a3 a4 hg HRi
          generalize wr.heap.size = B at *
          go_wp2_with fail
          refine (HKi.out _).mono ?_
          rintro e w2 ⟨rfl, hb2⟩
          replace q0 := Gr.at hb2 q0; replace q1 := Gr.at hb2 q1; replace q2 := Gr.at hb2 q2; replace q3 := Gr.at hb2 q3; replace q4 := Gr.at hb2 q4
          have g2 : Gr w w2 := g1.trans hb2
          have HM2 := Lib.hid (HM1.out.gr hb2)
          clear hb2 HM1 g1
          have hlk : (Instr.lookup 124 (.map (some w.heap.size)) (Al.kM d.nd d.nu) false).run Tryz.prog w2 = .ok (.bool dup) w2 := by
            have z := HM2.out.look false keyed_msg Tryz.underlying124 (zero_bool w2) HLk.out
            rw [if_neg (by decide), HD.out] at z
            exact z
          cases dup
          · have HQ2 := Lib.hid (HT.out (by simp))
            clear HT HF HD
            unfold Al.kM at hlk HKi ⊢
            go_wp2_with fail
            clear hlk
            refine (HKi.out _).mono ?_
            rintro e w3 ⟨rfl, hb3⟩
            have g3 : Gr w w3 := g2.trans hb3
            have HM3 := Lib.hid (HM2.out.gr hb3)
            clear q0 q1 q2 q3 q4 HM2 hb3 g2 HKi
            obtain ⟨w8, hrun, hst, hgb, hgx⟩ := HM3.out.store (val := .bool true) keyed_msg Tryz.underlying124 HLk.out
            have HM8 := Lib.hid (hst (Al.setF (Al.kP D (i + 1))) (by rw [HN.out]; exact (Al.setF_add _).1) (fun x hx => by rw [HN.out]; exact (Al.setF_add _).2 x hx))
            have g8 : Gr w w8 := GrX.gr g3 (Nat.le_refl _) hgx
            clear hst hgb hgx HM3 g3 HN HLk
            unfold Al.kM at hrun
            go_wp2_with fail
            go_roundw
            case rel => exact ⟨i + 1, by omega, by go_num, HQ2, HM8, g8⟩
            case measure => simp [intOf]; omega
          · have hr := HF.out (by simp)
            have HR2 := Lib.hid hr
            clear hr HF HT HD HN HKi HM2 HLk
            unfold Al.kM at hlk ⊢
            go_wp2_with fail
            go_ret
            exact ⟨by rw [HR2.out]; rfl, g2⟩
      · obtain rfl : n = i := by omega
        have hr : r = true := by rw [HRr.out]; exact HQ.out
        have HR2 := Lib.hid hr
        clear hr HM HX HR HK HE HQ HA HRr
        go_wp2_with fail
        go_ret
        exact ⟨by rw [HR2.out]; rfl, gr_auto⟩
end Go.Proofs.YtllkiadedaghoaaGreatDoor
set_option linter.unusedVariables false
set_option linter.unusedSimpArgs false
namespace Go.Proofs.YtllkiadedaghoaaGreatDoor
open Go.RowKit Go.Sort Go.Shelf
attribute [local go_sem ↓] Go.wp_at_zero Go.wp_at_succ
namespace Al
/-- A valid list of messages. -/
def vL (l : List M) : Prop := l.length ≤ 10000 ∧ (∀ m ∈ l, mOk m = true) ∧ Dist l
theorem msB_iff {D : Nat → M} : ∀ {n : Nat}, msB D n = true ↔ (∀ i, i < n → mOk (D i) = true) ∧ ∀ j, j < n → ∀ i, i < j → kM (D i).nd (D i).nu ≠ kM (D j).nd (D j).nu
  | 0 => ⟨fun _ => ⟨fun i h => absurd h (Nat.not_lt_zero _), fun i h => absurd h (Nat.not_lt_zero _)⟩, fun _ => rfl⟩
  | n + 1 => by
    rw [msB, Bool.and_eq_true, Bool.and_eq_true, msB_iff, Bool.not_eq_true', ← Bool.not_eq_true, kP_iff]
    constructor
    · rintro ⟨⟨h1, h2⟩, h3, h4⟩
      refine ⟨fun i hi => ?_, fun j hj i hi e => ?_⟩
      · by_cases q : i = n
        · rw [q]; exact h3
        · exact h1 i (by omega)
      · by_cases q : j = n
        · subst q; exact h4 ⟨i, hi, e⟩
        · exact h2 j (by omega) i hi e
    · rintro ⟨h1, h2⟩
      exact ⟨⟨fun i hi => h1 i (by omega), fun j hj => h2 j (by omega)⟩, h1 n (by omega), fun ⟨j, hj, e⟩ => h2 n (by omega) j hj e⟩
theorem lst_get (s : SlM) (i : Nat) (h : i < s.lst.length) : s.lst[i] = s.D i := by simp [SlM.lst]
theorem SlM.lst_len (s : SlM) : s.lst.length = s.n := by simp [SlM.lst]
theorem vB_iff (s : SlM) : s.vB = true ↔ vL s.lst := by
  unfold SlM.vB vL Dist
  rw [Bool.and_eq_true, decide_eq_true_eq, msB_iff, SlM.lst_len, List.pairwise_iff_getElem]
  constructor
  · rintro ⟨h0, h1, h2⟩
    refine ⟨h0, fun m hm => ?_, fun i j hi hj hij => ?_⟩
    · obtain ⟨i, hi, rfl⟩ := List.getElem_of_mem hm
      rw [lst_get]; exact h1 i (by rw [← SlM.lst_len]; exact hi)
    · rw [lst_get, lst_get]; exact h2 j (by rw [← SlM.lst_len]; exact hj) i hij
  · rintro ⟨h0, h1, h2⟩
    refine ⟨h0, fun i hi => ?_, fun j hj i hi => ?_⟩
    · have hi' : i < s.lst.length := by rw [SlM.lst_len]; exact hi
      have := h1 s.lst[i] (List.getElem_mem hi')
      rw [lst_get] at this; exact this
    · have := h2 i j (by rw [SlM.lst_len]; omega) (by rw [SlM.lst_len]; omega) hi
      rw [lst_get, lst_get] at this; exact this
theorem vL.sub {l d : List M} (h : vL l) (hs : d.Sublist l) : vL d := ⟨Nat.le_trans hs.length_le h.1, fun m hm => h.2.1 m (hs.subset hm), h.2.2.sub hs⟩
theorem vL.perm {l d : List M} (h : vL l) (hp : l.Perm d) : vL d := ⟨by rw [← hp.length_eq]; exact h.1, fun m hm => h.2.1 m (hp.mem_iff.2 hm), h.2.2.perm hp⟩
theorem SlM.At.b_lt {w : World} {s : SlM} (h : s.At w) (h0 : 0 < s.n) : s.b < w.heap.size := World.block_lt_of_cell? w _ ((h.hD 0 h0).1).1
end Al
set_option maxRecDepth 100000 in
set_option maxHeartbeats 4000000 in
theorem tsorted_any (s : Al.SlM) (w : World) (h : s.At w) (hv : s.vB = true) : Calls Tryz.prog 155 #[.slice s.A s.n s.c] w fun e w' => ∃ g cap : Nat, e = .returned (.tuple #[.slice (Al.ofRow g cap (Al.srtM s.lst)).A (Al.ofRow g cap (Al.srtM s.lst)).n (Al.ofRow g cap (Al.srtM s.lst)).c, .int .i64 0]) ∧ (Al.ofRow g cap (Al.srtM s.lst)).At w' ∧ Gr w w' := by
  have HV := Lib.hid (tvalid_any s w h)
  rw [hv] at HV
  have hvl := (Al.vB_iff s).1 hv
  have hn : s.n ≤ 10000 := by have := hvl.1; rw [Al.SlM.lst_len] at this; exact this
  have HF := Lib.hid (fun (W W2 : World) (hg : Gr w W) (t : TypeId) (he : W2 = W.alloc (.cells #[.slice s.A s.n s.c] t)) => sortedF_any W.heap.size s (by omega) W2 (by rw [he]; simp) (fun h0 => by rw [he]; have := h.b_lt h0; have := Gr.size hg; simp; omega) (by rw [he]; simp [go_sem]) (h.gr (by rw [he]; exact hg.alloc _)))
  have HD := Lib.hid (fun (d' : List Al.M) (hp : s.lst.Perm d') (hs : d'.Pairwise fun a b => Al.kcmp a.key b.key ≤ 0) => Al.srtM_of hvl.2.2 hp hs)
  clear h hv hvl hn
  generalize s.lst = L at *
  generalize s.A = A at *; generalize s.n = n at *; generalize s.c = c at *
  go_enter Tryz.func155, Tryz.ntmps155
  go_wp2_with fail
  refine HV.out.mono ?_
  rintro e w1 ⟨rfl, hb1⟩
  clear HV
  go_wp2_with fail
  refine (values_any A n c w1).mono ?_
  rintro e w2 ⟨rfl, t, hw2⟩
  have HF2 := Lib.hid (HF.out w1 w2 hb1 t hw2)
  have g2 : Gr w w2 := by rw [hw2]; exact hb1.alloc _
  clear HF hw2 hb1
  go_wp2_with fail
  refine HF2.out.mono ?_
  rintro e w3 ⟨g, cap, d', rfl, hp, hs, hat, -, hg⟩
  obtain rfl := HD.out d' hp hs
  have g3 : Gr w w3 := g2.trans hg
  clear HF2 HD hg g2 hp hs
  go_wp2_with fail
  go_ret2
  exact ⟨g, cap, rfl, hat, g3⟩
end Go.Proofs.YtllkiadedaghoaaGreatDoor
