/-
  Law 22: ArealBetween. (Printed by mkx.py.)
-/
import Derived.Test.YtnfjebfmfjpepaaArI
import Derived.Test.YtnfjebfmfjpepaaArTrio
import Derived.Test.YtnfjebfmfjpepaaArV
import Derived.Test.YtnfjebfmfjpepaaArW
import Derived.Deep.RegionWith
set_option linter.unusedVariables false
set_option linter.unusedSimpArgs false
namespace Go.Proofs.Ytnfjebfmfjpepaa
open Go.RowKit
attribute [local go_sem ↓] Go.wp_at_zero Go.wp_at_succ
theorem own_sli2 {w : World} {base n : Nat} {v : Value} {X : Nat → Int} (h : w.ownsRow base 3 1 v n (flatN X n)) (hb : ∀ j, j < n → Ba.i64 (X j)) : ∃ (A : Option Addr) (c b : Nat), v = .slice A n c ∧ Ba.SlI.At w ⟨A, n, c, b, 0, X⟩ := by
  obtain ⟨A, c, g, rfl, h1, _, h3, h4, h5⟩ := own_rowN h
  exact ⟨A, c, g, rfl, h1, h3, h4, fun i hi => by simp only [Nat.zero_add]; exact ⟨(h5 i hi).1, hb i hi⟩⟩

set_option maxRecDepth 100000 in
set_option maxHeartbeats 8000000 in
theorem between_far (S : Ba.SlSer) (U : Ba.SlU) (fa oy : Int) (w : World) (hS : S.At w) (hU : U.At w) (hx : S.n = 0 ∨ (0 < S.n ∧ (8 < S.n ∨ (S.n ≤ 8 ∧ (Ba.lonB S = true ∨ (Ba.lonB S = false ∧ (U.n ≠ S.n ∨ (U.n = S.n ∧ (Ba.giE S ≠ 0 ∨ (Ba.giE S = 0 ∧ Ba.fitB S = false)))))))))) : Calls Try.prog 6 #[.slice S.A S.n S.c, .slice U.A U.n U.c, .int .u16 fa, .int .u8 oy] w fun e w' => e = .returned (.bool true) ∧ Gr w w' := by
  have HL := Lib.hid (fun W (hh : Gr w W) => long_any S W (hS.gr hh))
  have HG := Lib.hid (fun W (hh : Gr w W) => rgiv_any S W (hS.gr hh))
  have hm := Nat.le_trans hS.hc hS.hb; have hm2 := Nat.le_trans hU.hc hU.hb
  rcases hx with h0 | ⟨h0, h1 | ⟨h1, h2 | ⟨h2, h3 | ⟨h3, h4 | ⟨h4, h5⟩⟩⟩⟩⟩
  · have t0 : ((S.n : Int) == 0) = true := by rw [h0]; rfl
    clear hS hU h0
    generalize S.A = A at *; generalize S.n = n at *; generalize S.c = c at *; generalize U.A = uA at *; generalize U.n = un at *; generalize U.c = uc at *
    go_enter Try.func6, Try.ntmps6
    go_wp2_with fail
    refine (awake_any _).mono ?_
    rintro e w2 ⟨rfl, g2⟩
    go_wp2_with fail
    go_ret
    exact ⟨rfl, gr_auto⟩
  · have t0 : ((S.n : Int) == 0) = false := beq_eq_false_iff_ne.2 (by omega)
    have t1 : decide ((8 : Int) < (S.n : Int)) = true := decide_eq_true (by omega)
    clear hS hU h0 h1
    generalize S.A = A at *; generalize S.n = n at *; generalize S.c = c at *; generalize U.A = uA at *; generalize U.n = un at *; generalize U.c = uc at *
    go_enter Try.func6, Try.ntmps6
    go_wp2_with fail
    refine (awake_any _).mono ?_
    rintro e w2 ⟨rfl, g2⟩
    go_wp2_with fail
    go_ret
    exact ⟨rfl, gr_auto⟩
  · have t0 : ((S.n : Int) == 0) = false := beq_eq_false_iff_ne.2 (by omega)
    have t1 : decide ((8 : Int) < (S.n : Int)) = false := decide_eq_false (by omega)
    rw [h2] at HL
    clear hS hU h0 h1 h2
    generalize S.A = A at *; generalize S.n = n at *; generalize S.c = c at *; generalize U.A = uA at *; generalize U.n = un at *; generalize U.c = uc at *
    go_enter Try.func6, Try.ntmps6
    go_wp2_with fail
    refine (awake_any _).mono ?_
    rintro e w2 ⟨rfl, g2⟩
    go_wp2_with fail
    refine (HL.out _ g2).mono ?_
    rintro e w3 ⟨rfl, hb3⟩
    have g3 := Gr.trans g2 hb3
    clear HL
    go_wp2_with fail
    go_ret
    exact ⟨rfl, gr_auto⟩
  · have t0 : ((S.n : Int) == 0) = false := beq_eq_false_iff_ne.2 (by omega)
    have t1 : decide ((8 : Int) < (S.n : Int)) = false := decide_eq_false (by omega)
    rw [h2] at HL
    have t2 : ((U.n : Int) != (S.n : Int)) = true := bne_iff_ne.2 (by omega)
    clear hS hU h0 h1 h2 h3
    generalize S.A = A at *; generalize S.n = n at *; generalize S.c = c at *; generalize U.A = uA at *; generalize U.n = un at *; generalize U.c = uc at *
    go_enter Try.func6, Try.ntmps6
    go_wp2_with fail
    refine (awake_any _).mono ?_
    rintro e w2 ⟨rfl, g2⟩
    go_wp2_with fail
    refine (HL.out _ g2).mono ?_
    rintro e w3 ⟨rfl, hb3⟩
    have g3 := Gr.trans g2 hb3
    clear HL
    go_wp2_with fail
    go_ret
    exact ⟨rfl, gr_auto⟩
  · have t0 : ((S.n : Int) == 0) = false := beq_eq_false_iff_ne.2 (by omega)
    have t1 : decide ((8 : Int) < (S.n : Int)) = false := decide_eq_false (by omega)
    rw [h2] at HL
    have t2 : ((U.n : Int) != (S.n : Int)) = false := by rw [h3]; simp
    generalize Ba.giE S = E at *
    have t3 : (E != 0) = true := bne_iff_ne.2 h4
    clear hS hU h0 h1 h2 h3 h4
    generalize S.A = A at *; generalize S.n = n at *; generalize S.c = c at *; generalize U.A = uA at *; generalize U.n = un at *; generalize U.c = uc at *
    go_enter Try.func6, Try.ntmps6
    go_wp2_with fail
    refine (awake_any _).mono ?_
    rintro e w2 ⟨rfl, g2⟩
    go_wp2_with fail
    refine (HL.out _ g2).mono ?_
    rintro e w3 ⟨rfl, hb3⟩
    have g3 := Gr.trans g2 hb3
    clear HL
    go_wp2_with fail
    refine (HG.out _ g3).mono ?_
    rintro e w4 ⟨rfl, hb4⟩
    have g4 := Gr.trans g3 hb4
    clear HG
    go_wp2_with fail
    go_ret
    exact ⟨rfl, gr_auto⟩
  · have t0 : ((S.n : Int) == 0) = false := beq_eq_false_iff_ne.2 (by omega)
    have t1 : decide ((8 : Int) < (S.n : Int)) = false := decide_eq_false (by omega)
    have HF := Lib.hid (fun W (hh : Gr w W) => rfit_any S W (hS.gr hh) h4)
    rw [h2] at HL
    have t2 : ((U.n : Int) != (S.n : Int)) = false := by rw [h3]; simp
    rw [h4] at HG
    rw [h5] at HF
    clear hS hU h0 h1 h2 h3 h4 h5
    generalize S.A = A at *; generalize S.n = n at *; generalize S.c = c at *; generalize U.A = uA at *; generalize U.n = un at *; generalize U.c = uc at *
    go_enter Try.func6, Try.ntmps6
    go_wp2_with fail
    refine (awake_any _).mono ?_
    rintro e w2 ⟨rfl, g2⟩
    go_wp2_with fail
    refine (HL.out _ g2).mono ?_
    rintro e w3 ⟨rfl, hb3⟩
    have g3 := Gr.trans g2 hb3
    clear HL
    go_wp2_with fail
    refine (HG.out _ g3).mono ?_
    rintro e w4 ⟨rfl, hb4⟩
    have g4 := Gr.trans g3 hb4
    clear HG
    go_wp2_with fail
    refine (HF.out _ g4).mono ?_
    rintro e w5 ⟨rfl, hb5⟩
    have g5 := Gr.trans g4 hb5
    clear HF
    go_wp2_with fail
    go_ret
    exact ⟨rfl, gr_auto⟩

set_option maxRecDepth 100000 in
set_option maxHeartbeats 8000000 in
theorem between_main (S : Ba.SlSer) (U : Ba.SlU) (fa oy : Int) (w : World) (hS : S.At w) (hU : U.At w) (hfa : 0 ≤ fa ∧ fa ≤ 65535) (hoy : 0 ≤ oy ∧ oy ≤ 255) (h0 : 0 < S.n) (h1 : S.n ≤ 8) (h2 : Ba.lonB S = false) (h3 : U.n = S.n) (h4 : Ba.giE S = 0) (h5 : Ba.fitB S = true) : Calls Try.prog 6 #[.slice S.A S.n S.c, .slice U.A U.n U.c, .int .u16 fa, .int .u8 oy] w fun e w' => e = .returned (.bool true) ∧ Gr w w' := by
  have HL := Lib.hid (fun W (hh : Gr w W) => long_any S W (hS.gr hh))
  have HG := Lib.hid (fun W (hh : Gr w W) => rgiv_any S W (hS.gr hh))
  have hm := Nat.le_trans hS.hc hS.hb; have hm2 := Nat.le_trans hU.hc hU.hb
  have HF := Lib.hid (fun W (hh : Gr w W) => rfit_any S W (hS.gr hh) h4)
  have HCo := Lib.hid (fun W (hh : Gr w W) => common_any S W (hS.gr hh))
  have HSR := Lib.hid (fun i (hi : i < S.n) W (hW : Gr w W) => ((hS.hD i hi).2).gr hW)
  have hKb : ∀ j, j < S.n → 0 ≤ U.X j ∧ U.X j ≤ 4294967295 := fun j hj => (hU.hX j (by omega)).2
  have hqn : 0 ≤ oy % (S.n : Int) ∧ oy % (S.n : Int) < (S.n : Int) := ⟨Int.emod_nonneg _ (by omega), Int.emod_lt_of_pos _ (by omega)⟩
  obtain ⟨q, hqe⟩ : ∃ q : Nat, oy % (S.n : Int) = (q : Int) := ⟨(oy % (S.n : Int)).toNat, by omega⟩
  have hq : q < S.n := by omega
  obtain ⟨fr, st, N, mv, xq, dv, lo, hgh, ⟨e1, e2, e3, e4, n5, n6, n7, n8⟩, f1, f2, f3, f4, m1, m2, m3, m4⟩ := bt_all S U.X (1 + fa) q h4 h5 hKb (by omega) hq
  have HM1 := Lib.hid (fun (A : Option Addr) (c b : Nat) W (hW : Gr w W) (h : Ba.SlI.At W ⟨A, S.n, c, b, 0, U.X⟩) => m1 ⟨A, S.n, c, b, 0, U.X⟩ W (hS.gr hW) h rfl fun _ _ => rfl)
  have HM2 := Lib.hid (fun (A : Option Addr) (c b : Nat) W (hW : Gr w W) (h : Ba.SlI.At W ⟨A, S.n, c, b, 0, fun j => U.X j * (1 + fa)⟩) => m2 ⟨A, S.n, c, b, 0, fun j => U.X j * (1 + fa)⟩ W (hS.gr hW) h rfl fun _ _ => rfl)
  have HM3 := Lib.hid (fun (A : Option Addr) (c b : Nat) W (hW : Gr w W) (h : Ba.SlI.At W ⟨A, S.n, c, b, 0, fun j => if j = q then 1 + U.X j else 0⟩) => m3 ⟨A, S.n, c, b, 0, fun j => if j = q then 1 + U.X j else 0⟩ W (hS.gr hW) h rfl fun j _ => by show (if j = q then 1 + U.X j else 0) = _; by_cases e : j = q <;> simp [e])
  have HM4 := Lib.hid (fun (A B : Option Addr) (c b c2 b2 : Nat) W (hT : Ba.SlSer.At W ⟨A, S.n, c, b, 0, fun j => S.D (S.n - 1 - j)⟩) (h : Ba.SlI.At W ⟨B, S.n, c2, b2, 0, fun j => U.X (S.n - 1 - j)⟩) => m4 ⟨A, S.n, c, b, 0, fun j => S.D (S.n - 1 - j)⟩ ⟨B, S.n, c2, b2, 0, fun j => U.X (S.n - 1 - j)⟩ W hT h rfl rfl (fun _ _ => rfl) fun _ _ => rfl)
  unfold RetM at HM1 HM2 HM3 HM4
  simp only at HM1 HM2 HM3 HM4
  have HCL := Lib.hid (fun W (hh : Gr w W) => clones_any S W (hS.gr hh) (by omega) (by omega))
  unfold RetCls at HCL
  rw [e1, e2, e3] at HCo
  rw [h2] at HL
  rw [h4] at HG
  rw [h5] at HF
  have t2 : ((U.n : Int) != (S.n : Int)) = false := by rw [h3]; simp
  have t0 : ((S.n : Int) == 0) = false := beq_eq_false_iff_ne.2 (by omega)
  have t1 : decide ((8 : Int) < (S.n : Int)) = false := decide_eq_false (by omega)
  have HD := Lib.hid hS.hD; have HU := Lib.hid hU.hX; have F1 := Lib.hid f1; have F2 := Lib.hid f2; have F3 := Lib.hid f3; have F4 := Lib.hid f4; have HKB := Lib.hid hKb; have N8 := Lib.hid n8
  have hA := hS.hA (by omega); have huA := hU.hA (by omega)
  have hnc := hS.hc; have hcb := hS.hb; have huc := hU.hc; have hub := hU.hb
  rw [hA] at HL HG HF HCo HM1 HM2 HM3 HCL ⊢
  rw [huA]
  clear hS hU h2 h4 h5 hA huA e1 e2 e3 m1 m2 m3 m4 f1 f2 f3 f4 hKb n8
  generalize S.D = D at *
  generalize U.X = K at *
  generalize S.b = sb at *; generalize S.o = so at *; generalize S.n = n at *; generalize S.c = c at *; generalize U.n = un at *; generalize U.c = uc at *; generalize U.b = ub at *; generalize U.o = uo at *
  subst h3
  have E4 := Lib.hid e4
  clear e4
  obtain ⟨i1, hi0, hz0, hz1, hz2⟩ := info_parts info_intz
  have KI := Lib.hid hi0; have KZ0 := Lib.hid hz0; have KZ1 := Lib.hid hz1; have KZ2 := Lib.hid hz2
  clear hi0 hz0 hz1 hz2
  go_enter Try.func6, Try.ntmps6
  go_wp2_with fail
  refine (awake_any _).mono ?_
  rintro e w2 ⟨rfl, g2⟩
  go_wp2_with fail
  refine (HL.out _ g2).mono ?_
  rintro e w3 ⟨rfl, hb3⟩
  have g3 := Gr.trans g2 hb3
  clear HL
  go_wp2_with fail
  refine (HG.out _ g3).mono ?_
  rintro e w4 ⟨rfl, hb4⟩
  have g4 := Gr.trans g3 hb4
  clear HG
  go_wp2_with fail
  refine (HF.out _ g4).mono ?_
  rintro e w5 ⟨rfl, hb5⟩
  have g5 := Gr.trans g4 hb5
  clear HF
  go_wp2_with fail
  -- @a
  go_loopw [9, 10, 11, 67] (fun a b c x wr => ∃ i : Nat, i ≤ un ∧ x = .int .i64 (i : Int) ∧ Hid (Trio wr w.heap.size a b c i i i K (fun j => K j * (1 + fa)) (fun j => if j = q then 1 + K j else 0)) ∧ Gr w wr) (fun _ _ _ x _ => un - (intOf x).toNat)
  case atStart => exact ⟨0, Nat.zero_le _, rfl, Lib.hid ⟨World.ownsRow_nil _ _ _ _, World.ownsRow_nil _ _ _ _, World.ownsRow_nil _ _ _ _, .inl rfl, .inl rfl, .inl rfl⟩, g5⟩
  case round =>
    obtain ⟨i, hi, rfl, HT, hg⟩ := hrel
    by_cases hlt : i < un
    · as_aux_lemma =>
        obtain ⟨ux, ux1⟩ := HU.out i hlt
        replace ux := Gr.at hg ux
        have ib0 : (0 : Int) ≤ (i : Int) := by omega
        have ib1 : (i : Int) < (un : Int) := by omega
        clear HM1 HM2 HM3 HM4 HCL HCo HSR F1 F2 F3 F4 HD HU N8 HKB E4
        have HK := Lib.hid (show K i = K i from rfl)
        obtain ⟨kx, hkx⟩ : ∃ z, K i = z := ⟨_, rfl⟩
        rw [hkx] at ux ux1 HK
        have z0 := Gr.size hg
        have km : 0 ≤ kx * (1 + fa) ∧ kx * (1 + fa) ≤ 281474976645120 := ⟨Int.mul_nonneg (by omega) (by omega), Int.mul_le_mul (a := kx) (b := 1 + fa) (c := 4294967295) (d := 65536) (by omega) (by omega) (by omega) (by omega)⟩
        replace hkx := Lib.hid hkx
        clear HK
        have tq : ((i : Int) == oy % (un : Int)) = decide (i = q) := by
          rw [hqe]; by_cases e : i = q
          · rw [e]; simp
          · rw [decide_eq_false e]; exact beq_eq_false_iff_ne.2 (by omega)
        have un0 : (un : Int) ≠ 0 := by omega
        have HQE := Lib.hid hqe
        clear hqe
        have a1 := HT.out
        have sz := Gr.size hg
        -- @b
        go_wp2_with (at_builtin; refine wpList_append_lies _ rfl _ _ 30 rfl w.heap.size 3 i1 (.int .i64 0) 1 8 Try.underlying30 KI.out KZ0.out KZ1.out KZ2.out rfl (by decide) _ i (flatN K i) rfl ((ownsRow_gr a1.ha (by exact gr_auto))) ⟨wr.heap.size, 0, none⟩ 1 1 [.int .i64 (kx)] rfl rfl (by intro p u hp; rcases p with _ | p <;> simp at hp <;> (try subst hp) <;> first | (simp [Addr.add, go_sem]; done) | (simp [Addr.add]; done)) (by intro u hu; simp at hu; subst hu; rfl) (by decide) (by unfold maxLen; omega) (by omega) (by have := z0; simp; omega) _ rfl ?_)
        intro g6 cp6 w6 hown6 hgrow6 hat6 hlt6
        -- @c
        have gx6 : Gr wr (wr.alloc (Obj.cells #[.int .i64 kx] 3)) := Gr.alloc (Gr.refl _) _
        have T6 := Trio.app (m := i + 1) (X' := K) (a1.gr gx6) (by rw [flatN, hkx.out]; exact hown6) hgrow6 (hat6.imp_right fun h => by rw [h]; simp)
        have G6 := Gr.own (Gr.trans hg gx6) (Nat.le_refl _) (ownsRow_gr a1.ha gx6) hgrow6
        have z1 := Gr.size G6
        clear hown6 hgrow6 hat6 hlt6 a1 HT
        replace T6 := T6.rot
        -- @d
        go_wp2_with (at_builtin; refine wpList_append_lies _ rfl _ _ 30 rfl w.heap.size 3 i1 (.int .i64 0) 1 8 Try.underlying30 KI.out KZ0.out KZ1.out KZ2.out rfl (by decide) _ i (flatN (fun j => K j * (1 + fa)) i) rfl ((ownsRow_gr T6.ha (by exact gr_auto))) ⟨w6.heap.size, 0, none⟩ 1 1 [.int .i64 (kx * (1 + fa))] rfl rfl (by intro p u hp; rcases p with _ | p <;> simp at hp <;> (try subst hp) <;> first | (simp [Addr.add, go_sem]; done) | (simp [Addr.add]; done)) (by intro u hu; simp at hu; subst hu; rfl) (by decide) (by unfold maxLen; omega) (by omega) (by have := z1; simp; omega) _ rfl ?_)
        intro g7 cp7 w7 hown7 hgrow7 hat7 hlt7
        -- @e
        have gx7 : Gr w6 (w6.alloc (Obj.cells #[.int .i64 (kx * (1 + fa))] 3)) := Gr.alloc (Gr.refl _) _
        have T7 := Trio.app (m := i + 1) (X' := fun j => K j * (1 + fa)) (T6.gr gx7) (by rw [flatN, hkx.out]; exact hown7) hgrow7 (hat7.imp_right fun h => by rw [h]; simp)
        have G7 := Gr.own (Gr.trans G6 gx7) (Nat.le_refl _) (ownsRow_gr T6.ha gx7) hgrow7
        have z2 := Gr.size G7
        clear hown7 hgrow7 hat7 hlt7 T6
        replace T7 := T7.rot
        -- @f
        go_wp2_with (at_builtin; refine wpList_append_lies _ rfl _ _ 30 rfl w.heap.size 3 i1 (.int .i64 0) 1 8 Try.underlying30 KI.out KZ0.out KZ1.out KZ2.out rfl (by decide) _ i (flatN (fun j => if j = q then 1 + K j else 0) i) rfl ((ownsRow_gr T7.ha (by exact gr_auto))) ⟨w7.heap.size, 0, none⟩ 1 1 [.int .i64 (0)] rfl rfl (by intro p u hp; rcases p with _ | p <;> simp at hp <;> (try subst hp) <;> first | (simp [Addr.add, go_sem]; done) | (simp [Addr.add]; done)) (by intro u hu; simp at hu; subst hu; rfl) (by decide) (by unfold maxLen; omega) (by omega) (by have := z2; simp; omega) _ rfl ?_)
        intro g8 cp8 w8 hown8 hgrow8 hat8 hlt8
        -- @g
        have gx8 : Gr w7 (w7.alloc (Obj.cells #[.int .i64 0] 3)) := Gr.alloc (Gr.refl _) _
        have G8 := Gr.own (Gr.trans G7 gx8) (Nat.le_refl _) (ownsRow_gr T7.ha gx8) hgrow8
        by_cases eq : i = q
        · as_aux_lemma =>
            have T8 := Trio.app (m := i + 1) (X' := fun j => if j = q then 0 else if j = q then 1 + K j else 0) (T7.gr gx8) (by rw [flatN, flatN_congr (n := i) (Y := fun j => if j = q then 1 + K j else 0) fun j hj => (by have hne : ¬ j = q := (by omega); simp [hne])]; simp only [if_pos eq]; exact hown8) hgrow8 (hat8.imp_right fun h => by rw [h]; simp)
            have T9 := Trio.put (q := i) (x := 1 + kx) (X' := fun j => if j = q then 1 + K j else 0) T8 (by
              have e1 : flatN (fun j => if j = q then 0 else if j = q then 1 + K j else 0) (i + 1) = flatN (fun j => if j = q then 1 + K j else 0) i ++ [Value.int .i64 0] := by
                rw [flatN, flatN_congr (n := i) (Y := fun j => if j = q then 1 + K j else 0) fun j hj => (by have hne : ¬ j = q := (by omega); simp [hne])]; simp only [if_pos eq]
              rw [e1]
              exact (flatN_put (X := fun j => if j = q then 1 + K j else 0) (x := 0) (y := 1 + kx) (by simp only [if_pos eq, hkx.out])).symm)
            have gg := (T8.ha.stored i (.int .i64 (1 + kx))).2
            have G9 := Gr.own G8 (Nat.le_refl _) T8.ha gg
            have ce : w8.cell? ⟨g8, i, none⟩ = some (.int .i64 0) := by rw [T8.ha.cellAt i (by omega), flatN_get _ (by omega)]; simp only [if_pos eq]
            have cf := T8.ha.frozenAt i
            have HT9 := Lib.hid T9.rot
            have HG9 := Lib.hid G9
            rw [decide_eq_true eq] at tq
            clear T8 T9 gg G9 T7 hown8 hgrow8 hat8 hlt8 gx6 gx7 gx8 G6 G7 G8 eq
            -- @h
            go_wp2_with fail
            -- @i
            go_roundw
            case rel => exact ⟨i + 1, by omega, by go_num, HT9, HG9.out⟩
            case measure => simp [intOf]; omega
        · as_aux_lemma =>
            have T8 := Trio.app (m := i + 1) (X' := fun j => if j = q then 1 + K j else 0) (T7.gr gx8) (by rw [flatN]; simp only [if_neg eq]; exact hown8) hgrow8 (hat8.imp_right fun h => by rw [h]; simp)
            have HT9 := Lib.hid T8.rot
            have HG9 := Lib.hid G8
            rw [decide_eq_false eq] at tq
            clear T8 T7 hown8 hgrow8 hat8 hlt8 gx6 gx7 gx8 G6 G7 G8 eq
            -- @j
            go_wp2_with fail
            -- @k
            go_roundw
            case rel => exact ⟨i + 1, by omega, by go_num, HT9, HG9.out⟩
            case measure => simp [intOf]; omega
    · as_aux_lemma =>
        obtain rfl : un = i := by omega
        obtain ⟨A1, c1, b1, rfl, s1⟩ := own_sli2 HT.out.ha (fun j hj => by have := HKB.out j hj; unfold Ba.i64; omega)
        obtain ⟨A2, c2, b2, rfl, s2⟩ := own_sli2 HT.out.hb (fun j hj => by
          have := HKB.out j hj
          have p : 0 ≤ K j * (1 + fa) := Int.mul_nonneg (by omega) (by omega)
          have p2 : K j * (1 + fa) ≤ 4294967295 * 65536 := Int.mul_le_mul (by omega) (by omega) (by omega) (by omega)
          unfold Ba.i64; omega)
        obtain ⟨A3, c3, b3, rfl, s3⟩ := own_sli2 HT.out.hc (fun j hj => by have := HKB.out j hj; unfold Ba.i64; split <;> omega)
        replace s1 := Lib.hid s1; replace s2 := Lib.hid s2; replace s3 := Lib.hid s3
        clear HT HU KI KZ0 KZ1 KZ2
        -- @l
        go_wp2_with fail
        refine (HCo.out _ hg).mono ?_
        rintro e w10 ⟨rfl, hb10⟩
        have g10 := hg.trans hb10
        clear HCo
        go_wp2_with fail
        -- @m
        refine (HM1.out A1 c1 b1 _ g10 (s1.out.gr hb10)).mono ?_
        rintro e w11 ⟨t, rfl, t1, t2, t3, t4, t5, hb11⟩
        obtain ⟨tf, ts, ⟨tA, tn, tc, tb, too, tX⟩⟩ := t
        simp only at t2 t3 t4 t5
        replace t2 := t2.symm; replace t3 := t3.symm; replace t4 := t4.symm
        subst t2; subst t3; subst t4
        unfold Ba.Ser.val
        simp only
        replace t1 := Lib.hid t1; replace t5 := Lib.hid t5
        clear HM1
        have g11 := g10.trans hb11
        have hs11 := hb10.trans hb11
        go_wp2_with fail
        -- @n
        (first | refine name_world ?_ | refine (show (∀ W, W = _ → Calls _ _ _ W _) → Calls _ _ _ _ _ from fun h => h _ rfl) ?_); intro W12 hW12
        have g12 : Gr w W12 := by rw [hW12]; exact gr_auto
        have gb12_w11 : Gr w11 W12 := by (try clear g12); rw [hW12]; exact gr_auto
        have k12_0 : W12.cell? ⟨w11.heap.size, 0, none⟩ = some (.int .i64 fr) := by rw [hW12]; first | (simp [go_sem, *]; done) | (refine Gr.at ?_ (by assumption); exact gr_auto)
        have b12_0 : w11.heap.size < W12.heap.size := World.block_lt_of_cell? _ _ k12_0
        have k12_1 : W12.cell? ⟨w11.heap.size, 1, none⟩ = some (.int .i64 st) := by rw [hW12]; first | (simp [go_sem, *]; done) | (refine Gr.at ?_ (by assumption); exact gr_auto)
        have k12_2 : W12.cell? ⟨w11.heap.size, 2, none⟩ = some (.slice tA N tc) := by rw [hW12]; first | (simp [go_sem, *]; done) | (refine Gr.at ?_ (by assumption); exact gr_auto)
        clear hW12
        refine (HM2.out A2 c2 b2 _ g12 (s2.out.gr (hs11.trans gb12_w11))).mono ?_
        rintro e w13 ⟨p, rfl, p1, p2, p3, p4, p5, hb13⟩
        obtain ⟨pf, ps, ⟨pA, pn, pc, pb, poo, pX⟩⟩ := p
        simp only at p2 p3 p4 p5
        replace p2 := p2.symm; replace p3 := p3.symm; replace p4 := p4.symm
        subst p2; subst p3; subst p4
        unfold Ba.Ser.val
        simp only
        replace p1 := Lib.hid p1; replace p5 := Lib.hid p5
        clear HM2
        have hs13 := hs11.trans (gb12_w11.trans hb13)
        have d0 := Gr.at hb13 k12_0
        have d1 := Gr.at hb13 k12_1
        have d2 := Gr.at hb13 k12_2
        clear k12_0 k12_1 k12_2
        have z11 : w11.heap.size < w13.heap.size := World.block_lt_of_cell? _ _ d0
        go_wp2_with fail
        -- @o
        (first | refine name_world ?_ | refine (show (∀ W, W = _ → Calls _ _ _ W _) → Calls _ _ _ _ _ from fun h => h _ rfl) ?_); intro W14 hW14
        have g14 : Gr w W14 := by rw [hW14]; exact gr_auto
        have gb14_w13 : Gr w13 W14 := by (try clear g14); rw [hW14]; exact gr_auto
        have k14_0 : W14.cell? ⟨w11.heap.size, 0, none⟩ = some (.int .i64 fr) := by rw [hW14]; first | (simp [go_sem, *]; done) | (refine Gr.at ?_ (by assumption); exact gr_auto)
        have b14_0 : w11.heap.size < W14.heap.size := World.block_lt_of_cell? _ _ k14_0
        have k14_1 : W14.cell? ⟨w11.heap.size, 1, none⟩ = some (.int .i64 st) := by rw [hW14]; first | (simp [go_sem, *]; done) | (refine Gr.at ?_ (by assumption); exact gr_auto)
        have k14_2 : W14.cell? ⟨w11.heap.size, 2, none⟩ = some (.slice tA N tc) := by rw [hW14]; first | (simp [go_sem, *]; done) | (refine Gr.at ?_ (by assumption); exact gr_auto)
        have k14_3 : W14.cell? ⟨w13.heap.size, 0, none⟩ = some (.int .i64 fr) := by rw [hW14]; first | (simp [go_sem, *]; done) | (refine Gr.at ?_ (by assumption); exact gr_auto)
        have b14_3 : w13.heap.size < W14.heap.size := World.block_lt_of_cell? _ _ k14_3
        have k14_4 : W14.cell? ⟨w13.heap.size, 1, none⟩ = some (.int .i64 st) := by rw [hW14]; first | (simp [go_sem, *]; done) | (refine Gr.at ?_ (by assumption); exact gr_auto)
        have k14_5 : W14.cell? ⟨w13.heap.size, 2, none⟩ = some (.slice pA N pc) := by rw [hW14]; first | (simp [go_sem, *]; done) | (refine Gr.at ?_ (by assumption); exact gr_auto)
        clear hW14
        refine (HM3.out A3 c3 b3 _ g14 (s3.out.gr (hs13.trans gb14_w13))).mono ?_
        rintro e w15 ⟨r, rfl, r1, r2, r3, r4, r5, hb15⟩
        obtain ⟨rf, rs, ⟨rA, rn, rc, rb, roo, rX⟩⟩ := r
        simp only at r2 r3 r4 r5
        replace r2 := r2.symm; replace r3 := r3.symm; replace r4 := r4.symm
        subst r2; subst r3; subst r4
        unfold Ba.Ser.val
        simp only
        replace r1 := Lib.hid r1; replace r5 := Lib.hid r5
        clear HM3
        have hs15 := hs13.trans (gb14_w13.trans hb15)
        replace d0 := Gr.at hb15 k14_0
        replace d1 := Gr.at hb15 k14_1
        replace d2 := Gr.at hb15 k14_2
        have d3 := Gr.at hb15 k14_3
        have d4 := Gr.at hb15 k14_4
        have d5 := Gr.at hb15 k14_5
        clear k14_0 k14_1 k14_2 k14_3 k14_4 k14_5
        have z13 : w13.heap.size < w15.heap.size := World.block_lt_of_cell? _ _ d3
        go_wp2_with fail
        -- @p
        (first | refine name_world ?_ | refine (show (∀ W, W = _ → Calls _ _ _ W _) → Calls _ _ _ _ _ from fun h => h _ rfl) ?_); intro W16 hW16
        have g16 : Gr w W16 := by rw [hW16]; exact gr_auto
        have gb16_w15 : Gr w15 W16 := by (try clear g16); rw [hW16]; exact gr_auto
        have k16_0 : W16.cell? ⟨w11.heap.size, 0, none⟩ = some (.int .i64 fr) := by rw [hW16]; first | (simp [go_sem, *]; done) | (refine Gr.at ?_ (by assumption); exact gr_auto)
        have b16_0 : w11.heap.size < W16.heap.size := World.block_lt_of_cell? _ _ k16_0
        have k16_1 : W16.cell? ⟨w11.heap.size, 1, none⟩ = some (.int .i64 st) := by rw [hW16]; first | (simp [go_sem, *]; done) | (refine Gr.at ?_ (by assumption); exact gr_auto)
        have k16_2 : W16.cell? ⟨w11.heap.size, 2, none⟩ = some (.slice tA N tc) := by rw [hW16]; first | (simp [go_sem, *]; done) | (refine Gr.at ?_ (by assumption); exact gr_auto)
        have k16_3 : W16.cell? ⟨w13.heap.size, 0, none⟩ = some (.int .i64 fr) := by rw [hW16]; first | (simp [go_sem, *]; done) | (refine Gr.at ?_ (by assumption); exact gr_auto)
        have b16_3 : w13.heap.size < W16.heap.size := World.block_lt_of_cell? _ _ k16_3
        have k16_4 : W16.cell? ⟨w13.heap.size, 1, none⟩ = some (.int .i64 st) := by rw [hW16]; first | (simp [go_sem, *]; done) | (refine Gr.at ?_ (by assumption); exact gr_auto)
        have k16_5 : W16.cell? ⟨w13.heap.size, 2, none⟩ = some (.slice pA N pc) := by rw [hW16]; first | (simp [go_sem, *]; done) | (refine Gr.at ?_ (by assumption); exact gr_auto)
        have k16_6 : W16.cell? ⟨w15.heap.size, 0, none⟩ = some (.int .i64 fr) := by rw [hW16]; first | (simp [go_sem, *]; done) | (refine Gr.at ?_ (by assumption); exact gr_auto)
        have b16_6 : w15.heap.size < W16.heap.size := World.block_lt_of_cell? _ _ k16_6
        have k16_7 : W16.cell? ⟨w15.heap.size, 1, none⟩ = some (.int .i64 st) := by rw [hW16]; first | (simp [go_sem, *]; done) | (refine Gr.at ?_ (by assumption); exact gr_auto)
        have k16_8 : W16.cell? ⟨w15.heap.size, 2, none⟩ = some (.slice rA N rc) := by rw [hW16]; first | (simp [go_sem, *]; done) | (refine Gr.at ?_ (by assumption); exact gr_auto)
        clear hW16
        have hs16 := hs15.trans gb16_w15
        have S1 := s1.out.gr hs16
        have HCZ := Lib.hid (fun W (hW : Gr W16 W) => clonez_any ⟨A1, un, c1, b1, 0, K⟩ W (S1.gr hW) (by show un ≤ _; omega))
        unfold RetCln at HCZ
        simp only at HCZ
        clear S1
        refine (HCL.out _ g16).mono ?_
        rintro e w17 ⟨Ac, cc, gc, rfl, q1, q2, q3, q4, q5, hb17⟩
        clear HCL
        have gcz : gc < w17.heap.size := World.block_lt_of_cell? _ _ (q5 0 h0).1.1
        replace q1 := Lib.hid q1; replace q5 := Lib.hid q5
        go_wp2_with fail
        -- @q
        refine (HCZ.out _ hb17).mono ?_
        rintro e w18 ⟨Az, cz, gz, rfl, v1, v2, v3, v4, v5, hb18⟩
        clear HCZ
        replace v1 := Lib.hid v1; replace v5 := Lib.hid v5
        have gcz2 : gc ≠ gz := by omega
        have zz17 := Gr.size hb17
        have zz18 := Gr.size hb18
        have HR1 := Lib.hid (reverses_any Ac un cc gc D w18 q1.out (by omega) (q5.out.gr hb18))
        go_wp2_with fail
        -- @r
        refine HR1.out.mono ?_
        rintro e w19 ⟨rfl, q6, gx19⟩
        clear HR1
        have zz19 := gx19.size
        have v6 : Row w19 gz un (fun j => .int .i64 (K j)) := fun j hj => (v5.out j hj).grx gx19 (Ne.symm gcz2)
        have HR2 := Lib.hid (reversei_any Az un cz gz K w19 v1.out (by omega) v6)
        replace q6 := Lib.hid q6
        clear v6 q5 v5
        go_wp2_with fail
        -- @s
        refine HR2.out.mono ?_
        rintro e w20 ⟨rfl, v7, gx20⟩
        clear HR2
        have gs20 : Gr W16 w20 := GrX.gr (GrX.gr (hb17.trans hb18) q2 gx19) (by omega) gx20
        have g20 := g16.trans gs20
        have T20 : Ba.SlSer.At w20 ⟨Ac, un, cc, gc, 0, fun j => D (un - 1 - j)⟩ := ⟨q1.out, q3, q4, fun i hi => by
          obtain ⟨x1, x2, x3⟩ := q6.out i hi
          simp only [Nat.zero_add]
          exact ⟨⟨(x1.grx gx20 gcz2).1, (x2.grx gx20 gcz2).1, (x3.grx gx20 gcz2).1⟩, HSR.out (un - 1 - i) (by omega) w20 g20⟩⟩
        have U20 : Ba.SlI.At w20 ⟨Az, un, cz, gz, 0, fun j => K (un - 1 - j)⟩ := ⟨v1.out, v3, v4, fun i hi => by
          simp only [Nat.zero_add]
          have kb := HKB.out (un - 1 - i) (by omega)
          exact ⟨(v7 i hi).1, by unfold Ba.i64; omega⟩⟩
        have HM5 := Lib.hid (HM4.out Ac Az cc gc cz gz w20 T20 U20)
        clear T20 U20 q6 v7 q1 v1 HM4 HSR
        replace d0 := Gr.at gs20 k16_0
        replace d1 := Gr.at gs20 k16_1
        replace d2 := Gr.at gs20 k16_2
        replace d3 := Gr.at gs20 k16_3
        replace d4 := Gr.at gs20 k16_4
        replace d5 := Gr.at gs20 k16_5
        have d6 := Gr.at gs20 k16_6
        have d7 := Gr.at gs20 k16_7
        have d8 := Gr.at gs20 k16_8
        clear k16_0 k16_1 k16_2 k16_3 k16_4 k16_5 k16_6 k16_7 k16_8
        go_wp2_with fail
        -- @t
        refine HM5.out.mono ?_
        rintro e w21 ⟨y, rfl, y1, y2, y3, y4, y5, hb21⟩
        obtain ⟨yf, ys, ⟨yA, yn, yc, yb, yoo, yX⟩⟩ := y
        simp only at y2 y3 y4 y5
        replace y2 := y2.symm; replace y3 := y3.symm; replace y4 := y4.symm
        subst y2; subst y3; subst y4
        unfold Ba.Ser.val
        simp only
        replace y1 := Lib.hid y1; replace y5 := Lib.hid y5
        clear HM5
        have g21 := g20.trans hb21
        replace d0 := Gr.at hb21 d0
        replace d1 := Gr.at hb21 d1
        replace d2 := Gr.at hb21 d2
        replace d3 := Gr.at hb21 d3
        replace d4 := Gr.at hb21 d4
        replace d5 := Gr.at hb21 d5
        replace d6 := Gr.at hb21 d6
        replace d7 := Gr.at hb21 d7
        replace d8 := Gr.at hb21 d8
        clear zz17 zz18 zz19 gcz gcz2 q2 q3 q4 v2 v3 v4
        have z15 : w15.heap.size < w21.heap.size := World.block_lt_of_cell? _ _ d6
        have hs21 := hs16.trans (gs20.trans hb21)
        have ht21 := gb12_w11.trans (hb13.trans (gb14_w13.trans (hb15.trans (gb16_w15.trans (gs20.trans hb21)))))
        have hp21 := gb14_w13.trans (hb15.trans (gb16_w15.trans (gs20.trans hb21)))
        have hr21 := gb16_w15.trans (gs20.trans hb21)
        have TA := t1.out.gr ht21; have PA := p1.out.gr hp21; have RA := r1.out.gr hr21
        have HS1 := Lib.hid (fun W (hW : Gr w21 W) => same_eq ⟨fr, st, ⟨tA, N, tc, tb, too, tX⟩⟩ ⟨fr, st, ⟨pA, N, pc, pb, poo, pX⟩⟩ W (TA.gr hW) (PA.gr hW) rfl rfl rfl fun i hi => (t5.out i hi).trans (p5.out i hi).symm)
        have HS2 := Lib.hid (fun W (hW : Gr w21 W) => same_eq ⟨fr, st, ⟨tA, N, tc, tb, too, tX⟩⟩ ⟨fr, st, ⟨yA, N, yc, yb, yoo, yX⟩⟩ W (TA.gr hW) (y1.out.gr hW) rfl rfl rfl fun i hi => (t5.out i hi).trans (y5.out i hi).symm)
        unfold Ba.Ser.val at HS1 HS2
        simp only at HS1 HS2
        have SL := s1.out.gr hs21
        have HTX := Lib.hid (fun k (hk : k < N) => show w21.cell? ⟨tb, too + k, none⟩ = some (.int .i64 (mv k)) from by rw [← t5.out k hk]; exact (TA.2.2.hX k hk).1); have HRX := Lib.hid (fun k (hk : k < N) => show w21.cell? ⟨rb, roo + k, none⟩ = some (.int .i64 (dv k q)) from by rw [← r5.out k hk]; exact (RA.2.2.hX k hk).1)
        have HTA := Lib.hid TA.2.2.hA; have HRA := Lib.hid RA.2.2.hA; have tcc := TA.2.2.hc; have tcb := TA.2.2.hb; have rcc := RA.2.2.hc; have rcb := RA.2.2.hb
        simp only at HTX HRX HTA HRA tcc tcb rcc rcb
        have HSL := Lib.hid (fun j (hj : j < un) => (SL.hX j hj).1); have HSA := Lib.hid SL.hA; have scc := SL.hc; have scb := SL.hb
        simp only at HSL HSA scc scb
        clear TA PA RA SL t1 t5 p1 p5 r1 r5 y1 y5 s1 s2 s3 ht21 hp21 hr21 hs21 hs16 hs15 hs13 hs11 g20 g16 g14 g12 g11 g10 gs20
        obtain ⟨l0, l1, l2⟩ := (HD.out 0 h0).1.gr g21
        rw [Nat.zero_mul, Nat.add_zero] at l0 l1 l2
        rw [E4.out] at l1
        -- @u
        go_wp2_with fail
        -- @v
        (first | refine name_world ?_ | refine (show (∀ W, W = _ → Calls _ _ _ W _) → Calls _ _ _ _ _ from fun h => h _ rfl) ?_); intro W22 hW22
        have g22 : Gr w W22 := by rw [hW22]; exact gr_auto
        have gb22_w21 : Gr w21 W22 := by (try clear g22); rw [hW22]; exact gr_auto
        have k22_0 : W22.cell? ⟨w11.heap.size, 0, none⟩ = some (.int .i64 fr) := by rw [hW22]; first | (simp [go_sem, *]; done) | (refine Gr.at ?_ (by assumption); exact gr_auto)
        have b22_0 : w11.heap.size < W22.heap.size := World.block_lt_of_cell? _ _ k22_0
        have k22_1 : W22.cell? ⟨w11.heap.size, 1, none⟩ = some (.int .i64 st) := by rw [hW22]; first | (simp [go_sem, *]; done) | (refine Gr.at ?_ (by assumption); exact gr_auto)
        have k22_2 : W22.cell? ⟨w11.heap.size, 2, none⟩ = some (.slice tA N tc) := by rw [hW22]; first | (simp [go_sem, *]; done) | (refine Gr.at ?_ (by assumption); exact gr_auto)
        have k22_3 : W22.cell? ⟨w13.heap.size, 0, none⟩ = some (.int .i64 fr) := by rw [hW22]; first | (simp [go_sem, *]; done) | (refine Gr.at ?_ (by assumption); exact gr_auto)
        have b22_3 : w13.heap.size < W22.heap.size := World.block_lt_of_cell? _ _ k22_3
        have k22_4 : W22.cell? ⟨w13.heap.size, 1, none⟩ = some (.int .i64 st) := by rw [hW22]; first | (simp [go_sem, *]; done) | (refine Gr.at ?_ (by assumption); exact gr_auto)
        have k22_5 : W22.cell? ⟨w13.heap.size, 2, none⟩ = some (.slice pA N pc) := by rw [hW22]; first | (simp [go_sem, *]; done) | (refine Gr.at ?_ (by assumption); exact gr_auto)
        have k22_6 : W22.cell? ⟨w15.heap.size, 2, none⟩ = some (.slice rA N rc) := by rw [hW22]; first | (simp [go_sem, *]; done) | (refine Gr.at ?_ (by assumption); exact gr_auto)
        have b22_6 : w15.heap.size < W22.heap.size := World.block_lt_of_cell? _ _ k22_6
        have k22_7 : W22.cell? ⟨w21.heap.size, 0, none⟩ = some (.int .i64 fr) := by rw [hW22]; first | (simp [go_sem, *]; done) | (refine Gr.at ?_ (by assumption); exact gr_auto)
        have b22_7 : w21.heap.size < W22.heap.size := World.block_lt_of_cell? _ _ k22_7
        have k22_8 : W22.cell? ⟨w21.heap.size, 1, none⟩ = some (.int .i64 st) := by rw [hW22]; first | (simp [go_sem, *]; done) | (refine Gr.at ?_ (by assumption); exact gr_auto)
        have k22_9 : W22.cell? ⟨w21.heap.size, 2, none⟩ = some (.slice yA N yc) := by rw [hW22]; first | (simp [go_sem, *]; done) | (refine Gr.at ?_ (by assumption); exact gr_auto)
        have k22_10 : W22.cell? ⟨sb, so + 1, none⟩ = some (.int .i64 st) := by rw [hW22]; first | (simp [go_sem, *]; done) | (refine Gr.at ?_ (by assumption); exact gr_auto)
        have b22_10 : sb < W22.heap.size := World.block_lt_of_cell? _ _ k22_10
        clear hW22
        have s22_0 : ∀ gw : GW W22, gw.1.cell? ⟨w11.heap.size, 0, none⟩ = some (.int .i64 fr) := fun gw => Gr.at gw.2 k22_0
        have s22_1 : ∀ gw : GW W22, gw.1.cell? ⟨w11.heap.size, 1, none⟩ = some (.int .i64 st) := fun gw => Gr.at gw.2 k22_1
        have s22_2 : ∀ gw : GW W22, gw.1.cell? ⟨w11.heap.size, 2, none⟩ = some (.slice tA N tc) := fun gw => Gr.at gw.2 k22_2
        have s22_3 : ∀ gw : GW W22, gw.1.cell? ⟨w13.heap.size, 0, none⟩ = some (.int .i64 fr) := fun gw => Gr.at gw.2 k22_3
        have s22_4 : ∀ gw : GW W22, gw.1.cell? ⟨w13.heap.size, 1, none⟩ = some (.int .i64 st) := fun gw => Gr.at gw.2 k22_4
        have s22_5 : ∀ gw : GW W22, gw.1.cell? ⟨w13.heap.size, 2, none⟩ = some (.slice pA N pc) := fun gw => Gr.at gw.2 k22_5
        have s22_6 : ∀ gw : GW W22, gw.1.cell? ⟨w15.heap.size, 2, none⟩ = some (.slice rA N rc) := fun gw => Gr.at gw.2 k22_6
        have s22_7 : ∀ gw : GW W22, gw.1.cell? ⟨w21.heap.size, 0, none⟩ = some (.int .i64 fr) := fun gw => Gr.at gw.2 k22_7
        have s22_8 : ∀ gw : GW W22, gw.1.cell? ⟨w21.heap.size, 1, none⟩ = some (.int .i64 st) := fun gw => Gr.at gw.2 k22_8
        have s22_9 : ∀ gw : GW W22, gw.1.cell? ⟨w21.heap.size, 2, none⟩ = some (.slice yA N yc) := fun gw => Gr.at gw.2 k22_9
        have s22_10 : ∀ gw : GW W22, gw.1.cell? ⟨sb, so + 1, none⟩ = some (.int .i64 st) := fun gw => Gr.at gw.2 k22_10
        have HZ1 := Lib.hid (fun gw : GW W22 => gw_call (HS1.out gw.1 (gb22_w21.trans gw.2)))
        have HZ2 := Lib.hid (fun gw : GW W22 => gw_call (HS2.out gw.1 (gb22_w21.trans gw.2)))
        refine wp_region_gr (by kernel_rfl) (by kernel_rfl) ?_
        repeat (go_big_quiet_step (first | (go_at_call 21; with_reducible exact HZ1.out _) | (go_at_call 21; with_reducible exact HZ2.out _)))
        refine wpQuiet_nil ?_
        intro w23 hb23
        clear s22_0 s22_1 s22_2 s22_3 s22_4 s22_5 s22_6 s22_7 s22_8 s22_9 s22_10
        have g23 : Gr w w23 := g22.trans hb23
        have k22_0 := Gr.at hb23 k22_0
        have k22_1 := Gr.at hb23 k22_1
        have k22_2 := Gr.at hb23 k22_2
        have k22_3 := Gr.at hb23 k22_3
        have k22_4 := Gr.at hb23 k22_4
        have k22_5 := Gr.at hb23 k22_5
        have k22_6 := Gr.at hb23 k22_6
        have k22_7 := Gr.at hb23 k22_7
        have k22_8 := Gr.at hb23 k22_8
        have k22_9 := Gr.at hb23 k22_9
        have k22_10 := Gr.at hb23 k22_10
        clear HS1 HS2 HZ1 HZ2
        -- @w
        go_wp2_with fail
        -- @x
        have g23 := g21.trans (gb22_w21.trans hb23)
        have gt23 := gb22_w21.trans hb23
        have y1 := k22_1; have y2 := k22_2; have y3 := k22_6
        clear k22_0 k22_1 k22_2 k22_3 k22_4 k22_5 k22_6 k22_7 k22_8 k22_9 k22_10
        clear d0 d1 d2 d3 d4 d5 d6 d7 d8
        clear l0 l1 l2 hg g21
        replace y1 := Lib.hid y1; replace y2 := Lib.hid y2; replace y3 := Lib.hid y3
        go_loopw [201] (fun x wr => ∃ k : Nat, k ≤ N ∧ x = .int .i64 (k : Int) ∧ Gr w23 wr) (fun x _ => N - (intOf x).toNat)
        case atStart => exact ⟨0, Nat.zero_le _, rfl, Gr.refl _⟩
        case round =>
          obtain ⟨k, hk, rfl, hg⟩ := hrel
          have gw : Gr w wr := g23.trans hg
          have gtr := gt23.trans hg
          have x1 := Gr.at hg y1.out; have x2 := Gr.at hg y2.out; have x3 := Gr.at hg y3.out
          clear y1 y2 y3
          by_cases hlt : k < N
          · as_aux_lemma =>
              have tX0 := Gr.at gtr (HTX.out k hlt); have rX0 := Gr.at gtr (HRX.out k hlt)
              obtain rfl := HTA.out (by omega)
              obtain rfl := HRA.out (by omega)
              have ib0 : (0 : Int) ≤ (k : Int) := by omega
              have ib1 : (k : Int) < (N : Int) := by omega
              have kb : 0 ≤ (k : Int) * st ∧ (k : Int) * st ≤ 10000 * 86400 := ⟨Int.mul_nonneg (by omega) (by omega), Int.mul_le_mul (by omega) (by omega) (by omega) (by omega)⟩
              have F1k := Lib.hid (F1.out k hlt)
              have F2k := Lib.hid (F2.out k)
              have F3k := Lib.hid (F3.out k hlt)
              have F4k := Lib.hid (F4.out k hlt)
              clear F1 F2 F3 F4 HTX HRX HTA HRA
              obtain ⟨at_, hat_⟩ : ∃ z, fr + (k : Int) * st = z := ⟨_, rfl⟩
              have atb : -9223372036854775808 ≤ at_ ∧ at_ ≤ 9223372036854775807 := by omega
              -- @ya
              go_wp2_with fail
              -- @yb
              (try simp only [hat_])
              rw [hat_] at F1k
              -- @yc
              go_loopw [29, 30, 212] (fun a b x ws => ∃ j : Nat, j ≤ un ∧ x = .int .i64 (j : Int) ∧ a = .int .i64 (lo k j) ∧ b = .int .i64 (hgh k j) ∧ Gr wr ws) (fun _ _ x _ => un - (intOf x).toNat)
              case atStart => exact ⟨0, Nat.zero_le _, rfl, by rw [F2k.out.1], by rw [F2k.out.2.1], Gr.refl _⟩
              case round =>
                obtain ⟨j, hj, rfl, rfl, rfl, hs⟩ := hrel
                by_cases hltj : j < un
                · as_aux_lemma =>
                    replace tX0 := Gr.at hs tX0; replace rX0 := Gr.at hs rX0; replace x1 := Gr.at hs x1; replace x2 := Gr.at hs x2; replace x3 := Gr.at hs x3
                    obtain ⟨a0, a1, a2⟩ := (HD.out j hltj).1.gr (gw.trans hs)
                    have hsA := (HD.out j hltj).2.2.2
                    obtain ⟨z1, z2, z3, z4, z5, z6, z7⟩ := F1k.out j hltj
                    obtain ⟨nb, nst, nds⟩ := N8.out j hltj
                    have hdA := hsA.hA (by omega)
                    have e0 := Gr.at (gw.trans hs) (hsA.hX _ z1).1
                    rw [z5] at e0
                    have hdc := hsA.hc; have hdcb := hsA.hb
                    obtain rfl := HSA.out (by omega)
                    have m0 := Gr.at (gtr.trans hs) (HSL.out j hltj)
                    (try rw [Nat.zero_add] at m0)
                    have zm0 := World.block_lt_of_cell? _ _ m0; have ze0 := World.block_lt_of_cell? _ _ e0; have zx1 := World.block_lt_of_cell? _ _ x1; have zx2 := World.block_lt_of_cell? _ _ x2; have zx3 := World.block_lt_of_cell? _ _ x3; have ztX := World.block_lt_of_cell? _ _ tX0; have zrX := World.block_lt_of_cell? _ _ rX0
                    simp only at zm0 ze0 zx1 zx2 zx3 ztX zrX
                    have L3 := F3k.out j (by omega)
                    obtain ⟨-, -, L2⟩ := F2k.out
                    have L2j := L2 j
                    have Ln := Lib.hid L2j.1; have Hn := Lib.hid L2j.2
                    have jb0 : (0 : Int) ≤ (j : Int) := by omega
                    have jb1 : (j : Int) < (un : Int) := by omega
                    have tq : ((j : Int) == oy % (un : Int)) = decide (j = q) := by
                      rw [hqe]; by_cases e : j = q
                      · rw [e]; simp
                      · rw [decide_eq_false e]; exact beq_eq_false_iff_ne.2 (by omega)
                    have un0 : (un : Int) ≠ 0 := by omega
                    have HQE := Lib.hid hqe
                    have dq : Hid (j = q → dv k q = dv k j) := Lib.hid (fun e => by rw [e])
                    rw [nst] at a1
                    clear hqe HD F1k F2k F3k F4k N8 HSL HSA HKB L2 L2j hsA
                    obtain ⟨l1, hl1⟩ : ∃ z, lo k (j + 1) = z := ⟨_, rfl⟩; obtain ⟨h2, hh2⟩ : ∃ z, hgh k (j + 1) = z := ⟨_, rfl⟩
                    rw [hl1] at Ln; rw [hh2] at Hn
                    replace hl1 := Lib.hid hl1; replace hh2 := Lib.hid hh2
                    generalize lo k j = L at *; generalize hgh k j = Hh at *; generalize dv k j = v at *; generalize xq k j = x at *; generalize K j = kj at *; generalize dv k q = vq at *
                    obtain ⟨dfr, dst, ⟨dA, dn, dc, db, do_, dX⟩⟩ := D j
                    generalize D j = dj at *
                    have hdn : (x : Int) < (dj.ds.n : Int) := by omega
                    have xx0 : (0 : Int) ≤ (x : Int) := by omega
                    have stz : (st == 0) = false := beq_eq_false_iff_ne.2 (by omega)
                    have stz2 : st ≠ 0 := by omega
                    have atb2 : -9223372036854775808 ≤ at_ - dj.fr ∧ at_ - dj.fr ≤ 9223372036854775807 := by omega
                    have v1 : decide ((x : Int) < 0) = false := decide_eq_false (by omega)
                    have v2 : decide ((dj.ds.n : Int) ≤ (x : Int)) = false := decide_eq_false (by omega)
                    rw [hdA] at a2
                    have cc : (0 < kj ∧ 0 ≤ v) ∨ (0 < kj ∧ v < 0) ∨ kj ≤ 0 := by omega
                    rcases cc with ⟨c1, c2⟩ | ⟨c1, c2⟩ | c1
                    · rw [if_pos ⟨c1, c2⟩] at Ln Hn
                      have v3 : decide (0 < kj) = true := decide_eq_true c1
                      have v4 : decide (0 ≤ v) = true := decide_eq_true c2
                      -- @pa
                      go_wp2_with fail
                      -- @pb
                      go_quiet (fail)
                      -- @pb2
                      go_wp2_with fail
                      -- @pb3
                      by_cases eq : j = q
                      · as_aux_lemma =>
                          rw [decide_eq_true eq] at tq
                          have vv := dq.out eq
                          subst vv
                          have v5 : (vq != vq) = false := by simp
                          clear eq dq
                          -- @s1a
                          go_quiet (fail)
                          -- @s1b
                          go_wp2_with fail
                          -- @s1c
                          go_roundw
                          case rel => exact ⟨j + 1, by omega, by go_num, by rw [hl1.out, Ln.out], by rw [hh2.out, Hn.out], gr_auto⟩
                          case measure => simp [intOf]; omega
                      · as_aux_lemma =>
                          rw [decide_eq_false eq] at tq
                          clear eq dq
                          -- @s2a
                          go_quiet (fail)
                          -- @s2b
                          go_wp2_with fail
                          -- @s2c
                          go_roundw
                          case rel => exact ⟨j + 1, by omega, by go_num, by rw [hl1.out, Ln.out], by rw [hh2.out, Hn.out], gr_auto⟩
                          case measure => simp [intOf]; omega
                    · rw [if_neg (by omega)] at Ln Hn
                      have v3 : decide (0 < kj) = true := decide_eq_true c1
                      have v4 : decide (0 ≤ v) = false := decide_eq_false (by omega)
                      -- @pc
                      go_wp2_with fail
                      -- @pd
                      by_cases eq : j = q
                      · as_aux_lemma =>
                          rw [decide_eq_true eq] at tq
                          have vv := dq.out eq
                          subst vv
                          have v5 : (vq != vq) = false := by simp
                          clear eq dq
                          -- @t1a
                          go_quiet (fail)
                          -- @t1b
                          go_wp2_with fail
                          -- @t1c
                          go_roundw
                          case rel => exact ⟨j + 1, by omega, by go_num, by rw [hl1.out, Ln.out], by rw [hh2.out, Hn.out], gr_auto⟩
                          case measure => simp [intOf]; omega
                      · as_aux_lemma =>
                          rw [decide_eq_false eq] at tq
                          clear eq dq
                          -- @t2a
                          go_quiet (fail)
                          -- @t2b
                          go_wp2_with fail
                          -- @t2c
                          go_roundw
                          case rel => exact ⟨j + 1, by omega, by go_num, by rw [hl1.out, Ln.out], by rw [hh2.out, Hn.out], gr_auto⟩
                          case measure => simp [intOf]; omega
                    · rw [if_neg (by omega)] at Ln Hn
                      have v3 : decide (0 < kj) = false := decide_eq_false (by omega)
                      -- @pe
                      go_wp2_with fail
                      -- @pf
                      by_cases eq : j = q
                      · as_aux_lemma =>
                          rw [decide_eq_true eq] at tq
                          have vv := dq.out eq
                          subst vv
                          have v5 : (vq != vq) = false := by simp
                          clear eq dq
                          -- @u1a
                          go_quiet (fail)
                          -- @u1b
                          go_wp2_with fail
                          -- @u1c
                          go_roundw
                          case rel => exact ⟨j + 1, by omega, by go_num, by rw [hl1.out, Ln.out], by rw [hh2.out, Hn.out], gr_auto⟩
                          case measure => simp [intOf]; omega
                      · as_aux_lemma =>
                          rw [decide_eq_false eq] at tq
                          clear eq dq
                          -- @u2a
                          go_quiet (fail)
                          -- @u2b
                          go_wp2_with fail
                          -- @u2c
                          go_roundw
                          case rel => exact ⟨j + 1, by omega, by go_num, by rw [hl1.out, Ln.out], by rw [hh2.out, Hn.out], gr_auto⟩
                          case measure => simp [intOf]; omega
                · as_aux_lemma =>
                    obtain rfl : un = j := by omega
                    have L3 := F3k.out un (Nat.le_refl _)
                    have LM := F4k.out
                    replace tX0 := Gr.at hs tX0; replace x2 := Gr.at hs x2
                    have hh := hg.trans hs
                    have zx2 := World.block_lt_of_cell? _ _ x2; have ztX := World.block_lt_of_cell? _ _ tX0
                    simp only at zx2 ztX
                    have HSS := Lib.hid hs
                    clear hs hg gw gtr F1k F2k F3k F4k HD N8 HSL HSA HKB rX0 x1 x3 hqe hat_ hltj
                    generalize lo k un = L at *; generalize hgh k un = Hh at *; generalize mv k = m at *
                    rcases LM with ⟨c1, c2⟩ | ⟨c1, c2, c3⟩
                    · as_aux_lemma =>
                        subst c2
                        have v1 : decide (Hh < 0) = true := decide_eq_true c1
                        have v3 : decide (0 ≤ Hh) = false := decide_eq_false (by omega)
                        have v2 : ((-1 : Int) != -1) = false := by simp
                        -- @va
                        go_wp2_with fail
                        -- @vb
                        go_roundw
                        case rel => exact ⟨k + 1, by omega, by go_num, hh⟩
                        case measure => simp [intOf]; omega
                    · as_aux_lemma =>
                        have v1 : decide (Hh < 0) = false := decide_eq_false (by omega)
                        have v3 : decide (0 ≤ Hh) = true := decide_eq_true c1
                        have v4 : decide (m < L) = false := decide_eq_false (by omega)
                        have v5 : decide (Hh < m) = false := decide_eq_false (by omega)
                        -- @vc
                        go_wp2_with fail
                        -- @vd
                        go_roundw
                        case rel => exact ⟨k + 1, by omega, by go_num, hh⟩
                        case measure => simp [intOf]; omega
          · as_aux_lemma =>
              obtain rfl : N = k := by omega
              clear F1 F2 F3 F4 HTX HRX HTA HRA HD N8 HSL HSA HKB gtr hg x1 x2 x3
              -- @ve
              go_wp2_with fail
              go_ret
              exact ⟨rfl, gw⟩
