/-
  Areal: the reference's Valid and Nearest of gauges; many. (Printed by mkl.py.)
-/
import Derived.Test.YtajhhplgcegodaaGreatDoorArC
set_option linter.unusedVariables false
set_option linter.unusedSimpArgs false
namespace Go.Proofs.YtajhhplgcegodaaGreatDoor
open Go.RowKit
attribute [local go_sem ↓] Go.wp_at_zero Go.wp_at_succ
theorem any_succ (p : Nat → Bool) (n : Nat) : Ba.any p (n + 1) = (Ba.any p n || p n) := by
  rw [Bool.eq_iff_iff, Bool.or_eq_true, Ba.any_iff, Ba.any_iff]
  constructor
  · rintro ⟨i, hi, h⟩
    rcases (by omega : i < n ∨ i = n) with q | rfl
    · exact .inl ⟨i, q, h⟩
    · exact .inr h
  · rintro (⟨i, hi, h⟩ | h)
    · exact ⟨i, by omega, h⟩
    · exact ⟨n, by omega, h⟩
set_option maxRecDepth 100000 in
set_option maxHeartbeats 4000000 in
theorem rgvals_any (G : Ba.SlGauge) (w : World) (h : G.At w) : Calls Tryz.prog 12 #[.slice G.A G.n G.c] w fun e w' => e = .returned (.bool (Ba.gasB G)) ∧ Gr w w' := by
  have hm := Nat.le_trans h.hc h.hb
  by_cases h0 : G.n = 0
  · have t0 : decide ((G.n : Int) < 1) = true := decide_eq_true (by omega)
    have e : Ba.gasB G = false := by unfold Ba.gasB; rw [h0]; rfl
    rw [e]
    clear e h
    generalize G.A = A at *; generalize G.n = n at *; generalize G.c = c at *
    go_enter Tryz.func12, Tryz.ntmps12
    go_wp2_with fail
    go_ret
    exact ⟨rfl, gr_auto⟩
  have t0 : decide ((G.n : Int) < 1) = false := decide_eq_false (by omega)
  by_cases h1 : 100 < G.n
  · have t1 : decide ((100 : Int) < (G.n : Int)) = true := decide_eq_true (by omega)
    have e : Ba.gasB G = false := by unfold Ba.gasB; rw [decide_eq_false (by omega : ¬ G.n ≤ 100)]; simp
    rw [e]
    clear e h
    generalize G.A = A at *; generalize G.n = n at *; generalize G.c = c at *
    go_enter Tryz.func12, Tryz.ntmps12
    go_wp2_with fail
    go_ret
    exact ⟨rfl, gr_auto⟩
  have t1 : decide ((100 : Int) < (G.n : Int)) = false := decide_eq_false (by omega)
  have e : Ba.gasB G = Ba.allB (Ba.gaB G) G.n := by unfold Ba.gasB; rw [decide_eq_true (by omega : 1 ≤ G.n), decide_eq_true (by omega : G.n ≤ 100)]; rfl
  rw [e]
  clear e
  have hA := h.hA (by omega)
  have HD := Lib.hid h.hD; have hnc := h.hc; have hcb := h.hb
  have HCL := Lib.hid (fun i => show Ba.gaB G i = (Dc.isName (G.D i).nm.data.toList && (Ba.ptB (G.D i).x (G.D i).y && !Ba.any (fun k => Ba.eqS (G.D k).nm (G.D i).nm) i)) from rfl)
  clear h
  rw [hA]
  generalize Ba.gaB G = ga at *
  clear hA t0 t1
  obtain ⟨A, n, c, gb, go, D⟩ := G
  simp only at *
  clear A
  have t0 : decide ((n : Int) < 1) = false := decide_eq_false (by omega)
  have t1 : decide ((100 : Int) < (n : Int)) = false := decide_eq_false (by omega)
  go_enter Tryz.func12, Tryz.ntmps12
  go_wp2_with fail
  go_loopw [3] (fun x wr => ∃ i : Nat, i ≤ n ∧ x = .int .i64 (i : Int) ∧ Hid (Ba.allB ga i = true) ∧ Gr w wr) (fun x _ => n - (intOf x).toNat)
  case atStart => exact ⟨0, Nat.zero_le _, rfl, Lib.hid rfl, Gr.refl _⟩
  case round =>
    obtain ⟨i, hi, rfl, HQ, hg⟩ := hrel
    by_cases hlt : i < n
    · obtain ⟨a0, a1, a2⟩ := (HD.out i hlt).1.gr hg
      have hsz := (HD.out i hlt).2.2.2
      have ib0 : (0 : Int) ≤ (i : Int) := by omega
      have ib1 : (i : Int) < (n : Int) := by omega
      have HN := Lib.hid (fun W => risname_all (D i).nm W hsz)
      have HP := Lib.hid (fun W => rpvalid_any (D i).x (D i).y W)
      have hcl := HCL.out i
      have HDk := Lib.hid (fun k (hk : k < i) => And.intro (HD.out k (by omega)).1 (HD.out k (by omega)).2.2.2)
      clear HD HCL
      have HPK := Lib.hid (fun k => show (fun k => Ba.eqS (D k).nm (D i).nm) k = ((D k).nm.toList == (D i).nm.toList) from rfl)
      generalize hpp : (fun k => Ba.eqS (D k).nm (D i).nm) = p at *
      clear hpp
      obtain ⟨dk, hdk⟩ : ∃ f : Nat → ByteArray, (fun k => (D k).nm) = f := ⟨_, rfl⟩
      have HDN := Lib.hid (fun k (hk : k < i) => show w.cell? ⟨gb, go + k * 3, none⟩ = some (.string (dk k)) ∧ (dk k).size ≤ 9223372036854775807 from by rw [← hdk]; exact ⟨(HDk.out k hk).1.1, (HDk.out k hk).2⟩)
      have HPK2 := Lib.hid (fun k => show p k = ((dk k).toList == (D i).nm.toList) from by rw [← hdk]; exact HPK.out k)
      clear hdk HDk HPK
      generalize D i = d at *
      cases q0 : Dc.isName d.nm.data.toList
      · rw [q0] at HN hcl
        have HR := Lib.hid (Ba.allB_stop (p := ga) hlt (by rw [hcl]; rfl))
        clear hcl HQ HDN HPK2
        go_wp2_with fail
        refine (HN.out _).mono ?_
        rintro e w4 ⟨rfl, rfl⟩
        go_wp2_with fail
        go_ret
        exact ⟨by rw [HR.out]; rfl, hg⟩
      · rw [q0] at HN hcl
        cases q1 : Ba.ptB d.x d.y
        · rw [q1] at HP hcl
          have HR := Lib.hid (Ba.allB_stop (p := ga) hlt (by rw [hcl]; rfl))
          clear hcl HQ HDN HPK2
          go_wp2_with fail
          refine (HN.out _).mono ?_
          rintro e w4 ⟨rfl, rfl⟩
          go_wp2_with fail
          refine (HP.out _).mono ?_
          rintro e w5 ⟨rfl, hb5⟩
          replace a0 := Gr.at hb5 a0
          have g5 := hg.trans hb5
          clear HP HN a1 a2
          go_wp2_with fail
          go_ret
          exact ⟨by rw [HR.out]; rfl, g5⟩
        · rw [q1] at HP hcl
          have HRy := Lib.hid (fun (h : Ba.any p i = true) => Ba.allB_stop (p := ga) hlt (by rw [hcl, h]; rfl))
          have HRn := Lib.hid (fun (h : Ba.any p i = false) => Ba.allB_go (p := ga) HQ.out (by rw [hcl, h]; rfl))
          clear hcl HQ
          go_wp2_with fail
          refine (HN.out _).mono ?_
          rintro e w4 ⟨rfl, rfl⟩
          go_wp2_with fail
          refine (HP.out _).mono ?_
          rintro e w5 ⟨rfl, hb5⟩
          replace a0 := Gr.at hb5 a0
          have g5 := hg.trans hb5
          clear HP HN a1 a2
          go_wp2_with fail
          go_loopw [4] (fun x wz => ∃ k : Nat, k ≤ i ∧ x = .int .i64 (k : Int) ∧ Hid (Ba.any p k = false) ∧ Gr w5 wz) (fun x _ => i - (intOf x).toNat)
          case atStart => exact ⟨0, Nat.zero_le _, rfl, Lib.hid rfl, Gr.refl _⟩
          case round =>
            skip
            obtain ⟨k, hk, rfl, HK, hgz⟩ := hrel
            have gz := g5.trans hgz
            replace a0 := Gr.at hgz a0
            by_cases hkn : k < i
            · have b0 := Gr.at gz (HDN.out k hkn).1
              have bs := (HDN.out k hkn).2
              have pk := HPK2.out k
              have kb0 : (0 : Int) ≤ (k : Int) := by omega
              have kb1 : (k : Int) < (n : Int) := by omega
              have kb2 : (k : Int) < (i : Int) := by omega
              have HS := Lib.hid (any_succ p k)
              have HAi := Lib.hid (fun (h : p k = true) => (Ba.any_iff p i).2 ⟨k, hkn, h⟩)
              clear HDN HPK2
              generalize dk k = tk at *
              cases hpk : p k
              · rw [hpk] at pk
                replace pk := pk.symm
                have HKn := Lib.hid (show Ba.any p (k + 1) = false from by rw [HS.out, HK.out, hpk]; rfl)
                clear HS HAi hpk HK HRy HRn
                go_wp2_with fail
                (first | refine name_world ?_ | refine (show (∀ W, W = _ → Calls _ _ _ W _) → Calls _ _ _ _ _ from fun h => h _ rfl) ?_); intro W6 hW6
                have g6 : Gr w W6 := by rw [hW6]; exact gr_auto
                have gb6_wr : Gr wr W6 := by (try clear g6); rw [hW6]; exact gr_auto
                have k6_0 : W6.cell? ⟨gb, go + k * 3, none⟩ = some (.string tk) := by rw [hW6]; first | (simp [go_sem, *]; done) | (refine Gr.at ?_ (by assumption); exact gr_auto)
                have b6_0 : gb < W6.heap.size := World.block_lt_of_cell? _ _ k6_0
                have k6_1 : W6.cell? ⟨gb, go + i * 3, none⟩ = some (.string d.nm) := by rw [hW6]; first | (simp [go_sem, *]; done) | (refine Gr.at ?_ (by assumption); exact gr_auto)
                clear hW6
                have s6_0 : ∀ gw : GW W6, gw.1.cell? ⟨gb, go + k * 3, none⟩ = some (.string tk) := fun gw => Gr.at gw.2 k6_0
                have s6_1 : ∀ gw : GW W6, gw.1.cell? ⟨gb, go + i * 3, none⟩ = some (.string d.nm) := fun gw => Gr.at gw.2 k6_1
                have hnn := Nat.le_refl 0
                refine wp_region_gr (by kernel_rfl) (by kernel_rfl) ?_
                repeat (go_big_quiet_step (skip))
                refine wpQuiet_nil ?_
                intro w7 hb7
                clear s6_0 s6_1
                have g7 : Gr w w7 := g6.trans hb7
                have k6_0 := Gr.at hb7 k6_0
                have k6_1 := Gr.at hb7 k6_1
                go_wp2_with fail
                go_roundw
                case rel => exact ⟨k + 1, by omega, by go_num, HKn, hgz.trans (gb6_wr.trans hb7)⟩
                case measure => simp [intOf]; omega
              · have HRi := Lib.hid (HRy.out (HAi.out hpk))
                rw [hpk] at pk
                replace pk := pk.symm
                clear HS HAi hpk HK HRy HRn
                go_wp2_with fail
                (first | refine name_world ?_ | refine (show (∀ W, W = _ → Calls _ _ _ W _) → Calls _ _ _ _ _ from fun h => h _ rfl) ?_); intro W6 hW6
                have g6 : Gr w W6 := by rw [hW6]; exact gr_auto
                have gb6_wr : Gr wr W6 := by (try clear g6); rw [hW6]; exact gr_auto
                have k6_0 : W6.cell? ⟨gb, go + k * 3, none⟩ = some (.string tk) := by rw [hW6]; first | (simp [go_sem, *]; done) | (refine Gr.at ?_ (by assumption); exact gr_auto)
                have b6_0 : gb < W6.heap.size := World.block_lt_of_cell? _ _ k6_0
                have k6_1 : W6.cell? ⟨gb, go + i * 3, none⟩ = some (.string d.nm) := by rw [hW6]; first | (simp [go_sem, *]; done) | (refine Gr.at ?_ (by assumption); exact gr_auto)
                clear hW6
                have s6_0 : ∀ gw : GW W6, gw.1.cell? ⟨gb, go + k * 3, none⟩ = some (.string tk) := fun gw => Gr.at gw.2 k6_0
                have s6_1 : ∀ gw : GW W6, gw.1.cell? ⟨gb, go + i * 3, none⟩ = some (.string d.nm) := fun gw => Gr.at gw.2 k6_1
                have hnn := Nat.le_refl 0
                refine wp_region_gr (by kernel_rfl) (by kernel_rfl) ?_
                repeat (go_big_quiet_step (skip))
                refine wpQuiet_nil ?_
                intro w7 hb7
                clear s6_0 s6_1
                have g7 : Gr w w7 := g6.trans hb7
                have k6_0 := Gr.at hb7 k6_0
                have k6_1 := Gr.at hb7 k6_1
                go_wp2_with fail
                go_ret
                exact ⟨by rw [HRi.out]; rfl, gz.trans (gb6_wr.trans hb7)⟩
            · obtain rfl : i = k := by omega
              have HQn := Lib.hid (HRn.out HK.out)
              clear HDN HPK2 HK HRy HRn
              go_wp2_with fail
              go_roundw
              case rel => exact ⟨i + 1, by omega, by go_num, HQn, gz⟩
              case measure => simp [intOf]; omega
    · obtain rfl : n = i := by omega
      have HR := Lib.hid HQ.out
      clear HD HCL HQ
      go_wp2_with fail
      go_ret
      exact ⟨by rw [HR.out]; rfl, hg⟩

namespace Ba
def manB (G : SlGauge) : Bool := (decide ((20 : Int) < (G.n : Int)) && decide ((G.n : Int) ≤ 100) || decide ((110 : Int) < (G.n : Int))) || any (fun i => decide ((100 : Int) < ((G.D i).nm.size : Int))) G.n
end Ba

set_option maxRecDepth 100000 in
set_option maxHeartbeats 4000000 in
theorem manf_any (d : Ba.Gauge) (w : World) (h : d.Ok w) : Calls Tryz.prog 31 #[d.val] w fun e w' => e = .returned (.bool (decide ((100 : Int) < (d.nm.size : Int)))) ∧ Gr w w' := by
  have hm := h.2.2
  unfold Ba.Gauge.val
  go_enter Tryz.func31, Tryz.ntmps31
  go_wp2_with fail
  go_ret
  exact ⟨rfl, gr_auto⟩

set_option maxRecDepth 100000 in
set_option maxHeartbeats 4000000 in
theorem many_any (G : Ba.SlGauge) (w : World) (h : G.At w) : Calls Tryz.prog 8 #[.slice G.A G.n G.c] w fun e w' => e = .returned (.bool (Ba.manB G)) ∧ Gr w w' := by
  have HC := Lib.hid (has_gauge 31 #[] G (fun i => decide ((100 : Int) < ((G.D i).nm.size : Int))) w h (enter_of Tryz.func31 (by kernel_rfl) (by kernel_rfl)) fun i hi W' hW => manf_any (G.D i) W' ((h.hD i hi).2.gr hW))
  have hm := Nat.le_trans h.hc h.hb
  clear h
  unfold Ba.manB
  generalize Ba.any (fun i => decide ((100 : Int) < ((G.D i).nm.size : Int))) G.n = q at *
  generalize G.A = A at *; generalize G.n = n at *; generalize G.c = c at *
  have short : ∀ b : Bool, (decide ((20 : Int) < (n : Int)) && decide ((n : Int) ≤ 100) || decide ((110 : Int) < (n : Int))) = b → Calls Tryz.prog 8 #[.slice A n c] w fun e w' => e = .returned (.bool (b || q)) ∧ Gr w w' := fun b hb => by
    by_cases h1 : (20 : Int) < (n : Int)
    · have t1 : decide ((20 : Int) < (n : Int)) = true := decide_eq_true h1
      by_cases h2 : (n : Int) ≤ 100
      · have t2 : decide ((n : Int) ≤ 100) = true := decide_eq_true h2
        rw [t1, t2] at hb
        subst hb
        clear HC
        go_enter Tryz.func8, Tryz.ntmps8
        go_wp2_with fail
        go_ret
        exact ⟨rfl, gr_auto⟩
      · have t2 : decide ((n : Int) ≤ 100) = false := decide_eq_false h2
        by_cases h3 : (110 : Int) < (n : Int)
        · have t3 : decide ((110 : Int) < (n : Int)) = true := decide_eq_true h3
          rw [t1, t2, t3] at hb
          subst hb
          clear HC
          go_enter Tryz.func8, Tryz.ntmps8
          go_wp2_with fail
          go_ret
          exact ⟨rfl, gr_auto⟩
        · have t3 : decide ((110 : Int) < (n : Int)) = false := decide_eq_false h3
          rw [t1, t2, t3] at hb
          subst hb
          go_enter Tryz.func8, Tryz.ntmps8
          go_wp2_with fail
          refine HC.out.mono ?_
          rintro e w1 ⟨rfl, hb1⟩
          clear HC
          go_wp2_with fail
          go_ret
          exact ⟨rfl, hb1⟩
    · have t1 : decide ((20 : Int) < (n : Int)) = false := decide_eq_false h1
      have t3 : decide ((110 : Int) < (n : Int)) = false := decide_eq_false (by omega)
      rw [t1, t3] at hb
      subst hb
      go_enter Tryz.func8, Tryz.ntmps8
      go_wp2_with fail
      refine HC.out.mono ?_
      rintro e w1 ⟨rfl, hb1⟩
      clear HC
      go_wp2_with fail
      go_ret
      exact ⟨rfl, hb1⟩
  exact short _ rfl
end Go.Proofs.YtajhhplgcegodaaGreatDoor
