/-
  Alarms: the reference's Same. (Printed by mkamh.py.)
-/
import Derived.Test.YtllkiadedaghoaaGreatDoorOr42
import Derived.Test.YtllkiadedaghoaaGreatDoorOr10

set_option linter.unusedVariables false
set_option linter.unusedSimpArgs false
namespace Go.Proofs.YtllkiadedaghoaaGreatDoor
open Go.RowKit Go.Sort Go.Shelf
attribute [local go_sem ↓] Go.wp_at_zero Go.wp_at_succ
set_option maxRecDepth 100000 in
set_option maxHeartbeats 4000000 in
theorem rsameA_any (s t : Al.SlA) (w : World) (hs : s.Rd w) (ht : t.Rd w) : Calls Tryz.prog 18 #[.slice s.A s.n s.c, .slice t.A t.n t.c] w fun e w' => e = .returned (.bool (Al.samB s.con t.con)) ∧ Gr w w' := by
  have hs9 : s.n ≤ 9223372036854775807 := Nat.le_trans hs.hc hs.hb
  have ht9 : t.n ≤ 9223372036854775807 := Nat.le_trans ht.hc ht.hb
  by_cases hnm : s.n = t.n
  · have HA := Lib.hid hs.hA; have HX := Lib.hid hs.hD; have KA := Lib.hid ht.hA; have KX := Lib.hid ht.hD
    have HSt := Lib.hid (fun i (hi : i < s.n) (h : Al.eqC (s.D i).con (t.D i).con = false) => show Al.samB s.con t.con = false from Al.samB_stop i (by rw [Al.SlA.con_len]; exact hi) (by rw [Al.SlA.con_len]; omega) (by rw [Al.con_get, Al.con_get]; exact h))
    have HEn := Lib.hid (fun (h : ∀ i, i < s.n → Al.eqC (s.D i).con (t.D i).con = true) => show Al.samB s.con t.con = true from Al.samB_all (by rw [Al.SlA.con_len, Al.SlA.con_len]; exact hnm) (fun i h1 h2 => by rw [Al.con_get, Al.con_get]; exact h i (by rw [← Al.SlA.con_len]; exact h1)))
    clear hs ht
    generalize Al.samB s.con t.con = r at *
    cases s with | mk sA n sc sb so SD => cases t with | mk tA tn tc tb tO TD =>
    simp only [] at *
    subst hnm
    go_enter Tryz.func18, Tryz.ntmps18
    go_wp2_with fail
    go_loopw [5] (fun x wr => ∃ i : Nat, i ≤ n ∧ x = .int .i64 (i : Int) ∧ Hid (∀ j, j < i → Al.eqC (SD j).con (TD j).con = true) ∧ Gr w wr) (fun x _ => n - (intOf x).toNat)
    case atStart => exact ⟨0, Nat.zero_le _, rfl, Lib.hid (fun j hj => absurd hj (Nat.not_lt_zero _)), Gr.refl _⟩
    case round =>
      obtain ⟨i, hi, rfl, HQ, hg⟩ := hrel
      by_cases hlt : i < n
      · obtain rfl := HA.out (by omega)
        obtain rfl := KA.out (by omega)
        obtain ⟨hc1, ha1⟩ := HX.out i hlt
        obtain ⟨hc2, ha2⟩ := KX.out i hlt
        obtain ⟨a0, a1, a2, a3⟩ := hc1.gr hg
        obtain ⟨b0, b1, b2, b3⟩ := hc2.gr hg
        have ib0 : (0 : Int) ≤ (i : Int) := by omega
        have ib1 : (i : Int) < (n : Int) := by omega
        have HI := Lib.hid (fun W (hW : Gr w W) => rsame_ints (SD i).p (TD i).p (SD i).n (SD i).c (TD i).n (TD i).c (SD i).b (TD i).b (SD i).o (TD i).o (SD i).X (TD i).X W ha1.hn ha2.hn ha1.hp (ha1.gr hW).hX ha2.hp (ha2.gr hW).hX)
        have HS := Lib.hid (fun h => HSt.out i hlt h)
        have HT := Lib.hid (fun (h : Al.eqC (SD i).con (TD i).con = true) j (hj : j < i + 1) => show Al.eqC (SD j).con (TD j).con = true from by
          by_cases e : j = i
          · rw [e]; exact h
          · exact HQ.out j (by omega))
        unfold Al.A.con at HS
        have HT' := Lib.hid (fun (h : Al.eqC ⟨(SD i).kd, (SD i).nd, (SD i).tm, Al.lst (SD i).X (SD i).n⟩ ⟨(TD i).kd, (TD i).nd, (TD i).tm, Al.lst (TD i).X (TD i).n⟩ = true) => HT.out h)
        clear HSt HEn HX KX hc1 hc2 ha1 ha2 HA KA HT
        have HT := HT'
        clear HT'
        obtain ⟨sd, hsd⟩ : ∃ z, SD i = z := ⟨_, rfl⟩; obtain ⟨td, htd⟩ : ∃ z, TD i = z := ⟨_, rfl⟩
        rw [hsd] at HI HS HT a0 a1 a2 a3; rw [htd] at HI HS HT b0 b1 b2 b3
        clear hsd htd
        cases sd with | mk xk xn xt xp xb xo xc xz xX => cases td with | mk yk yn yt yp yb yo yc yz yX =>
        simp only [] at *
        have HE3 : ∃ z, decide (Al.lst xX xc = Al.lst yX yc) = z := ⟨_, rfl⟩
        obtain ⟨z3, u3⟩ := HE3
        rw [u3] at HI
        cases u0 : (xk == yk)
        · have HR := Lib.hid (HS.out (by unfold Al.eqC; simp only []; rw [u0]; rfl))
          clear HS HT HQ u3
          have v0 : (xk != yk) = true := by rw [bne, u0]; rfl
          go_wp2_with fail
          (first | refine name_world ?_ | refine (show (∀ W, W = _ → Calls _ _ _ W _) → Calls _ _ _ _ _ from fun h => h _ rfl) ?_); intro W3 hW3
          have g3 : Gr w W3 := by rw [hW3]; exact gr_auto
          have k3_0 : W3.cell? ⟨sb, so + i * 4, none⟩ = some (.int .i64 xk) := by rw [hW3]; first | (simp [go_sem, *]; done) | (refine Gr.at ?_ (by assumption); exact gr_auto)
          have b3_0 : sb < W3.heap.size := World.block_lt_of_cell? _ _ k3_0
          have k3_1 : W3.cell? ⟨sb, so + i * 4 + 1, none⟩ = some (.string xn) := by rw [hW3]; first | (simp [go_sem, *]; done) | (refine Gr.at ?_ (by assumption); exact gr_auto)
          have k3_2 : W3.cell? ⟨sb, so + i * 4 + 2, none⟩ = some (.int .i64 xt) := by rw [hW3]; first | (simp [go_sem, *]; done) | (refine Gr.at ?_ (by assumption); exact gr_auto)
          have k3_3 : W3.cell? ⟨sb, so + i * 4 + 3, none⟩ = some (.slice xp xc xz) := by rw [hW3]; first | (simp [go_sem, *]; done) | (refine Gr.at ?_ (by assumption); exact gr_auto)
          have k3_4 : W3.cell? ⟨tb, tO + i * 4, none⟩ = some (.int .i64 yk) := by rw [hW3]; first | (simp [go_sem, *]; done) | (refine Gr.at ?_ (by assumption); exact gr_auto)
          have b3_4 : tb < W3.heap.size := World.block_lt_of_cell? _ _ k3_4
          have k3_5 : W3.cell? ⟨tb, tO + i * 4 + 1, none⟩ = some (.string yn) := by rw [hW3]; first | (simp [go_sem, *]; done) | (refine Gr.at ?_ (by assumption); exact gr_auto)
          have k3_6 : W3.cell? ⟨tb, tO + i * 4 + 2, none⟩ = some (.int .i64 yt) := by rw [hW3]; first | (simp [go_sem, *]; done) | (refine Gr.at ?_ (by assumption); exact gr_auto)
          have k3_7 : W3.cell? ⟨tb, tO + i * 4 + 3, none⟩ = some (.slice yp yc yz) := by rw [hW3]; first | (simp [go_sem, *]; done) | (refine Gr.at ?_ (by assumption); exact gr_auto)
          clear hW3
          have s3_0 : ∀ gw : GW W3, gw.1.cell? ⟨sb, so + i * 4, none⟩ = some (.int .i64 xk) := fun gw => Gr.at gw.2 k3_0
          have s3_1 : ∀ gw : GW W3, gw.1.cell? ⟨sb, so + i * 4 + 1, none⟩ = some (.string xn) := fun gw => Gr.at gw.2 k3_1
          have s3_2 : ∀ gw : GW W3, gw.1.cell? ⟨sb, so + i * 4 + 2, none⟩ = some (.int .i64 xt) := fun gw => Gr.at gw.2 k3_2
          have s3_3 : ∀ gw : GW W3, gw.1.cell? ⟨sb, so + i * 4 + 3, none⟩ = some (.slice xp xc xz) := fun gw => Gr.at gw.2 k3_3
          have s3_4 : ∀ gw : GW W3, gw.1.cell? ⟨tb, tO + i * 4, none⟩ = some (.int .i64 yk) := fun gw => Gr.at gw.2 k3_4
          have s3_5 : ∀ gw : GW W3, gw.1.cell? ⟨tb, tO + i * 4 + 1, none⟩ = some (.string yn) := fun gw => Gr.at gw.2 k3_5
          have s3_6 : ∀ gw : GW W3, gw.1.cell? ⟨tb, tO + i * 4 + 2, none⟩ = some (.int .i64 yt) := fun gw => Gr.at gw.2 k3_6
          have s3_7 : ∀ gw : GW W3, gw.1.cell? ⟨tb, tO + i * 4 + 3, none⟩ = some (.slice yp yc yz) := fun gw => Gr.at gw.2 k3_7
          have hnn := Nat.le_refl 0
          refine wp_region_gr (by kernel_rfl) (by kernel_rfl) ?_
          repeat (go_big_quiet_step (skip))
          refine wpQuiet_nil ?_
          intro w4 hb4
          clear s3_0 s3_1 s3_2 s3_3 s3_4 s3_5 s3_6 s3_7
          have g4 : Gr w w4 := g3.trans hb4
          have k3_0 := Gr.at hb4 k3_0
          have k3_1 := Gr.at hb4 k3_1
          have k3_2 := Gr.at hb4 k3_2
          have k3_3 := Gr.at hb4 k3_3
          have k3_4 := Gr.at hb4 k3_4
          have k3_5 := Gr.at hb4 k3_5
          have k3_6 := Gr.at hb4 k3_6
          have k3_7 := Gr.at hb4 k3_7
          clear HI
          go_wp2_with fail
          go_ret
          exact ⟨ret_bool HR.out.symm, g4⟩
        · cases u1 : Ba.eqS xn yn
          · have HR := Lib.hid (HS.out (by unfold Al.eqC; simp only []; rw [u0, u1]; rfl))
            unfold Ba.eqS at u1
            clear HS HT HQ u3
            have v0 : (xk != yk) = false := by rw [bne, u0]; rfl
            have v1 : (xn.toList != yn.toList) = true := by rw [bne, u1]; rfl
            go_wp2_with fail
            (first | refine name_world ?_ | refine (show (∀ W, W = _ → Calls _ _ _ W _) → Calls _ _ _ _ _ from fun h => h _ rfl) ?_); intro W3 hW3
            have g3 : Gr w W3 := by rw [hW3]; exact gr_auto
            have k3_0 : W3.cell? ⟨sb, so + i * 4, none⟩ = some (.int .i64 xk) := by rw [hW3]; first | (simp [go_sem, *]; done) | (refine Gr.at ?_ (by assumption); exact gr_auto)
            have b3_0 : sb < W3.heap.size := World.block_lt_of_cell? _ _ k3_0
            have k3_1 : W3.cell? ⟨sb, so + i * 4 + 1, none⟩ = some (.string xn) := by rw [hW3]; first | (simp [go_sem, *]; done) | (refine Gr.at ?_ (by assumption); exact gr_auto)
            have k3_2 : W3.cell? ⟨sb, so + i * 4 + 2, none⟩ = some (.int .i64 xt) := by rw [hW3]; first | (simp [go_sem, *]; done) | (refine Gr.at ?_ (by assumption); exact gr_auto)
            have k3_3 : W3.cell? ⟨sb, so + i * 4 + 3, none⟩ = some (.slice xp xc xz) := by rw [hW3]; first | (simp [go_sem, *]; done) | (refine Gr.at ?_ (by assumption); exact gr_auto)
            have k3_4 : W3.cell? ⟨tb, tO + i * 4, none⟩ = some (.int .i64 yk) := by rw [hW3]; first | (simp [go_sem, *]; done) | (refine Gr.at ?_ (by assumption); exact gr_auto)
            have b3_4 : tb < W3.heap.size := World.block_lt_of_cell? _ _ k3_4
            have k3_5 : W3.cell? ⟨tb, tO + i * 4 + 1, none⟩ = some (.string yn) := by rw [hW3]; first | (simp [go_sem, *]; done) | (refine Gr.at ?_ (by assumption); exact gr_auto)
            have k3_6 : W3.cell? ⟨tb, tO + i * 4 + 2, none⟩ = some (.int .i64 yt) := by rw [hW3]; first | (simp [go_sem, *]; done) | (refine Gr.at ?_ (by assumption); exact gr_auto)
            have k3_7 : W3.cell? ⟨tb, tO + i * 4 + 3, none⟩ = some (.slice yp yc yz) := by rw [hW3]; first | (simp [go_sem, *]; done) | (refine Gr.at ?_ (by assumption); exact gr_auto)
            clear hW3
            have s3_0 : ∀ gw : GW W3, gw.1.cell? ⟨sb, so + i * 4, none⟩ = some (.int .i64 xk) := fun gw => Gr.at gw.2 k3_0
            have s3_1 : ∀ gw : GW W3, gw.1.cell? ⟨sb, so + i * 4 + 1, none⟩ = some (.string xn) := fun gw => Gr.at gw.2 k3_1
            have s3_2 : ∀ gw : GW W3, gw.1.cell? ⟨sb, so + i * 4 + 2, none⟩ = some (.int .i64 xt) := fun gw => Gr.at gw.2 k3_2
            have s3_3 : ∀ gw : GW W3, gw.1.cell? ⟨sb, so + i * 4 + 3, none⟩ = some (.slice xp xc xz) := fun gw => Gr.at gw.2 k3_3
            have s3_4 : ∀ gw : GW W3, gw.1.cell? ⟨tb, tO + i * 4, none⟩ = some (.int .i64 yk) := fun gw => Gr.at gw.2 k3_4
            have s3_5 : ∀ gw : GW W3, gw.1.cell? ⟨tb, tO + i * 4 + 1, none⟩ = some (.string yn) := fun gw => Gr.at gw.2 k3_5
            have s3_6 : ∀ gw : GW W3, gw.1.cell? ⟨tb, tO + i * 4 + 2, none⟩ = some (.int .i64 yt) := fun gw => Gr.at gw.2 k3_6
            have s3_7 : ∀ gw : GW W3, gw.1.cell? ⟨tb, tO + i * 4 + 3, none⟩ = some (.slice yp yc yz) := fun gw => Gr.at gw.2 k3_7
            have hnn := Nat.le_refl 0
            refine wp_region_gr (by kernel_rfl) (by kernel_rfl) ?_
            repeat (go_big_quiet_step (skip))
            refine wpQuiet_nil ?_
            intro w4 hb4
            clear s3_0 s3_1 s3_2 s3_3 s3_4 s3_5 s3_6 s3_7
            have g4 : Gr w w4 := g3.trans hb4
            have k3_0 := Gr.at hb4 k3_0
            have k3_1 := Gr.at hb4 k3_1
            have k3_2 := Gr.at hb4 k3_2
            have k3_3 := Gr.at hb4 k3_3
            have k3_4 := Gr.at hb4 k3_4
            have k3_5 := Gr.at hb4 k3_5
            have k3_6 := Gr.at hb4 k3_6
            have k3_7 := Gr.at hb4 k3_7
            clear HI
            go_wp2_with fail
            go_ret
            exact ⟨ret_bool HR.out.symm, g4⟩
          · cases u2 : (xt == yt)
            · have HR := Lib.hid (HS.out (by unfold Al.eqC; simp only []; rw [u0, u1, u2]; rfl))
              unfold Ba.eqS at u1
              clear HS HT HQ u3
              have v0 : (xk != yk) = false := by rw [bne, u0]; rfl
              have v1 : (xn.toList != yn.toList) = false := by rw [bne, u1]; rfl
              have v2 : (xt != yt) = true := by rw [bne, u2]; rfl
              go_wp2_with fail
              (first | refine name_world ?_ | refine (show (∀ W, W = _ → Calls _ _ _ W _) → Calls _ _ _ _ _ from fun h => h _ rfl) ?_); intro W3 hW3
              have g3 : Gr w W3 := by rw [hW3]; exact gr_auto
              have k3_0 : W3.cell? ⟨sb, so + i * 4, none⟩ = some (.int .i64 xk) := by rw [hW3]; first | (simp [go_sem, *]; done) | (refine Gr.at ?_ (by assumption); exact gr_auto)
              have b3_0 : sb < W3.heap.size := World.block_lt_of_cell? _ _ k3_0
              have k3_1 : W3.cell? ⟨sb, so + i * 4 + 1, none⟩ = some (.string xn) := by rw [hW3]; first | (simp [go_sem, *]; done) | (refine Gr.at ?_ (by assumption); exact gr_auto)
              have k3_2 : W3.cell? ⟨sb, so + i * 4 + 2, none⟩ = some (.int .i64 xt) := by rw [hW3]; first | (simp [go_sem, *]; done) | (refine Gr.at ?_ (by assumption); exact gr_auto)
              have k3_3 : W3.cell? ⟨sb, so + i * 4 + 3, none⟩ = some (.slice xp xc xz) := by rw [hW3]; first | (simp [go_sem, *]; done) | (refine Gr.at ?_ (by assumption); exact gr_auto)
              have k3_4 : W3.cell? ⟨tb, tO + i * 4, none⟩ = some (.int .i64 yk) := by rw [hW3]; first | (simp [go_sem, *]; done) | (refine Gr.at ?_ (by assumption); exact gr_auto)
              have b3_4 : tb < W3.heap.size := World.block_lt_of_cell? _ _ k3_4
              have k3_5 : W3.cell? ⟨tb, tO + i * 4 + 1, none⟩ = some (.string yn) := by rw [hW3]; first | (simp [go_sem, *]; done) | (refine Gr.at ?_ (by assumption); exact gr_auto)
              have k3_6 : W3.cell? ⟨tb, tO + i * 4 + 2, none⟩ = some (.int .i64 yt) := by rw [hW3]; first | (simp [go_sem, *]; done) | (refine Gr.at ?_ (by assumption); exact gr_auto)
              have k3_7 : W3.cell? ⟨tb, tO + i * 4 + 3, none⟩ = some (.slice yp yc yz) := by rw [hW3]; first | (simp [go_sem, *]; done) | (refine Gr.at ?_ (by assumption); exact gr_auto)
              clear hW3
              have s3_0 : ∀ gw : GW W3, gw.1.cell? ⟨sb, so + i * 4, none⟩ = some (.int .i64 xk) := fun gw => Gr.at gw.2 k3_0
              have s3_1 : ∀ gw : GW W3, gw.1.cell? ⟨sb, so + i * 4 + 1, none⟩ = some (.string xn) := fun gw => Gr.at gw.2 k3_1
              have s3_2 : ∀ gw : GW W3, gw.1.cell? ⟨sb, so + i * 4 + 2, none⟩ = some (.int .i64 xt) := fun gw => Gr.at gw.2 k3_2
              have s3_3 : ∀ gw : GW W3, gw.1.cell? ⟨sb, so + i * 4 + 3, none⟩ = some (.slice xp xc xz) := fun gw => Gr.at gw.2 k3_3
              have s3_4 : ∀ gw : GW W3, gw.1.cell? ⟨tb, tO + i * 4, none⟩ = some (.int .i64 yk) := fun gw => Gr.at gw.2 k3_4
              have s3_5 : ∀ gw : GW W3, gw.1.cell? ⟨tb, tO + i * 4 + 1, none⟩ = some (.string yn) := fun gw => Gr.at gw.2 k3_5
              have s3_6 : ∀ gw : GW W3, gw.1.cell? ⟨tb, tO + i * 4 + 2, none⟩ = some (.int .i64 yt) := fun gw => Gr.at gw.2 k3_6
              have s3_7 : ∀ gw : GW W3, gw.1.cell? ⟨tb, tO + i * 4 + 3, none⟩ = some (.slice yp yc yz) := fun gw => Gr.at gw.2 k3_7
              have hnn := Nat.le_refl 0
              refine wp_region_gr (by kernel_rfl) (by kernel_rfl) ?_
              repeat (go_big_quiet_step (skip))
              refine wpQuiet_nil ?_
              intro w4 hb4
              clear s3_0 s3_1 s3_2 s3_3 s3_4 s3_5 s3_6 s3_7
              have g4 : Gr w w4 := g3.trans hb4
              have k3_0 := Gr.at hb4 k3_0
              have k3_1 := Gr.at hb4 k3_1
              have k3_2 := Gr.at hb4 k3_2
              have k3_3 := Gr.at hb4 k3_3
              have k3_4 := Gr.at hb4 k3_4
              have k3_5 := Gr.at hb4 k3_5
              have k3_6 := Gr.at hb4 k3_6
              have k3_7 := Gr.at hb4 k3_7
              clear HI
              go_wp2_with fail
              go_ret
              exact ⟨ret_bool HR.out.symm, g4⟩
            · cases z3
              · have HR := Lib.hid (HS.out (by unfold Al.eqC; simp only []; rw [u0, u1, u2, u3]; rfl))
                unfold Ba.eqS at u1
                clear HS HT HQ u3
                have v0 : (xk != yk) = false := by rw [bne, u0]; rfl
                have v1 : (xn.toList != yn.toList) = false := by rw [bne, u1]; rfl
                have v2 : (xt != yt) = false := by rw [bne, u2]; rfl
                go_wp2_with fail
                (first | refine name_world ?_ | refine (show (∀ W, W = _ → Calls _ _ _ W _) → Calls _ _ _ _ _ from fun h => h _ rfl) ?_); intro W3 hW3
                have g3 : Gr w W3 := by rw [hW3]; exact gr_auto
                have k3_0 : W3.cell? ⟨sb, so + i * 4, none⟩ = some (.int .i64 xk) := by rw [hW3]; first | (simp [go_sem, *]; done) | (refine Gr.at ?_ (by assumption); exact gr_auto)
                have b3_0 : sb < W3.heap.size := World.block_lt_of_cell? _ _ k3_0
                have k3_1 : W3.cell? ⟨sb, so + i * 4 + 1, none⟩ = some (.string xn) := by rw [hW3]; first | (simp [go_sem, *]; done) | (refine Gr.at ?_ (by assumption); exact gr_auto)
                have k3_2 : W3.cell? ⟨sb, so + i * 4 + 2, none⟩ = some (.int .i64 xt) := by rw [hW3]; first | (simp [go_sem, *]; done) | (refine Gr.at ?_ (by assumption); exact gr_auto)
                have k3_3 : W3.cell? ⟨sb, so + i * 4 + 3, none⟩ = some (.slice xp xc xz) := by rw [hW3]; first | (simp [go_sem, *]; done) | (refine Gr.at ?_ (by assumption); exact gr_auto)
                have k3_4 : W3.cell? ⟨tb, tO + i * 4, none⟩ = some (.int .i64 yk) := by rw [hW3]; first | (simp [go_sem, *]; done) | (refine Gr.at ?_ (by assumption); exact gr_auto)
                have b3_4 : tb < W3.heap.size := World.block_lt_of_cell? _ _ k3_4
                have k3_5 : W3.cell? ⟨tb, tO + i * 4 + 1, none⟩ = some (.string yn) := by rw [hW3]; first | (simp [go_sem, *]; done) | (refine Gr.at ?_ (by assumption); exact gr_auto)
                have k3_6 : W3.cell? ⟨tb, tO + i * 4 + 2, none⟩ = some (.int .i64 yt) := by rw [hW3]; first | (simp [go_sem, *]; done) | (refine Gr.at ?_ (by assumption); exact gr_auto)
                have k3_7 : W3.cell? ⟨tb, tO + i * 4 + 3, none⟩ = some (.slice yp yc yz) := by rw [hW3]; first | (simp [go_sem, *]; done) | (refine Gr.at ?_ (by assumption); exact gr_auto)
                clear hW3
                have s3_0 : ∀ gw : GW W3, gw.1.cell? ⟨sb, so + i * 4, none⟩ = some (.int .i64 xk) := fun gw => Gr.at gw.2 k3_0
                have s3_1 : ∀ gw : GW W3, gw.1.cell? ⟨sb, so + i * 4 + 1, none⟩ = some (.string xn) := fun gw => Gr.at gw.2 k3_1
                have s3_2 : ∀ gw : GW W3, gw.1.cell? ⟨sb, so + i * 4 + 2, none⟩ = some (.int .i64 xt) := fun gw => Gr.at gw.2 k3_2
                have s3_3 : ∀ gw : GW W3, gw.1.cell? ⟨sb, so + i * 4 + 3, none⟩ = some (.slice xp xc xz) := fun gw => Gr.at gw.2 k3_3
                have s3_4 : ∀ gw : GW W3, gw.1.cell? ⟨tb, tO + i * 4, none⟩ = some (.int .i64 yk) := fun gw => Gr.at gw.2 k3_4
                have s3_5 : ∀ gw : GW W3, gw.1.cell? ⟨tb, tO + i * 4 + 1, none⟩ = some (.string yn) := fun gw => Gr.at gw.2 k3_5
                have s3_6 : ∀ gw : GW W3, gw.1.cell? ⟨tb, tO + i * 4 + 2, none⟩ = some (.int .i64 yt) := fun gw => Gr.at gw.2 k3_6
                have s3_7 : ∀ gw : GW W3, gw.1.cell? ⟨tb, tO + i * 4 + 3, none⟩ = some (.slice yp yc yz) := fun gw => Gr.at gw.2 k3_7
                have HC1 := Lib.hid (fun gw : GW W3 => gw_call (HI.out gw.1 (g3.trans gw.2)))
                refine wp_region_gr (by kernel_rfl) (by kernel_rfl) ?_
                repeat (go_big_quiet_step ((go_at_call 49; exact HC1.out _)))
                refine wpQuiet_nil ?_
                intro w4 hb4
                clear s3_0 s3_1 s3_2 s3_3 s3_4 s3_5 s3_6 s3_7
                have g4 : Gr w w4 := g3.trans hb4
                have k3_0 := Gr.at hb4 k3_0
                have k3_1 := Gr.at hb4 k3_1
                have k3_2 := Gr.at hb4 k3_2
                have k3_3 := Gr.at hb4 k3_3
                have k3_4 := Gr.at hb4 k3_4
                have k3_5 := Gr.at hb4 k3_5
                have k3_6 := Gr.at hb4 k3_6
                have k3_7 := Gr.at hb4 k3_7
                clear HI HC1
                go_wp2_with fail
                go_ret
                exact ⟨ret_bool HR.out.symm, g4⟩
              · have HQ2 := Lib.hid (HT.out (by unfold Al.eqC; simp only []; rw [u0, u1, u2, u3]; rfl))
                unfold Ba.eqS at u1
                clear HS HT HQ u3
                have v0 : (xk != yk) = false := by rw [bne, u0]; rfl
                have v1 : (xn.toList != yn.toList) = false := by rw [bne, u1]; rfl
                have v2 : (xt != yt) = false := by rw [bne, u2]; rfl
                go_wp2_with fail
                (first | refine name_world ?_ | refine (show (∀ W, W = _ → Calls _ _ _ W _) → Calls _ _ _ _ _ from fun h => h _ rfl) ?_); intro W3 hW3
                have g3 : Gr w W3 := by rw [hW3]; exact gr_auto
                have k3_0 : W3.cell? ⟨sb, so + i * 4, none⟩ = some (.int .i64 xk) := by rw [hW3]; first | (simp [go_sem, *]; done) | (refine Gr.at ?_ (by assumption); exact gr_auto)
                have b3_0 : sb < W3.heap.size := World.block_lt_of_cell? _ _ k3_0
                have k3_1 : W3.cell? ⟨sb, so + i * 4 + 1, none⟩ = some (.string xn) := by rw [hW3]; first | (simp [go_sem, *]; done) | (refine Gr.at ?_ (by assumption); exact gr_auto)
                have k3_2 : W3.cell? ⟨sb, so + i * 4 + 2, none⟩ = some (.int .i64 xt) := by rw [hW3]; first | (simp [go_sem, *]; done) | (refine Gr.at ?_ (by assumption); exact gr_auto)
                have k3_3 : W3.cell? ⟨sb, so + i * 4 + 3, none⟩ = some (.slice xp xc xz) := by rw [hW3]; first | (simp [go_sem, *]; done) | (refine Gr.at ?_ (by assumption); exact gr_auto)
                have k3_4 : W3.cell? ⟨tb, tO + i * 4, none⟩ = some (.int .i64 yk) := by rw [hW3]; first | (simp [go_sem, *]; done) | (refine Gr.at ?_ (by assumption); exact gr_auto)
                have b3_4 : tb < W3.heap.size := World.block_lt_of_cell? _ _ k3_4
                have k3_5 : W3.cell? ⟨tb, tO + i * 4 + 1, none⟩ = some (.string yn) := by rw [hW3]; first | (simp [go_sem, *]; done) | (refine Gr.at ?_ (by assumption); exact gr_auto)
                have k3_6 : W3.cell? ⟨tb, tO + i * 4 + 2, none⟩ = some (.int .i64 yt) := by rw [hW3]; first | (simp [go_sem, *]; done) | (refine Gr.at ?_ (by assumption); exact gr_auto)
                have k3_7 : W3.cell? ⟨tb, tO + i * 4 + 3, none⟩ = some (.slice yp yc yz) := by rw [hW3]; first | (simp [go_sem, *]; done) | (refine Gr.at ?_ (by assumption); exact gr_auto)
                clear hW3
                have s3_0 : ∀ gw : GW W3, gw.1.cell? ⟨sb, so + i * 4, none⟩ = some (.int .i64 xk) := fun gw => Gr.at gw.2 k3_0
                have s3_1 : ∀ gw : GW W3, gw.1.cell? ⟨sb, so + i * 4 + 1, none⟩ = some (.string xn) := fun gw => Gr.at gw.2 k3_1
                have s3_2 : ∀ gw : GW W3, gw.1.cell? ⟨sb, so + i * 4 + 2, none⟩ = some (.int .i64 xt) := fun gw => Gr.at gw.2 k3_2
                have s3_3 : ∀ gw : GW W3, gw.1.cell? ⟨sb, so + i * 4 + 3, none⟩ = some (.slice xp xc xz) := fun gw => Gr.at gw.2 k3_3
                have s3_4 : ∀ gw : GW W3, gw.1.cell? ⟨tb, tO + i * 4, none⟩ = some (.int .i64 yk) := fun gw => Gr.at gw.2 k3_4
                have s3_5 : ∀ gw : GW W3, gw.1.cell? ⟨tb, tO + i * 4 + 1, none⟩ = some (.string yn) := fun gw => Gr.at gw.2 k3_5
                have s3_6 : ∀ gw : GW W3, gw.1.cell? ⟨tb, tO + i * 4 + 2, none⟩ = some (.int .i64 yt) := fun gw => Gr.at gw.2 k3_6
                have s3_7 : ∀ gw : GW W3, gw.1.cell? ⟨tb, tO + i * 4 + 3, none⟩ = some (.slice yp yc yz) := fun gw => Gr.at gw.2 k3_7
                have HC1 := Lib.hid (fun gw : GW W3 => gw_call (HI.out gw.1 (g3.trans gw.2)))
                refine wp_region_gr (by kernel_rfl) (by kernel_rfl) ?_
                repeat (go_big_quiet_step ((go_at_call 49; exact HC1.out _)))
                refine wpQuiet_nil ?_
                intro w4 hb4
                clear s3_0 s3_1 s3_2 s3_3 s3_4 s3_5 s3_6 s3_7
                have g4 : Gr w w4 := g3.trans hb4
                have k3_0 := Gr.at hb4 k3_0
                have k3_1 := Gr.at hb4 k3_1
                have k3_2 := Gr.at hb4 k3_2
                have k3_3 := Gr.at hb4 k3_3
                have k3_4 := Gr.at hb4 k3_4
                have k3_5 := Gr.at hb4 k3_5
                have k3_6 := Gr.at hb4 k3_6
                have k3_7 := Gr.at hb4 k3_7
                clear HI HC1
                go_wp2_with fail
                go_roundw
                case rel => exact ⟨i + 1, by omega, by go_num, HQ2, g4⟩
                case measure => simp [intOf]; omega
      · obtain rfl : n = i := by omega
        have HR := Lib.hid (HEn.out HQ.out)
        clear HSt HEn HX KX HA KA HQ
        go_wp2_with fail
        go_ret
        exact ⟨ret_bool HR.out.symm, hg⟩
  · have e : Al.samB s.con t.con = false := Al.samB_len (by rw [Al.SlA.con_len, Al.SlA.con_len]; exact hnm)
    rw [e]
    have hq2 : ((s.n : Int) == (t.n : Int)) = false := beq_eq_false_iff_ne.2 (by omega)
    have hq3 : (s.n == t.n) = false := beq_eq_false_iff_ne.2 hnm
    clear hs ht e
    generalize s.A = sA at *; generalize s.n = n at *; generalize s.c = sc at *; generalize t.A = tA at *; generalize t.n = tn at *; generalize t.c = tc at *
    go_enter Tryz.func18, Tryz.ntmps18
    go_wp2_with fail
    go_ret
    exact ⟨rfl, Gr.refl _⟩
end Go.Proofs.YtllkiadedaghoaaGreatDoor
