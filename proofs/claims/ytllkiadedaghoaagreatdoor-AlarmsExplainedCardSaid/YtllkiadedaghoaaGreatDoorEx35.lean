/-
  Alarms: the reference's With, Sorted, Of. Typed.
-/
import Derived.Test.YtllkiadedaghoaaGreatDoorEx32
import Derived.Test.YtllkiadedaghoaaGreatDoorEx18

set_option linter.unusedVariables false
set_option linter.unusedSimpArgs false
namespace Go.Proofs.YtllkiadedaghoaaGreatDoor
open Go.RowKit Go.Sort Go.Shelf
attribute [local go_sem ↓] Go.wp_at_zero Go.wp_at_succ
namespace Al
theorem flat_len5 (l : List M) : (flat l).length = l.length * 5 := by
  unfold flat
  induction l with
  | nil => rfl
  | cons a d ih => rw [List.flatMap_cons, List.length_append, ih, List.length_cons]; simp [M.enc]; omega
theorem flat_one (l : List M) : ∀ u ∈ flat l, u.oneCell' = true := by
  intro u hu
  obtain ⟨a, -, hu⟩ := List.mem_flatMap.1 hu
  simp [M.enc] at hu
  rcases hu with rfl | rfl | rfl | rfl | rfl <;> rfl
theorem flat_append (l k : List M) : flat (l ++ k) = flat l ++ flat k := by simp [flat]
/-- The cells of the rest of a slice. -/
theorem SlM.rest {w : World} {s : SlM} (h : s.At w) {i : Nat} (hi : i < s.n) : ∀ j u, (flat (s.lst.drop i))[j]? = some u → w.cell? ((⟨s.b, s.o + i * 5, none⟩ : Addr).add j) = some u := by
  intro j u hj
  have hlt : j < (flat (s.lst.drop i)).length := (List.getElem?_eq_some_iff.1 hj).1
  rw [flat_len5, List.length_drop, SlM.lst_len] at hlt
  have e : ((⟨s.b, s.o + i * 5, none⟩ : Addr).add j) = ⟨s.b, s.o + i * 5 + j, none⟩ := by
    unfold Addr.add; split <;> simp_all
  rw [e]
  have hq : j / 5 < (s.lst.drop i).length := by rw [List.length_drop, SlM.lst_len]; omega
  have hf := flat_get M.enc 5 (fun _ => rfl) (s.lst.drop i) (j / 5) (j % 5) hq (by omega)
  rw [show j / 5 * 5 + j % 5 = j by omega] at hf
  unfold flat at hj
  rw [hf] at hj
  have hg : (s.lst.drop i)[j / 5]! = s.D (i + j / 5) := by
    rw [getElem!_pos (s.lst.drop i) (j / 5) hq, List.getElem_drop, lst_get]
  rw [hg] at hj
  obtain ⟨c0, c1, c2, c3, c4⟩ := (h.hD (i + j / 5) (by omega)).1
  have ea : s.o + i * 5 + j = s.o + (i + j / 5) * 5 + j % 5 := by omega
  rw [ea]
  generalize s.D (i + j / 5) = d at *
  have hm : j % 5 < 5 := by omega
  generalize j % 5 = r at *
  rcases (by omega : r = 0 ∨ r = 1 ∨ r = 2 ∨ r = 3 ∨ r = 4) with rfl | rfl | rfl | rfl | rfl <;> simp [M.enc] at hj <;> subst hj <;> assumption
end Al
set_option maxRecDepth 100000 in
set_option maxHeartbeats 4000000 in
theorem rwith_any (s : Al.SlM) (m : Al.M) (w : World) (h : s.At w) (hN : s.A = none → s.c = 0) (hn : s.n ≤ 10000) : Calls Tryz.prog 192 #[.slice s.A s.n s.c, .agg m.enc.toArray] w fun e w' => ∃ v, e = .returned v ∧ w'.ownsRow w.heap.size 53 5 v (Al.insM s.lst m).length (Al.flat (Al.insM s.lst m)) ∧ Gr w w' := by
  obtain ⟨i1, k0, k1, k2, k3⟩ := info_parts infoM
  have KI := Lib.hid k0; have KZ0 := Lib.hid k1; have KZ1 := Lib.hid k2; have KZ2 := Lib.hid k3
  clear k0 k1 k2 k3
  have HA := Lib.hid h.hA; have HX := Lib.hid h.hD
  have hnc := h.hc; have hcb := h.hb
  have HB := Lib.hid (fun a b W => rbef_any a b W)
  have HLn := Lib.hid (Al.SlM.lst_len s)
  have HLg := Lib.hid (fun i (hi : i < s.lst.length) => Al.lst_get s i hi)
  have HRe := Lib.hid (fun W (hW : Gr w W) i (hi : i < s.n) => Al.SlM.rest (h.gr hW) hi)
  have HI := Lib.hid (fun k (hk : k ≤ s.lst.length) h1 h2 => Al.insM_at (l := s.lst) (m := m) (k := k) hk h1 h2)
  have HNo := Lib.hid hN
  clear h hN
  obtain ⟨R, hR⟩ : ∃ R, Al.insM s.lst m = R := ⟨_, rfl⟩
  rw [hR] at HI ⊢
  clear hR
  generalize s.lst = T at *
  cases s with | mk A n c b o D =>
  simp only [] at *
  unfold Al.M.enc
  go_enter Tryz.func192, Tryz.ntmps192
  go_upto_block 0 with fail
  refine name_world ?_
  intro W1 hW1
  have g1 : Gr w W1 := by rw [hW1]; exact gr_auto
  have p0 : W1.cell? ⟨w.heap.size, 0, none⟩ = some (.string m.nd) := by rw [hW1]; simp [go_sem]
  have p1 : W1.cell? ⟨w.heap.size, 1, none⟩ = some (.int .i64 m.nu) := by rw [hW1]; simp [go_sem]
  have p2 : W1.cell? ⟨w.heap.size, 2, none⟩ = some (.int .i64 m.tm) := by rw [hW1]; simp [go_sem]
  have p3 : W1.cell? ⟨w.heap.size, 3, none⟩ = some (.int .i64 m.ar) := by rw [hW1]; simp [go_sem]
  have p4 : W1.cell? ⟨w.heap.size, 4, none⟩ = some (.int .i64 m.lv) := by rw [hW1]; simp [go_sem]
  clear hW1
  have bw1 : w.heap.size < W1.heap.size := World.block_lt_of_cell? _ _ p0
  go_cut [5, 6] (fun v x wx => ∃ i : Nat, i ≤ n ∧ x = .int .i64 (i : Int) ∧ Hid (wx.ownsRow W1.heap.size 53 5 v i (Al.flat (T.take i))) ∧ Hid (∀ j (hj : j < T.length), j < i → Al.bfM T[j] m = true) ∧ Hid (∀ hi : i < T.length, Al.bfM T[i] m = false) ∧ Gr W1 wx)
  case first =>
    clear HRe HI HNo
    go_wp2_with fail
    go_loopw [5, 6] (fun v x wr => ∃ i : Nat, i ≤ n ∧ x = .int .i64 (i : Int) ∧ Hid (wr.ownsRow W1.heap.size 53 5 v i (Al.flat (T.take i))) ∧ Hid (∀ j (hj : j < T.length), j < i → Al.bfM T[j] m = true) ∧ Gr W1 wr) (fun _ x _ => n - (intOf x).toNat)
    case atStart => exact ⟨0, Nat.zero_le _, rfl, Lib.hid (World.ownsRow_nil _ _ _ _), Lib.hid (fun j hj h => absurd h (Nat.not_lt_zero _)), Gr.refl _⟩
    case round =>
      obtain ⟨i, hi, rfl, HO, HP, hg⟩ := hrel
      have gw := g1.trans hg
      replace p0 := Gr.at hg p0; replace p1 := Gr.at hg p1; replace p2 := Gr.at hg p2; replace p3 := Gr.at hg p3; replace p4 := Gr.at hg p4
      by_cases hlt : i < n
      · obtain rfl := HA.out (by omega)
        obtain ⟨hcl, -⟩ := HX.out i hlt
        obtain ⟨a0, a1, a2, a3, a4⟩ := hcl.gr gw
        have ib0 : (0 : Int) ≤ (i : Int) := by omega
        have ib1 : (i : Int) < (n : Int) := by omega
        have jb2 : decide ((i : Int) < (n : Int)) = true := decide_eq_true ib1
        have jb3 : decide (i < n) = true := decide_eq_true hlt
        have hTi := HLg.out i (by rw [HLn.out]; exact hlt)
        have HBi := Lib.hid (fun W => HB.out (D i) m W)
        have HTi := Lib.hid hTi
        have hbz := Gr.size hg
        clear HX HA hcl hTi HB HLg
        generalize D i = d at *
        unfold Al.M.enc at HBi
        cases hbf : Al.bfM d m
        · rw [hbf] at HBi
          have HQ := Lib.hid (fun (h : i < T.length) => show Al.bfM T[i] m = false from by rw [HTi.out]; exact hbf)
          clear hbf
          go_wp2_with fail
          (first | refine name_world ?_ | refine (show (∀ W, W = _ → Calls _ _ _ W _) → Calls _ _ _ _ _ from fun h => h _ rfl) ?_); intro W3 hW3
          have g3 : Gr w W3 := by rw [hW3]; exact gr_auto
          have gb3_W1 : Gr W1 W3 := by (try clear g3); rw [hW3]; exact gr_auto
          have gb3_wr : Gr wr W3 := by (try clear g3); rw [hW3]; exact gr_auto
          have k3_0 : W3.cell? ⟨b, o + i * 5, none⟩ = some (.string d.nd) := by rw [hW3]; first | (simp [go_sem, *]; done) | (refine Gr.at ?_ (by assumption); exact gr_auto)
          have b3_0 : b < W3.heap.size := World.block_lt_of_cell? _ _ k3_0
          have k3_1 : W3.cell? ⟨b, o + i * 5 + 1, none⟩ = some (.int .i64 d.nu) := by rw [hW3]; first | (simp [go_sem, *]; done) | (refine Gr.at ?_ (by assumption); exact gr_auto)
          have k3_2 : W3.cell? ⟨b, o + i * 5 + 2, none⟩ = some (.int .i64 d.tm) := by rw [hW3]; first | (simp [go_sem, *]; done) | (refine Gr.at ?_ (by assumption); exact gr_auto)
          have k3_3 : W3.cell? ⟨b, o + i * 5 + 3, none⟩ = some (.int .i64 d.ar) := by rw [hW3]; first | (simp [go_sem, *]; done) | (refine Gr.at ?_ (by assumption); exact gr_auto)
          have k3_4 : W3.cell? ⟨b, o + i * 5 + 4, none⟩ = some (.int .i64 d.lv) := by rw [hW3]; first | (simp [go_sem, *]; done) | (refine Gr.at ?_ (by assumption); exact gr_auto)
          have k3_5 : W3.cell? ⟨w.heap.size, 0, none⟩ = some (.string m.nd) := by rw [hW3]; first | (simp [go_sem, *]; done) | (refine Gr.at ?_ (by assumption); exact gr_auto)
          have b3_5 : w.heap.size < W3.heap.size := World.block_lt_of_cell? _ _ k3_5
          have k3_6 : W3.cell? ⟨w.heap.size, 1, none⟩ = some (.int .i64 m.nu) := by rw [hW3]; first | (simp [go_sem, *]; done) | (refine Gr.at ?_ (by assumption); exact gr_auto)
          have k3_7 : W3.cell? ⟨w.heap.size, 2, none⟩ = some (.int .i64 m.tm) := by rw [hW3]; first | (simp [go_sem, *]; done) | (refine Gr.at ?_ (by assumption); exact gr_auto)
          have k3_8 : W3.cell? ⟨w.heap.size, 3, none⟩ = some (.int .i64 m.ar) := by rw [hW3]; first | (simp [go_sem, *]; done) | (refine Gr.at ?_ (by assumption); exact gr_auto)
          have k3_9 : W3.cell? ⟨w.heap.size, 4, none⟩ = some (.int .i64 m.lv) := by rw [hW3]; first | (simp [go_sem, *]; done) | (refine Gr.at ?_ (by assumption); exact gr_auto)
          clear hW3
          have s3_0 : ∀ gw : GW W3, gw.1.cell? ⟨b, o + i * 5, none⟩ = some (.string d.nd) := fun gw => Gr.at gw.2 k3_0
          have s3_1 : ∀ gw : GW W3, gw.1.cell? ⟨b, o + i * 5 + 1, none⟩ = some (.int .i64 d.nu) := fun gw => Gr.at gw.2 k3_1
          have s3_2 : ∀ gw : GW W3, gw.1.cell? ⟨b, o + i * 5 + 2, none⟩ = some (.int .i64 d.tm) := fun gw => Gr.at gw.2 k3_2
          have s3_3 : ∀ gw : GW W3, gw.1.cell? ⟨b, o + i * 5 + 3, none⟩ = some (.int .i64 d.ar) := fun gw => Gr.at gw.2 k3_3
          have s3_4 : ∀ gw : GW W3, gw.1.cell? ⟨b, o + i * 5 + 4, none⟩ = some (.int .i64 d.lv) := fun gw => Gr.at gw.2 k3_4
          have s3_5 : ∀ gw : GW W3, gw.1.cell? ⟨w.heap.size, 0, none⟩ = some (.string m.nd) := fun gw => Gr.at gw.2 k3_5
          have s3_6 : ∀ gw : GW W3, gw.1.cell? ⟨w.heap.size, 1, none⟩ = some (.int .i64 m.nu) := fun gw => Gr.at gw.2 k3_6
          have s3_7 : ∀ gw : GW W3, gw.1.cell? ⟨w.heap.size, 2, none⟩ = some (.int .i64 m.tm) := fun gw => Gr.at gw.2 k3_7
          have s3_8 : ∀ gw : GW W3, gw.1.cell? ⟨w.heap.size, 3, none⟩ = some (.int .i64 m.ar) := fun gw => Gr.at gw.2 k3_8
          have s3_9 : ∀ gw : GW W3, gw.1.cell? ⟨w.heap.size, 4, none⟩ = some (.int .i64 m.lv) := fun gw => Gr.at gw.2 k3_9
          have HC1 := Lib.hid (fun gw : GW W3 => gw_call (HBi.out gw.1))
          refine wp_region_gr (by kernel_rfl) (by kernel_rfl) ?_
          repeat (go_big_quiet_step ((go_at_call 205; exact HC1.out _)))
          refine wpQuiet_nil ?_
          intro w4 hb4
          clear s3_0 s3_1 s3_2 s3_3 s3_4 s3_5 s3_6 s3_7 s3_8 s3_9
          have g4 : Gr w w4 := g3.trans hb4
          have k3_0 := Gr.at hb4 k3_0
          have k3_1 := Gr.at hb4 k3_1
          have k3_2 := Gr.at hb4 k3_2
          have k3_3 := Gr.at hb4 k3_3
          have k3_4 := Gr.at hb4 k3_4
          have k3_5 := Gr.at hb4 k3_5
          have k3_6 := Gr.at hb4 k3_6
          have k3_7 := Gr.at hb4 k3_7
          have k3_8 := Gr.at hb4 k3_8
          have k3_9 := Gr.at hb4 k3_9
          have hO4 := Lib.hid (ownsRow_gr HO.out (gb3_wr.trans hb4))
          clear HC1 HBi HO
          go_wp2_with fail
          go_meet
          exact ⟨i, hi, rfl, hO4, HP, HQ, gb3_W1.trans hb4⟩
        · rw [hbf] at HBi
          have HP2 := Lib.hid (fun j (hj : j < T.length) (hji : j < i + 1) => show Al.bfM T[j] m = true from by
            by_cases e : j = i
            · subst e; rw [HTi.out]; exact hbf
            · exact HP.out j hj (by omega))
          have HT2 := Lib.hid (show T.take (i + 1) = T.take i ++ [d] from by rw [List.take_succ_eq_append_getElem (by rw [HLn.out]; exact hlt), HTi.out])
          clear hbf HP
          go_wp2_with fail
          (first | refine name_world ?_ | refine (show (∀ W, W = _ → Calls _ _ _ W _) → Calls _ _ _ _ _ from fun h => h _ rfl) ?_); intro W3 hW3
          have g3 : Gr w W3 := by rw [hW3]; exact gr_auto
          have gb3_W1 : Gr W1 W3 := by (try clear g3); rw [hW3]; exact gr_auto
          have gb3_wr : Gr wr W3 := by (try clear g3); rw [hW3]; exact gr_auto
          have k3_0 : W3.cell? ⟨b, o + i * 5, none⟩ = some (.string d.nd) := by rw [hW3]; first | (simp [go_sem, *]; done) | (refine Gr.at ?_ (by assumption); exact gr_auto)
          have b3_0 : b < W3.heap.size := World.block_lt_of_cell? _ _ k3_0
          have k3_1 : W3.cell? ⟨b, o + i * 5 + 1, none⟩ = some (.int .i64 d.nu) := by rw [hW3]; first | (simp [go_sem, *]; done) | (refine Gr.at ?_ (by assumption); exact gr_auto)
          have k3_2 : W3.cell? ⟨b, o + i * 5 + 2, none⟩ = some (.int .i64 d.tm) := by rw [hW3]; first | (simp [go_sem, *]; done) | (refine Gr.at ?_ (by assumption); exact gr_auto)
          have k3_3 : W3.cell? ⟨b, o + i * 5 + 3, none⟩ = some (.int .i64 d.ar) := by rw [hW3]; first | (simp [go_sem, *]; done) | (refine Gr.at ?_ (by assumption); exact gr_auto)
          have k3_4 : W3.cell? ⟨b, o + i * 5 + 4, none⟩ = some (.int .i64 d.lv) := by rw [hW3]; first | (simp [go_sem, *]; done) | (refine Gr.at ?_ (by assumption); exact gr_auto)
          have k3_5 : W3.cell? ⟨w.heap.size, 0, none⟩ = some (.string m.nd) := by rw [hW3]; first | (simp [go_sem, *]; done) | (refine Gr.at ?_ (by assumption); exact gr_auto)
          have b3_5 : w.heap.size < W3.heap.size := World.block_lt_of_cell? _ _ k3_5
          have k3_6 : W3.cell? ⟨w.heap.size, 1, none⟩ = some (.int .i64 m.nu) := by rw [hW3]; first | (simp [go_sem, *]; done) | (refine Gr.at ?_ (by assumption); exact gr_auto)
          have k3_7 : W3.cell? ⟨w.heap.size, 2, none⟩ = some (.int .i64 m.tm) := by rw [hW3]; first | (simp [go_sem, *]; done) | (refine Gr.at ?_ (by assumption); exact gr_auto)
          have k3_8 : W3.cell? ⟨w.heap.size, 3, none⟩ = some (.int .i64 m.ar) := by rw [hW3]; first | (simp [go_sem, *]; done) | (refine Gr.at ?_ (by assumption); exact gr_auto)
          have k3_9 : W3.cell? ⟨w.heap.size, 4, none⟩ = some (.int .i64 m.lv) := by rw [hW3]; first | (simp [go_sem, *]; done) | (refine Gr.at ?_ (by assumption); exact gr_auto)
          clear hW3
          have s3_0 : ∀ gw : GW W3, gw.1.cell? ⟨b, o + i * 5, none⟩ = some (.string d.nd) := fun gw => Gr.at gw.2 k3_0
          have s3_1 : ∀ gw : GW W3, gw.1.cell? ⟨b, o + i * 5 + 1, none⟩ = some (.int .i64 d.nu) := fun gw => Gr.at gw.2 k3_1
          have s3_2 : ∀ gw : GW W3, gw.1.cell? ⟨b, o + i * 5 + 2, none⟩ = some (.int .i64 d.tm) := fun gw => Gr.at gw.2 k3_2
          have s3_3 : ∀ gw : GW W3, gw.1.cell? ⟨b, o + i * 5 + 3, none⟩ = some (.int .i64 d.ar) := fun gw => Gr.at gw.2 k3_3
          have s3_4 : ∀ gw : GW W3, gw.1.cell? ⟨b, o + i * 5 + 4, none⟩ = some (.int .i64 d.lv) := fun gw => Gr.at gw.2 k3_4
          have s3_5 : ∀ gw : GW W3, gw.1.cell? ⟨w.heap.size, 0, none⟩ = some (.string m.nd) := fun gw => Gr.at gw.2 k3_5
          have s3_6 : ∀ gw : GW W3, gw.1.cell? ⟨w.heap.size, 1, none⟩ = some (.int .i64 m.nu) := fun gw => Gr.at gw.2 k3_6
          have s3_7 : ∀ gw : GW W3, gw.1.cell? ⟨w.heap.size, 2, none⟩ = some (.int .i64 m.tm) := fun gw => Gr.at gw.2 k3_7
          have s3_8 : ∀ gw : GW W3, gw.1.cell? ⟨w.heap.size, 3, none⟩ = some (.int .i64 m.ar) := fun gw => Gr.at gw.2 k3_8
          have s3_9 : ∀ gw : GW W3, gw.1.cell? ⟨w.heap.size, 4, none⟩ = some (.int .i64 m.lv) := fun gw => Gr.at gw.2 k3_9
          have HC1 := Lib.hid (fun gw : GW W3 => gw_call (HBi.out gw.1))
          refine wp_region_gr (by kernel_rfl) (by kernel_rfl) ?_
          repeat (go_big_quiet_step ((go_at_call 205; exact HC1.out _)))
          refine wpQuiet_nil ?_
          intro w4 hb4
          clear s3_0 s3_1 s3_2 s3_3 s3_4 s3_5 s3_6 s3_7 s3_8 s3_9
          have g4 : Gr w w4 := g3.trans hb4
          have k3_0 := Gr.at hb4 k3_0
          have k3_1 := Gr.at hb4 k3_1
          have k3_2 := Gr.at hb4 k3_2
          have k3_3 := Gr.at hb4 k3_3
          have k3_4 := Gr.at hb4 k3_4
          have k3_5 := Gr.at hb4 k3_5
          have k3_6 := Gr.at hb4 k3_6
          have k3_7 := Gr.at hb4 k3_7
          have k3_8 := Gr.at hb4 k3_8
          have k3_9 := Gr.at hb4 k3_9
          have HO4 := Lib.hid (ownsRow_gr HO.out (gb3_wr.trans hb4))
          have g14 := gb3_W1.trans hb4
          have hz4 := Gr.size g14
          clear HC1 HBi HO hg gw g3 gb3_W1 gb3_wr hb4
          go_wp2_with (at_builtin; refine wpList_append_own _ rfl _ _ 26 rfl W1.heap.size 53 i1 (.agg #[.string ⟨#[]⟩, .int .i64 0, .int .i64 0, .int .i64 0, .int .i64 0]) 5 48 Tryz.underlying26 KI.out KZ0.out KZ1.out KZ2.out rfl (by decide) _ _ _ rfl (ownsRow_gr HO4.out (by exact gr_auto)) ⟨w4.heap.size, 0, none⟩ 1 1 [.string d.nd, .int .i64 d.nu, .int .i64 d.tm, .int .i64 d.ar, .int .i64 d.lv] rfl rfl (cells_new w4 #[.string d.nd, .int .i64 d.nu, .int .i64 d.tm, .int .i64 d.ar, .int .i64 d.lv] 53) (by intro u hu; simp at hu; rcases hu with rfl | rfl | rfl | rfl | rfl <;> rfl) (by unfold maxLen; omega) (by omega) (by simp; omega) ?_)
          intro v' w9 hown' hgrow hnil
          have HP9 := Lib.hid (show w9.ownsRow W1.heap.size 53 5 v' (i + 1) (Al.flat (T.take (i + 1))) from by rw [HT2.out, Al.flat_snoc]; exact hown')
          have g9 : Gr W1 w9 := Gr.own (g14.alloc (Obj.cells #[.string d.nd, .int .i64 d.nu, .int .i64 d.tm, .int .i64 d.ar, .int .i64 d.lv] 53)) (Nat.le_refl _) (ownsRow_gr HO4.out (Gr.alloc (Gr.refl w4) _)) hgrow
          clear HO4 hown' hgrow hnil g14 HT2
          go_wp2_with fail
          go_roundw
          case rel => exact ⟨i + 1, by omega, by go_num, HP9, HP2, g9⟩
          case measure => simp [intOf]; omega
      · obtain rfl : n = i := by omega
        have jb2 : decide ((n : Int) < (n : Int)) = false := decide_eq_false (by omega)
        have jb3 : decide (n < n) = false := decide_eq_false (by omega)
        have HQ := Lib.hid (fun (h : n < T.length) => show Al.bfM T[n] m = false from by have := HLn.out; omega)
        clear HX HA HB HLg
        go_wp2_with fail
        (first | refine name_world ?_ | refine (show (∀ W, W = _ → Calls _ _ _ W _) → Calls _ _ _ _ _ from fun h => h _ rfl) ?_); intro W3 hW3
        have g3 : Gr w W3 := by rw [hW3]; exact gr_auto
        have gb3_W1 : Gr W1 W3 := by (try clear g3); rw [hW3]; exact gr_auto
        have gb3_wr : Gr wr W3 := by (try clear g3); rw [hW3]; exact gr_auto
        have k3_0 : W3.cell? ⟨w.heap.size, 0, none⟩ = some (.string m.nd) := by rw [hW3]; first | (simp [go_sem, *]; done) | (refine Gr.at ?_ (by assumption); exact gr_auto)
        have b3_0 : w.heap.size < W3.heap.size := World.block_lt_of_cell? _ _ k3_0
        have k3_1 : W3.cell? ⟨w.heap.size, 1, none⟩ = some (.int .i64 m.nu) := by rw [hW3]; first | (simp [go_sem, *]; done) | (refine Gr.at ?_ (by assumption); exact gr_auto)
        have k3_2 : W3.cell? ⟨w.heap.size, 2, none⟩ = some (.int .i64 m.tm) := by rw [hW3]; first | (simp [go_sem, *]; done) | (refine Gr.at ?_ (by assumption); exact gr_auto)
        have k3_3 : W3.cell? ⟨w.heap.size, 3, none⟩ = some (.int .i64 m.ar) := by rw [hW3]; first | (simp [go_sem, *]; done) | (refine Gr.at ?_ (by assumption); exact gr_auto)
        have k3_4 : W3.cell? ⟨w.heap.size, 4, none⟩ = some (.int .i64 m.lv) := by rw [hW3]; first | (simp [go_sem, *]; done) | (refine Gr.at ?_ (by assumption); exact gr_auto)
        clear hW3
        have s3_0 : ∀ gw : GW W3, gw.1.cell? ⟨w.heap.size, 0, none⟩ = some (.string m.nd) := fun gw => Gr.at gw.2 k3_0
        have s3_1 : ∀ gw : GW W3, gw.1.cell? ⟨w.heap.size, 1, none⟩ = some (.int .i64 m.nu) := fun gw => Gr.at gw.2 k3_1
        have s3_2 : ∀ gw : GW W3, gw.1.cell? ⟨w.heap.size, 2, none⟩ = some (.int .i64 m.tm) := fun gw => Gr.at gw.2 k3_2
        have s3_3 : ∀ gw : GW W3, gw.1.cell? ⟨w.heap.size, 3, none⟩ = some (.int .i64 m.ar) := fun gw => Gr.at gw.2 k3_3
        have s3_4 : ∀ gw : GW W3, gw.1.cell? ⟨w.heap.size, 4, none⟩ = some (.int .i64 m.lv) := fun gw => Gr.at gw.2 k3_4
        have hnn := Nat.le_refl 0
        refine wp_region_gr (by kernel_rfl) (by kernel_rfl) ?_
        repeat (go_big_quiet_step (skip))
        refine wpQuiet_nil ?_
        intro w4 hb4
        clear s3_0 s3_1 s3_2 s3_3 s3_4
        have g4 : Gr w w4 := g3.trans hb4
        have k3_0 := Gr.at hb4 k3_0
        have k3_1 := Gr.at hb4 k3_1
        have k3_2 := Gr.at hb4 k3_2
        have k3_3 := Gr.at hb4 k3_3
        have k3_4 := Gr.at hb4 k3_4
        have hO4 := Lib.hid (ownsRow_gr HO.out (gb3_wr.trans hb4))
        clear HO
        go_wp2_with fail
        go_meet
        exact ⟨n, Nat.le_refl _, rfl, hO4, HP, HQ, gb3_W1.trans hb4⟩
  case rest =>
    obtain ⟨i, hi, rfl, HO, HP, HQ, hg⟩ := hcut
    have hin := HI.out i (by rw [HLn.out]; exact hi) HP.out HQ.out
    have HIN := Lib.hid hin
    have gw := g1.trans hg
    replace p0 := Gr.at hg p0; replace p1 := Gr.at hg p1; replace p2 := Gr.at hg p2; replace p3 := Gr.at hg p3; replace p4 := Gr.at hg p4
    have hz := Gr.size hg
    clear hin HI HP HQ HX HB HLg
    go_wp2_with (at_builtin; refine wpList_append_own _ rfl _ _ 26 rfl W1.heap.size 53 i1 (.agg #[.string ⟨#[]⟩, .int .i64 0, .int .i64 0, .int .i64 0, .int .i64 0]) 5 48 Tryz.underlying26 KI.out KZ0.out KZ1.out KZ2.out rfl (by decide) _ _ _ rfl (ownsRow_gr HO.out (by exact gr_auto)) ⟨wc.heap.size, 0, none⟩ 1 1 [.string m.nd, .int .i64 m.nu, .int .i64 m.tm, .int .i64 m.ar, .int .i64 m.lv] rfl rfl (cells_new wc #[.string m.nd, .int .i64 m.nu, .int .i64 m.tm, .int .i64 m.ar, .int .i64 m.lv] 53) (by intro u hu; simp at hu; rcases hu with rfl | rfl | rfl | rfl | rfl <;> rfl) (by unfold maxLen; omega) (by omega) (by simp; omega) ?_)
    intro v' w9 hown' hgrow hnil
    have HO9 := Lib.hid (show w9.ownsRow W1.heap.size 53 5 v' (i + 1) (Al.flat (T.take i ++ [m])) from by rw [Al.flat_snoc]; exact hown')
    have g9 : Gr W1 w9 := Gr.own (hg.alloc (Obj.cells #[.string m.nd, .int .i64 m.nu, .int .i64 m.tm, .int .i64 m.ar, .int .i64 m.lv] 53)) (Nat.le_refl _) (ownsRow_gr HO.out (Gr.alloc (Gr.refl wc) _)) hgrow
    clear HO hown' hgrow hnil p0 p1 p2 p3 p4 gw hg
    have gw9 := g1.trans g9
    have hz9 := Gr.size g9
    have ib0 : (0 : Int) ≤ (i : Int) := by omega
    have ib1 : (i : Int) ≤ (n : Int) := by omega
    by_cases hlt : i < n
    · obtain rfl := HA.out (by omega)
      have hic : ¬ (i = c) := by omega
      have hic2 : ¬ (c = i) := by omega
      have hic3 : ¬ (c - i = 0) := by omega
      have HSr := Lib.hid (HRe.out w9 gw9 i hlt)
      have hdl : (Al.flat (T.drop i)).length = (n - i) * 5 := by rw [Al.flat_len5, List.length_drop, HLn.out]
      have HDL := Lib.hid hdl
      clear hdl HRe HA
      go_wp2_with (at_builtin; refine wpList_append_own _ rfl _ _ 26 rfl W1.heap.size 53 i1 (.agg #[.string ⟨#[]⟩, .int .i64 0, .int .i64 0, .int .i64 0, .int .i64 0]) 5 48 Tryz.underlying26 KI.out KZ0.out KZ1.out KZ2.out rfl (by decide) _ _ _ rfl HO9.out ⟨b, o + i * 5, none⟩ (n - i) (c - i) (Al.flat (T.drop i)) rfl HDL.out HSr.out (Al.flat_one _) (by unfold maxLen; omega) (by omega) hz9 ?_)
      intro v2 w8 hown2 hgrow2 hnil2
      have HF := Lib.hid (show w8.ownsRow w.heap.size 53 5 v2 R.length (Al.flat R) from by
        have e : R = (T.take i ++ [m]) ++ T.drop i := by rw [HIN.out, List.append_assoc]; rfl
        have el : R.length = (i + 1) + (n - i) := by rw [e, List.length_append, List.length_append, List.length_take, List.length_drop, HLn.out, List.length_singleton]; omega
        rw [el, e, Al.flat_append]
        exact ownsRow_base hown2 (by omega))
      have g8 : Gr w w8 := Gr.own gw9 (show w.heap.size ≤ W1.heap.size by omega) HO9.out hgrow2
      clear HO9 hown2 hgrow2 hnil2 HSr HDL HIN
      go_wp2_with fail
      go_ret
      exact ⟨_, rfl, HF.out, g8⟩
    · obtain rfl : n = i := by omega
      clear HRe HA
      cases A with
      | none =>
        obtain rfl := HNo.out rfl
        obtain rfl : n = 0 := by omega
        have HF := Lib.hid (show w9.ownsRow w.heap.size 53 5 v' R.length (Al.flat R) from by
          have e : R = T.take 0 ++ [m] := by rw [HIN.out, List.drop_eq_nil_of_le (by rw [HLn.out]; exact Nat.le_refl _)]
          have el : R.length = 0 + 1 := by rw [e, List.length_append, List.length_take, HLn.out, List.length_singleton]; omega
          rw [el, e]
          exact ownsRow_base HO9.out (by omega))
        clear HIN HNo
        go_wp2_with (at_builtin; refine wpList_append_own_none rfl _ _ 26 rfl W1.heap.size 53 i1 5 Tryz.underlying26 KI.out _ _ _ rfl HO9.out rfl ?_)
        all_goals (first
          | (go_ret; exact ⟨_, rfl, HF.out, gw9⟩)
          | (go_wp2_with fail; go_ret; exact ⟨_, rfl, HF.out, gw9⟩))
      | some ad =>
        clear HNo
        by_cases hic : n = c
        · subst hic
          go_wp2_with (at_builtin; refine wpList_append_own _ rfl _ _ 26 rfl W1.heap.size 53 i1 (.agg #[.string ⟨#[]⟩, .int .i64 0, .int .i64 0, .int .i64 0, .int .i64 0]) 5 48 Tryz.underlying26 KI.out KZ0.out KZ1.out KZ2.out rfl (by decide) _ _ _ rfl HO9.out _ 0 _ [] rfl rfl (fun j u h => by simp at h) (fun u h => by simp at h) (by unfold maxLen; omega) (by omega) hz9 ?_)
          intro v2 w8 hown2 hgrow2 hnil2
          have HF := Lib.hid (show w8.ownsRow w.heap.size 53 5 v2 R.length (Al.flat R) from by
            have e : R = T.take n ++ [m] := by rw [HIN.out, List.drop_eq_nil_of_le (by rw [HLn.out]; exact Nat.le_refl _)]
            have el : R.length = n + 1 := by rw [e, List.length_append, List.length_take, HLn.out, List.length_singleton]; omega
            rw [el, e]
            exact ownsRow_base (by first | exact hown2 | simpa using hown2) (by omega))
          have g8 : Gr w w8 := Gr.own gw9 (show w.heap.size ≤ W1.heap.size by omega) HO9.out hgrow2
          clear HO9 hown2 hgrow2 hnil2 HIN
          go_wp2_with fail
          go_ret
          exact ⟨_, rfl, HF.out, g8⟩
        · have hic2 : ¬ (c = n) := by omega
          have hic3 : ¬ (c - n = 0) := by omega
          go_wp2_with (at_builtin; refine wpList_append_own _ rfl _ _ 26 rfl W1.heap.size 53 i1 (.agg #[.string ⟨#[]⟩, .int .i64 0, .int .i64 0, .int .i64 0, .int .i64 0]) 5 48 Tryz.underlying26 KI.out KZ0.out KZ1.out KZ2.out rfl (by decide) _ _ _ rfl HO9.out _ 0 _ [] rfl rfl (fun j u h => by simp at h) (fun u h => by simp at h) (by unfold maxLen; omega) (by omega) hz9 ?_)
          intro v2 w8 hown2 hgrow2 hnil2
          have HF := Lib.hid (show w8.ownsRow w.heap.size 53 5 v2 R.length (Al.flat R) from by
            have e : R = T.take n ++ [m] := by rw [HIN.out, List.drop_eq_nil_of_le (by rw [HLn.out]; exact Nat.le_refl _)]
            have el : R.length = n + 1 := by rw [e, List.length_append, List.length_take, HLn.out, List.length_singleton]; omega
            rw [el, e]
            exact ownsRow_base (by first | exact hown2 | simpa using hown2) (by omega))
          have g8 : Gr w w8 := Gr.own gw9 (show w.heap.size ≤ W1.heap.size by omega) HO9.out hgrow2
          clear HO9 hown2 hgrow2 hnil2 HIN
          go_wp2_with fail
          go_ret
          exact ⟨_, rfl, HF.out, g8⟩
end Go.Proofs.YtllkiadedaghoaaGreatDoor
