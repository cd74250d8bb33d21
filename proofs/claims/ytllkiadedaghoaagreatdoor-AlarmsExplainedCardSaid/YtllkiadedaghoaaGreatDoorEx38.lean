/-
  Alarms: the reference's JumpRange, SameRange, Right, Limits. (Printed by mkamk.py.)
-/
import Derived.Test.YtllkiadedaghoaaGreatDoorEx34
import Derived.Test.YtllkiadedaghoaaGreatDoorEx31
import Derived.Test.YtllkiadedaghoaaGreatDoorEx17

set_option linter.unusedVariables false
set_option linter.unusedSimpArgs false
namespace Go.Proofs.YtllkiadedaghoaaGreatDoor
open Go.RowKit Go.Sort Go.Shelf
attribute [local go_sem ↓] Go.wp_at_zero Go.wp_at_succ
set_option maxRecDepth 100000 in
set_option maxHeartbeats 4000000 in
theorem rjmp_range (x : Int) (w : World) : Calls Tryz.prog 46 #[.int .i64 x] w fun e w' => e = .returned (.bool (Al.jmO x)) ∧ w = w' := by
  unfold Al.jmO Ba.bet
  cases t0 : decide (0 ≤ x)
  · go_enter Tryz.func46, Tryz.ntmps46
    go_wp2_with fail
    go_ret
    exact ⟨rfl, rfl⟩
  · cases t1 : decide (x ≤ 8388608)
    · go_enter Tryz.func46, Tryz.ntmps46
      go_wp2_with fail
      go_ret
      exact ⟨rfl, rfl⟩
    · go_enter Tryz.func46, Tryz.ntmps46
      go_wp2_with fail
      go_ret
      exact ⟨rfl, rfl⟩
set_option maxRecDepth 100000 in
set_option maxHeartbeats 4000000 in
theorem rsam_range (x : Int) (w : World) : Calls Tryz.prog 47 #[.int .i64 x] w fun e w' => e = .returned (.bool (Al.stO x)) ∧ w = w' := by
  unfold Al.stO Ba.bet
  cases t0 : decide (2 ≤ x)
  · go_enter Tryz.func47, Tryz.ntmps47
    go_wp2_with fail
    go_ret
    exact ⟨rfl, rfl⟩
  · cases t1 : decide (x ≤ 10000)
    · go_enter Tryz.func47, Tryz.ntmps47
      go_wp2_with fail
      go_ret
      exact ⟨rfl, rfl⟩
    · go_enter Tryz.func47, Tryz.ntmps47
      go_wp2_with fail
      go_ret
      exact ⟨rfl, rfl⟩
set_option maxRecDepth 100000 in
set_option maxHeartbeats 4000000 in
theorem rright53_any (jp sm tl : Int) (w : World) : Calls Tryz.prog 12 #[.agg #[.int .i64 jp, .int .i64 sm, .int .i64 tl]] w fun e w' => e = .returned (.bool (Al.lmO jp sm tl)) ∧ Gr w w' := by
  have HJ := Lib.hid (fun W => rjmp_range jp W); have HS := Lib.hid (fun W => rsam_range sm W)
  unfold Al.lmO Ba.bet
  generalize Al.jmO jp = b0 at *; generalize Al.stO sm = b1 at *
  cases b0
  · go_enter Tryz.func12, Tryz.ntmps12
    go_wp2_with fail
    refine (HJ.out _).mono ?_
    rintro e w1 ⟨rfl, rfl⟩
    go_wp2_with fail
    go_ret
    exact ⟨rfl, gr_auto⟩
  · cases b1
    · go_enter Tryz.func12, Tryz.ntmps12
      go_wp2_with fail
      refine (HJ.out _).mono ?_
      rintro e w1 ⟨rfl, rfl⟩
      go_wp2_with fail
      refine (HS.out _).mono ?_
      rintro e w2 ⟨rfl, rfl⟩
      go_wp2_with fail
      go_ret
      exact ⟨rfl, gr_auto⟩
    · cases t0 : decide (0 ≤ tl)
      · go_enter Tryz.func12, Tryz.ntmps12
        go_wp2_with fail
        refine (HJ.out _).mono ?_
        rintro e w1 ⟨rfl, rfl⟩
        go_wp2_with fail
        refine (HS.out _).mono ?_
        rintro e w2 ⟨rfl, rfl⟩
        go_wp2_with fail
        go_ret
        exact ⟨rfl, gr_auto⟩
      · cases t1 : decide (tl ≤ 1125899906842624)
        · go_enter Tryz.func12, Tryz.ntmps12
          go_wp2_with fail
          refine (HJ.out _).mono ?_
          rintro e w1 ⟨rfl, rfl⟩
          go_wp2_with fail
          refine (HS.out _).mono ?_
          rintro e w2 ⟨rfl, rfl⟩
          go_wp2_with fail
          go_ret
          exact ⟨rfl, gr_auto⟩
        · go_enter Tryz.func12, Tryz.ntmps12
          go_wp2_with fail
          refine (HJ.out _).mono ?_
          rintro e w1 ⟨rfl, rfl⟩
          go_wp2_with fail
          refine (HS.out _).mono ?_
          rintro e w2 ⟨rfl, rfl⟩
          go_wp2_with fail
          go_ret
          exact ⟨rfl, gr_auto⟩
set_option maxRecDepth 100000 in
set_option maxHeartbeats 4000000 in
theorem rlimits_any (N : Ba.SlNode) (L : Ba.SlLink) (s : Al.SlM) (w : World) (hN : N.At w) (hL : L.At w) (h : s.At w) (hsn : s.n ≤ 10000) : Calls Tryz.prog 89 #[Ba.netVal N L, .slice s.A s.n s.c] w fun e w' => ∃ v d, e = .returned v ∧ Al.OwnA w' w.heap.size v d ∧ d.map Al.A.con = Al.srt (Al.limC N s.lst) ∧ Gr w w' := by
  obtain ⟨i1, k0, k1, k2, k3⟩ := info_parts infoA
  have KI := Lib.hid k0; have KZ0 := Lib.hid k1; have KZ1 := Lib.hid k2; have KZ2 := Lib.hid k3
  clear k0 k1 k2 k3
  have NA := Lib.hid hN.hA; have NX := Lib.hid hN.hD
  have hnc := hN.hc; have hnb2 := hN.hb
  have HA := Lib.hid h.hA; have HX := Lib.hid h.hD
  have hc := h.hc; have hb := h.hb
  have HN := Lib.hid (Al.SlM.lst_len s)
  have hDD := Lib.hid (fun i (hi : i < s.lst.length) => Al.lst_get s i hi)
  have HF := Lib.hid (fun t W (hW : Gr w W) => show Calls Tryz.prog 40 #[.agg #[.slice N.A N.n N.c, .slice L.A L.n L.c], .string t] W (fun e w' => e = .returned (.int .i64 (Ba.nix N t)) ∧ Gr W w') from rfindnode_any N L.A L.n L.c t W (hN.gr hW))
  have HG := Lib.hid (fun t => Al.ndF_get N t)
  clear hN hL h
  unfold Ba.netVal
  obtain ⟨X, hXX⟩ : ∃ X, Al.srt (Al.limC N s.lst) = X := ⟨_, rfl⟩
  rw [hXX]
  have HXX := Lib.hid hXX
  clear hXX
  generalize s.lst = T at *
  obtain ⟨nD, hnD⟩ : ∃ z, N.D = z := ⟨_, rfl⟩; obtain ⟨nn, hnn⟩ : ∃ z, N.n = z := ⟨_, rfl⟩; obtain ⟨nA, hnA⟩ : ∃ z, N.A = z := ⟨_, rfl⟩; obtain ⟨nc, hncc⟩ : ∃ z, N.c = z := ⟨_, rfl⟩
  have HND := Lib.hid hnD
  rw [hnD] at NX HG; rw [hnn] at NA NX HF HG hnc ⊢; rw [hnA] at NA HF ⊢; rw [hncc] at hnc hnb2 HF ⊢
  clear hnD hnn hnA hncc
  generalize N.b = nb at *; generalize N.o = no at *
  generalize L.A = lA at *; generalize L.n = ln at *; generalize L.c = lc at *
  cases s with | mk A n c b o D =>
  simp only [] at *
  go_enter Tryz.func89, Tryz.ntmps89
  go_wp2_with fail
  refine name_world ?_
  intro W1 hW1
  have g1 : Gr w W1 := by rw [hW1]; exact gr_auto
  have p0 : W1.cell? ⟨w.heap.size, 0, none⟩ = some (.slice nA nn nc) := by rw [hW1]; simp [go_sem]
  have p1 : W1.cell? ⟨w.heap.size, 1, none⟩ = some (.slice lA ln lc) := by rw [hW1]; simp [go_sem]
  clear hW1
  go_loopw [5, 6] (fun v x wr => ∃ i : Nat, i ≤ n ∧ x = .int .i64 (i : Int) ∧ (∃ ds, Hid (Al.OwnA wr W1.heap.size v ds) ∧ Hid (ds.map Al.A.con = Al.limC N (T.take i))) ∧ Gr W1 wr) (fun _ x _ => n - (intOf x).toNat)
  case atStart => exact ⟨0, Nat.zero_le _, rfl, ⟨[], Lib.hid (Al.OwnA.nil _ _), Lib.hid rfl⟩, Gr.refl _⟩
  case round =>
    obtain ⟨i, hi, rfl, ⟨ds, HO, HL⟩, hg2⟩ := hrel
    have gw := g1.trans hg2
    by_cases hlt : i < n
    · obtain rfl := HA.out (by omega)
      obtain ⟨hcl, hok⟩ := HX.out i hlt
      obtain ⟨a0, a1, a2, a3, a4⟩ := hcl.gr gw
      replace p0 := Gr.at hg2 p0; replace p1 := Gr.at hg2 p1
      have bw0 : w.heap.size < wr.heap.size := World.block_lt_of_cell? _ _ p0
      have bb0 : b < wr.heap.size := World.block_lt_of_cell? _ _ a0
      have ib0 : (0 : Int) ≤ (i : Int) := by omega
      have ib1 : (i : Int) < (n : Int) := by omega
      have HDD' := Lib.hid (hDD.out i (by rw [HN.out]; exact hlt))
      have hds : ds.length ≤ 10000 := by
        have z := Al.limC_len N (T.take i)
        have y := congrArg List.length HL.out
        rw [List.length_map] at y
        rw [List.length_take] at z
        omega
      have HI := Lib.hid (show Al.limI N (D i) = if Ba.nix N (D i).nd < 0 then [Al.alm 6 [D i]] else if (D i).lv < (N.D (Ba.nix N (D i).nd).toNat).iv then [Al.alm 1 [D i]] else if (N.D (Ba.nix N (D i).nd).toNat).gr < (D i).lv then [Al.alm 2 [D i]] else [] from rfl)
      rw [HND.out] at HI
      have HFi := Lib.hid (fun W hW => HF.out (D i).nd W hW)
      have hget := HG.out (D i).nd
      have hz := Gr.size hg2
      clear HX HA hcl hDD HG HF hok
      generalize D i = m at *
      -- the call
      go_wp2_with fail
      refine (HFi.out _ (gw.trans (by exact gr_auto))).mono ?_
      rintro e w5 ⟨rfl, hb5⟩
      have g5 : Gr wr w5 := Gr.trans (show Gr wr _ from by exact gr_auto) hb5
      have hg5 := hg2.trans g5
      have gw5 := gw.trans g5
      have HO5 := Lib.hid (HO.out.gr g5)
      have m0 := Gr.at (show Gr _ w5 from hb5) (show World.cell? _ ⟨wr.heap.size, 0, none⟩ = some (.string m.nd) from by simp [go_sem])
      have m1 := Gr.at (show Gr _ w5 from hb5) (show World.cell? _ ⟨wr.heap.size, 1, none⟩ = some (.int .i64 m.nu) from by simp [go_sem])
      have m2 := Gr.at (show Gr _ w5 from hb5) (show World.cell? _ ⟨wr.heap.size, 2, none⟩ = some (.int .i64 m.tm) from by simp [go_sem])
      have m3 := Gr.at (show Gr _ w5 from hb5) (show World.cell? _ ⟨wr.heap.size, 3, none⟩ = some (.int .i64 m.ar) from by simp [go_sem])
      have m4 := Gr.at (show Gr _ w5 from hb5) (show World.cell? _ ⟨wr.heap.size, 4, none⟩ = some (.int .i64 m.lv) from by simp [go_sem])
      replace p0 := Gr.at g5 p0; replace p1 := Gr.at g5 p1
      have hz5 := Gr.size hg5
      clear HFi HO hb5 a0 a1 a2 a3 a4
      rcases hget with ⟨hx, hf⟩ | ⟨hx, hxn, hf⟩
      · rw [if_pos hx] at HI
        clear hf
        generalize Ba.nix N m.nd = q at *
        have HAo := Lib.hid (fun (W : World) (g cap : Nat) (cur : Array Value) (hg' : W.heap[g]? = some (.cells cur 3 (0, 0))) (h0 : W.cell? ⟨g, 0, none⟩ = some (.int .i64 m.nu)) => show Al.A.Own ⟨6, m.nd, m.tm, some ⟨g, 0, none⟩, g, 0, 1, 1, fun _ => m.nu⟩ W from ⟨⟨show 1 ≤ 9223372036854775807 by decide, fun _ => rfl, fun q hq => by
          obtain rfl : q = 0 := by have : q < 1 := hq; omega
          exact h0⟩, ⟨_, _, hg'⟩, show 0 < 1 by decide⟩)
        go_wp2_with (at_builtin; refine wpList_append_own _ rfl _ _ 48 rfl W1.heap.size 31 i1 (.agg #[.int .i64 0, .string ⟨#[]⟩, .int .i64 0, .slice none 0 0]) 4 56 Tryz.underlying48 KI.out KZ0.out KZ1.out KZ2.out rfl (by decide) _ _ _ rfl (ownsRow_gr HO5.out.row (by exact gr_auto)) ⟨w5.heap.size + 1, 0, none⟩ 1 1 [.int .i64 6, .string m.nd, .int .i64 m.tm, .slice (some ⟨w5.heap.size, 0, none⟩) 1 1] rfl rfl (World.news_of_block (by rw [show w5.heap.size + 1 = (w5.alloc (.cells #[.int .i64 m.nu] 3)).heap.size by simp]; exact World.alloc_heap_new _ _)) (by intro u hu; simp at hu; rcases hu with rfl | rfl | rfl | rfl <;> rfl) (by unfold maxLen; omega) (by omega) (by simp; omega) ?_)
        intro v' w9 hown' hgrow hnil
        have gA := Gr.alloc (Gr.alloc (Gr.refl w5) (Obj.cells #[.int .i64 m.nu] 3)) (Obj.cells #[.int .i64 6, .string m.nd, .int .i64 m.tm, .slice (some ⟨w5.heap.size, 0, none⟩) 1 1] 31)
        have hoA := HAo.out ((w5.alloc (Obj.cells #[.int .i64 m.nu] 3)).alloc (Obj.cells #[.int .i64 6, .string m.nd, .int .i64 m.tm, .slice (some ⟨w5.heap.size, 0, none⟩) 1 1] 31)) w5.heap.size 1 #[.int .i64 m.nu] ((heap_alloc_old _ _ (by simp)).trans (World.alloc_heap_new w5 _)) (by simp [go_sem])
        have HP := Lib.hid (Al.OwnA.push (HO5.out.gr gA) hoA (by exact hown') hgrow)
        have g9 : Gr W1 w9 := Gr.own (hg5.trans gA) (Nat.le_refl _) (ownsRow_gr HO5.out.row gA) hgrow
        have HL9 := Lib.hid (show (ds ++ [(⟨6, m.nd, m.tm, some ⟨w5.heap.size, 0, none⟩, w5.heap.size, 0, 1, 1, fun _ => m.nu⟩ : Al.A)]).map Al.A.con = Al.limC N (T.take (i + 1)) from by
          rw [List.map_append, HL.out, List.take_succ_eq_append_getElem (by rw [HN.out]; exact hlt), Al.limC_snoc, HDD'.out, HI.out]
          rfl)
        clear HO5 hown' hgrow hnil HL HI hoA HAo
        go_wp2_with fail
        go_roundw
        case rel => exact ⟨i + 1, by omega, by go_num, ⟨_, HP, HL9⟩, g9⟩
        case measure => simp [intOf]; omega
      · rw [if_neg (show ¬ Ba.nix N m.nd < 0 by omega)] at HI
        obtain ⟨k, hk⟩ : ∃ k : Nat, Ba.nix N m.nd = (k : Int) := ⟨(Ba.nix N m.nd).toNat, by omega⟩
        rw [hk] at HI hxn ⊢
        rw [Int.toNat_natCast] at HI hxn
        obtain rfl := NA.out (by omega)
        obtain ⟨nd0, nd1, nd2, nd3, nd4, nd5, nd6, nd7, nd8⟩ := ((NX.out k hxn).1).gr gw5
        have jb0 : (0 : Int) ≤ (k : Int) := by omega
        have jb1 : (k : Int) < (nn : Int) := by omega
        clear hf hk hx NX nd0 nd1 nd2 nd3 nd6 nd7 nd8 HND
        generalize nD k = d at *
        by_cases h1 : m.lv < d.iv
        · rw [if_pos h1] at HI
          go_wp2_with fail
          go_quiet (fail)
          go_upto_region 14 with fail
          refine name_world ?_
          intro w6 hw6
          have g56 : Gr w5 w6 := by rw [hw6]; exact gr_auto
          clear hw6
          replace HO5 := Lib.hid (HO5.out.gr g56)
          replace m0 := Gr.at g56 m0; replace m1 := Gr.at g56 m1; replace m2 := Gr.at g56 m2; replace m3 := Gr.at g56 m3; replace m4 := Gr.at g56 m4
          replace hg5 := hg5.trans g56
          replace hz5 := Gr.size hg5
          clear nd4 nd5 p0 p1
          have HAo := Lib.hid (fun (W : World) (g cap : Nat) (cur : Array Value) (hg' : W.heap[g]? = some (.cells cur 3 (0, 0))) (h0 : W.cell? ⟨g, 0, none⟩ = some (.int .i64 m.nu)) => show Al.A.Own ⟨1, m.nd, m.tm, some ⟨g, 0, none⟩, g, 0, 1, 1, fun _ => m.nu⟩ W from ⟨⟨show 1 ≤ 9223372036854775807 by decide, fun _ => rfl, fun q hq => by
            obtain rfl : q = 0 := by have : q < 1 := hq; omega
            exact h0⟩, ⟨_, _, hg'⟩, show 0 < 1 by decide⟩)
          go_wp2_with (at_builtin; refine wpList_append_own _ rfl _ _ 48 rfl W1.heap.size 31 i1 (.agg #[.int .i64 0, .string ⟨#[]⟩, .int .i64 0, .slice none 0 0]) 4 56 Tryz.underlying48 KI.out KZ0.out KZ1.out KZ2.out rfl (by decide) _ _ _ rfl (ownsRow_gr HO5.out.row (by exact gr_auto)) ⟨w6.heap.size + 1, 0, none⟩ 1 1 [.int .i64 1, .string m.nd, .int .i64 m.tm, .slice (some ⟨w6.heap.size, 0, none⟩) 1 1] rfl rfl (World.news_of_block (by rw [show w6.heap.size + 1 = (w6.alloc (.cells #[.int .i64 m.nu] 3)).heap.size by simp]; exact World.alloc_heap_new _ _)) (by intro u hu; simp at hu; rcases hu with rfl | rfl | rfl | rfl <;> rfl) (by unfold maxLen; omega) (by omega) (by simp; omega) ?_)
          intro v' w9 hown' hgrow hnil
          have gA := Gr.alloc (Gr.alloc (Gr.refl w6) (Obj.cells #[.int .i64 m.nu] 3)) (Obj.cells #[.int .i64 1, .string m.nd, .int .i64 m.tm, .slice (some ⟨w6.heap.size, 0, none⟩) 1 1] 31)
          have hoA := HAo.out ((w6.alloc (Obj.cells #[.int .i64 m.nu] 3)).alloc (Obj.cells #[.int .i64 1, .string m.nd, .int .i64 m.tm, .slice (some ⟨w6.heap.size, 0, none⟩) 1 1] 31)) w6.heap.size 1 #[.int .i64 m.nu] ((heap_alloc_old _ _ (by simp)).trans (World.alloc_heap_new w6 _)) (by simp [go_sem])
          have HP := Lib.hid (Al.OwnA.push (HO5.out.gr gA) hoA (by exact hown') hgrow)
          have g9 : Gr W1 w9 := Gr.own (hg5.trans gA) (Nat.le_refl _) (ownsRow_gr HO5.out.row gA) hgrow
          have HL9 := Lib.hid (show (ds ++ [(⟨1, m.nd, m.tm, some ⟨w6.heap.size, 0, none⟩, w6.heap.size, 0, 1, 1, fun _ => m.nu⟩ : Al.A)]).map Al.A.con = Al.limC N (T.take (i + 1)) from by
            rw [List.map_append, HL.out, List.take_succ_eq_append_getElem (by rw [HN.out]; exact hlt), Al.limC_snoc, HDD'.out, HI.out]
            rfl)
          clear HO5 hown' hgrow hnil HL HI hoA HAo
          go_wp2_with fail
          go_roundw
          case rel => exact ⟨i + 1, by omega, by go_num, ⟨_, HP, HL9⟩, g9⟩
          case measure => simp [intOf]; omega
        · rw [if_neg h1] at HI
          have h1' : d.iv ≤ m.lv := by omega
          by_cases h2 : d.gr < m.lv
          · rw [if_pos h2] at HI
            go_wp2_with fail
            go_quiet (fail)
            go_wp2_with fail
            go_quiet (fail)
            go_upto_region 14 with fail
            refine name_world ?_
            intro w6 hw6
            have g56 : Gr w5 w6 := by rw [hw6]; exact gr_auto
            clear hw6
            replace HO5 := Lib.hid (HO5.out.gr g56)
            replace m0 := Gr.at g56 m0; replace m1 := Gr.at g56 m1; replace m2 := Gr.at g56 m2; replace m3 := Gr.at g56 m3; replace m4 := Gr.at g56 m4
            replace hg5 := hg5.trans g56
            replace hz5 := Gr.size hg5
            clear nd4 nd5 p0 p1
            have HAo := Lib.hid (fun (W : World) (g cap : Nat) (cur : Array Value) (hg' : W.heap[g]? = some (.cells cur 3 (0, 0))) (h0 : W.cell? ⟨g, 0, none⟩ = some (.int .i64 m.nu)) => show Al.A.Own ⟨2, m.nd, m.tm, some ⟨g, 0, none⟩, g, 0, 1, 1, fun _ => m.nu⟩ W from ⟨⟨show 1 ≤ 9223372036854775807 by decide, fun _ => rfl, fun q hq => by
              obtain rfl : q = 0 := by have : q < 1 := hq; omega
              exact h0⟩, ⟨_, _, hg'⟩, show 0 < 1 by decide⟩)
            go_wp2_with (at_builtin; refine wpList_append_own _ rfl _ _ 48 rfl W1.heap.size 31 i1 (.agg #[.int .i64 0, .string ⟨#[]⟩, .int .i64 0, .slice none 0 0]) 4 56 Tryz.underlying48 KI.out KZ0.out KZ1.out KZ2.out rfl (by decide) _ _ _ rfl (ownsRow_gr HO5.out.row (by exact gr_auto)) ⟨w6.heap.size + 1, 0, none⟩ 1 1 [.int .i64 2, .string m.nd, .int .i64 m.tm, .slice (some ⟨w6.heap.size, 0, none⟩) 1 1] rfl rfl (World.news_of_block (by rw [show w6.heap.size + 1 = (w6.alloc (.cells #[.int .i64 m.nu] 3)).heap.size by simp]; exact World.alloc_heap_new _ _)) (by intro u hu; simp at hu; rcases hu with rfl | rfl | rfl | rfl <;> rfl) (by unfold maxLen; omega) (by omega) (by simp; omega) ?_)
            intro v' w9 hown' hgrow hnil
            have gA := Gr.alloc (Gr.alloc (Gr.refl w6) (Obj.cells #[.int .i64 m.nu] 3)) (Obj.cells #[.int .i64 2, .string m.nd, .int .i64 m.tm, .slice (some ⟨w6.heap.size, 0, none⟩) 1 1] 31)
            have hoA := HAo.out ((w6.alloc (Obj.cells #[.int .i64 m.nu] 3)).alloc (Obj.cells #[.int .i64 2, .string m.nd, .int .i64 m.tm, .slice (some ⟨w6.heap.size, 0, none⟩) 1 1] 31)) w6.heap.size 1 #[.int .i64 m.nu] ((heap_alloc_old _ _ (by simp)).trans (World.alloc_heap_new w6 _)) (by simp [go_sem])
            have HP := Lib.hid (Al.OwnA.push (HO5.out.gr gA) hoA (by exact hown') hgrow)
            have g9 : Gr W1 w9 := Gr.own (hg5.trans gA) (Nat.le_refl _) (ownsRow_gr HO5.out.row gA) hgrow
            have HL9 := Lib.hid (show (ds ++ [(⟨2, m.nd, m.tm, some ⟨w6.heap.size, 0, none⟩, w6.heap.size, 0, 1, 1, fun _ => m.nu⟩ : Al.A)]).map Al.A.con = Al.limC N (T.take (i + 1)) from by
              rw [List.map_append, HL.out, List.take_succ_eq_append_getElem (by rw [HN.out]; exact hlt), Al.limC_snoc, HDD'.out, HI.out]
              rfl)
            clear HO5 hown' hgrow hnil HL HI hoA HAo
            go_wp2_with fail
            go_roundw
            case rel => exact ⟨i + 1, by omega, by go_num, ⟨_, HP, HL9⟩, g9⟩
            case measure => simp [intOf]; omega
          · rw [if_neg h2] at HI
            have h2' : m.lv ≤ d.gr := by omega
            have HL9 := Lib.hid (show ds.map Al.A.con = Al.limC N (T.take (i + 1)) from by
              rw [HL.out, List.take_succ_eq_append_getElem (by rw [HN.out]; exact hlt), Al.limC_snoc, HDD'.out, HI.out, List.append_nil])
            go_wp2_with fail
            go_quiet (fail)
            go_wp2_with fail
            go_quiet (fail)
            go_upto_region 14 with fail
            refine name_world ?_
            intro w6 hw6
            have g56 : Gr w5 w6 := by rw [hw6]; exact gr_auto
            clear hw6
            replace HO5 := Lib.hid (HO5.out.gr g56)
            replace m0 := Gr.at g56 m0; replace m1 := Gr.at g56 m1; replace m2 := Gr.at g56 m2; replace m3 := Gr.at g56 m3; replace m4 := Gr.at g56 m4
            replace hg5 := hg5.trans g56
            replace hz5 := Gr.size hg5
            clear nd4 nd5 p0 p1
            clear HL HI
            go_wp2_with fail
            go_roundw
            case rel => exact ⟨i + 1, by omega, by go_num, ⟨_, HO5, HL9⟩, hg5⟩
            case measure => simp [intOf]; omega
    · obtain rfl : n = i := by omega
      have HLf := Lib.hid (show ds.map Al.A.con = Al.limC N T from by have := HL.out; rw [← HN.out, List.take_length] at this; exact this)
      have hz5 := Gr.size gw
      have hdl : ds.length ≤ 100000 := by
        have z := Al.limC_len N T
        have y := congrArg List.length HLf.out
        rw [List.length_map] at y
        rw [HN.out] at z
        omega
      clear HX HA hDD HG HF HL
      go_wp2_with fail
      refine (rordered_own _ ds wr _ HO.out hdl).mono ?_
      rintro e w6 ⟨v6, d6, rfl, ho6, hc6, hb6⟩
      have HO6 := Lib.hid (ho6.base hz5)
      have HC6 := Lib.hid (show d6.map Al.A.con = X from by rw [hc6, HLf.out, HXX.out])
      have g6 := gw.trans hb6
      clear ho6 hc6 hb6 HO HLf
      go_wp2_with fail
      go_ret
      exact ⟨_, d6, rfl, HO6.out, HC6.out, g6⟩
end Go.Proofs.YtllkiadedaghoaaGreatDoor
