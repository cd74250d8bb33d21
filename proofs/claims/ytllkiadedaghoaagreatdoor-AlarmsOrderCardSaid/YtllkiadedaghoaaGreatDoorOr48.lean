/-
  The law AlarmsOrder. (Printed by mkzod.py.)
-/
import Derived.Test.YtllkiadedaghoaaGreatDoorOr47
import Derived.Test.YtllkiadedaghoaaGreatDoorOr45

set_option linter.unusedVariables false
set_option linter.unusedSimpArgs false
namespace Go.Proofs.YtllkiadedaghoaaGreatDoor
open Go.RowKit Go.Shelf Go.Sort
attribute [local go_sem ↓] Go.wp_at_zero Go.wp_at_succ
namespace Al
/-- The word of a kind, with its space, as the law has it. -/
theorem pre_ok (kd : Int) (nd L : List UInt8) (X : Nat → Int) (n : Nat) : Lib.hasPrefix (expl kd nd L X n) (wrdS kd) = true := by
  unfold Lib.hasPrefix
  rw [List.isPrefixOf_iff_prefix]
  exact expl_pre _ _ _ _ _
/-- What an alarm that All answers has. -/
structure Good (N : Ba.SlNode) (L : Ba.SlLink) (s : SlM) (a : A) (W0 : World) : Prop where
  n0 : 0 < a.n
  n40 : a.n ≤ 40
  kd : a.kd = 1 ∨ a.kd = 2 ∨ a.kd = 3 ∨ a.kd = 4 ∨ a.kd = 6
  ex : ∃ (T : List UInt8) (E : Int), (∀ W, Gr W0 W → Calls Tryz.prog 7 #[Ba.netVal N L, .slice s.A s.n s.c, .agg #[.int .i64 a.kd, .string a.nd, .int .i64 a.tm, .slice a.p a.n a.c]] W fun e w' => e = .returned (.tuple #[.string ⟨T.toArray⟩, .int .i64 E]) ∧ Gr W w') ∧ (E = 20 ∨ (E = 0 ∧ T.count 32 = a.n + 4 ∧ Lib.hasPrefix T (wrdS a.kd) = true))
end Al
theorem good_of (N : Ba.SlNode) (L : Ba.SlLink) (s : Al.SlM) (jp sm : Int) (a : Al.A) (w : World) (hN : N.At w) (hL : L.At w) (h : s.At w) (ha : a.At w) (hv : Ba.netB N L = true) (hs : s.vB = true) (ht : Tab w) (hn : s.n ≤ 40) (hm : a.con ∈ Al.allC N s.lst jp sm) : Al.Good N L s a w := by
  have hvl := (Al.vB_iff s).1 hs
  obtain ⟨o1, o2, ⟨m, hm1, hm2, hm3⟩, o4⟩ := Al.allC_ok hm
  have hl := Al.core_len hvl.2.2 hm
  have hbc : a.con.bc.length = a.n := by simp [Al.A.con, Al.lst]
  have hal : (Al.aloC a.con s.lst).length ≤ s.n := by rw [← Al.SlM.lst_len s]; exact List.length_filter_le _ _
  have n0 : 0 < a.n := by rw [← hbc]; exact List.length_pos_iff.2 o1
  have n40 : a.n ≤ 40 := by omega
  have hnd : a.con.nd = a.nd := rfl
  have htm : a.con.tm = a.tm := rfl
  have hkd : a.con.kd = a.kd := rfl
  rw [hnd] at hm2; rw [htm] at hm3; rw [hkd] at o2
  have hok := hvl.2.1 m hm1
  have hnm := Al.mOk_nd hok
  rw [hm2] at hnm
  have hin := Al.mOk_tm hok
  rw [hm3] at hin
  have hsz : a.nd.size ≤ 50 := by
    have := Dc.name_len hnm
    rw [Array.length_toList] at this
    show a.nd.data.size ≤ 50; omega
  obtain ⟨T, E, B1, -, B3⟩ := exp_both N L s a w hN hL h ha hv hs ht n40 hsz
  refine ⟨n0, n40, o2, T, E, B1, ?_⟩
  rcases B3 (by omega) (fun i hi => Al.mis_of (by
    obtain ⟨m2, x1, x2, x3⟩ := o4 (a.X i) (List.mem_map.2 ⟨i, List.mem_range.2 hi, rfl⟩)
    exact ⟨m2, x1, x2, x3⟩)) hin with e | ⟨e, L', hL', rfl⟩
  · exact .inl e
  · exact .inr ⟨e, Al.expl_sp (Dc.name_sp hnm) hL', Al.pre_ok _ _ _ _ _⟩
set_option maxRecDepth 100000 in
set_option maxHeartbeats 4000000 in
theorem order_few (N : Ba.SlNode) (L : Ba.SlLink) (s : Al.SlM) (jp sm tl : Int) (w : World) (hN : N.At w) (hL : L.At w) (h : s.At w) (hf : Al.fewB N.n L.n s.n (Al.lngB s) = false) : Calls Tryz.prog 4 #[Ba.netVal N L, .slice s.A s.n s.c, .agg #[.int .i64 jp, .int .i64 sm, .int .i64 tl]] w fun e w' => e = .returned (.bool true) ∧ Gr w w' := by
  have HAw := Lib.hid (fun W => awake_any W)
  have HFe := Lib.hid (fun W (hW : Gr w W) => few_any N L s W (hN.gr hW) (hL.gr hW) (h.gr hW))
  rw [hf] at HFe
  clear hf
  clear hN hL h
  unfold Ba.netVal at *
  generalize N.A = nA at *; generalize N.n = nn at *; generalize N.c = nc at *; generalize L.A = lA at *; generalize L.n = ln at *; generalize L.c = lc at *; generalize s.A = sA at *; generalize s.n = sn at *; generalize s.c = sc at *
  go_enter Tryz.func4, Tryz.ntmps4
  go_wp2_with fail
  refine (HAw.out _).mono ?_
  rintro e w1 ⟨rfl, hb⟩
  have g : Gr w w1 := gr_auto
  have q0 := Gr.at (show Gr _ w1 from hb) (show World.cell? _ ⟨w.heap.size, 0, none⟩ = some (.slice nA nn nc) from by simp [go_sem])
  have q1 := Gr.at (show Gr _ w1 from hb) (show World.cell? _ ⟨w.heap.size, 1, none⟩ = some (.slice lA ln lc) from by simp [go_sem])
  have q2 := Gr.at (show Gr _ w1 from hb) (show World.cell? _ ⟨w.heap.size + 1, 0, none⟩ = some (.int .i64 jp) from by simp [go_sem])
  have q3 := Gr.at (show Gr _ w1 from hb) (show World.cell? _ ⟨w.heap.size + 1, 1, none⟩ = some (.int .i64 sm) from by simp [go_sem])
  have q4 := Gr.at (show Gr _ w1 from hb) (show World.cell? _ ⟨w.heap.size + 1, 2, none⟩ = some (.int .i64 tl) from by simp [go_sem])
  clear hb HAw
  go_wp2_with fail
  refine (HFe.out _ g).mono ?_
  rintro e w2 ⟨rfl, hb⟩
  replace q0 := Gr.at hb q0; replace q1 := Gr.at hb q1; replace q2 := Gr.at hb q2; replace q3 := Gr.at hb q3; replace q4 := Gr.at hb q4; replace g := g.trans hb
  clear hb
  go_wp2_with fail
  go_ret
  exact ⟨rfl, g⟩
set_option maxRecDepth 100000 in
set_option maxHeartbeats 4000000 in
theorem order_main (N : Ba.SlNode) (L : Ba.SlLink) (s : Al.SlM) (jp sm tl : Int) (w : World) (hN : N.At w) (hL : L.At w) (h : s.At w) (hf : Al.fewB N.n L.n s.n (Al.lngB s) = true) (k : Int) (X : List Al.C) (HA : ∀ W, Gr w W → Calls Tryz.prog 15 #[Ba.netVal N L, .slice s.A s.n s.c, .agg #[.int .i64 jp, .int .i64 sm, .int .i64 tl]] W (Al.RetAe X k W)) (HR0 : ∀ (t : Al.SlM) W, Gr w W → t.At W → t.lst = s.lst.reverse → Calls Tryz.prog 15 #[Ba.netVal N L, .slice t.A t.n t.c, .agg #[.int .i64 jp, .int .i64 sm, .int .i64 tl]] W (Al.RetAe X k W)) (hK : k = 0 ∨ X = []) (hB : ∀ i (hi : i + 1 < X.length), Al.bfA X[i] X[i + 1] = true) (hG : ∀ (a : Al.A) W, Gr w W → a.At W → a.con ∈ X → Al.Good N L s a W) (hn40 : s.n ≤ 40) : Calls Tryz.prog 4 #[Ba.netVal N L, .slice s.A s.n s.c, .agg #[.int .i64 jp, .int .i64 sm, .int .i64 tl]] w fun e w' => e = .returned (.bool true) ∧ Gr w w' := by
  have HAl := Lib.hid HA; have HRv := Lib.hid HR0; have HK := Lib.hid hK; have HB := Lib.hid hB; have HG := Lib.hid hG
  clear HA HR0 hK hB hG
  have HCl := Lib.hid (fun W (hW : Gr w W) => cloneM_any s W (h.gr hW) (by omega))
  have HSm := Lib.hid (fun r t W hr ht hc => same_yes r t W hr ht hc)
  have HOk := Lib.hid (fun m (hm : m ∈ s.lst) => show m.Ok from by
    obtain ⟨i, hi, rfl⟩ := List.mem_map.1 hm
    exact (h.hD i (List.mem_range.1 hi)).2)
  have HLn := Lib.hid (Al.SlM.lst_len s)
  generalize s.lst = LST at *
  have HAw := Lib.hid (fun W => awake_any W)
  have HFe := Lib.hid (fun W (hW : Gr w W) => few_any N L s W (hN.gr hW) (hL.gr hW) (h.gr hW))
  rw [hf] at HFe
  clear hf
  clear hN hL h
  have HG2 := Lib.hid (fun a W h1 h2 h3 => HG.out a W h1 h2 h3)
  clear HG
  unfold Ba.netVal at *
  have HG := Lib.hid (fun (a : Al.A) W h1 h2 h3 => show 0 < a.n ∧ a.n ≤ 40 ∧ (a.kd = 1 ∨ a.kd = 2 ∨ a.kd = 3 ∨ a.kd = 4 ∨ a.kd = 6) ∧ ∃ (T : List UInt8) (E : Int), (∀ W1, Gr W W1 → Calls Tryz.prog 7 #[.agg #[.slice N.A N.n N.c, .slice L.A L.n L.c], .slice s.A s.n s.c, .agg #[.int .i64 a.kd, .string a.nd, .int .i64 a.tm, .slice a.p a.n a.c]] W1 fun e w' => e = .returned (.tuple #[.string ⟨T.toArray⟩, .int .i64 E]) ∧ Gr W1 w') ∧ (E = 20 ∨ (E = 0 ∧ T.count 32 = a.n + 4 ∧ Lib.hasPrefix T (Al.wrdS a.kd) = true)) from
    let z := HG2.out a W h1 h2 h3; ⟨z.n0, z.n40, z.kd, z.ex⟩)
  clear HG2
  generalize N.A = nA at *; generalize N.n = nn at *; generalize N.c = nc at *; generalize L.A = lA at *; generalize L.n = ln at *; generalize L.c = lc at *; generalize s.A = sA at *; generalize s.n = sn at *; generalize s.c = sc at *
  go_enter Tryz.func4, Tryz.ntmps4
  go_wp2_with fail
  refine (HAw.out _).mono ?_
  rintro e w1 ⟨rfl, hb⟩
  have g : Gr w w1 := gr_auto
  have q0 := Gr.at (show Gr _ w1 from hb) (show World.cell? _ ⟨w.heap.size, 0, none⟩ = some (.slice nA nn nc) from by simp [go_sem])
  have q1 := Gr.at (show Gr _ w1 from hb) (show World.cell? _ ⟨w.heap.size, 1, none⟩ = some (.slice lA ln lc) from by simp [go_sem])
  have q2 := Gr.at (show Gr _ w1 from hb) (show World.cell? _ ⟨w.heap.size + 1, 0, none⟩ = some (.int .i64 jp) from by simp [go_sem])
  have q3 := Gr.at (show Gr _ w1 from hb) (show World.cell? _ ⟨w.heap.size + 1, 1, none⟩ = some (.int .i64 sm) from by simp [go_sem])
  have q4 := Gr.at (show Gr _ w1 from hb) (show World.cell? _ ⟨w.heap.size + 1, 2, none⟩ = some (.int .i64 tl) from by simp [go_sem])
  clear hb HAw
  go_wp2_with fail
  refine (HFe.out _ g).mono ?_
  rintro e w2 ⟨rfl, hb⟩
  replace q0 := Gr.at hb q0; replace q1 := Gr.at hb q1; replace q2 := Gr.at hb q2; replace q3 := Gr.at hb q3; replace q4 := Gr.at hb q4; replace g := g.trans hb
  clear hb
  go_wp2_with fail
  refine (HAl.out _ g).mono ?_
  intro e w3 hR; obtain ⟨r1, rfl, hr, hc1, hb⟩ := hR.at; clear hR
  replace q0 := Gr.at hb q0; replace q1 := Gr.at hb q1; replace q2 := Gr.at hb q2; replace q3 := Gr.at hb q3; replace q4 := Gr.at hb q4; replace g := g.trans hb
  clear hb
  have HR1 := Lib.hid hr; have HC1 := Lib.hid hc1; clear hr hc1 HAl
  go_wp2_with fail
  refine (HCl.out _ g).mono ?_
  rintro e w4 ⟨v4, rfl, hv4, hb4⟩
  obtain ⟨A4, c4, g4, rfl, hA4, hg4, hc4, hm4, hr4⟩ := Al.RowM.of hv4
  have HA4 := Lib.hid hA4
  have HV := Lib.hid (revM_any A4 LST.length c4 g4 (fun i => LST[i]!) w4 hA4 (by have := HLn.out; omega) hr4)
  have hg4w := hg4
  clear hv4 HCl hr4 hA4
  go_wp2_with fail
  refine HV.out.mono ?_
  rintro e w5 ⟨rfl, hrow, hx⟩
  have hb : Gr w3 w5 := GrX.gr hb4 hg4w hx
  have HTt := Lib.hid (Al.rvS_at (c := c4) HA4.out hc4 hm4 HOk.out hrow)
  have HTl := Lib.hid (Al.rvS_lst A4 c4 g4 LST)
  replace q0 := Gr.at hb q0; replace q1 := Gr.at hb q1; replace q2 := Gr.at hb q2; replace q3 := Gr.at hb q3; replace q4 := Gr.at hb q4; replace g := g.trans hb
  replace HR1 := Lib.hid (HR1.out.gr hb)
  have HRr := Lib.hid (HRv.out _ w5 g HTt.out HTl.out)
  unfold Al.rvS at HRr
  simp only [] at HRr
  clear hb hb4 hg4 hg4w hx hrow HTt HTl HV HA4 HRv hc4 hm4
  generalize LST.length = ll at *
  clear HOk HLn
  go_wp2_with fail
  refine HRr.out.mono ?_
  intro e w6 hR; obtain ⟨r2, rfl, hr, hc2, hb⟩ := hR.at; clear hR
  replace q0 := Gr.at hb q0; replace q1 := Gr.at hb q1; replace q2 := Gr.at hb q2; replace q3 := Gr.at hb q3; replace q4 := Gr.at hb q4; replace g := g.trans hb
  replace HR1 := Lib.hid (HR1.out.gr hb)
  have HR2 := Lib.hid hr; have HC2 := Lib.hid hc2
  have tk : (k != k) = false := by simp
  clear hb hr hc2 HRr
  go_wp2_with fail
  refine (HSm.out _ _ _ HR1.out HR2.out (HC1.out.trans HC2.out.symm)).mono ?_
  rintro e w8 ⟨rfl, hb⟩
  replace q0 := Gr.at hb q0; replace q1 := Gr.at hb q1; replace q2 := Gr.at hb q2; replace q3 := Gr.at hb q3; replace q4 := Gr.at hb q4; replace g := g.trans hb
  replace HR1 := Lib.hid (HR1.out.gr hb)
  clear hb
  clear HR2 HC2 HSm
  have HR := Lib.hid HR1.out
  have hrc := HR1.out.hc; have hrb := HR1.out.hb
  have HrA := Lib.hid HR1.out.hA
  have HBf := Lib.hid (fun i (hi : i + 1 < r1.n) W (hW : Gr w8 W) => show Calls Tryz.prog 19 #[.agg #[.int .i64 (r1.D i).kd, .string (r1.D i).nd, .int .i64 (r1.D i).tm, .slice (r1.D i).p (r1.D i).n (r1.D i).c], .agg #[.int .i64 (r1.D (i + 1)).kd, .string (r1.D (i + 1)).nd, .int .i64 (r1.D (i + 1)).tm, .slice (r1.D (i + 1)).p (r1.D (i + 1)).n (r1.D (i + 1)).c]] W fun e w' => e = .returned (.bool true) ∧ Gr W w' from by
    have := rbefA_any (r1.D i) (r1.D (i + 1)) W ((HR1.out.hD i (by omega)).2.at'.gr hW) ((HR1.out.hD (i + 1) hi).2.at'.gr hW)
    have hx := HB.out i (by rw [← HC1.out, Al.SlA.con_len]; exact hi)
    rw [show X[i]'(by rw [← HC1.out, Al.SlA.con_len]; omega) = (r1.D i).con from by simp only [← HC1.out, Al.con_get], show X[i + 1]'(by rw [← HC1.out, Al.SlA.con_len]; omega) = (r1.D (i + 1)).con from by simp only [← HC1.out, Al.con_get]] at hx
    rw [hx] at this
    exact this)
  have HGi := Lib.hid (fun i (hi : i < r1.n) W0 (hW : Gr w8 W0) => HG.out (r1.D i) W0 (g.trans hW) ((HR1.out.hD i hi).2.at'.gr hW) (by rw [← HC1.out]; exact List.mem_map.2 ⟨i, List.mem_range.2 hi, rfl⟩))
  have HK2 := Lib.hid (show k = 0 ∨ r1.n = 0 from HK.out.elim .inl fun e => .inr (by rw [← Al.SlA.con_len, HC1.out, e]; rfl))
  clear HR1 HC1 HG HB HK
  cases r1 with | mk rA rn rc rb ro rD =>
  simp only [] at *
  go_wp2_with fail
  go_loopw [51] (fun y wr => ∃ i : Nat, i ≤ rn ∧ y = .int .i64 (i : Int) ∧ Gr w8 wr) (fun y _ => rn - (intOf y).toNat)
  case atStart => exact ⟨0, Nat.zero_le _, rfl, Gr.refl _⟩
  case round =>
    obtain ⟨i, hi, rfl, hg2⟩ := hrel
    rename World => wx
    have gw := g.trans hg2
    by_cases hlt : i < rn
    · obtain rfl := HrA.out (by omega)
      replace q0 := Gr.at hg2 q0; replace q1 := Gr.at hg2 q1; replace q2 := Gr.at hg2 q2; replace q3 := Gr.at hg2 q3; replace q4 := Gr.at hg2 q4
      obtain ⟨⟨a0, a1, a2, a3⟩, hao⟩ := (HR.out.gr hg2).hD i hlt
      obtain ⟨hn0, hn4, hkd, T, E, HX1, HX2⟩ := HGi.out i hlt wx hg2
      have HEx := Lib.hid HX1; have HEn := Lib.hid HX2
      have ib0 : (0 : Int) ≤ (i : Int) := by omega
      have ib1 : (i : Int) < (rn : Int) := by omega
      have HB1 := Lib.hid (fun j (hj : i = j + 1) W (hW : Gr wx W) => HBf.out j (by omega) W (hg2.trans hW))
      have HP := Lib.hid (fun j (hj : i = j + 1) => show (rD j).Cells wx rb (ro + j * 4) from ((HR.out.gr hg2).hD j (by show j < rn; omega)).1)
      clear HX1 HX2 HBf HGi HR HrA hao HK2
      have hrn1 : (i : Int) + 1 ≤ (rn : Int) := by omega
      go_upto_region 14 with fail
      refine name_world ?_
      intro W3 hW3
      have g3 : Gr wx W3 := by rw [hW3]; exact gr_auto
      have c0 : W3.cell? ⟨wx.heap.size, 0, none⟩ = some (.int .i64 (rD i).kd) := by rw [hW3]; simp [go_sem]
      have c1 : W3.cell? ⟨wx.heap.size, 1, none⟩ = some (.string (rD i).nd) := by rw [hW3]; simp [go_sem]
      have c2 : W3.cell? ⟨wx.heap.size, 2, none⟩ = some (.int .i64 (rD i).tm) := by rw [hW3]; simp [go_sem]
      have c3 : W3.cell? ⟨wx.heap.size, 3, none⟩ = some (.slice (rD i).p (rD i).n (rD i).c) := by rw [hW3]; simp [go_sem]
      replace q0 := Gr.at g3 q0; replace q1 := Gr.at g3 q1; replace q2 := Gr.at g3 q2; replace q3 := Gr.at g3 q3; replace q4 := Gr.at g3 q4
      have t1 : (((rD i).n : Int) == 0) = false := beq_eq_false_iff_ne.2 (by omega)
      have t1n : ((rD i).n == 0) = false := beq_eq_false_iff_ne.2 (by omega)
      have key : ∀ (W7 : World) (G7 : Gr W3 W7), True := fun _ _ => trivial
      clear hW3 a0 a1 a2 a3 key
      obtain ⟨BX, hBX⟩ : ∃ BX, BX = wx.heap.size := ⟨_, rfl⟩
      rw [← hBX] at c0 c1 c2 c3
      try rw [← hBX]
      clear hBX
      obtain ⟨a, ha⟩ : ∃ a, rD i = a := ⟨_, rfl⟩
      rw [ha] at c0 c1 c2 c3 t1 t1n hn0 hn4 hkd HEx HEn
      have HA := Lib.hid ha
      clear ha
      cases a with | mk akd and_ atm ap ab ao an ac aX =>
      simp only [] at *
      go_cut [73] (fun q wc => q = .bool false ∧ Gr W3 wc)
      case first =>
        clear HEx HEn hkd hn4
        by_cases hi0 : i = 0
        · have t2 : decide ((0 : Int) < (i : Int)) = false := decide_eq_false (by omega)
          have t3 : ¬ (0 : Int) < (i : Int) := by omega
          have t4 : decide (0 < i) = false := decide_eq_false (by omega)
          clear HB1 HP HA hi0
          go_wp2_with fail
          go_quiet (fail)
          go_wp2_with fail
          go_meet
          exact ⟨rfl, gr_auto⟩
        · obtain ⟨j, hj⟩ : ∃ j, i = j + 1 := ⟨i - 1, by omega⟩
          have HBj := Lib.hid (HB1.out j hj)
          rw [show rD (j + 1) = rD i by rw [hj], HA.out] at HBj
          obtain ⟨p0, p1, p2, p3⟩ := HP.out j hj
          replace p0 := Gr.at g3 p0; replace p1 := Gr.at g3 p1; replace p2 := Gr.at g3 p2; replace p3 := Gr.at g3 p3
          have ie : IntKind.i64.wrap ((i : Int) - 1) = (j : Int) := by rw [IntKind.wrap_i64]; omega
          have jb0 : (0 : Int) ≤ (j : Int) := by omega
          have jb1 : (j : Int) < (rn : Int) := by omega
          have t2 : decide ((0 : Int) < (i : Int)) = true := decide_eq_true (by omega)
          have t3 : (0 : Int) < (i : Int) := by omega
          have t4 : decide (0 < i) = true := decide_eq_true (by omega)
          have t5 : 0 < i := by omega
          clear HB1 HP HA hj hi0
          obtain ⟨b, hb⟩ : ∃ b, rD j = b := ⟨_, rfl⟩
          rw [hb] at p0 p1 p2 p3 HBj
          clear hb
          cases b with | mk bkd bnd btm bp bb bo bn bc bX =>
          simp only [] at *
          have HBk := Lib.hid (fun W (hW : Gr W3 W) => HBj.out W (g3.trans hW))
          clear HBj
          have s0 : ∀ w', Gr W3 w' → w'.cell? ⟨BX, 0, none⟩ = some (.int .i64 akd) := fun w' h => Gr.at h c0
          have s1 : ∀ w', Gr W3 w' → w'.cell? ⟨BX, 1, none⟩ = some (.string and_) := fun w' h => Gr.at h c1
          have s2 : ∀ w', Gr W3 w' → w'.cell? ⟨BX, 2, none⟩ = some (.int .i64 atm) := fun w' h => Gr.at h c2
          have s3 : ∀ w', Gr W3 w' → w'.cell? ⟨BX, 3, none⟩ = some (.slice ap an ac) := fun w' h => Gr.at h c3
          have u0 : ∀ w', Gr W3 w' → w'.cell? ⟨rb, ro + j * 4, none⟩ = some (.int .i64 bkd) := fun w' h => Gr.at h p0
          have u1 : ∀ w', Gr W3 w' → w'.cell? ⟨rb, ro + j * 4 + 1, none⟩ = some (.string bnd) := fun w' h => Gr.at h p1
          have u2 : ∀ w', Gr W3 w' → w'.cell? ⟨rb, ro + j * 4 + 2, none⟩ = some (.int .i64 btm) := fun w' h => Gr.at h p2
          have u3 : ∀ w', Gr W3 w' → w'.cell? ⟨rb, ro + j * 4 + 3, none⟩ = some (.slice bp bn bc) := fun w' h => Gr.at h p3
          clear c0 c1 c2 c3 p0 p1 p2 p3
          go_region_held3 (fun w' => Gr W3 w') (exact gr_auto) ((go_at_call 19; refine (HBk.out _ gr_auto).mono ?_; rintro e w6 ⟨rfl, hb6⟩))
          all_goals (
            go_wp2_with fail
            go_meet
            exact ⟨rfl, by assumption⟩)
      case rest =>
        obtain ⟨rfl, gcut⟩ := hcut
        rename World => wc
        replace c0 := Gr.at gcut c0; replace c1 := Gr.at gcut c1; replace c2 := Gr.at gcut c2; replace c3 := Gr.at gcut c3
        replace q0 := Gr.at gcut q0; replace q1 := Gr.at gcut q1
        replace g3 := g3.trans gcut
        clear gcut HB1 HP HA q2 q3 q4
        go_upto_region 16 with fail
        refine name_world ?_
        intro W5 hW5
        have g5 : Gr wc W5 := by rw [hW5]; exact gr_auto
        replace c0 := Gr.at g5 c0; replace c1 := Gr.at g5 c1; replace c2 := Gr.at g5 c2; replace c3 := Gr.at g5 c3
        replace q0 := Gr.at g5 q0; replace q1 := Gr.at g5 q1
        clear hW5
        go_wp2_with fail
        refine (HEx.out _ (g3.trans g5)).mono ?_
        rintro e w6 ⟨rfl, hb⟩
        have g6 : Gr wx w6 := (g3.trans g5).trans hb
        replace c0 := Gr.at hb c0; replace c3 := Gr.at hb c3
        clear hb HEx c1 c2 q0 q1 g3 g5
        rcases HEn.out with rfl | ⟨rfl, hcnt, hpre⟩
        · clear HEn
          go_wp2_with fail
          go_roundw
          case rel => exact ⟨i + 1, by omega, by go_num, hg2.trans g6⟩
          case measure => simp [intOf] <;> omega
        · have HP2 := Lib.hid (fun W => show Calls Tryz.prog 21 #[.string ⟨T.toArray⟩, .string ⟨#[32]⟩] W fun e w' => e = .returned (.int .i64 ((an : Int) + 4)) ∧ W = w' from (Tryz.strings_Count_one ⟨T.toArray⟩ 32 W).mono (by
            rintro e w' ⟨rfl, rfl⟩
            refine ⟨?_, rfl⟩
            show Ending.returned (.int .i64 ((T.count 32 : Nat) : Int)) = _
            rw [hcnt]; rfl))
          have HP1 := Lib.hid (fun W => show Calls Tryz.prog 20 #[.string ⟨T.toArray⟩, .string ⟨(Al.wrdS akd).toArray⟩] W fun e w' => e = .returned (.bool true) ∧ W = w' from (Tryz.strings_HasPrefix ⟨T.toArray⟩ ⟨(Al.wrdS akd).toArray⟩ W).mono (by
            rintro e w' ⟨rfl, rfl⟩
            refine ⟨?_, rfl⟩
            show Ending.returned (.bool (Lib.hasPrefix T (Al.wrdS akd))) = _
            rw [hpre]))
          clear HEn hcnt hpre
          obtain ⟨ix, hix⟩ : ∃ ix : Nat, max 0 (min (IntKind.i64.wrap (akd - 1)) 5) = (ix : Int) ∧ ix < 6 ∧ ∀ h, ([.string ⟨#[108, 111, 119, 32]⟩, .string ⟨#[104, 105, 103, 104, 32]⟩, .string ⟨#[106, 117, 109, 112, 32]⟩, .string ⟨#[102, 114, 111, 122, 101, 110, 32]⟩, .string ⟨#[]⟩, .string ⟨#[117, 110, 107, 110, 111, 119, 110, 32]⟩] : List Value)[ix]'h = .string ⟨(Al.wrdS akd).toArray⟩ := by
            rcases hkd with rfl | rfl | rfl | rfl | rfl
            · exact ⟨0, by decide, by decide, fun _ => rfl⟩
            · exact ⟨1, by decide, by decide, fun _ => rfl⟩
            · exact ⟨2, by decide, by decide, fun _ => rfl⟩
            · exact ⟨3, by decide, by decide, fun _ => rfl⟩
            · exact ⟨5, by decide, by decide, fun _ => rfl⟩
          obtain ⟨hi1, hi2, hi3⟩ := hix
          have wb0 : (0 : Int) ≤ (ix : Int) := by omega
          have wb1 : (ix : Int) < 6 := by omega
          clear hkd
          generalize (Al.wrdS akd).toArray = PW at *
          go_upto_region 18 with fail
          refine name_world ?_
          intro W7 hW7
          have g67 : Gr w6 W7 := by rw [hW7]; exact gr_auto
          have g7 : Gr wx W7 := g6.trans g67
          clear hW7
          have s0 := Gr.at g67 c0
          have s3 := Gr.at g67 c3
          have bBX : BX < W7.heap.size := World.block_lt_of_cell? _ _ s0
          have nBX : BX ≠ W7.heap.size := Nat.ne_of_lt bBX
          have nBY : ¬ W7.heap.size = BX := fun e => nBX e.symm
          clear c0 c3
          have wan : IntKind.i64.wrap ((an : Int) + 4) = (an : Int) + 4 := by rw [IntKind.wrap_i64]; omega
          have wne : ((an : Int) + 4 != (an : Int) + 4) = false := by simp
          go_region_law (first | (go_simp; go_at_call 20; refine (HP1.out _).mono ?_; rintro e w9 ⟨rfl, rfl⟩) | (go_simp; go_at_call 21; refine (HP2.out _).mono ?_; rintro e w9 ⟨rfl, rfl⟩))
          all_goals (
            go_wp2_with fail
            go_roundw
            case rel => exact ⟨i + 1, by omega, by go_num, hg2.trans (by exact gr_auto)⟩
            case measure => simp [intOf] <;> omega)
    · obtain rfl : i = rn := by omega
      have tz : k = 0 ∨ i = 0 := HK2.out
      clear HGi HR HBf HrA HK2
      rcases tz with rfl | rfl
      · -- @y
        go_wp2_with fail
        go_ret
        exact ⟨rfl, gw⟩
      · -- @z
        cases tq : (k == 0)
        all_goals (
          go_wp2_with fail
          go_ret
          exact ⟨rfl, gw⟩)
theorem order_law (N : Ba.SlNode) (L : Ba.SlLink) (s : Al.SlM) (jp sm tl : Int) (w : World) (hN : N.At w) (hL : L.At w) (h : s.At w) (ht : Tab w) : Calls Tryz.prog 4 #[Ba.netVal N L, .slice s.A s.n s.c, .agg #[.int .i64 jp, .int .i64 sm, .int .i64 tl]] w fun e w' => e = .returned (.bool true) ∧ Gr w w' := by
  cases hf : Al.fewB N.n L.n s.n (Al.lngB s)
  · exact order_few N L s jp sm tl w hN hL h hf
  have hn40 : s.n ≤ 40 := by
    unfold Al.fewB at hf
    simp only [Bool.and_eq_true, decide_eq_true_eq] at hf
    omega
  have hvr : ∀ t : Al.SlM, t.lst = s.lst.reverse → t.vB = s.vB := fun t ht => by
    rw [Bool.eq_iff_iff, Al.vB_iff, Al.vB_iff, ht]
    exact ⟨fun h => Al.vL_perm h (List.reverse_perm _), fun h => Al.vL_perm h (List.reverse_perm _).symm⟩
  by_cases hk : Al.gvE (Ba.netB N L && s.vB) (Al.lmO jp sm tl) = 0
  · have hok : (Ba.netB N L && s.vB) = true := by
      unfold Al.gvE at hk
      split at hk
      · assumption
      · exact absurd hk (by decide)
    rw [Bool.and_eq_true] at hok
    have hvl := (Al.vB_iff s).1 hok.2
    refine order_main N L s jp sm tl w hN hL h hf 0 (Al.allC N s.lst jp sm) (fun W hW => All_ok N L s jp sm tl W (hN.gr hW) (hL.gr hW) (h.gr hW) hk) (fun t W hW hT hl => ?_) (.inl rfl) (fun i hi => ?_) (fun a W hW ha hm => good_of N L s jp sm a W (hN.gr hW) (hL.gr hW) (h.gr hW) ha hok.1 hok.2 (ht.gr hW) hn40 hm) hn40
    · have := All_ok N L t jp sm tl W (hN.gr hW) (hL.gr hW) hT (by rw [hvr t hl]; exact hk)
      rw [hl, ← Al.allC_perm hvl.2.2 (List.reverse_perm _).symm] at this
      exact this
    · exact List.pairwise_iff_getElem.1 (Al.allC_lt hvl.2.2 jp sm) i (i + 1) (by omega) hi (by omega)
  · exact order_main N L s jp sm tl w hN hL h hf _ [] (fun W hW => All_no N L s jp sm tl W (hN.gr hW) (hL.gr hW) (h.gr hW) _ rfl hk) (fun t W hW hT hl => All_no N L t jp sm tl W (hN.gr hW) (hL.gr hW) hT _ (by rw [hvr t hl]) hk) (.inr rfl) (fun i hi => absurd hi (by simp)) (fun a W hW ha hm => absurd hm (by simp)) hn40
theorem order_in (N : Ba.SlNode) (L : Ba.SlLink) (s : Al.SlM) (jp sm tl : Int) (w : World) (ht : Tab w) (hN : N.At w) (hL : L.At w) (h : s.At w) (_ : Ba.i64 jp) (_ : Ba.i64 sm) (_ : Ba.i64 tl) : Calls Tryz.prog 4 #[Ba.netVal N L, .slice s.A s.n s.c, .agg #[.int .i64 jp, .int .i64 sm, .int .i64 tl]] w fun e w' => e = .returned (.bool true) ∧ Gr w w' := order_law N L s jp sm tl w hN hL h ht
end Go.Proofs.YtllkiadedaghoaaGreatDoor
