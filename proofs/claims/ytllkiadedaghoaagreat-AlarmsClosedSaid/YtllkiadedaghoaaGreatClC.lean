/-
  Alarms: AlarmsClosed, the walk of the main way. (Printed by mkcla.py.)
-/
import Derived.Test.YtllkiadedaghoaaGreatClB
set_option linter.unusedVariables false
set_option linter.unusedSimpArgs false
namespace Go.Proofs.YtllkiadedaghoaaGreat
open Go.RowKit Go.Shelf Go.Sort
attribute [local go_sem ↓] Go.wp_at_zero Go.wp_at_succ

theorem eqi_two (pb po pc B : Nat) (a b : Int) (W : World) (c0 : W.cell? ⟨pb, po, none⟩ = some (.int .i64 a)) (c1 : W.cell? ⟨pb, po + 1, none⟩ = some (.int .i64 b)) (d0 : W.cell? ⟨B, 0, none⟩ = some (.int .i64 a)) (d1 : W.cell? ⟨B, 1, none⟩ = some (.int .i64 b)) : Calls Tryz.prog 46 #[.slice (some ⟨pb, po, none⟩) 2 pc, .slice (some ⟨B, 0, none⟩) 2 2] W fun e w' => e = .returned (.bool true) ∧ Gr W w' := by
  have := eqi_any ⟨some ⟨pb, po, none⟩, 2, pc, pb, po, fun q => if q = 0 then a else b⟩ ⟨some ⟨B, 0, none⟩, 2, 2, B, 0, fun q => if q = 0 then a else b⟩ W (by simp) (by simp) (fun _ => rfl)
    (fun i hi => by
      have : i = 0 ∨ i = 1 := by simp only [] at hi; omega
      rcases this with rfl | rfl
      · exact c0
      · exact c1) (fun _ => rfl)
    (fun i hi => by
      have : i = 0 ∨ i = 1 := by simp only [] at hi; omega
      rcases this with rfl | rfl
      · exact d0
      · exact d1)
  have e : Ba.eqI ⟨some ⟨pb, po, none⟩, 2, pc, pb, po, fun q => if q = 0 then a else b⟩ ⟨some ⟨B, 0, none⟩, 2, 2, B, 0, fun q => if q = 0 then a else b⟩ = true := by
    simp [Ba.eqI, Ba.allB]
  rw [e] at this
  exact this

set_option maxRecDepth 100000 in
set_option maxHeartbeats 4000000 in
theorem closed_main (N : Ba.SlNode) (L : Ba.SlLink) (s : Al.SlM) (nd : ByteArray) (tol kk wr : Int) (w : World) (hN : N.At w) (hL : L.At w) (h : s.At w) (hnd : nd.size ≤ 9223372036854775807) (hk8 : 0 ≤ kk ∧ kk ≤ 255) (hf : Al.fewB N.n L.n s.n (Al.lngB s) = true) (hl : nd.size ≤ 50) (hnb : Ba.netB N L = true) (hv : s.vB = true) (r1 : 0 ≤ tol) (r2 : tol ≤ 1099511627776) (r3 : -1099511627776 ≤ wr) (r4 : wr ≤ 1099511627776) (k : Nat) (hx : Ba.nix N nd = (k : Int)) (hk : (N.D k).kd ≠ 3) : Calls Tryz.prog 9 #[Ba.netVal N L, .slice s.A s.n s.c, .string nd, .int .i64 tol, .int .u8 kk, .int .i64 wr] w fun e w' => e = .returned (.bool true) ∧ Gr w w' := by
  have HB1 := Lib.hid (fun (I : Ba.SlI) W hW hI hm hX => closed_b1 N L s nd tol kk wr w hN hL h hnd hk8 hnb hv r1 r2 k hx hk I W hW hI hm hX)
  have HB2 := Lib.hid (fun (I : Ba.SlI) W hW hI hm q hq hX hX0 hb => closed_b2 N L s nd tol kk wr w hN hL h hnd hk8 hnb hv r1 r2 k hx hk I W hW hI hm q hq hX hX0 hb)
  have HB3 := Lib.hid (fun (I : Ba.SlI) W hW hI hm q hq hb => closed_b3 N L s nd tol kk wr w hN hL h hnd hk8 hnb hv r1 r2 k hx hk I W hW hI hm q hq hb)
  have hvl := (Al.vB_iff s).1 hv
  have HAw := Lib.hid (fun W => awake_any W)
  have HFe := Lib.hid (fun W (hW : Gr w W) => few_any N L s W (hN.gr hW) (hL.gr hW) (h.gr hW))
  rw [hf] at HFe
  have l0 : decide ((50 : Int) < (nd.size : Int)) = false := decide_eq_false (by omega)
  have l1 : decide (50 < nd.size) = false := decide_eq_false (by omega)
  have l2 : ¬ (50 : Int) < (nd.size : Int) := by omega
  have d0 : decide (tol < 0) = false := decide_eq_false (by omega)
  have p0 : ¬ tol < 0 := by omega
  have d1 : decide (1099511627776 < tol) = false := decide_eq_false (by omega)
  have p1 : ¬ 1099511627776 < tol := by omega
  have d2 : decide (wr < -1099511627776) = false := decide_eq_false (by omega)
  have p2 : ¬ wr < -1099511627776 := by omega
  have d3 : decide (1099511627776 < wr) = false := decide_eq_false (by omega)
  have p3 : ¬ 1099511627776 < wr := by omega
  have HNv := Lib.hid (fun W (hW : Gr w W) => rnetvalid_any N L W (hN.gr hW) (hL.gr hW))
  rw [hnb] at HNv
  have HV := Lib.hid (fun W (hW : Gr w W) => rvalid52_any s W (h.gr hW))
  rw [hv] at HV
  have HFi := Lib.hid (fun W (hW : Gr w W) => show Calls Tryz.prog 43 #[.agg #[.slice N.A N.n N.c, .slice L.A L.n L.c], .string nd] W fun e w' => e = .returned (.int .i64 (Ba.nix N nd)) ∧ Gr W w' from rfindnode_any N L.A L.n L.c nd W (hN.gr hW))
  rw [hx] at HFi
  have hkn := (Ba.fstI_is hx).1
  have hrn := Ba.net_node hnb hkn
  have hNA := hN.hA (by omega)
  have hNc := hN.hc; have hNb := hN.hb
  obtain ⟨hnc, hno⟩ := hN.hD k hkn
  obtain ⟨n0, n1, n2, n3, n4, n5, n6, n7, n8⟩ := hnc
  have ik0 : (0 : Int) ≤ (k : Int) := by omega
  have ik1 : (k : Int) < (N.n : Int) := by omega
  have ik2 : ¬ (k : Int) < 0 := by omega
  have ik3 : decide ((k : Int) < 0) = false := decide_eq_false ik2
  have HOf := Lib.hid (fun W (hW : Gr w W) => rof_any s nd W (h.gr hW) hvl)
  have hTl : (Al.ofN s.lst nd).length ≤ 10000 := Nat.le_trans List.filter_sublist.length_le (by rw [(Al.srtM_perm s.lst).length_eq]; exact hvl.1)
  have HOk := Lib.hid (show ∀ m ∈ Al.ofN s.lst nd, m.Ok from fun m hm => by
    obtain ⟨i, hi, rfl⟩ := List.mem_map.1 ((Al.srtM_perm s.lst).mem_iff.1 (List.mem_filter.1 hm).1)
    exact (h.hD i (List.mem_range.1 hi)).2)
  have HTD := Lib.hid (fun (t : Al.SlM) (h2 : t.lst = Al.ofN s.lst nd) j (hj : j < t.n) => show t.D j = (Al.ofN s.lst nd)[j]! from by
    rw [← h2, getElem!_pos t.lst j (by rw [Al.SlM.lst_len]; exact hj), Al.lst_get])
  have HVol := Lib.hid (fun lv W (hW : Gr w W) => rVol53_any (N.D k) lv W (hno.gr hW) hrn hk)
  have HVb := Lib.hid (fun lv => Ba.volN_bd hrn hk lv)
  obtain ⟨VF, hVF⟩ : ∃ VF, Ba.volN (N.D k) = VF := ⟨_, rfl⟩
  obtain ⟨T, hT⟩ : ∃ T : Nat → Al.M, (fun j => (Al.ofN s.lst nd)[j]!) = T := ⟨_, rfl⟩
  have hT2 : ∀ j, (Al.ofN s.lst nd)[j]! = T j := fun j => by rw [← hT]
  obtain ⟨DV, hDV⟩ : ∃ DV, Al.dvs VF T = DV := ⟨_, rfl⟩
  have HDV := Lib.hid (fun j => show DV j = VF (T (j + 1)).lv - VF (T j).lv from by rw [← hDV]; rfl)
  simp only [hT, hT2, hVF, hDV] at HB1 HB2 HB3 HTD HVol HVb
  clear hVF hT hT2 hDV
  clear hnb hv hnd hl hx hno hrn
  obtain ⟨D, hD⟩ : ∃ D, N.D k = D := ⟨_, rfl⟩
  rw [hD] at n0 n1 n2 n3 n4 n5 n6 n7 n8
  rw [hD] at hk HVol; unfold Ba.Node.val at HVol
  clear hD
  generalize D.sh.A = sha at *; generalize D.sh.n = shn at *; generalize D.sh.c = shc at *
  cases D with | mk nm kd ax ay iv gr sh pr rs =>
  simp only [] at *
  have t0 : (kd == 3) = false := beq_eq_false_iff_ne.2 hk
  clear hk
  clear hN hL h hf
  unfold Ba.netVal at *
  cases N with | mk nA nn nc nb no nD =>
  simp only [] at *
  subst hNA
  generalize L.A = lA at *; generalize L.n = ln at *; generalize L.c = lc at *
  have hvl1 := hvl.1
  clear hvl
  generalize hLN : (Al.ofN s.lst nd).length = LN at *
  go_enter Tryz.func9, Tryz.ntmps9
  go_wp2_with fail
  refine (HAw.out _).mono ?_
  rintro e w1 ⟨rfl, hb⟩
  have g : Gr w w1 := gr_auto
  have q0 := Gr.at (show Gr _ w1 from hb) (show World.cell? _ ⟨w.heap.size, 0, none⟩ = some (.slice (some ⟨nb, no, none⟩) nn nc) from by simp [go_sem])
  have q1 := Gr.at (show Gr _ w1 from hb) (show World.cell? _ ⟨w.heap.size, 1, none⟩ = some (.slice lA ln lc) from by simp [go_sem])
  clear hb HAw
  replace n0 := Gr.at g n0
  replace n1 := Gr.at g n1
  replace n2 := Gr.at g n2
  replace n3 := Gr.at g n3
  replace n4 := Gr.at g n4
  replace n5 := Gr.at g n5
  replace n6 := Gr.at g n6
  replace n7 := Gr.at g n7
  replace n8 := Gr.at g n8
  go_wp2_with fail
  refine (HFe.out _ g).mono ?_
  rintro e w2 ⟨rfl, hb⟩
  replace q0 := Gr.at hb q0
  replace q1 := Gr.at hb q1
  replace n0 := Gr.at hb n0
  replace n1 := Gr.at hb n1
  replace n2 := Gr.at hb n2
  replace n3 := Gr.at hb n3
  replace n4 := Gr.at hb n4
  replace n5 := Gr.at hb n5
  replace n6 := Gr.at hb n6
  replace n7 := Gr.at hb n7
  replace n8 := Gr.at hb n8
  replace g := g.trans hb
  clear hb
  go_wp2_with fail
  refine (HNv.out _ g).mono ?_
  rintro e w3 ⟨rfl, hb⟩
  replace q0 := Gr.at hb q0
  replace q1 := Gr.at hb q1
  replace n0 := Gr.at hb n0
  replace n1 := Gr.at hb n1
  replace n2 := Gr.at hb n2
  replace n3 := Gr.at hb n3
  replace n4 := Gr.at hb n4
  replace n5 := Gr.at hb n5
  replace n6 := Gr.at hb n6
  replace n7 := Gr.at hb n7
  replace n8 := Gr.at hb n8
  replace g := g.trans hb
  clear hb
  go_wp2_with fail
  refine (HV.out _ g).mono ?_
  rintro e w4 ⟨rfl, hb⟩
  replace q0 := Gr.at hb q0
  replace q1 := Gr.at hb q1
  replace n0 := Gr.at hb n0
  replace n1 := Gr.at hb n1
  replace n2 := Gr.at hb n2
  replace n3 := Gr.at hb n3
  replace n4 := Gr.at hb n4
  replace n5 := Gr.at hb n5
  replace n6 := Gr.at hb n6
  replace n7 := Gr.at hb n7
  replace n8 := Gr.at hb n8
  replace g := g.trans hb
  clear hb
  go_wp2_with fail
  refine (HFi.out _ g).mono ?_
  rintro e w5 ⟨rfl, hb⟩
  replace q0 := Gr.at hb q0
  replace q1 := Gr.at hb q1
  replace n0 := Gr.at hb n0
  replace n1 := Gr.at hb n1
  replace n2 := Gr.at hb n2
  replace n3 := Gr.at hb n3
  replace n4 := Gr.at hb n4
  replace n5 := Gr.at hb n5
  replace n6 := Gr.at hb n6
  replace n7 := Gr.at hb n7
  replace n8 := Gr.at hb n8
  replace g := g.trans hb
  clear hb
  clear HFe HNv HV HFi
  -- @a
  go_wp2_with fail
  refine (HOf.out _ g).mono ?_
  rintro e w6 ⟨v2, rfl, hv2, hb⟩
  replace q0 := Gr.at hb q0
  replace q1 := Gr.at hb q1
  replace n0 := Gr.at hb n0
  replace n1 := Gr.at hb n1
  replace n2 := Gr.at hb n2
  replace n3 := Gr.at hb n3
  replace n4 := Gr.at hb n4
  replace n5 := Gr.at hb n5
  replace n6 := Gr.at hb n6
  replace n7 := Gr.at hb n7
  replace n8 := Gr.at hb n8
  obtain ⟨t, rfl, ht1, ht2, -, -⟩ := Al.ownM_sl (by rw [hLN]; exact hv2) (fun m hm => HOk.out m hm)
  have htl : t.n = LN := by rw [← hLN, ← ht2, Al.SlM.lst_len]
  have HTA := Lib.hid ht1.hA
  have HTC := Lib.hid (fun j (hj : j < t.n) => show (T j).Cells w6 t.b (t.o + j * 5) from by rw [← HTD.out t ht2 j hj]; exact (ht1.hD j hj).1)
  have htc := ht1.hc; have htcb := ht1.hb
  replace g := g.trans hb
  clear hb hv2 ht1 ht2 HOf HOk HTD hLN
  -- @b
  cases t with | mk tA tn tc tb to' tD =>
  simp only [] at *
  subst htl
  clear tD
  generalize s.A = sA at *; generalize s.n = sn at *; generalize s.c = sc at *
  -- @c
  go_wp2_with fail
  refine name_world ?_
  intro W6 hW6
  have g6 : Gr w6 W6 := by rw [hW6]; exact gr_auto
  replace q0 := Gr.at g6 q0
  replace q1 := Gr.at g6 q1
  replace n0 := Gr.at g6 n0
  replace n1 := Gr.at g6 n1
  replace n2 := Gr.at g6 n2
  replace n3 := Gr.at g6 n3
  replace n4 := Gr.at g6 n4
  replace n5 := Gr.at g6 n5
  replace n6 := Gr.at g6 n6
  replace n7 := Gr.at g6 n7
  replace n8 := Gr.at g6 n8
  replace HTC := Lib.hid (fun j (hj : j < tn) => (HTC.out j hj).gr g6)
  replace g := g.trans g6
  clear hW6 g6
  obtain ⟨i1, k0, k1, k2, k3⟩ := info_parts infoI
  have KI := Lib.hid k0; have KZ0 := Lib.hid k1; have KZ1 := Lib.hid k2; have KZ2 := Lib.hid k3
  clear k0 k1 k2 k3
  -- @d
  go_loopw [17, 18] (fun v y wr' => ∃ i : Nat, i ≤ tn - 1 ∧ y = .int .i64 ((i : Int) + 1) ∧ Hid (wr'.ownsRow W6.heap.size 3 1 v i ((List.range i).map fun (q : Nat) => Value.int .i64 (DV q))) ∧ Gr W6 wr') (fun _ y _ => tn - (intOf y).toNat)
  case atStart => exact ⟨0, Nat.zero_le _, by go_num, Lib.hid (World.ownsRow_nil _ _ _ _), Gr.refl _⟩
  case round =>
    obtain ⟨i, hi, rfl, HO, hg2⟩ := hrel
    rename World => wx
    by_cases hlt : i + 1 < tn
    · obtain rfl := HTA.out (by omega)
      obtain ⟨-, -, -, -, a4⟩ := HTC.out i (by omega)
      obtain ⟨-, -, -, -, b4⟩ := HTC.out (i + 1) hlt
      have hb1 := HVb.out (T i).lv; have hb2 := HVb.out (T (i + 1)).lv
      have HDi := Lib.hid (HDV.out i)
      have HV1 := Lib.hid (fun W (hW : Gr wx W) => HVol.out (T i).lv W (g.trans (hg2.trans hW)))
      have HV2 := Lib.hid (fun W (hW : Gr wx W) => HVol.out (T (i + 1)).lv W (g.trans (hg2.trans hW)))
      clear HVb HTC HB1 HB2 HB3 HVol HTA HDV
      obtain ⟨l1, hl1⟩ : ∃ l1, (T i).lv = l1 := ⟨_, rfl⟩
      obtain ⟨l2, hl2⟩ : ∃ l2, (T (i + 1)).lv = l2 := ⟨_, rfl⟩
      rw [hl1] at a4 HV1 HDi hb1
      rw [hl2] at b4 HV2 HDi hb2
      clear hl1 hl2
      obtain ⟨y1, hy1⟩ : ∃ y1, VF l1 = y1 := ⟨_, rfl⟩
      obtain ⟨y2, hy2⟩ : ∃ y2, VF l2 = y2 := ⟨_, rfl⟩
      rw [hy1] at HV1 HDi hb1
      rw [hy2] at HV2 HDi hb2
      clear hy1 hy2
      have ib0 : (0 : Int) ≤ (i : Int) + 1 := by omega
      have ib1 : (i : Int) + 1 < (tn : Int) := by omega
      have ib2 : (0 : Int) ≤ (i : Int) := by omega
      have ib3 : (i : Int) < (tn : Int) := by omega
      have wj0 : IntKind.i64.wrap (i : Int) = (i : Int) := wrap_in _ (by omega)
      have wj : IntKind.i64.wrap ((i : Int) + 1 - 1) = (i : Int) := by rw [show (i : Int) + 1 - 1 = (i : Int) by omega]; exact wrap_in _ (by omega)
      have wj1 : IntKind.i64.wrap ((i : Int) + 1) = (i : Int) + 1 := wrap_in _ (by omega)
      have wj2 : IntKind.i64.wrap ((i : Int) + 1 + 1) = ((i + 1 : Nat) : Int) + 1 := by rw [wrap_in _ (by omega)]; omega
      have wd1 : IntKind.i64.wrap (y2 - y1) = y2 - y1 := wrap_in _ (by omega)
      have hzx := Gr.size hg2
      have HVA := Lib.hid (fun W (hW : Gr wx W) => (HV1.out W hW).mono fun e w' z => show e = .returned (.int .i64 y1) ∧ Gr wx w' from ⟨z.1, hW.trans z.2⟩)
      have HVB := Lib.hid (fun W (hW : Gr wx W) => (HV2.out W hW).mono fun e w' z => show e = .returned (.int .i64 y2) ∧ Gr wx w' from ⟨z.1, hW.trans z.2⟩)
      clear HV1 HV2
      -- @e
      go_upto_region 14 with fail
      -- @f
      have s0 : ∀ w', Gr W6 w' → w'.cell? ⟨w.heap.size, 0, none⟩ = some (.slice (some ⟨nb, no, none⟩) nn nc) := fun w' hg' => Gr.at hg' q0
      have s1 : ∀ w', Gr W6 w' → w'.cell? ⟨nb, no + k * 9, none⟩ = some (.string nm) := fun w' hg' => Gr.at hg' n0
      have s2 : ∀ w', Gr W6 w' → w'.cell? ⟨nb, no + k * 9 + 1, none⟩ = some (.int .i64 kd) := fun w' hg' => Gr.at hg' n1
      have s3 : ∀ w', Gr W6 w' → w'.cell? ⟨nb, no + k * 9 + 2, none⟩ = some (.int .i64 ax) := fun w' hg' => Gr.at hg' n2
      have s4 : ∀ w', Gr W6 w' → w'.cell? ⟨nb, no + k * 9 + 3, none⟩ = some (.int .i64 ay) := fun w' hg' => Gr.at hg' n3
      have s5 : ∀ w', Gr W6 w' → w'.cell? ⟨nb, no + k * 9 + 4, none⟩ = some (.int .i64 iv) := fun w' hg' => Gr.at hg' n4
      have s6 : ∀ w', Gr W6 w' → w'.cell? ⟨nb, no + k * 9 + 5, none⟩ = some (.int .i64 gr) := fun w' hg' => Gr.at hg' n5
      have s7 : ∀ w', Gr W6 w' → w'.cell? ⟨nb, no + k * 9 + 6, none⟩ = some (.slice sha shn shc) := fun w' hg' => Gr.at hg' n6
      have s8 : ∀ w', Gr W6 w' → w'.cell? ⟨nb, no + k * 9 + 7, none⟩ = some (.bool pr) := fun w' hg' => Gr.at hg' n7
      have s9 : ∀ w', Gr W6 w' → w'.cell? ⟨nb, no + k * 9 + 8, none⟩ = some (.int .i64 rs) := fun w' hg' => Gr.at hg' n8
      have s10 : ∀ w', Gr W6 w' → w'.cell? ⟨tb, to' + i * 5 + 4, none⟩ = some (.int .i64 l1) := fun w' hg' => Gr.at hg' a4
      have s11 : ∀ w', Gr W6 w' → w'.cell? ⟨tb, to' + (i + 1) * 5 + 4, none⟩ = some (.int .i64 l2) := fun w' hg' => Gr.at hg' b4
      clear q0 n0 n1 n2 n3 n4 n5 n6 n7 n8 a4 b4 q1
      -- @g
      go_region_held3 (fun w' => Gr W6 w') (first | assumption | exact gr_auto) (first
        | (go_at_call 45; (first | (with_reducible refine (HVA.out _ (by exact gr_auto)).mono ?_) | (with_reducible refine (HVB.out _ (by exact gr_auto)).mono ?_)); rintro e w8 ⟨rfl, hb8⟩; have hb8' := hg2.trans hb8)
        | (refine step_append_own _ (by rfl) _ _ 33 (by rfl) W6.heap.size 3 i1 (.int .i64 0) 1 8 Tryz.underlying33 KI.out KZ0.out KZ1.out KZ2.out rfl (by decide) _ _ _ (by rfl) (ownsRow_gr HO.out (by exact gr_auto)) ⟨_, 0, none⟩ 1 1 [.int .i64 (y2 - y1)] (by rfl) rfl (cells_new _ #[.int .i64 (y2 - y1)] 3) (by intro u hu; simp at hu; rcases hu with rfl; rfl) (by unfold maxLen; omega) (by omega) (Gr.size (w := W6) (by exact gr_auto)) ?_; intro v9 w9 hown9 hgrow9; have hk9 : Gr W6 w9 := Gr.own (by exact gr_auto) (Nat.le_refl _) (ownsRow_gr HO.out (by exact gr_auto)) hgrow9))
      all_goals (
        have HP := Lib.hid (show w9.ownsRow W6.heap.size 3 1 v9 (i + 1) ((List.range (i + 1)).map fun (q : Nat) => Value.int .i64 (DV q)) from by
          rw [List.range_succ, List.map_append, List.map_cons, List.map_nil, HDi.out]; exact hown9)
        clear hown9 hgrow9 HO HDi
        go_wp2_with fail
        go_roundw
        case rel => exact ⟨i + 1, by omega, by go_num, HP, hk9⟩
        case measure => simp [intOf]; omega)
    · skip
      -- @h
      have HM := Lib.hid (show i = tn - 1 from by omega)
      obtain ⟨A, c, g0, rfl, hA, hnc, hcm, hcell⟩ := Al.ownD HO.out
      have gw := g.trans hg2
      have HDB := Lib.hid (fun j => show -1125899906842624 ≤ DV j ∧ DV j ≤ 1125899906842624 from by
        rw [HDV.out]; have a := HVb.out (T (j + 1)).lv; have b := HVb.out (T j).lv; omega)
      have HQ1 := Lib.hid (show Calls Tryz.prog 41 #[.agg #[.slice (some ⟨nb, no, none⟩) nn nc, .slice lA ln lc], .slice sA sn sc, .string nd, .slice A i c, .int .i64 tol] wx (Al.RetAe [] 0 wx) from HB1.out ⟨A, i, c, g0, 0, DV⟩ wx gw ⟨fun h => (hA h).1, hnc, hcm, fun j hj => ⟨by simpa using (hcell j hj).1, by have := HDB.out j; unfold Ba.i64; simp only []; omega⟩⟩ HM.out (fun j hj => rfl))
      clear HB1 HVol HVb HDV HO n0 n1 n2 n3 n4 n5 n6 n7 n8
      have GW := Lib.hid g
      have Q0 := Lib.hid q0; have Q1 := Lib.hid q1
      replace q0 := Gr.at hg2 q0
      replace q1 := Gr.at hg2 q1
      -- @i
      go_wp2_with fail
      refine HQ1.out.mono ?_
      intro e w9 hR; obtain ⟨A1, c1, rfl, hb⟩ := hR.nil; clear hR HQ1
      replace q0 := Gr.at hb q0
      replace q1 := Gr.at hb q1
      replace g := gw.trans hb
      have g69 := hg2.trans hb
      by_cases hi0 : i = 0
      · subst hi0
        clear HTC HB2 HB3 HDB HM
        -- @j
        go_wp2_with fail
        go_ret
        exact ⟨rfl, g⟩
      · have hcell9 := Lib.hid (fun j (hj : j < i) => show Own w9 g0 j (.int .i64 (DV j)) from ⟨Gr.at hb (hcell j hj).1, Gr.free hb (hcell j hj).1 (hcell j hj).2⟩)
        obtain ⟨hA1, hA2, hA3⟩ := hA (by omega)
        clear hcell hb hA
        subst hA1
        obtain ⟨x, hx⟩ : ∃ x : Nat, kk % (i : Int) = (x : Int) := ⟨(kk % (i : Int)).toNat, by have := Int.emod_nonneg kk (show (i : Int) ≠ 0 by omega); omega⟩
        have hxl : x < i := by have := Int.emod_lt_of_pos kk (show (0 : Int) < i by omega); omega
        have hx2 : Int.tmod kk (i : Int) = (x : Int) := by rw [Int.tmod_eq_emod_of_nonneg hk8.1]; exact hx
        clear hx
        have hne : ¬ (i : Int) = 0 := by omega
        have t1 : ((i : Int) == 0) = false := beq_eq_false_iff_ne.2 hne
        have ix0 : (0 : Int) ≤ (x : Int) := by omega
        have ix1 : (x : Int) < (i : Int) := by omega
        have wk : IntKind.i64.wrap kk = kk := wrap_in _ (by omega)
        have wx1 : IntKind.i64.wrap (x : Int) = (x : Int) := wrap_in _ (by omega)
        have hdx := HDB.out x
        obtain ⟨⟨c9, f9⟩, -⟩ := show Own w9 g0 x (.int .i64 (DV x)) ∧ True from ⟨hcell9.out x hxl, trivial⟩
        have hbx : g0 < w9.heap.size := World.block_lt_of_cell? _ _ c9
        obtain ⟨dx, hdx2⟩ : ∃ dx, DV x = dx := ⟨_, rfl⟩
        have HDX := Lib.hid hdx2
        rw [hdx2] at c9 hdx
        clear hdx2
        have ws : IntKind.i64.wrap (dx + wr) = dx + wr := wrap_in _ (by omega)
        have HX' := Lib.hid (fun W (hW : Gr w W) (hc : ∀ j, j < i → W.cell? ⟨g0, j, none⟩ = some (.int .i64 (if j = x then dx + wr else DV j))) => show (⟨some ⟨g0, 0, none⟩, i, c, g0, 0, fun j => if j = x then dx + wr else DV j⟩ : Ba.SlI).At W from
          ⟨fun _ => rfl, hnc, hcm, fun j hj => ⟨by simpa using hc j hj, by have := HDB.out j; unfold Ba.i64; simp only []; split <;> omega⟩⟩)
        have HQ2 := Lib.hid (fun W (hW : Gr w W) (hc : ∀ j, j < i → W.cell? ⟨g0, j, none⟩ = some (.int .i64 (if j = x then dx + wr else DV j))) (hbd : -1125899906842624 ≤ dx + wr ∧ dx + wr ≤ 1125899906842624) => show Calls Tryz.prog 41 #[.agg #[.slice (some ⟨nb, no, none⟩) nn nc, .slice lA ln lc], .slice sA sn sc, .string nd, .slice (some ⟨g0, 0, none⟩) i c, .int .i64 tol] W (Al.RetAe (Al.jumpIf tol wr (Al.alm 5 [T x, T (x + 1)])) 0 W) from
          HB2.out ⟨some ⟨g0, 0, none⟩, i, c, g0, 0, fun j => if j = x then dx + wr else DV j⟩ W hW (HX'.out W hW hc) HM.out x hxl (fun j _ hj => by simp only []; rw [if_neg hj]) (by simp only []; rw [if_pos trivial, HDX.out]) (by simpa using hbd))
        have HQ3 := Lib.hid (fun W (hW : Gr w W) (hc : ∀ j, j < i → W.cell? ⟨g0, j, none⟩ = some (.int .i64 (if j = x then dx + wr else DV j))) (hbd : ¬ (-1125899906842624 ≤ dx + wr ∧ dx + wr ≤ 1125899906842624)) => show Calls Tryz.prog 41 #[.agg #[.slice (some ⟨nb, no, none⟩) nn nc, .slice lA ln lc], .slice sA sn sc, .string nd, .slice (some ⟨g0, 0, none⟩) i c, .int .i64 tol] W fun e w' => e = .returned (.tuple #[.slice none 0 0, .int .i64 2]) ∧ Gr W w' from
          HB3.out ⟨some ⟨g0, 0, none⟩, i, c, g0, 0, fun j => if j = x then dx + wr else DV j⟩ W hW (HX'.out W hW hc) HM.out x hxl (by simpa using hbd))
        clear HB2 HB3 HX' HDB
        have htn2 : x + 1 < tn := by have := HM.out; omega
        obtain rfl := HTA.out (by omega)
        obtain ⟨-, a1, -, -, -⟩ := HTC.out x (by omega)
        obtain ⟨-, b1, b2, -, -⟩ := HTC.out (x + 1) htn2
        clear HTC HTA
        obtain ⟨ma, hma⟩ : ∃ ma, T x = ma := ⟨_, rfl⟩
        obtain ⟨mb, hmb⟩ : ∃ mb, T (x + 1) = mb := ⟨_, rfl⟩
        rw [hma] at a1 HQ2
        rw [hmb] at b1 b2 HQ2
        clear hma hmb
        have htb : tb < w9.heap.size := Nat.lt_of_lt_of_le (World.block_lt_of_cell? _ _ a1) (Gr.size g69)
        have g69' := Lib.hid g69
        have gw9 := Lib.hid g
        clear g69
        -- @k
        go_upto_region 22 with fail
        -- @l
        refine name_world ?_
        intro Wb hWb
        have gB : Gr W6 Wb := by have := g69'.out; rw [hWb]; exact gr_auto
        have gBw : Gr w Wb := GW.out.trans gB
        have hcB : ∀ j, j < i → Wb.cell? ⟨g0, j, none⟩ = some (.int .i64 (if j = x then dx + wr else DV j)) := fun j hj => by
          rw [hWb]
          by_cases e : j = x
          · subst e
            rw [if_pos rfl]
            exact (Own.set ((hcell9.out j hj).gr (by exact gr_auto))).1
          · rw [if_neg e]
            exact (Own.other ((hcell9.out j hj).gr (by exact gr_auto)) (Or.inr e)).1
        clear hWb hcell9 c9 f9 q0 q1 g
        have q0 := Gr.at gB Q0.out; have q1 := Gr.at gB Q1.out
        clear Q0 Q1
        go_wp2_with fail
        by_cases hbd : -1125899906842624 ≤ dx + wr ∧ dx + wr ≤ 1125899906842624
        rotate_left
        · have HQ := Lib.hid (HQ3.out Wb gBw hcB hbd)
          clear HQ2 HQ3 hcB hbd
          refine HQ.out.mono ?_
          rintro e w10 ⟨rfl, hb⟩
          have g := gBw.trans hb
          -- @m
          go_wp2_with fail
          go_ret
          exact ⟨rfl, g⟩
        have HQ := Lib.hid (HQ2.out Wb gBw hcB hbd)
        clear HQ2 HQ3 hcB hbd
        have wd4 : IntKind.i64.wrap (0 - tol) = 0 - tol := wrap_in _ (by omega)
        have wd5 : IntKind.i64.wrap (-tol) = -tol := wrap_in _ (by omega)
        refine HQ.out.mono ?_
        by_cases p : tol < max wr (-wr)
        rotate_left
        · intro e w10 hR
          unfold Al.jumpIf at hR
          rw [if_neg p] at hR
          obtain ⟨A2, c2, rfl, hb⟩ := hR.nil
          clear hR HQ
          have g := gBw.trans hb
          have y1 : wr ≤ tol := by omega
          have y2 : 0 - tol ≤ wr := by omega
          have y3 : -tol ≤ wr := by omega
          have z1 : decide (wr ≤ tol) = true := decide_eq_true y1
          have z2 : decide (0 - tol ≤ wr) = true := decide_eq_true y2
          have z3 : decide (-tol ≤ wr) = true := decide_eq_true y3
          -- @n
          go_wp2_with fail
          go_ret
          exact ⟨rfl, g⟩
        intro e w10 hR
        unfold Al.jumpIf at hR
        rw [if_pos p] at hR
        obtain ⟨r, rfl, hr, hcr, hb⟩ := hR.at
        clear hR HQ
        obtain ⟨hrn1, P, pb, po, pc, hrA, u0, u2, u3, hP, v0, v1⟩ := Al.one_at hr hcr
        clear hr hcr
        cases r with | mk rA rn rc rb ro rD =>
        simp only [] at *
        subst hrn1; subst hrA; subst hP
        clear rD
        have gz := gB.trans hb
        have g := gBw.trans hb
        replace a1 := Gr.at gz a1; replace b1 := Gr.at gz b1; replace b2 := Gr.at gz b2
        clear gz gB gBw hb g69' gw9 GW
        have ib0 : (0 : Int) ≤ (x : Int) + 1 := by omega
        have ib1 : (x : Int) + 1 < (tn : Int) := by omega
        have ib2 : (x : Int) < (tn : Int) := by omega
        have wj1 : IntKind.i64.wrap ((x : Int) + 1) = (x : Int) + 1 := wrap_in _ (by omega)
        clear HM HDX
        generalize ma.nu = nua at *; generalize mb.nu = nub at *; generalize mb.tm = tmb at *
        -- @o
        go_upto_region 25 with fail
        go_cut [185] (fun q wc => q = .bool false ∧ Gr w10 wc)
        case first =>
          rcases (by omega : tol < wr ∨ (wr ≤ tol ∧ wr < 0 - tol)) with p1 | ⟨p1, p2⟩
          · have y2 : 0 - tol ≤ wr := by omega
            have y3 : -tol ≤ wr := by omega
            have z1 : decide (wr ≤ tol) = false := decide_eq_false (by omega)
            have z2 : decide (0 - tol ≤ wr) = true := decide_eq_true y2
            have z3 : decide (-tol ≤ wr) = true := decide_eq_true y3
            clear p
            go_wp2_with fail
            go_meet
            exact ⟨rfl, gr_auto⟩
          · have z2 : decide (0 - tol ≤ wr) = false := decide_eq_false (by omega)
            have z3 : decide (-tol ≤ wr) = false := decide_eq_false (by omega)
            have z4 : ¬ -tol ≤ wr := by omega
            clear p
            go_wp2_with fail
            go_meet
            exact ⟨rfl, gr_auto⟩
        case rest =>
          obtain ⟨rfl, gcut⟩ := hcut
          clear p
          replace g := g.trans gcut
          replace u0 := Gr.at gcut u0; replace u2 := Gr.at gcut u2; replace u3 := Gr.at gcut u3; replace v0 := Gr.at gcut v0; replace v1 := Gr.at gcut v1; replace a1 := Gr.at gcut a1; replace b1 := Gr.at gcut b1; replace b2 := Gr.at gcut b2
          clear gcut q0 q1
          -- @p
          go_upto_region 27 with fail
          -- @q
          (first | refine name_world ?_ | refine (show (∀ W, W = _ → Calls _ _ _ W _) → Calls _ _ _ _ _ from fun h => h _ rfl) ?_); intro W13 hW13
          have g13 : Gr w W13 := by rw [hW13]; exact gr_auto
          have k13_0 : W13.cell? ⟨rb, ro, none⟩ = some (.int .i64 5) := by rw [hW13]; first | (simp [go_sem, *]; done) | (refine Gr.at ?_ (by assumption); exact gr_auto)
          have b13_0 : rb < W13.heap.size := World.block_lt_of_cell? _ _ k13_0
          have k13_1 : W13.cell? ⟨rb, ro + 2, none⟩ = some (.int .i64 tmb) := by rw [hW13]; first | (simp [go_sem, *]; done) | (refine Gr.at ?_ (by assumption); exact gr_auto)
          have k13_2 : W13.cell? ⟨rb, ro + 3, none⟩ = some (.slice (some ⟨pb, po, none⟩) 2 pc) := by rw [hW13]; first | (simp [go_sem, *]; done) | (refine Gr.at ?_ (by assumption); exact gr_auto)
          have k13_3 : W13.cell? ⟨pb, po, none⟩ = some (.int .i64 nua) := by rw [hW13]; first | (simp [go_sem, *]; done) | (refine Gr.at ?_ (by assumption); exact gr_auto)
          have b13_3 : pb < W13.heap.size := World.block_lt_of_cell? _ _ k13_3
          have k13_4 : W13.cell? ⟨pb, po + 1, none⟩ = some (.int .i64 nub) := by rw [hW13]; first | (simp [go_sem, *]; done) | (refine Gr.at ?_ (by assumption); exact gr_auto)
          have k13_5 : W13.cell? ⟨tb, to' + (x + 1) * 5 + 2, none⟩ = some (.int .i64 tmb) := by rw [hW13]; first | (simp [go_sem, *]; done) | (refine Gr.at ?_ (by assumption); exact gr_auto)
          have b13_5 : tb < W13.heap.size := World.block_lt_of_cell? _ _ k13_5
          have k13_6 : W13.cell? ⟨tb, to' + x * 5 + 1, none⟩ = some (.int .i64 nua) := by rw [hW13]; first | (simp [go_sem, *]; done) | (refine Gr.at ?_ (by assumption); exact gr_auto)
          have k13_7 : W13.cell? ⟨tb, to' + (x + 1) * 5 + 1, none⟩ = some (.int .i64 nub) := by rw [hW13]; first | (simp [go_sem, *]; done) | (refine Gr.at ?_ (by assumption); exact gr_auto)
          clear hW13
          have s13_0 : ∀ w', Gr W13 w' → w'.cell? ⟨rb, ro, none⟩ = some (.int .i64 5) := fun w' hgW => Gr.at hgW k13_0
          have s13_1 : ∀ w', Gr W13 w' → w'.cell? ⟨rb, ro + 2, none⟩ = some (.int .i64 tmb) := fun w' hgW => Gr.at hgW k13_1
          have s13_2 : ∀ w', Gr W13 w' → w'.cell? ⟨rb, ro + 3, none⟩ = some (.slice (some ⟨pb, po, none⟩) 2 pc) := fun w' hgW => Gr.at hgW k13_2
          have s13_3 : ∀ w', Gr W13 w' → w'.cell? ⟨pb, po, none⟩ = some (.int .i64 nua) := fun w' hgW => Gr.at hgW k13_3
          have s13_4 : ∀ w', Gr W13 w' → w'.cell? ⟨pb, po + 1, none⟩ = some (.int .i64 nub) := fun w' hgW => Gr.at hgW k13_4
          have s13_5 : ∀ w', Gr W13 w' → w'.cell? ⟨tb, to' + (x + 1) * 5 + 2, none⟩ = some (.int .i64 tmb) := fun w' hgW => Gr.at hgW k13_5
          have s13_6 : ∀ w', Gr W13 w' → w'.cell? ⟨tb, to' + x * 5 + 1, none⟩ = some (.int .i64 nua) := fun w' hgW => Gr.at hgW k13_6
          have s13_7 : ∀ w', Gr W13 w' → w'.cell? ⟨tb, to' + (x + 1) * 5 + 1, none⟩ = some (.int .i64 nub) := fun w' hgW => Gr.at hgW k13_7
          first | (go_region_held3 (fun w' => Gr W13 w') (exact gr_auto) ((go_at_call 46; refine (eqi_two pb po pc _ nua nub _ (s13_3 _ (by exact gr_auto)) (s13_4 _ (by exact gr_auto)) (by simp [go_sem]) (by simp [go_sem])).mono ?_; rintro e w14 ⟨rfl, hb14⟩))) | fail
          -- @r
          all_goals (
            go_wp2_with fail
            go_ret
            exact ⟨rfl, g13.trans (by assumption)⟩)

end Go.Proofs.YtllkiadedaghoaaGreat
