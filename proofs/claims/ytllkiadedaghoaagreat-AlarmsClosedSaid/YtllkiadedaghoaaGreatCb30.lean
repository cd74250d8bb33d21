/-
  Alarms: Balance, where all is right. (Printed by mkblf.py.)
-/
import Derived.Test.YtllkiadedaghoaaGreatCb29
import Derived.Test.YtllkiadedaghoaaGreatCm02

set_option linter.unusedVariables false
set_option linter.unusedSimpArgs false
namespace Go.Proofs.YtllkiadedaghoaaGreat
open Go.RowKit Go.Shelf Go.Sort Go.Maps
attribute [local go_sem ↓] Go.wp_at_zero Go.wp_at_succ
set_option maxRecDepth 100000 in
set_option maxHeartbeats 4000000 in
theorem bal_ok (N : Ba.SlNode) (L : Ba.SlLink) (s : Al.SlM) (nd : ByteArray) (I : Ba.SlI) (tol : Int) (w : World) (hN : N.At w) (hL : L.At w) (h : s.At w) (hnd : nd.size ≤ 9223372036854775807) (hI : I.At w) (hnb : Ba.netB N L = true) (hv : s.vB = true) (k : Nat) (hx : Ba.nix N nd = (k : Int)) (hk : (N.D k).kd ≠ 3) (hm : I.n = (Al.ofN s.lst nd).length - 1) (hr : Ba.any (fun i => !Ba.bet (I.X i) (-1125899906842624) 1125899906842624) I.n = false) (ht : Ba.bet tol 0 1125899906842624 = true) : Calls Tryz.prog 41 #[Ba.netVal N L, .slice s.A s.n s.c, .string nd, .slice I.A I.n I.c, .int .i64 tol] w (Al.RetAe (Al.srt (Al.balL (Ba.volN (N.D k)) (fun j => (Al.ofN s.lst nd)[j]!) I.X tol I.n)) 0 w) := by
  have HR := Lib.hid (fun W (hW : Gr w W) => aright_any N L s W (hN.gr hW) (hL.gr hW) (h.gr hW))
  rw [hnb, hv] at HR
  have HNo := Lib.hid (fun W (hW : Gr w W) => nodeno_any N L nd W (hN.gr hW) (hL.gr hW))
  rw [hnb, if_pos rfl, if_pos rfl] at HNo
  rw [hx, show Ba.fndE (k : Int) = 0 from if_neg (by omega), show Ba.fnd (k : Int) = (k : Int) from if_neg (by omega)] at HNo
  have hkn := (Ba.fstI_is hx).1
  have hrn := Ba.net_node hnb hkn
  have hNA := hN.hA (by omega)
  have hNc := hN.hc; have hNb := hN.hb
  obtain ⟨hnc, hno⟩ := hN.hD k hkn
  obtain ⟨n0, n1, n2, n3, n4, n5, n6, n7, n8⟩ := hnc
  have HB := Lib.hid (fun W (hW : Gr w W) => bynode_any s W (h.gr hW) hv)
  have hvl := (Al.vB_iff s).1 hv
  have hTl : (Al.ofN s.lst nd).length ≤ 10000 := Nat.le_trans List.filter_sublist.length_le (by rw [(Al.srtM_perm s.lst).length_eq]; exact hvl.1)
  have HOk := Lib.hid (show ∀ m ∈ Al.ofN s.lst nd, m.Ok from fun m hm => by
    obtain ⟨i, hi, rfl⟩ := List.mem_map.1 ((Al.srtM_perm s.lst).mem_iff.1 (List.mem_filter.1 hm).1)
    exact (h.hD i (List.mem_range.1 hi)).2)
  have HL2 := Lib.hid (show Al.own (Al.srtM s.lst) nd = Al.ofN s.lst nd from rfl)
  obtain ⟨kl, hkl⟩ := key_str nd hnd
  have HTD := Lib.hid (fun (t : Al.SlM) (h2 : t.lst = Al.ofN s.lst nd) (hmt : I.n = t.n - 1) => show Al.balL (Ba.volN (N.D k)) t.D I.X tol I.n = Al.balL (Ba.volN (N.D k)) (fun j => (Al.ofN s.lst nd)[j]!) I.X tol I.n from by
    by_cases q : I.n = 0
    · rw [q]; rfl
    · refine Al.balL_congr fun j hj => ?_
      have hjt : j < t.n := by omega
      rw [← h2, getElem!_pos t.lst j (by rw [Al.SlM.lst_len]; exact hjt), Al.lst_get])
  have HVol := Lib.hid (fun lv W (hW : Gr w W) => show Calls Tryz.prog 79 #[(N.D k).val, .int .i64 (max (N.D k).iv (min (N.D k).gr lv))] W fun e w' => e = .returned (.tuple #[.int .i64 (Ba.volN (N.D k) lv), .int .i64 0]) ∧ Gr W w' from
    sVolume_any (N.D k) (Ba.cutL (N.D k) lv) W (hno.gr hW) hrn hk (Ba.cutL_bd (Ba.rnode_parts hrn hk).2.2.1 lv).1 (Ba.cutL_bd (Ba.rnode_parts hrn hk).2.2.1 lv).2)
  have HVb := Lib.hid (fun lv => Ba.volN_bd hrn hk lv)
  have HLB := Lib.hid (fun (T : Nat → Al.M) (n : Nat) => Al.balL_len (Ba.volN (N.D k)) T I.X tol n)
  have HLS := Lib.hid (fun (T : Nat → Al.M) (j : Nat) => show Al.balL (Ba.volN (N.D k)) T I.X tol (j + 1) = Al.balL (Ba.volN (N.D k)) T I.X tol j ++ Al.jumpIf tol (Ba.volN (N.D k) (T (j + 1)).lv - Ba.volN (N.D k) (T j).lv - I.X j) (Al.alm 5 [T j, T (j + 1)]) from rfl)
  generalize Al.balL (Ba.volN (N.D k)) (fun j => (Al.ofN s.lst nd)[j]!) I.X tol I.n = RES at *
  have HL0 := Lib.hid (fun (T : Nat → Al.M) => show Al.balL (Ba.volN (N.D k)) T I.X tol 0 = [] from rfl)
  obtain ⟨BL, hBL⟩ : ∃ BL, Al.balL (Ba.volN (N.D k)) = BL := ⟨_, rfl⟩
  simp only [hBL] at HTD HLB HLS HL0
  clear hBL
  generalize Ba.volN (N.D k) = VF at *
  have HAl := Lib.hid (fun (W W' : World) (m k : Al.M) (hm : m.Ok) (hk : k.Ok) (he : W'.heap = (W.alloc (.cells #[.string m.nd, .int .i64 m.nu, .int .i64 m.tm, .int .i64 m.ar, .int .i64 m.lv, .string k.nd, .int .i64 k.nu, .int .i64 k.tm, .int .i64 k.ar, .int .i64 k.lv] 57)).heap) => show Calls Tryz.prog 80 #[.int .i64 5, .slice (some ⟨W.heap.size, 0, none⟩) 2 2] W' fun e w' => ∃ a : Al.A, e = .returned (.agg a.enc.toArray) ∧ a.con = Al.alm 5 [m, k] ∧ a.Own w' ∧ Gr W' w' from by
    have z := alarm_any 5 (Al.SlM.two W.heap.size m k) W' (Al.SlM.two_at (by rw [he]; exact World.alloc_heap_new W _) hm hk) (show 0 < 2 by decide) (show 2 ≤ 1000000 by decide)
    rw [Al.SlM.two_lst] at z
    exact z)
  have HOrd := Lib.hid (fun v d W base h1 h2 => ordered_own v d W base h1 h2)
  obtain ⟨i1, k0, k1, k2, k3⟩ := info_parts infoA
  have KI := Lib.hid k0; have KZ0 := Lib.hid k1; have KZ1 := Lib.hid k2; have KZ2 := Lib.hid k3
  clear k0 k1 k2 k3
  obtain ⟨i2, k0, k1, k2, k3⟩ := info_parts infoI
  have JI := Lib.hid k0; have JZ0 := Lib.hid k1; have JZ1 := Lib.hid k2; have JZ2 := Lib.hid k3
  clear k0 k1 k2 k3
  have HRb := Lib.hid (show ∀ i, i < I.n → -1125899906842624 ≤ I.X i ∧ I.X i ≤ 1125899906842624 from fun i hi => by
    have z : ¬ (!Ba.bet (I.X i) (-1125899906842624) 1125899906842624) = true := fun c => by
      rw [(Ba.any_iff _ _).2 ⟨i, hi, c⟩] at hr; cases hr
    unfold Ba.bet at z
    simpa using z)
  have htb : 0 ≤ tol ∧ tol ≤ 1125899906842624 := by unfold Ba.bet at ht; simpa using ht
  obtain ⟨D, hD⟩ : ∃ D, N.D k = D := ⟨_, rfl⟩
  rw [hD] at n0 n1 n2 n3 n4 n5 n6 n7 n8
  rw [hD] at hk HVol; unfold Ba.Node.val at HVol
  clear hD
  generalize D.sh.A = sha at *; generalize D.sh.n = shn at *; generalize D.sh.c = shc at *
  cases D with | mk nm kd ax ay iv gr sh pr rs =>
  simp only [] at *
  have hic := hI.hc; have hib := hI.hb
  have HQ := Lib.hid (fun W (hW : Gr w W) => balh_any I W (hI.gr hW))
  rw [hr] at HQ
  have HIA := Lib.hid hI.hA; have HIX := Lib.hid (fun i hi => (hI.hX i hi).1)
  have HWt := Lib.hid (fun W => awithin_any tol 0 1125899906842624 W)
  rw [ht] at HWt
  clear hN hL hI hv hnd hnb hx hno hrn hvl hr ht
  have HM := Lib.hid hm
  clear hm
  unfold Ba.netVal at *
  cases N with | mk nA nn nc nb no nD =>
  cases L with | mk lA ln lc lb lo lD =>
  simp only [] at *
  subst hNA
  have t0 : (kd == 3) = false := beq_eq_false_iff_ne.2 hk
  clear hk
  cases I with | mk iA m ic ib io IX =>
  simp only [] at *
  go_enter Tryz.func41, Tryz.ntmps41
  go_wp2_with fail
  refine (HR.out _ gr_auto).mono ?_
  rintro e w1 ⟨rfl, hb⟩
  have g : Gr w w1 := gr_auto
  have q0 := Gr.at (show Gr _ w1 from hb) (show World.cell? _ ⟨w.heap.size, 0, none⟩ = some (.slice (some ⟨nb, no, none⟩) nn nc) from by simp [go_sem])
  have q1 := Gr.at (show Gr _ w1 from hb) (show World.cell? _ ⟨w.heap.size, 1, none⟩ = some (.slice lA ln lc) from by simp [go_sem])
  clear hb HR
  go_wp2_with fail
  refine (HNo.out _ g).mono ?_
  rintro e w2 ⟨rfl, hb⟩
  replace q0 := Gr.at hb q0
  replace q1 := Gr.at hb q1
  replace g := g.trans hb
  clear hb HNo
  have ik0 : (0 : Int) ≤ (k : Int) := by omega
  have ik1 : (k : Int) < (nn : Int) := by omega
  have p0 := Gr.at g n0; have p1 := Gr.at g n1; have p2 := Gr.at g n2; have p3 := Gr.at g n3; have p4 := Gr.at g n4; have p5 := Gr.at g n5; have p6 := Gr.at g n6; have p7 := Gr.at g n7; have p8 := Gr.at g n8
  clear n0 n1 n2 n3 n4 n5 n6 n7 n8
  have bl0 := World.block_lt_of_cell? _ _ q0; have bl1 := World.block_lt_of_cell? _ _ p0
  simp only [] at bl0 bl1
  go_upto_region 7 with fail
  refine name_world ?_
  intro W3 hW3
  have g3 : Gr w2 W3 := by rw [hW3]; exact gr_auto
  have x0 : W3.cell? ⟨w2.heap.size, 0, none⟩ = some (.string nm) := by rw [hW3]; simp [go_sem]
  have x1 : W3.cell? ⟨w2.heap.size, 1, none⟩ = some (.int .i64 kd) := by rw [hW3]; simp [go_sem]
  have x2 : W3.cell? ⟨w2.heap.size, 2, none⟩ = some (.int .i64 ax) := by rw [hW3]; simp [go_sem]
  have x3 : W3.cell? ⟨w2.heap.size, 3, none⟩ = some (.int .i64 ay) := by rw [hW3]; simp [go_sem]
  have x4 : W3.cell? ⟨w2.heap.size, 4, none⟩ = some (.int .i64 iv) := by rw [hW3]; simp [go_sem]
  have x5 : W3.cell? ⟨w2.heap.size, 5, none⟩ = some (.int .i64 gr) := by rw [hW3]; simp [go_sem]
  have x6 : W3.cell? ⟨w2.heap.size, 6, none⟩ = some (.slice sha shn shc) := by rw [hW3]; simp [go_sem]
  have x7 : W3.cell? ⟨w2.heap.size, 7, none⟩ = some (.bool pr) := by rw [hW3]; simp [go_sem]
  have x8 : W3.cell? ⟨w2.heap.size, 8, none⟩ = some (.int .i64 rs) := by rw [hW3]; simp [go_sem]
  obtain ⟨BX, hBX⟩ : ∃ BX, BX = w2.heap.size := ⟨_, rfl⟩
  rw [← hBX] at x0 x1 x2 x3 x4 x5 x6 x7 x8
  try rw [← hBX]
  replace g := g.trans g3
  clear hW3 hBX g3 p0 p1 p2 p3 p4 p5 p6 p7 p8 q0 q1 bl0 bl1
  go_wp2_with fail
  refine (HB.out _ g).mono ?_
  rintro e w4 ⟨MB, nE, f, rfl, hmap, hrows, hMB, hb⟩
  replace x0 := Gr.at hb x0
  replace x1 := Gr.at hb x1
  replace x2 := Gr.at hb x2
  replace x3 := Gr.at hb x3
  replace x4 := Gr.at hb x4
  replace x5 := Gr.at hb x5
  replace x6 := Gr.at hb x6
  replace x7 := Gr.at hb x7
  replace x8 := Gr.at hb x8
  have hlk := hmap.look false keyed_str Tryz.underlying102 (zero_msgs w4) hkl
  simp only [Bool.false_eq_true, if_false] at hlk
  have hro := hrows.2 nd
  rw [HL2.out] at hro
  obtain ⟨t, hv4, ht1, ht2, -, -⟩ := Al.ownM_sl hro (fun m hm => HOk.out m hm)
  rw [hv4] at hlk
  have HT1 := Lib.hid ht1; have HT2 := Lib.hid ht2
  have htn : t.n ≤ 10000 := by rw [← Al.SlM.lst_len, ht2]; exact hTl
  have htl : t.n = (Al.ofN s.lst nd).length := by rw [← ht2, Al.SlM.lst_len]
  replace g := g.trans hb
  have hbx := World.block_lt_of_cell? _ _ x0
  simp only [] at hbx
  clear hb hmap hrows hro hv4 ht1 ht2 HB hkl HL2 HOk
  have hmt : m = t.n - 1 := by rw [htl]; exact HM.out
  have e0 : IntKind.i64.wrap ((t.n : Int) - 1) = (t.n : Int) - 1 := wrap_in _ (by omega)
  have e1 : ((m : Int) != max 0 ((t.n : Int) - 1)) = false := bne_eq_false_iff_eq.2 (by omega)
  have HTE := Lib.hid (HTD.out t HT2.out hmt)
  have HOkT := Lib.hid (fun j (hj : j < t.n) => (HT1.out.hD j hj).2)
  clear htl HM hTl HTD HT2
  generalize s.A = sA at *; generalize s.n = sn at *; generalize s.c = sc at *
  clear h
  have HTA := Lib.hid HT1.out.hA; have HTC := Lib.hid (fun j (hj : j < t.n) => (HT1.out.hD j hj).1)
  have htc := HT1.out.hc; have htcb := HT1.out.hb
  clear HT1
  cases t with | mk tA tn tc tb to' tD =>
  simp only [] at *
  have HMT := Lib.hid hmt
  clear hmt
  go_wp2_with fail
  refine (HQ.out _ g).mono ?_
  rintro e w5 ⟨rfl, hb⟩
  replace x0 := Gr.at hb x0
  replace x1 := Gr.at hb x1
  replace x2 := Gr.at hb x2
  replace x3 := Gr.at hb x3
  replace x4 := Gr.at hb x4
  replace x5 := Gr.at hb x5
  replace x6 := Gr.at hb x6
  replace x7 := Gr.at hb x7
  replace x8 := Gr.at hb x8
  have HTC5 := Lib.hid (fun j (hj : j < tn) => (HTC.out j hj).gr hb)
  replace g := g.trans hb
  clear hb HQ HTC hbx
  go_wp2_with fail
  refine (HWt.out _).mono ?_
  rintro e w6 ⟨rfl, rfl⟩
  clear HWt
  go_wp2_with fail
  refine name_world ?_
  intro W5 hW5
  have g5 : Gr w5 W5 := by rw [hW5]; exact gr_auto
  replace x0 := Gr.at g5 x0
  replace x1 := Gr.at g5 x1
  replace x2 := Gr.at g5 x2
  replace x3 := Gr.at g5 x3
  replace x4 := Gr.at g5 x4
  replace x5 := Gr.at g5 x5
  replace x6 := Gr.at g5 x6
  replace x7 := Gr.at g5 x7
  replace x8 := Gr.at g5 x8
  replace g := g.trans g5
  have HTC6 := Lib.hid (fun j (hj : j < tn) => (HTC5.out j hj).gr g5)
  have hbx : BX < W5.heap.size := World.block_lt_of_cell? _ _ x0
  clear hW5 g5 HTC5 e1 e0
  go_loopw [16, 69] (fun v y wr => ∃ i : Nat, i ≤ tn ∧ y = .int .i64 (i : Int) ∧ Hid (wr.ownsRow W5.heap.size 3 1 v i ((List.range i).map fun j => .int .i64 (VF (tD j).lv))) ∧ Gr W5 wr) (fun _ y _ => tn - (intOf y).toNat)
  case atStart => exact ⟨0, Nat.zero_le _, rfl, Lib.hid (World.ownsRow_nil _ _ _ _), Gr.refl _⟩
  case round =>
    obtain ⟨i, hi, rfl, HO, hg2⟩ := hrel
    have gw := g.trans hg2
    by_cases hlt : i < tn
    · have htA := HTA.out (by omega)
      subst htA
      obtain ⟨a0, a1, a2, a3, a4⟩ := (HTC6.out i hlt).gr hg2
      have ib0 : (0 : Int) ≤ (i : Int) := by omega
      have ib1 : (i : Int) < (tn : Int) := by omega
      replace x0 := Gr.at hg2 x0
      replace x1 := Gr.at hg2 x1
      replace x2 := Gr.at hg2 x2
      replace x3 := Gr.at hg2 x3
      replace x4 := Gr.at hg2 x4
      replace x5 := Gr.at hg2 x5
      replace x6 := Gr.at hg2 x6
      replace x7 := Gr.at hg2 x7
      replace x8 := Gr.at hg2 x8
      have bN : tb < wr.heap.size := World.block_lt_of_cell? _ _ a0
      have hbx2 : BX < wr.heap.size := World.block_lt_of_cell? _ _ x0
      have HVi := Lib.hid (fun W (hW : Gr wr W) => HVol.out (tD i).lv W (gw.trans hW))
      have HN := Lib.hid (show (List.range (i + 1)).map (fun j => (.int .i64 (VF (tD j).lv) : Value)) = (List.range i).map (fun j => .int .i64 (VF (tD j).lv)) ++ [.int .i64 (VF (tD i).lv)] from by rw [List.range_succ, List.map_append]; rfl)
      have hz := Gr.size hg2
      clear HTC6 HTA HVol HVb HLB HLS HL0 HAl HOrd HRb HIA HIX HTE HOkT HMT KI KZ0 KZ1 KZ2
      obtain ⟨mv, hmv⟩ : ∃ mv, tD i = mv := ⟨_, rfl⟩
      rw [hmv] at a0 a1 a2 a3 a4 HVi HN
      clear hmv
      obtain ⟨vv, hvv⟩ : ∃ vv, VF mv.lv = vv := ⟨_, rfl⟩
      rw [hvv] at HVi HN
      clear hvv
      go_wp2_with fail
      refine (HVi.out _ gr_auto).mono ?_
      rintro e w7 ⟨rfl, hb⟩
      have g7 : Gr wr w7 := gr_auto
      have hz7 := Gr.size g7
      clear hb HVi
      go_wp2_with (at_builtin; refine wpList_append_own _ rfl _ _ 33 rfl W5.heap.size 3 i2 (.int .i64 0) 1 8 Tryz.underlying33 JI.out JZ0.out JZ1.out JZ2.out rfl (by decide) _ _ _ rfl (ownsRow_gr HO.out (g7.trans (by exact gr_auto))) ⟨w7.heap.size, 0, none⟩ 1 1 [.int .i64 vv] rfl rfl (by intro p u hp; rcases p with _ | p <;> simp at hp <;> (try subst hp) <;> first | (simp [Addr.add, go_sem]; done) | (simp [Addr.add]; done)) (by intro u hu; simp at hu; rcases hu with rfl; rfl) (by unfold maxLen; omega) (by omega) (by simp; omega) ?_)
      intro v' w9 hown' hgrow hnil
      have HP := Lib.hid (show w9.ownsRow W5.heap.size 3 1 v' (i + 1) ((List.range (i + 1)).map fun j => .int .i64 (VF (tD j).lv)) from by rw [HN.out]; exact hown')
      have g9 : Gr W5 w9 := Gr.own ((hg2.trans g7).alloc (Obj.cells #[.int .i64 vv] 3)) (Nat.le_refl _) (ownsRow_gr HO.out (g7.trans (Gr.alloc (Gr.refl w7) _))) hgrow
      clear HO hown' hgrow hnil HN
      go_wp2_with fail
      go_roundw
      case rel => exact ⟨i + 1, by omega, by go_num, HP, g9⟩
      case measure => simp [intOf]; omega
    · obtain rfl : tn = i := by omega
      have HTC7 := Lib.hid (fun j (hj : j < tn) => (HTC6.out j hj).gr hg2)
      obtain ⟨Av, cv, bv, rfl, hAv, hnv, hcv, hxv⟩ := ownsRow_at HO.out
      have HXV := Lib.hid (show ∀ j, j < tn → wr.cell? ⟨bv, j, none⟩ = some (.int .i64 (VF (tD j).lv)) from fun j hj => by rw [hxv j hj]; simp [hj])
      have HVA := Lib.hid hAv
      clear hxv hAv HO HTC6 HVol x0 x1 x2 x3 x4 x5 x6 x7 x8 hbx hlt hg2
      go_wp2_with fail
      refine name_world ?_
      intro W6 hW6
      obtain rfl : W6 = wr := hW6
      go_loopw [21, 96] (fun v y wx => ∃ (j : Nat) (d : List Al.A), j ≤ m ∧ y = .int .i64 (j : Int) ∧ Hid (Al.OwnA wx W6.heap.size v d) ∧ Hid (d.map Al.A.con = BL tD IX tol j) ∧ Gr W6 wx) (fun _ y _ => m - (intOf y).toNat)
      case atStart => exact ⟨0, [], Nat.zero_le _, rfl, Lib.hid (Al.OwnA.nil _ _), Lib.hid (HL0.out tD).symm, Gr.refl _⟩
      case round =>
        obtain ⟨j, d, hj, rfl, HO, HC, hg3⟩ := hrel
        have gx := gw.trans hg3
        rename World => wx
        have hdl : d.length ≤ 10000 := by
          have z := congrArg List.length HC.out
          rw [List.length_map] at z
          have y := HLB.out tD j
          have y2 := HMT.out
          omega
        by_cases hlt : j < m
        · have hjt : j + 1 < tn := by have := HMT.out; omega
          have hiA := HIA.out (by omega)
          have htA := HTA.out (by omega)
          have hvA := HVA.out (by omega)
          subst hiA; subst htA; subst hvA
          have c0 := Gr.at gx (HIX.out j hlt)
          have v0 := Gr.at hg3 (HXV.out j (by omega))
          have v1 := Gr.at hg3 (HXV.out (j + 1) hjt)
          obtain ⟨a0, a1, a2, a3, a4⟩ := (HTC7.out j (by omega)).gr hg3
          obtain ⟨b0, b1, b2, b3, b4⟩ := (HTC7.out (j + 1) hjt).gr hg3
          have hmo1 := HOkT.out j (by omega); have hmo2 := HOkT.out (j + 1) hjt
          have hI1 := HRb.out j hlt
          have HLj := Lib.hid (HLS.out tD j)
          have hb1 := HVb.out (tD j).lv; have hb2 := HVb.out (tD (j + 1)).lv
          clear HLS HLB HL0 HVb HXV HTC7 HOkT HRb HIA HIX HTA HVA HTE HMT HOrd JI JZ0 JZ1 JZ2
          obtain ⟨m1, hm1⟩ : ∃ m1, tD j = m1 := ⟨_, rfl⟩
          obtain ⟨m2, hm2⟩ : ∃ m2, tD (j + 1) = m2 := ⟨_, rfl⟩
          obtain ⟨xj, hxj⟩ : ∃ xj, IX j = xj := ⟨_, rfl⟩
          rw [hm1] at v0 a0 a1 a2 a3 a4 hmo1 HLj hb1
          rw [hm2] at v1 b0 b1 b2 b3 b4 hmo2 HLj hb2
          rw [hxj] at c0 hI1 HLj
          clear hm1 hm2 hxj
          have HALL := Lib.hid (fun (W W' : World) he => HAl.out W W' m1 m2 hmo1 hmo2 he)
          clear hmo1 hmo2 HAl
          obtain ⟨y1, hy1⟩ : ∃ y1, VF m1.lv = y1 := ⟨_, rfl⟩
          obtain ⟨y2, hy2⟩ : ∃ y2, VF m2.lv = y2 := ⟨_, rfl⟩
          rw [hy1] at v0 HLj hb1
          rw [hy2] at v1 HLj hb2
          clear hy1 hy2
          have ib0 : (0 : Int) ≤ (j : Int) := by omega
          have ib1 : (j : Int) < (m : Int) := by omega
          have ib2 : (0 : Int) ≤ (j : Int) + 1 := by omega
          have ib3 : (j : Int) + 1 < (tn : Int) := by omega
          have ib4 : (j : Int) < (tn : Int) := by omega
          have wj : IntKind.i64.wrap (j : Int) = (j : Int) := wrap_in _ (by omega)
          have wj1 : IntKind.i64.wrap ((j : Int) + 1) = (j : Int) + 1 := wrap_in _ (by omega)
          have wd1 : IntKind.i64.wrap (y2 - y1) = y2 - y1 := wrap_in _ (by omega)
          have wd2 : IntKind.i64.wrap (y2 - y1 - xj) = y2 - y1 - xj := wrap_in _ (by omega)
          have wd3 : IntKind.i64.wrap (-(y2 - y1 - xj)) = -(y2 - y1 - xj) := wrap_in _ (by omega)
          have hb6 := Gr.size hg3
          go_upto_region 27 with fail
          (first | refine name_world ?_ | refine (show (∀ W, W = _ → Calls _ _ _ W _) → Calls _ _ _ _ _ from fun h => h _ rfl) ?_); intro W7 hW7
          have g7 : Gr w W7 := by rw [hW7]; exact gr_auto
          have gb7_W6 : Gr W6 W7 := by (try clear g7); rw [hW7]; exact gr_auto
          have gb7_wx : Gr wx W7 := by (try clear g7); rw [hW7]; exact gr_auto
          have k7_0 : W7.cell? ⟨bv, j + 1, none⟩ = some (.int .i64 y2) := by rw [hW7]; first | (simp [go_sem, *]; done) | (refine Gr.at ?_ (by assumption); exact gr_auto)
          have b7_0 : bv < W7.heap.size := World.block_lt_of_cell? _ _ k7_0
          have k7_1 : W7.cell? ⟨bv, j, none⟩ = some (.int .i64 y1) := by rw [hW7]; first | (simp [go_sem, *]; done) | (refine Gr.at ?_ (by assumption); exact gr_auto)
          clear hW7
          have s7_0 : ∀ gw : GW W7, gw.1.cell? ⟨bv, j + 1, none⟩ = some (.int .i64 y2) := fun gw => Gr.at gw.2 k7_0
          have s7_1 : ∀ gw : GW W7, gw.1.cell? ⟨bv, j, none⟩ = some (.int .i64 y1) := fun gw => Gr.at gw.2 k7_1
          have hnn := Nat.le_refl 0
          refine wp_region_gr (by kernel_rfl) (by kernel_rfl) ?_
          repeat (go_big_quiet_step (skip))
          refine wpQuiet_nil ?_
          intro w8 hb8
          clear s7_0 s7_1
          have g8 : Gr w w8 := g7.trans hb8
          have k7_0 := Gr.at hb8 k7_0
          have k7_1 := Gr.at hb8 k7_1
          have g8x : Gr wx w8 := gb7_wx.trans hb8
          replace a0 := Gr.at g8x a0; replace a1 := Gr.at g8x a1; replace a2 := Gr.at g8x a2; replace a3 := Gr.at g8x a3; replace a4 := Gr.at g8x a4
          replace b0 := Gr.at g8x b0; replace b1 := Gr.at g8x b1; replace b2 := Gr.at g8x b2; replace b3 := Gr.at g8x b3; replace b4 := Gr.at g8x b4
          clear k7_0 k7_1 v0 v1 c0
          by_cases q : tol < max (y2 - y1 - xj) (-(y2 - y1 - xj))
          · unfold Al.jumpIf at HLj
            rw [if_pos q] at HLj
            go_upto_region 29 with fail
            refine name_world ?_
            intro WK hWK
            have gK : Gr wx WK := by rw [hWK]; exact Gr.trans g8x gr_auto
            have gK8 : Gr w8 WK := by rw [hWK]; exact gr_auto
            clear hWK q
            replace a0 := Gr.at gK8 a0; replace a1 := Gr.at gK8 a1; replace a2 := Gr.at gK8 a2; replace a3 := Gr.at gK8 a3; replace a4 := Gr.at gK8 a4
            replace b0 := Gr.at gK8 b0; replace b1 := Gr.at gK8 b1; replace b2 := Gr.at gK8 b2; replace b3 := Gr.at gK8 b3; replace b4 := Gr.at gK8 b4
            have HG := Lib.hid (hg3.trans gK)
            have HOK := Lib.hid (HO.out.gr gK)
            have hz1 := Gr.size (hg3.trans gK)
            clear HO gK gK8 g8x
            go_region_law (first
              | (go_simp; go_at_call 80; refine (HALL.out WK _ (by rfl)).mono ?_; rintro e w7 ⟨a, rfl, hcon, hown, hb7⟩; have g7 : Gr WK w7 := Gr.trans (show Gr WK _ from by exact gr_auto) hb7; have hz7 := Gr.size g7; unfold Al.A.enc; obtain ⟨akd, hakd⟩ : ∃ z, a.kd = z := ⟨_, rfl⟩; obtain ⟨and_, hand⟩ : ∃ z, a.nd = z := ⟨_, rfl⟩; obtain ⟨atm, hatm⟩ : ∃ z, a.tm = z := ⟨_, rfl⟩; obtain ⟨asl, hasl⟩ : ∃ z, Value.slice a.p a.n a.c = z := ⟨_, rfl⟩; have HE := Lib.hid (show a.enc = [.int .i64 akd, .string and_, .int .i64 atm, asl] from by unfold Al.A.enc; rw [hakd, hand, hatm, hasl]); rw [hakd, hand, hatm, hasl]; have HSL := Lib.hid (show asl.oneCell' = true from by rw [← hasl]; rfl); clear hakd hand hatm hasl; have HC7 := Lib.hid hcon; have HA7 := Lib.hid hown; clear hcon hown hb7)
              | (refine step_append_lies _ (by rfl) _ _ 29 (by rfl) W6.heap.size 35 i1 (.agg #[.int .i64 0, .string ⟨#[]⟩, .int .i64 0, .slice none 0 0]) 4 56 Tryz.underlying29 KI.out KZ0.out KZ1.out KZ2.out rfl (by decide) _ _ _ (by rfl) (ownsRow_gr HOK.out.row (by exact Gr.trans g7 gr_auto)) ⟨w7.heap.size, 0, none⟩ 1 1 [.int .i64 akd, .string and_, .int .i64 atm, asl] (by rfl) rfl (cells_new w7 #[.int .i64 akd, .string and_, .int .i64 atm, asl] 35) (by intro u hu; simp at hu; rcases hu with rfl | rfl | rfl | rfl <;> first | rfl | exact HSL.out) (by decide) (by unfold maxLen; omega) (by omega) (by first | (simp; omega) | omega) _ rfl ?_; intro g9 cp9 w9 hown9 hgrow9 hat9 hlt9))
            all_goals (
              have hg9 : (w7.alloc (Obj.cells #[.int .i64 akd, .string and_, .int .i64 atm, asl] 35)).grownBy w9 _ := hgrow9
              have HP := Lib.hid (Al.OwnA.push ((HOK.out.gr g7).gr (Gr.alloc (Gr.refl w7) _)) (HA7.out.gr (Gr.alloc (Gr.refl w7) _)) (by rw [HE.out]; exact hown9) hg9)
              have gw9 : Gr W6 w9 := Gr.own ((HG.out.trans g7).alloc _) (Nat.le_refl _) (ownsRow_gr HOK.out.row (g7.alloc _)) hg9
              have HT9 := Lib.hid (show (d ++ [a]).map Al.A.con = BL tD IX tol (j + 1) from by
                rw [HLj.out, ← HC.out, List.map_append, List.map_cons, List.map_nil, HC7.out])
              clear HOK HA7 HC7 HE HSL hown9 hgrow9 hat9 hlt9 hg9 HG HALL
              go_wp2_with fail
              go_roundw
              case rel => exact ⟨j + 1, _, by omega, by go_num, HP, HT9, gw9⟩
              case measure => simp [intOf]; omega)
          · unfold Al.jumpIf at HLj
            rw [if_neg q, List.append_nil] at HLj
            have q' : max (y2 - y1 - xj) (-(y2 - y1 - xj)) ≤ tol := by omega
            have HT9 := Lib.hid (show d.map Al.A.con = BL tD IX tol (j + 1) from by rw [HLj.out, ← HC.out])
            have HP := Lib.hid (fun W (hW : Gr wx W) => HO.out.gr hW)
            have HGx := Lib.hid (fun W (hW : Gr wx W) => hg3.trans hW)
            clear HO HC q
            go_wp2_with fail
            go_roundw
            case rel => exact ⟨j + 1, d, by omega, by go_num, Lib.hid (HP.out _ (g8x.trans (by exact gr_auto))), HT9, HGx.out _ (g8x.trans (by exact gr_auto))⟩
            case measure => simp [intOf]; omega
        · obtain rfl : m = j := by omega
          have HRo := Lib.hid (HOrd.out _ d wx W6.heap.size HO.out (by omega))
          have HCd := Lib.hid (show d.map Al.A.con = RES from by rw [HC.out]; exact HTE.out)
          clear HLS HLB HL0 HVb HXV HTC7 HOkT HRb HIA HIX HTA HVA HTE HMT HOrd HAl HC HO
          go_wp2_with fail
          refine HRo.out.mono ?_
          rintro e w10 ⟨r, rfl, hr1, hr2, hr3⟩
          have HR1 := Lib.hid hr1
          have HR2 := Lib.hid (show r.con = Al.srt RES from by rw [hr2, HCd.out])
          have g10 : Gr W6 w10 := hr3 W6 hg3 (Nat.le_refl _)
          have gz := gw.trans g10
          clear hr1 hr2 hr3 HRo HCd g10
          unfold Al.SlA.val
          go_wp2_with fail
          go_ret2
          exact ⟨r, rfl, HR1.out, HR2.out, gz⟩
end Go.Proofs.YtllkiadedaghoaaGreat
