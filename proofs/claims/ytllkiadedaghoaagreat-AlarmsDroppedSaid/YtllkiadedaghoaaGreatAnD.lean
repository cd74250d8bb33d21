/-
  Alarms: the law AlarmsDropped. (Printed by mkand.py.)
-/
import Derived.Test.YtllkiadedaghoaaGreatAnB
import Derived.Test.YtllkiadedaghoaaGreatCm45
set_option linter.unusedVariables false
set_option linter.unusedSimpArgs false
namespace Go.Proofs.YtllkiadedaghoaaGreat
open Go.RowKit Go.Shelf Go.Sort
attribute [local go_sem ↓] Go.wp_at_zero Go.wp_at_succ

set_option maxRecDepth 100000 in
set_option maxHeartbeats 4000000 in
theorem dropped_few (N : Ba.SlNode) (L : Ba.SlLink) (s : Al.SlM) (jp sm tl k : Int) (w : World) (hN : N.At w) (hL : L.At w) (h : s.At w) (hk8 : 0 ≤ k ∧ k ≤ 255) (hf : Al.fewB N.n L.n s.n (Al.lngB s) = false) : Calls Tryz.prog 6 #[Ba.netVal N L, .slice s.A s.n s.c, .agg #[.int .i64 jp, .int .i64 sm, .int .i64 tl], .int .u8 k] w fun e w' => e = .returned (.bool true) ∧ Gr w w' := by
  have HAw := Lib.hid (fun W => awake_any W)
  have HFe := Lib.hid (fun W (hW : Gr w W) => few_any N L s W (hN.gr hW) (hL.gr hW) (h.gr hW))
  rw [hf] at HFe
  clear hN hL h hf
  unfold Ba.netVal at *
  generalize N.A = nA at *; generalize N.n = nn at *; generalize N.c = nc at *; generalize L.A = lA at *; generalize L.n = ln at *; generalize L.c = lc at *
  generalize s.A = sA at *; generalize s.n = sn at *; generalize s.c = sc at *
  go_enter Tryz.func6, Tryz.ntmps6
  go_wp2_with fail
  refine (HAw.out _).mono ?_
  rintro e w1 ⟨rfl, hb⟩
  have g : Gr w w1 := gr_auto
  have q0 := Gr.at (show Gr _ w1 from hb) (show World.cell? _ ⟨w.heap.size, 0, none⟩ = some (.slice nA nn nc) from by simp [go_sem])
  have q1 := Gr.at (show Gr _ w1 from hb) (show World.cell? _ ⟨w.heap.size, 1, none⟩ = some (.slice lA ln lc) from by simp [go_sem])
  have q2 := Gr.at (show Gr _ w1 from hb) (show World.cell? _ ⟨w.heap.size + 1, 0, none⟩ = some (.int .i64 jp) from by simp [go_sem])
  have q3 := Gr.at (show Gr _ w1 from hb) (show World.cell? _ ⟨w.heap.size + 1, 1, none⟩ = some (.int .i64 sm) from by simp [go_sem])
  have q4 := Gr.at (show Gr _ w1 from hb) (show World.cell? _ ⟨w.heap.size + 1, 2, none⟩ = some (.int .i64 tl) from by simp [go_sem])
  clear hb HAw
  go_wp2_with fail
  refine (HFe.out _ g).mono ?_
  rintro e w2 ⟨rfl, hb⟩
  replace q0 := Gr.at hb q0
  replace q1 := Gr.at hb q1
  replace q2 := Gr.at hb q2
  replace q3 := Gr.at hb q3
  replace q4 := Gr.at hb q4
  replace g := g.trans hb
  clear hb
  go_wp2_with fail
  go_ret
  exact ⟨rfl, g⟩

set_option maxRecDepth 100000 in
set_option maxHeartbeats 4000000 in
theorem dropped_no (N : Ba.SlNode) (L : Ba.SlLink) (s : Al.SlM) (jp sm tl k : Int) (w : World) (hN : N.At w) (hL : L.At w) (h : s.At w) (hk8 : 0 ≤ k ∧ k ≤ 255) (hf : Al.fewB N.n L.n s.n (Al.lngB s) = true) (k1 : Int) (hk : Al.gvE (Ba.netB N L && s.vB) (Al.lmO jp sm tl) = k1) (hk0 : k1 ≠ 0) : Calls Tryz.prog 6 #[Ba.netVal N L, .slice s.A s.n s.c, .agg #[.int .i64 jp, .int .i64 sm, .int .i64 tl], .int .u8 k] w fun e w' => e = .returned (.bool true) ∧ Gr w w' := by
  have HAw := Lib.hid (fun W => awake_any W)
  have HFe := Lib.hid (fun W (hW : Gr w W) => few_any N L s W (hN.gr hW) (hL.gr hW) (h.gr hW))
  rw [hf] at HFe
  have HAl := Lib.hid (fun W (hW : Gr w W) => All_no N L s jp sm tl W (hN.gr hW) (hL.gr hW) (h.gr hW) k1 hk hk0)
  have t0 : (k1 != 0) = true := bne_iff_ne.2 hk0
  clear hk hk0
  clear hN hL h hf
  unfold Ba.netVal at *
  generalize N.A = nA at *; generalize N.n = nn at *; generalize N.c = nc at *; generalize L.A = lA at *; generalize L.n = ln at *; generalize L.c = lc at *
  generalize s.A = sA at *; generalize s.n = sn at *; generalize s.c = sc at *
  go_enter Tryz.func6, Tryz.ntmps6
  go_wp2_with fail
  refine (HAw.out _).mono ?_
  rintro e w1 ⟨rfl, hb⟩
  have g : Gr w w1 := gr_auto
  have q0 := Gr.at (show Gr _ w1 from hb) (show World.cell? _ ⟨w.heap.size, 0, none⟩ = some (.slice nA nn nc) from by simp [go_sem])
  have q1 := Gr.at (show Gr _ w1 from hb) (show World.cell? _ ⟨w.heap.size, 1, none⟩ = some (.slice lA ln lc) from by simp [go_sem])
  have q2 := Gr.at (show Gr _ w1 from hb) (show World.cell? _ ⟨w.heap.size + 1, 0, none⟩ = some (.int .i64 jp) from by simp [go_sem])
  have q3 := Gr.at (show Gr _ w1 from hb) (show World.cell? _ ⟨w.heap.size + 1, 1, none⟩ = some (.int .i64 sm) from by simp [go_sem])
  have q4 := Gr.at (show Gr _ w1 from hb) (show World.cell? _ ⟨w.heap.size + 1, 2, none⟩ = some (.int .i64 tl) from by simp [go_sem])
  clear hb HAw
  go_wp2_with fail
  refine (HFe.out _ g).mono ?_
  rintro e w2 ⟨rfl, hb⟩
  replace q0 := Gr.at hb q0
  replace q1 := Gr.at hb q1
  replace q2 := Gr.at hb q2
  replace q3 := Gr.at hb q3
  replace q4 := Gr.at hb q4
  replace g := g.trans hb
  clear hb
  go_wp2_with fail
  refine (HAl.out _ g).mono ?_
  intro e w3 hR; obtain ⟨A1, c1, rfl, hb⟩ := hR.nil; clear hR
  replace q0 := Gr.at hb q0
  replace q1 := Gr.at hb q1
  replace q2 := Gr.at hb q2
  replace q3 := Gr.at hb q3
  replace q4 := Gr.at hb q4
  replace g := g.trans hb
  clear hb
  go_wp2_with fail
  go_ret
  exact ⟨rfl, g⟩

set_option maxRecDepth 100000 in
set_option maxHeartbeats 4000000 in
theorem dropped_nil (N : Ba.SlNode) (L : Ba.SlLink) (s : Al.SlM) (jp sm tl k : Int) (w : World) (hN : N.At w) (hL : L.At w) (h : s.At w) (hk8 : 0 ≤ k ∧ k ≤ 255) (hf : Al.fewB N.n L.n s.n (Al.lngB s) = true) (hk : Al.gvE (Ba.netB N L && s.vB) (Al.lmO jp sm tl) = 0) (hn : s.n = 0) : Calls Tryz.prog 6 #[Ba.netVal N L, .slice s.A s.n s.c, .agg #[.int .i64 jp, .int .i64 sm, .int .i64 tl], .int .u8 k] w fun e w' => e = .returned (.bool true) ∧ Gr w w' := by
  have HAw := Lib.hid (fun W => awake_any W)
  have HFe := Lib.hid (fun W (hW : Gr w W) => few_any N L s W (hN.gr hW) (hL.gr hW) (h.gr hW))
  rw [hf] at HFe
  have HAl := Lib.hid (fun W (hW : Gr w W) => show Calls Tryz.prog 18 #[Ba.netVal N L, .slice s.A s.n s.c, .agg #[.int .i64 jp, .int .i64 sm, .int .i64 tl]] W (Al.RetAe [] 0 W) from by
    have := All_ok N L s jp sm tl W (hN.gr hW) (hL.gr hW) (h.gr hW) hk
    have e : s.lst = [] := by unfold Al.SlM.lst; rw [hn]; rfl
    rw [e] at this
    have e2 : Al.allC N [] jp sm = [] := by unfold Al.allC Al.limC Al.jmpC Al.runC Al.nds; exact Al.srt_nil
    rw [e2] at this
    exact this)
  rw [hn] at HFe HAl
  rw [hn]
  clear hk hn
  clear hN hL h hf
  unfold Ba.netVal at *
  generalize N.A = nA at *; generalize N.n = nn at *; generalize N.c = nc at *; generalize L.A = lA at *; generalize L.n = ln at *; generalize L.c = lc at *
  generalize s.A = sA at *; generalize s.c = sc at *
  go_enter Tryz.func6, Tryz.ntmps6
  go_wp2_with fail
  refine (HAw.out _).mono ?_
  rintro e w1 ⟨rfl, hb⟩
  have g : Gr w w1 := gr_auto
  have q0 := Gr.at (show Gr _ w1 from hb) (show World.cell? _ ⟨w.heap.size, 0, none⟩ = some (.slice nA nn nc) from by simp [go_sem])
  have q1 := Gr.at (show Gr _ w1 from hb) (show World.cell? _ ⟨w.heap.size, 1, none⟩ = some (.slice lA ln lc) from by simp [go_sem])
  have q2 := Gr.at (show Gr _ w1 from hb) (show World.cell? _ ⟨w.heap.size + 1, 0, none⟩ = some (.int .i64 jp) from by simp [go_sem])
  have q3 := Gr.at (show Gr _ w1 from hb) (show World.cell? _ ⟨w.heap.size + 1, 1, none⟩ = some (.int .i64 sm) from by simp [go_sem])
  have q4 := Gr.at (show Gr _ w1 from hb) (show World.cell? _ ⟨w.heap.size + 1, 2, none⟩ = some (.int .i64 tl) from by simp [go_sem])
  clear hb HAw
  go_wp2_with fail
  refine (HFe.out _ g).mono ?_
  rintro e w2 ⟨rfl, hb⟩
  replace q0 := Gr.at hb q0
  replace q1 := Gr.at hb q1
  replace q2 := Gr.at hb q2
  replace q3 := Gr.at hb q3
  replace q4 := Gr.at hb q4
  replace g := g.trans hb
  clear hb
  go_wp2_with fail
  refine (HAl.out _ g).mono ?_
  intro e w3 hR; obtain ⟨A1, c1, rfl, hb⟩ := hR.nil; clear hR
  replace q0 := Gr.at hb q0
  replace q1 := Gr.at hb q1
  replace q2 := Gr.at hb q2
  replace q3 := Gr.at hb q3
  replace q4 := Gr.at hb q4
  replace g := g.trans hb
  clear hb
  go_wp2_with fail
  go_ret
  exact ⟨rfl, g⟩

set_option maxRecDepth 100000 in
set_option maxHeartbeats 4000000 in
theorem dropped_main (N : Ba.SlNode) (L : Ba.SlLink) (s : Al.SlM) (jp sm tl k : Int) (w : World) (hN : N.At w) (hL : L.At w) (h : s.At w) (hk8 : 0 ≤ k ∧ k ≤ 255) (hf : Al.fewB N.n L.n s.n (Al.lngB s) = true) (hk : Al.gvE (Ba.netB N L && s.vB) (Al.lmO jp sm tl) = 0) (hn0 : 0 < s.n) : Calls Tryz.prog 6 #[Ba.netVal N L, .slice s.A s.n s.c, .agg #[.int .i64 jp, .int .i64 sm, .int .i64 tl], .int .u8 k] w fun e w' => e = .returned (.bool true) ∧ Gr w w' := by
  have HAw := Lib.hid (fun W => awake_any W)
  have HFe := Lib.hid (fun W (hW : Gr w W) => few_any N L s W (hN.gr hW) (hL.gr hW) (h.gr hW))
  rw [hf] at HFe
  have hok : s.vB = true := by
    unfold Al.gvE at hk
    split at hk
    · rename_i q
      rw [Bool.and_eq_true] at q
      exact q.2
    · exact absurd hk (by decide)
  have hsn := Al.vB_len hok
  have hvl := (Al.vB_iff s).1 hok
  have HAl := Lib.hid (fun W (hW : Gr w W) => All_ok N L s jp sm tl W (hN.gr hW) (hL.gr hW) (h.gr hW) hk)
  have HCl := Lib.hid (fun (t : ByteArray) (d : Ba.SlI) W (hW : Gr w W) (hd : d.At W) (hdn : d.n = (Al.idxN s.D t s.n).length) (hdX : ∀ j (hj : j < (Al.idxN s.D t s.n).length), d.X j = ((Al.idxN s.D t s.n)[j] : Int)) => show Calls Tryz.prog 19 #[Ba.netVal N L, .slice s.A s.n s.c, .agg #[.int .i64 jp, .int .i64 sm, .int .i64 tl], .slice d.A d.n d.c] W (Al.RetAe ((Al.allC N s.lst jp sm).filter (Al.offC t)) 0 W) from by
    obtain ⟨e1, e2, e3⟩ := Al.left_off s d t hdn hdX
    have := Cleared_at N L s jp sm tl d W (hN.gr hW) (hL.gr hW) (h.gr hW) hd hk e3
    rw [e1, Al.allC_off hvl.2.2] at this
    unfold Al.RetCl at this
    rw [e2] at this
    simpa using this)
  have HCn := Lib.hid (fun W (hW : Gr w W) => show Calls Tryz.prog 19 #[Ba.netVal N L, .slice s.A s.n s.c, .agg #[.int .i64 jp, .int .i64 sm, .int .i64 tl], .slice none 0 0] W (Al.RetAe (Al.allC N s.lst jp sm) 0 W) from by
    have := Cleared_at N L s jp sm tl ⟨none, 0, 0, 0, 0, fun _ => 0⟩ W (hN.gr hW) (hL.gr hW) (h.gr hW) ⟨fun h => absurd h (Nat.lt_irrefl _), Nat.le_refl _, Nat.zero_le _, fun i hi => absurd hi (Nat.not_lt_zero _)⟩ hk rfl
    rw [Al.left_nil] at this
    unfold Al.RetCl at this
    simpa [Al.dupB] using this)
  have HSm := Lib.hid (fun r t W hr ht hc => same_yes r t W hr ht hc)
  have HA := Lib.hid h.hA; have HX := Lib.hid h.hD
  have hsc := h.hc; have hsb := h.hb
  obtain ⟨x, hx⟩ : ∃ x : Nat, k % (s.n : Int) = (x : Int) := ⟨(k % (s.n : Int)).toNat, by have := Int.emod_nonneg k (show (s.n : Int) ≠ 0 by omega); omega⟩
  have hxl : x < s.n := by have := Int.emod_lt_of_pos k (show (0 : Int) < s.n by omega); omega
  have hx2 : Int.tmod k (s.n : Int) = (x : Int) := by rw [Int.tmod_eq_emod_of_nonneg hk8.1]; exact hx
  have hne : ¬ (s.n : Int) = 0 := by omega
  have t1 : ((s.n : Int) == 0) = false := beq_eq_false_iff_ne.2 hne
  have hXl : (Al.allC N s.lst jp sm).length ≤ 30000 := by have h1 := Al.allC_len N s.lst jp sm; have h2 := hvl.1; omega
  generalize Al.allC N s.lst jp sm = X1 at *
  have HI := Lib.hid infoI
  clear hN hL h hf hk hok hvl
  unfold Ba.netVal at *
  generalize N.A = nA at *; generalize N.n = nn at *; generalize N.c = nc at *; generalize L.A = lA at *; generalize L.n = ln at *; generalize L.c = lc at *
  cases s with | mk sA sn sc sb so D =>
  simp only [] at *
  obtain ⟨i1, k0, k1, k2, k3⟩ := info_parts HI.out
  have KI := Lib.hid k0; have KZ0 := Lib.hid k1; have KZ1 := Lib.hid k2; have KZ2 := Lib.hid k3
  clear k0 k1 k2 k3 HI
  go_enter Tryz.func6, Tryz.ntmps6
  go_wp2_with fail
  refine (HAw.out _).mono ?_
  rintro e w1 ⟨rfl, hb⟩
  have g : Gr w w1 := gr_auto
  have q0 := Gr.at (show Gr _ w1 from hb) (show World.cell? _ ⟨w.heap.size, 0, none⟩ = some (.slice nA nn nc) from by simp [go_sem])
  have q1 := Gr.at (show Gr _ w1 from hb) (show World.cell? _ ⟨w.heap.size, 1, none⟩ = some (.slice lA ln lc) from by simp [go_sem])
  have q2 := Gr.at (show Gr _ w1 from hb) (show World.cell? _ ⟨w.heap.size + 1, 0, none⟩ = some (.int .i64 jp) from by simp [go_sem])
  have q3 := Gr.at (show Gr _ w1 from hb) (show World.cell? _ ⟨w.heap.size + 1, 1, none⟩ = some (.int .i64 sm) from by simp [go_sem])
  have q4 := Gr.at (show Gr _ w1 from hb) (show World.cell? _ ⟨w.heap.size + 1, 2, none⟩ = some (.int .i64 tl) from by simp [go_sem])
  clear hb HAw
  go_wp2_with fail
  refine (HFe.out _ g).mono ?_
  rintro e w2 ⟨rfl, hb⟩
  replace q0 := Gr.at hb q0
  replace q1 := Gr.at hb q1
  replace q2 := Gr.at hb q2
  replace q3 := Gr.at hb q3
  replace q4 := Gr.at hb q4
  replace g := g.trans hb
  clear hb
  go_wp2_with fail
  refine (HAl.out _ g).mono ?_
  intro e w3 hR; obtain ⟨r1, rfl, hr, hc1, hb⟩ := hR.at; clear hR
  replace q0 := Gr.at hb q0
  replace q1 := Gr.at hb q1
  replace q2 := Gr.at hb q2
  replace q3 := Gr.at hb q3
  replace q4 := Gr.at hb q4
  replace g := g.trans hb
  clear hb
  have HR1 := Lib.hid hr; have HC1 := Lib.hid hc1; clear hr hc1
  have hsA := HA.out (by omega)
  have hix : (0 : Int) ≤ (x : Int) := by omega
  have hix2 : (x : Int) < (sn : Int) := by omega
  obtain ⟨a0, a1, a2, a3, a4⟩ := (HX.out x hxl).1.gr g
  obtain ⟨t, ht⟩ : ∃ t, (D x).nd = t := ⟨_, rfl⟩
  rw [ht] at a0
  clear ht a1 a2 a3 a4
  subst hsA
  -- @a
  go_wp2_with fail
  -- @b
  refine name_world ?_
  intro W4 hW4
  have g4 : Gr w3 W4 := by rw [hW4]; exact gr_auto
  have q5 : W4.cell? ⟨w3.heap.size, 0, none⟩ = some (.string t) := by rw [hW4]; simp [go_sem]
  have hz5 : w3.heap.size < W4.heap.size := World.block_lt_of_cell? _ _ q5
  obtain ⟨BN, hBN⟩ : ∃ BN, BN = w3.heap.size := ⟨_, rfl⟩
  rw [← hBN] at q5 hz5
  try rw [← hBN]
  have hBw : w.heap.size ≤ BN := hBN ▸ Gr.size g
  replace q0 := Gr.at g4 q0
  replace q1 := Gr.at g4 q1
  replace q2 := Gr.at g4 q2
  replace q3 := Gr.at g4 q3
  replace q4 := Gr.at g4 q4
  replace g := g.trans g4
  replace HR1 := Lib.hid (HR1.out.gr g4)
  clear hW4 hBN g4 a0 hx hx2 hix hix2
  go_loopw [12, 54] (fun v y wr => ∃ i : Nat, i ≤ sn ∧ y = .int .i64 (i : Int) ∧ Hid (wr.ownsRow W4.heap.size 3 1 v (Al.idxN D t i).length ((Al.idxN D t i).map fun (q : Nat) => Value.int .i64 (q : Int))) ∧ Gr W4 wr) (fun _ y _ => sn - (intOf y).toNat)
  case atStart => exact ⟨0, Nat.zero_le _, rfl, Lib.hid (World.ownsRow_nil _ _ _ _), Gr.refl _⟩
  case round =>
    obtain ⟨i, hi, rfl, HO, hg2⟩ := hrel
    have gw := g.trans hg2
    by_cases hlt : i < sn
    · obtain ⟨a0, a1, a2, a3, a4⟩ := (HX.out i hlt).1.gr gw
      have ib0 : (0 : Int) ≤ (i : Int) := by omega
      have ib1 : (i : Int) < (sn : Int) := by omega
      replace q5 := Gr.at hg2 q5
      have bN : sb < wr.heap.size := World.block_lt_of_cell? _ _ a0
      have bB : BN < wr.heap.size := World.block_lt_of_cell? _ _ q5
      have hll := Al.idxN_len D t i
      have HN := Lib.hid (show Al.idxN D t (i + 1) = Al.idxN D t i ++ (if Ba.eqS (D i).nd t = true then [i] else []) from rfl)
      have hz := Gr.size hg2
      clear HX HA HAl HCl HCn HR1 HC1 HSm q0 q1 q2 q3 q4
      generalize D i = m at *
      generalize Al.idxN D t i = LO at *
      have hsi : (m.nd.toList == t.toList) = Ba.eqS m.nd t := rfl
      cases e : Ba.eqS m.nd t
      · rw [e] at HN hsi
        simp only [Bool.false_eq_true, if_false, List.append_nil] at HN
        have HP := Lib.hid (show ∀ wx, Gr wr wx → wx.ownsRow W4.heap.size 3 1 _ (Al.idxN D t (i + 1)).length ((Al.idxN D t (i + 1)).map fun (q : Nat) => Value.int .i64 (q : Int)) from fun wx hwx => by rw [HN.out]; exact ownsRow_gr HO.out hwx)
        clear HO HN
        -- @c
        go_wp2_with fail
        go_roundw
        case rel => exact ⟨i + 1, by omega, by go_num, Lib.hid (HP.out _ (by exact gr_auto)), by exact gr_auto⟩
        case measure => simp [intOf]; omega
      · rw [e] at HN hsi
        simp only [if_true] at HN
        -- @d
        go_wp2_with (at_builtin; refine wpList_append_own _ rfl _ _ 33 rfl W4.heap.size 3 i1 (.int .i64 0) 1 8 Tryz.underlying33 KI.out KZ0.out KZ1.out KZ2.out rfl (by decide) _ _ _ rfl (ownsRow_gr HO.out (by exact gr_auto)) ⟨wr.heap.size + 1, 0, none⟩ 1 1 [.int .i64 (i : Int)] rfl rfl (by intro p u hp; rcases p with _ | p <;> simp at hp <;> (try subst hp) <;> first | (simp [Addr.add, go_sem]; done) | (simp [Addr.add]; done)) (by intro u hu; simp at hu; rcases hu with rfl; rfl) (by unfold maxLen; omega) (by omega) (by simp; omega) ?_)
        intro v' w9 hown' hgrow hnil
        have HP := Lib.hid (show w9.ownsRow W4.heap.size 3 1 v' (Al.idxN D t (i + 1)).length ((Al.idxN D t (i + 1)).map fun (q : Nat) => Value.int .i64 (q : Int)) from by rw [HN.out, List.length_append, List.map_append]; exact hown')
        have g9 : Gr W4 w9 := Gr.own ((hg2.alloc (Obj.cells #[.string m.nd, .int .i64 m.nu, .int .i64 m.tm, .int .i64 m.ar, .int .i64 m.lv] 57)).alloc (Obj.cells #[.int .i64 (i : Int)] 3)) (Nat.le_refl _) (ownsRow_gr HO.out ((Gr.alloc (Gr.alloc (Gr.refl wr) _) _))) hgrow
        clear HO hown' hgrow hnil HN
        go_wp2_with fail
        go_roundw
        case rel => exact ⟨i + 1, by omega, by go_num, HP, g9⟩
        case measure => simp [intOf]; omega
    · obtain rfl : sn = i := by omega
      replace q0 := Gr.at hg2 q0
      replace q1 := Gr.at hg2 q1
      replace q2 := Gr.at hg2 q2
      replace q3 := Gr.at hg2 q3
      replace q4 := Gr.at hg2 q4
      replace q5 := Gr.at hg2 q5
      replace HR1 := Lib.hid (HR1.out.gr hg2)
      obtain ⟨d, rfl, hd1, hd2, hd3⟩ := ownI_sl HO.out (fun q hq => by have := (Al.idxN_lt hq).1; omega)
      have HCd := Lib.hid (HCl.out t d wr gw hd1 hd2 hd3)
      clear g
      have g := gw
      clear HCl HX HA HO hd1 hd2 hd3 gw hg2
      -- @e
      go_wp2_with fail
      refine (HCd.out).mono ?_
      intro e w6 hR; obtain ⟨r2, rfl, hr, hc2, hb⟩ := hR.at; clear hR
      replace q0 := Gr.at hb q0
      replace q1 := Gr.at hb q1
      replace q2 := Gr.at hb q2
      replace q3 := Gr.at hb q3
      replace q4 := Gr.at hb q4
      replace q5 := Gr.at hb q5
      replace g := g.trans hb
      replace HR1 := Lib.hid (HR1.out.gr hb)
      clear hb
      have HR2 := Lib.hid hr; have HC2 := Lib.hid hc2; clear hr hc2
      -- @f
      go_wp2_with fail
      refine (HCn.out _ g).mono ?_
      intro e w7 hR; obtain ⟨r3, rfl, hr, hc3, hb⟩ := hR.at; clear hR
      replace q0 := Gr.at hb q0
      replace q1 := Gr.at hb q1
      replace q2 := Gr.at hb q2
      replace q3 := Gr.at hb q3
      replace q4 := Gr.at hb q4
      replace q5 := Gr.at hb q5
      replace g := g.trans hb
      replace HR1 := Lib.hid (HR1.out.gr hb)
      replace HR2 := Lib.hid (HR2.out.gr hb)
      clear hb
      have HR3 := Lib.hid hr; have HC3 := Lib.hid hc3; clear hr hc3
      clear HCn HCd HAl q0 q1 q2 q3 q4
      have hr1n : r1.n ≤ 100000 := by have e2 := r1.con_len; rw [HC1.out] at e2; omega
      have HK := Lib.hid (cloneA_any r1 w7 HR1.out hr1n)
      -- @g
      go_wp2_with fail
      refine HK.out.mono ?_
      rintro e w8 ⟨v8, rfl, hv8, hb8⟩
      obtain ⟨A8, c8, hv8e⟩ := hv8.len
      have hz7 : BN < w7.heap.size := World.block_lt_of_cell? _ _ q5
      replace q5 := Gr.at hb8 q5
      have HD := Lib.hid (df_alm 33 #[.pointer (some ⟨BN, 0, none⟩)] (fun a => Ba.eqS a.nd t) v8 r1.lst w7.heap.size w7 w8 hb8 (Nat.le_refl _) hv8 (by rw [Al.SlA.lst_len]; exact hr1n) (enter_of Tryz.func33 (by kernel_rfl) (by kernel_rfl)) fun g0 hg0 a _ W hW => drf_any a t BN W (GrX.at hW (by omega) q5))
      subst hv8e
      clear HK
      -- @h
      go_wp2_with fail
      refine HD.out.mono ?_
      rintro e w9 ⟨r4, rfl, hr4, hc4, hb9⟩
      have HR4 := Lib.hid hr4
      have HC4 := Lib.hid hc4
      replace HR1 := Lib.hid (HR1.out.gr hb9); replace HR2 := Lib.hid (HR2.out.gr hb9); replace HR3 := Lib.hid (HR3.out.gr hb9)
      replace g := g.trans hb9
      have E24 := Lib.hid (show r2.con = r4.con from by
        rw [HC2.out, HC4.out, ← HC1.out, ← Al.SlA.lst_con, List.filter_map]; rfl)
      have E31 := Lib.hid (show r3.con = r1.con from by rw [HC3.out, HC1.out])
      clear HD hr4 hc4 hb9 HC1 HC2 HC3 HC4 hv8 hb8 q5
      -- @i
      go_wp2_with fail
      refine (HSm.out r2 r4 _ HR2.out HR4.out E24.out).mono ?_
      rintro e w10 ⟨rfl, hb⟩
      replace HR1 := Lib.hid (HR1.out.gr hb); replace HR3 := Lib.hid (HR3.out.gr hb)
      replace g := g.trans hb
      clear hb
      -- @j
      go_wp2_with fail
      refine (HSm.out r3 r1 _ HR3.out HR1.out E31.out).mono ?_
      rintro e w11 ⟨rfl, hb⟩
      replace g := g.trans hb
      clear hb
      go_wp2_with fail
      go_ret
      exact ⟨rfl, g⟩

theorem dropped_law (N : Ba.SlNode) (L : Ba.SlLink) (s : Al.SlM) (jp sm tl k : Int) (w : World) (hN : N.At w) (hL : L.At w) (h : s.At w) (hk8 : 0 ≤ k ∧ k ≤ 255) : Calls Tryz.prog 6 #[Ba.netVal N L, .slice s.A s.n s.c, .agg #[.int .i64 jp, .int .i64 sm, .int .i64 tl], .int .u8 k] w fun e w' => e = .returned (.bool true) ∧ Gr w w' := by
  cases hf : Al.fewB N.n L.n s.n (Al.lngB s)
  · exact dropped_few N L s jp sm tl k w hN hL h hk8 hf
  by_cases hk : Al.gvE (Ba.netB N L && s.vB) (Al.lmO jp sm tl) = 0
  · by_cases hn : s.n = 0
    · exact dropped_nil N L s jp sm tl k w hN hL h hk8 hf hk hn
    · exact dropped_main N L s jp sm tl k w hN hL h hk8 hf hk (by omega)
  · exact dropped_no N L s jp sm tl k w hN hL h hk8 hf _ rfl hk
theorem dropped_in (N : Ba.SlNode) (L : Ba.SlLink) (s : Al.SlM) (jp sm tl k : Int) (w : World) (hN : N.At w) (hL : L.At w) (h : s.At w) (_ : Ba.i64 jp) (_ : Ba.i64 sm) (_ : Ba.i64 tl) (hk8 : 0 ≤ k ∧ k ≤ 255) : Calls Tryz.prog 6 #[Ba.netVal N L, .slice s.A s.n s.c, .agg #[.int .i64 jp, .int .i64 sm, .int .i64 tl], .int .u8 k] w fun e w' => e = .returned (.bool true) ∧ Gr w w' := dropped_law N L s jp sm tl k w hN hL h hk8

end Go.Proofs.YtllkiadedaghoaaGreat
