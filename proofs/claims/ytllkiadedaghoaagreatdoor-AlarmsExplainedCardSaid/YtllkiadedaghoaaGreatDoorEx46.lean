/-
  Alarms: Core. (Printed by mkanf.py.)
-/
import Derived.Test.YtllkiadedaghoaaGreatDoorEx45

set_option linter.unusedVariables false
set_option linter.unusedSimpArgs false
namespace Go.Proofs.YtllkiadedaghoaaGreatDoor
open Go.RowKit Go.Shelf Go.Sort
attribute [local go_sem ↓] Go.wp_at_zero Go.wp_at_succ
theorem gr_grow (w : World) (q : Nat) (l : Array Obj) : Gr w (grow (w.drewN q) l) :=
  (Gr.drewN (Gr.refl w) q).trans ⟨rfl, rfl, rfl, by simp [grow], fun k hk => heap_grow_old _ _ hk⟩
namespace Al
/-- Indices that a call answers. -/
def RetIx (l : List Nat) (w : World) (e : Ending) (w' : World) : Prop := ∃ d : Ba.SlI, e = .returned (.tuple #[.slice d.A d.n d.c, .int .i64 0]) ∧ d.At w' ∧ d.n = l.length ∧ (∀ j (hj : j < l.length), d.X j = (l[j] : Int)) ∧ Gr w w'
def oneIf (b : Bool) (i : Nat) : List Nat := bif b then [i] else []
theorem idxP_succ (q : Nat → Bool) (n : Nat) : idxP q (n + 1) = idxP q n ++ oneIf (q n) n := by
  rw [idxP]; unfold oneIf
  cases q n <;> rfl
/-- The indices of the messages that explain an alarm. -/
def cix (a : C) (D : Nat → M) (n : Nat) : List Nat := idxP (fun i => inC a (D i)) n
theorem ccmp_zero (x y : C) : (ccmp x y == 0) = eqC y x := by
  rw [Bool.eq_iff_iff, beq_iff_eq, eqC_iff]
  exact ⟨fun h => (Gd.con.zero x y h).symm, fun h => by rw [h]; exact Gd.con.self x⟩
end Al
set_option maxRecDepth 100000 in
set_option maxHeartbeats 4000000 in
theorem cor1_any (a z : Al.A) (B : Nat) (w : World) (ha : a.At w) (hz : z.At w) (hc : z.Cells w B 0) : Calls Tryz.prog 34 #[a.val, .pointer (some ⟨B, 0, none⟩)] w fun e w' => e = .returned (.bool (Al.eqC a.con z.con)) ∧ Gr w w' := by
  have HS := Lib.hid (fun W (hW : Gr w W) => show Calls Tryz.prog 35 #[.agg #[.int .i64 z.kd, .string z.nd, .int .i64 z.tm, .slice z.p z.n z.c], .agg #[.int .i64 a.kd, .string a.nd, .int .i64 a.tm, .slice a.p a.n a.c]] W fun e w' => e = .returned (.int .i64 (Al.ccmp z.con a.con)) ∧ Gr W w' from
    (acmp_any z a W (hz.gr hW) (ha.gr hW)).mono (by rintro e w' ⟨rfl, q, os, rfl⟩; exact ⟨by rw [Al.acmp_con], gr_grow W q os⟩))
  have HE := Lib.hid (Al.ccmp_zero z.con a.con)
  generalize Al.eqC a.con z.con = RES at *
  generalize Al.ccmp z.con a.con = r at *
  obtain ⟨z0, z1, z2, z3⟩ := hc
  have hB : B < w.heap.size := World.block_lt_of_cell? _ _ z0
  simp only [Nat.zero_add] at z1 z2 z3
  clear ha hz
  unfold Al.A.val
  cases a with | mk akd and_ atm ap ab ao an ac aX =>
  cases z with | mk zkd znd ztm zp zb zo zn zc zX =>
  simp only [] at *
  go_enter Tryz.func34, Tryz.ntmps34
  go_wp2_with fail
  refine (HS.out _ gr_auto).mono ?_
  rintro e w1 ⟨rfl, hb⟩
  have g1 : Gr w w1 := gr_auto
  clear hb
  go_wp2_with fail
  go_ret
  exact ⟨ret_bool HE.out, g1⟩
theorem corh_any (s : Al.SlA) (z : Al.A) (B : Nat) (w : World) (hs : s.At w) (hz : z.At w) (hc : z.Cells w B 0) : Calls Tryz.prog 32 #[.slice s.A s.n s.c, .func (.func 34) #[] #[.pointer (some ⟨B, 0, none⟩)]] w fun e w' => e = .returned (.bool (Ba.any (fun i => Al.eqC (s.D i).con z.con) s.n)) ∧ Gr w w' :=
  has_alm 34 #[.pointer (some ⟨B, 0, none⟩)] s _ w hs (enter_of Tryz.func34 (by kernel_rfl) (by kernel_rfl)) fun i hi W hW => cor1_any (s.D i) z B W ((hs.hD i hi).2.at'.gr hW) (hz.gr hW) (hc.gr hW)
set_option maxRecDepth 100000 in
set_option maxHeartbeats 4000000 in
theorem idxi_any (d : Al.A) (x : Int) (w : World) (h : d.At w) : Calls Tryz.prog 77 #[.slice d.p d.n d.c, .int .i64 x] w fun e w' => e = .returned (.int .i64 (Ba.fstI (fun i => d.X i == x) d.n)) ∧ Gr w w' := by
  have HA := Lib.hid h.hp; have HX := Lib.hid h.hX
  have hnc := h.hn
  have HP := Lib.hid (fun i => show (fun i => d.X i == x) i = (d.X i == x) from rfl)
  generalize (fun i => d.X i == x) = p at *
  clear h
  cases d with | mk kd nd tm A b o n c X =>
  simp only [] at *
  clear kd nd tm
  go_enter Tryz.func77, Tryz.ntmps77
  go_wp2_with fail
  go_loopw [8] (fun s8 wr => ∃ i : Nat, i ≤ n ∧ s8 = .int .i64 (i : Int) ∧ Gr w wr ∧ Hid (Ba.fst p i = none)) (fun s8 _ => n - (intOf s8).toNat)
  case atStart => exact ⟨0, Nat.zero_le _, rfl, Gr.refl _, rfl⟩
  case round =>
    obtain ⟨i, hi, rfl, hg, hf⟩ := hrel
    by_cases hlt : i < n
    · obtain rfl := HA.out (by omega)
      have a0 := Gr.at hg (HX.out i hlt)
      have hpe := HP.out i
      have ib0 : (0 : Int) ≤ (i : Int) := by omega
      have ib1 : (i : Int) < (n : Int) := by omega
      generalize X i = y at *
      cases hpi : p i
      · have HF := Lib.hid (Ba.fst_miss hf.out hpi)
        rw [hpi] at hpe
        have t0 : (x == y) = false := by rw [Bool.eq_false_iff, ne_eq, beq_iff_eq]; rintro rfl; simp at hpe
        have t1 : (y == x) = false := hpe.symm
        clear hpi hi hpe HX HP
        go_wp2_with fail
        go_roundw
        case rel => exact ⟨i + 1, by omega, by go_num, gr_auto, HF⟩
        case measure => simp [intOf]; omega
      · have HF := Lib.hid (Ba.fstI_hit hf.out hpi hlt)
        rw [hpi] at hpe
        have t1 : (y == x) = true := hpe.symm
        obtain rfl := beq_iff_eq.1 t1
        clear hpi hi hpe HX HP
        go_wp2_with fail
        go_ret
        exact ⟨ret_int HF.out.symm, gr_auto⟩
    · obtain rfl : i = n := by omega
      have HF := Lib.hid (Ba.fstI_none hf.out)
      go_wp2_with fail
      go_ret
      exact ⟨ret_int HF.out.symm, hg⟩
set_option maxRecDepth 100000 in
set_option maxHeartbeats 4000000 in
theorem hasi_any (d : Al.A) (x : Int) (w : World) (h : d.At w) : Calls Tryz.prog 36 #[.slice d.p d.n d.c, .int .i64 x] w fun e w' => e = .returned (.bool (Ba.any (fun i => d.X i == x) d.n)) ∧ Gr w w' := by
  have HI := Lib.hid (idxi_any d x w h)
  have HG := Lib.hid (Ba.fstI_ge (fun i => d.X i == x) d.n)
  clear h
  generalize Ba.fstI (fun i => d.X i == x) d.n = r at *
  generalize Ba.any (fun i => d.X i == x) d.n = q at *
  generalize d.p = A at *
  generalize d.n = n at *
  generalize d.c = c at *
  go_enter Tryz.func36, Tryz.ntmps36
  go_wp2_with fail
  refine HI.out.mono ?_
  rintro e w1 ⟨rfl, hb1⟩
  go_wp2
  go_ret
  exact ⟨ret_bool HG.out, hb1⟩
theorem Al.hasi_bc (a : Al.A) (x : Int) : Ba.any (fun i => a.X i == x) a.n = a.con.bc.contains x := by
  rw [Bool.eq_iff_iff, Ba.any_iff, List.contains_iff_mem]
  show _ ↔ x ∈ Al.lst a.X a.n
  unfold Al.lst
  rw [List.mem_map]
  exact ⟨fun ⟨i, hi, e⟩ => ⟨i, List.mem_range.2 hi, beq_iff_eq.1 e⟩, fun ⟨i, hi, e⟩ => ⟨i, List.mem_range.1 hi, beq_iff_eq.2 e⟩⟩
set_option maxRecDepth 100000 in
set_option maxHeartbeats 4000000 in
theorem Core_no (N : Ba.SlNode) (L : Ba.SlLink) (s : Al.SlM) (jp sm tl : Int) (a : Al.A) (w : World) (hN : N.At w) (hL : L.At w) (h : s.At w) (ha : a.At w) (k : Int) (hk : Al.gvE (Ba.netB N L && s.vB) (Al.lmO jp sm tl) = k) (hk0 : k ≠ 0) :
    Calls Tryz.prog 8 #[Ba.netVal N L, .slice s.A s.n s.c, .agg #[.int .i64 jp, .int .i64 sm, .int .i64 tl], .agg #[.int .i64 a.kd, .string a.nd, .int .i64 a.tm, .slice a.p a.n a.c]] w fun e w' => e = .returned (.tuple #[.slice none 0 0, .int .i64 k]) ∧ Gr w w' := by
  have HR := Lib.hid (fun W (hW : Gr w W) => given_any N L s jp sm tl W (hN.gr hW) (hL.gr hW) (h.gr hW))
  rw [hk] at HR
  have hb0 : (k != 0) = true := bne_iff_ne.2 hk0
  clear hN hL h hk hk0 ha
  unfold Ba.netVal at *
  generalize N.A = nA at *; generalize N.n = nn at *; generalize N.c = nc at *; generalize L.A = lA at *; generalize L.n = ln at *; generalize L.c = lc at *
  generalize s.A = sA at *; generalize s.n = sn at *; generalize s.c = sc at *
  go_enter Tryz.func8, Tryz.ntmps8
  go_wp2_with fail
  refine (HR.out _ gr_auto).mono ?_
  rintro e w1 ⟨rfl, hb1⟩
  have g1 : Gr w w1 := gr_auto
  clear hb1
  go_wp2_with fail
  go_ret2
  exact ⟨rfl, g1⟩
set_option maxRecDepth 100000 in
set_option maxHeartbeats 4000000 in
theorem Core_none (N : Ba.SlNode) (L : Ba.SlLink) (s : Al.SlM) (jp sm tl : Int) (a : Al.A) (w : World) (hN : N.At w) (hL : L.At w) (h : s.At w) (ha : a.At w) (hk : Al.gvE (Ba.netB N L && s.vB) (Al.lmO jp sm tl) = 0) (hm : a.con ∉ Al.allC N s.lst jp sm) :
    Calls Tryz.prog 8 #[Ba.netVal N L, .slice s.A s.n s.c, .agg #[.int .i64 jp, .int .i64 sm, .int .i64 tl], .agg #[.int .i64 a.kd, .string a.nd, .int .i64 a.tm, .slice a.p a.n a.c]] w fun e w' => e = .returned (.tuple #[.slice none 0 0, .int .i64 12]) ∧ Gr w w' := by
  have hok : (Ba.netB N L && s.vB) = true ∧ Al.lmO jp sm tl = true := by
    unfold Al.gvE at hk
    split at hk
    · rename_i q
      split at hk
      · rename_i r; exact ⟨q, r⟩
      · exact absurd hk (by decide)
    · exact absurd hk (by decide)
  have hok1 := hok.1
  rw [Bool.and_eq_true] at hok1
  have hsn := Al.vB_len hok1.2
  have HR := Lib.hid (fun W (hW : Gr w W) => given_any N L s jp sm tl W (hN.gr hW) (hL.gr hW) (h.gr hW))
  rw [hk] at HR
  have HAll := Lib.hid (fun W (hW : Gr w W) => all_any N L s jp sm tl W (hN.gr hW) (hL.gr hW) (h.gr hW) hok1.1 hok1.2 (by have := hok.2; unfold Al.lmO at this; rw [Bool.and_eq_true] at this; exact Al.jmO_iff.1 this.1) (by have := hok.2; unfold Al.lmO at this; rw [Bool.and_eq_true, Bool.and_eq_true] at this; exact Al.stO_iff.1 this.2.1))
  have HCo := Lib.hid (fun (r : Al.SlA) (B : Nat) W (hW : Gr w W) (hr : r.At W) (hc : a.Cells W B 0) (hrc : r.con = Al.allC N s.lst jp sm) => show Calls Tryz.prog 32 #[.slice r.A r.n r.c, .func (.func 34) #[] #[.pointer (some ⟨B, 0, none⟩)]] W fun e w' => e = .returned (.bool false) ∧ Gr W w' from by
    have := corh_any r a B W hr (ha.gr hW) hc
    rw [show Ba.any (fun i => Al.eqC (r.D i).con a.con) r.n = false from by rw [Bool.eq_false_iff, ne_eq, Al.any_mem, hrc]; exact hm] at this
    exact this)
  generalize Al.allC N s.lst jp sm = X1 at *
  clear hm h ha
  clear hN hL hk hok hok1
  unfold Ba.netVal at *
  generalize N.A = nA at *; generalize N.n = nn at *; generalize N.c = nc at *; generalize L.A = lA at *; generalize L.n = ln at *; generalize L.c = lc at *
  cases a with | mk akd and_ atm ap ab ao an ac aX =>
  simp only [Al.A.Cells, Nat.zero_add] at *
  generalize s.A = sA at *; generalize s.n = sn at *; generalize s.c = sc at *
  go_enter Tryz.func8, Tryz.ntmps8
  go_wp2_with fail
  refine (HR.out _ gr_auto).mono ?_
  rintro e w1 ⟨rfl, hb1⟩
  have g1 : Gr w w1 := gr_auto
  have q0 := Gr.at (show Gr _ w1 from hb1) (show World.cell? _ ⟨w.heap.size, 0, none⟩ = some (.slice nA nn nc) from by simp [go_sem])
  have q1 := Gr.at (show Gr _ w1 from hb1) (show World.cell? _ ⟨w.heap.size, 1, none⟩ = some (.slice lA ln lc) from by simp [go_sem])
  have q2 := Gr.at (show Gr _ w1 from hb1) (show World.cell? _ ⟨w.heap.size + 1, 0, none⟩ = some (.int .i64 jp) from by simp [go_sem])
  have q3 := Gr.at (show Gr _ w1 from hb1) (show World.cell? _ ⟨w.heap.size + 1, 1, none⟩ = some (.int .i64 sm) from by simp [go_sem])
  have q4 := Gr.at (show Gr _ w1 from hb1) (show World.cell? _ ⟨w.heap.size + 1, 2, none⟩ = some (.int .i64 tl) from by simp [go_sem])
  have q5 := Gr.at (show Gr _ w1 from hb1) (show World.cell? _ ⟨w.heap.size + 1 + 1, 0, none⟩ = some (.int .i64 akd) from by simp [go_sem])
  have q6 := Gr.at (show Gr _ w1 from hb1) (show World.cell? _ ⟨w.heap.size + 1 + 1, 1, none⟩ = some (.string and_) from by simp [go_sem])
  have q7 := Gr.at (show Gr _ w1 from hb1) (show World.cell? _ ⟨w.heap.size + 1 + 1, 2, none⟩ = some (.int .i64 atm) from by simp [go_sem])
  have q8 := Gr.at (show Gr _ w1 from hb1) (show World.cell? _ ⟨w.heap.size + 1 + 1, 3, none⟩ = some (.slice ap an ac) from by simp [go_sem])
  clear hb1 HR
  go_wp2_with fail
  refine (HAll.out _ g1).mono ?_
  intro e w2 hR; obtain ⟨r, rfl, hr, hcr, hb⟩ := hR.at; clear hR
  have HQ := Lib.hid (HCo.out r (w.heap.size + 1 + 1) w2 (g1.trans hb) hr ⟨Gr.at hb q5, Gr.at hb q6, Gr.at hb q7, Gr.at hb q8⟩ hcr)
  replace q6 := Gr.at hb q6; replace q8 := Gr.at hb q8
  have g2 := g1.trans hb
  clear hb hr hcr HAll HCo q0 q1 q2 q3 q4 q5 q7 g1
  go_wp2_with fail
  refine HQ.out.mono ?_
  rintro e w3 ⟨rfl, hb⟩
  replace q6 := Gr.at hb q6; replace q8 := Gr.at hb q8
  have g3 := g2.trans hb
  clear hb HQ g2
  go_wp2_with fail
  go_ret2
  exact ⟨rfl, g3⟩
set_option maxRecDepth 100000 in
set_option maxHeartbeats 4000000 in
theorem Core_ok (N : Ba.SlNode) (L : Ba.SlLink) (s : Al.SlM) (jp sm tl : Int) (a : Al.A) (w : World) (hN : N.At w) (hL : L.At w) (h : s.At w) (ha : a.At w) (hk : Al.gvE (Ba.netB N L && s.vB) (Al.lmO jp sm tl) = 0) (hm : a.con ∈ Al.allC N s.lst jp sm) :
    Calls Tryz.prog 8 #[Ba.netVal N L, .slice s.A s.n s.c, .agg #[.int .i64 jp, .int .i64 sm, .int .i64 tl], .agg #[.int .i64 a.kd, .string a.nd, .int .i64 a.tm, .slice a.p a.n a.c]] w (Al.RetIx (Al.cix a.con s.D s.n) w) := by
  have hok : (Ba.netB N L && s.vB) = true ∧ Al.lmO jp sm tl = true := by
    unfold Al.gvE at hk
    split at hk
    · rename_i q
      split at hk
      · rename_i r; exact ⟨q, r⟩
      · exact absurd hk (by decide)
    · exact absurd hk (by decide)
  have hok1 := hok.1
  rw [Bool.and_eq_true] at hok1
  have hsn := Al.vB_len hok1.2
  have HR := Lib.hid (fun W (hW : Gr w W) => given_any N L s jp sm tl W (hN.gr hW) (hL.gr hW) (h.gr hW))
  rw [hk] at HR
  have HAll := Lib.hid (fun W (hW : Gr w W) => all_any N L s jp sm tl W (hN.gr hW) (hL.gr hW) (h.gr hW) hok1.1 hok1.2 (by have := hok.2; unfold Al.lmO at this; rw [Bool.and_eq_true] at this; exact Al.jmO_iff.1 this.1) (by have := hok.2; unfold Al.lmO at this; rw [Bool.and_eq_true, Bool.and_eq_true] at this; exact Al.stO_iff.1 this.2.1))
  have HCo := Lib.hid (fun (r : Al.SlA) (B : Nat) W (hW : Gr w W) (hr : r.At W) (hc : a.Cells W B 0) (hrc : r.con = Al.allC N s.lst jp sm) => show Calls Tryz.prog 32 #[.slice r.A r.n r.c, .func (.func 34) #[] #[.pointer (some ⟨B, 0, none⟩)]] W fun e w' => e = .returned (.bool true) ∧ Gr W w' from by
    have := corh_any r a B W hr (ha.gr hW) hc
    rw [show Ba.any (fun i => Al.eqC (r.D i).con a.con) r.n = true from by rw [Al.any_mem, hrc]; exact hm] at this
    exact this)
  generalize Al.allC N s.lst jp sm = X1 at *
  have HI := Lib.hid (fun x W (hW : Gr w W) => show Calls Tryz.prog 36 #[.slice a.p a.n a.c, .int .i64 x] W fun e w' => e = .returned (.bool (a.con.bc.contains x)) ∧ Gr W w' from by
    have := hasi_any a x W (ha.gr hW)
    rw [Al.hasi_bc] at this
    exact this)
  have HA := Lib.hid h.hA; have HX := Lib.hid h.hD
  have hsc := h.hc; have hsb := h.hb
  have HQ0 := Lib.hid (fun i => show Al.cix a.con s.D (i + 1) = Al.cix a.con s.D i ++ Al.oneIf (Ba.eqS (s.D i).nd a.nd && a.con.bc.contains (s.D i).nu) i from Al.idxP_succ _ i)
  have HQL := Lib.hid (fun i => show (Al.cix a.con s.D i).length ≤ i from Al.idxP_len _ i)
  have HQM := Lib.hid (fun i q (hq : q ∈ Al.cix a.con s.D i) => show q < i from (Al.idxP_lt hq).1)
  have HQ1 := Lib.hid (show Al.cix a.con s.D 0 = [] from rfl)
  generalize Al.cix a.con s.D = Q at *
  generalize a.con.bc = bc at *
  clear hm h ha
  clear hN hL hk hok hok1
  unfold Ba.netVal at *
  generalize N.A = nA at *; generalize N.n = nn at *; generalize N.c = nc at *; generalize L.A = lA at *; generalize L.n = ln at *; generalize L.c = lc at *
  cases a with | mk akd and_ atm ap ab ao an ac aX =>
  simp only [Al.A.Cells, Nat.zero_add] at *
  cases s with | mk sA sn sc sb so D =>
  simp only [] at *
  obtain ⟨i1, k0, k1, k2, k3⟩ := info_parts infoI
  have KI := Lib.hid k0; have KZ0 := Lib.hid k1; have KZ1 := Lib.hid k2; have KZ2 := Lib.hid k3
  clear k0 k1 k2 k3
  go_enter Tryz.func8, Tryz.ntmps8
  go_wp2_with fail
  refine (HR.out _ gr_auto).mono ?_
  rintro e w1 ⟨rfl, hb1⟩
  have g1 : Gr w w1 := gr_auto
  have q0 := Gr.at (show Gr _ w1 from hb1) (show World.cell? _ ⟨w.heap.size, 0, none⟩ = some (.slice nA nn nc) from by simp [go_sem])
  have q1 := Gr.at (show Gr _ w1 from hb1) (show World.cell? _ ⟨w.heap.size, 1, none⟩ = some (.slice lA ln lc) from by simp [go_sem])
  have q2 := Gr.at (show Gr _ w1 from hb1) (show World.cell? _ ⟨w.heap.size + 1, 0, none⟩ = some (.int .i64 jp) from by simp [go_sem])
  have q3 := Gr.at (show Gr _ w1 from hb1) (show World.cell? _ ⟨w.heap.size + 1, 1, none⟩ = some (.int .i64 sm) from by simp [go_sem])
  have q4 := Gr.at (show Gr _ w1 from hb1) (show World.cell? _ ⟨w.heap.size + 1, 2, none⟩ = some (.int .i64 tl) from by simp [go_sem])
  have q5 := Gr.at (show Gr _ w1 from hb1) (show World.cell? _ ⟨w.heap.size + 1 + 1, 0, none⟩ = some (.int .i64 akd) from by simp [go_sem])
  have q6 := Gr.at (show Gr _ w1 from hb1) (show World.cell? _ ⟨w.heap.size + 1 + 1, 1, none⟩ = some (.string and_) from by simp [go_sem])
  have q7 := Gr.at (show Gr _ w1 from hb1) (show World.cell? _ ⟨w.heap.size + 1 + 1, 2, none⟩ = some (.int .i64 atm) from by simp [go_sem])
  have q8 := Gr.at (show Gr _ w1 from hb1) (show World.cell? _ ⟨w.heap.size + 1 + 1, 3, none⟩ = some (.slice ap an ac) from by simp [go_sem])
  clear hb1 HR
  go_wp2_with fail
  refine (HAll.out _ g1).mono ?_
  intro e w2 hR; obtain ⟨r, rfl, hr, hcr, hb⟩ := hR.at; clear hR
  have HQ := Lib.hid (HCo.out r (w.heap.size + 1 + 1) w2 (g1.trans hb) hr ⟨Gr.at hb q5, Gr.at hb q6, Gr.at hb q7, Gr.at hb q8⟩ hcr)
  replace q6 := Gr.at hb q6; replace q8 := Gr.at hb q8
  have g2 := g1.trans hb
  clear hb hr hcr HAll HCo q0 q1 q2 q3 q4 q5 q7 g1
  go_wp2_with fail
  refine HQ.out.mono ?_
  rintro e w3 ⟨rfl, hb⟩
  replace q6 := Gr.at hb q6; replace q8 := Gr.at hb q8
  have g3 := g2.trans hb
  clear hb HQ g2
  go_wp2_with fail
  refine name_world ?_
  intro W4 hW4
  have g4 : Gr w3 W4 := by rw [hW4]; exact gr_auto
  replace q6 := Gr.at g4 q6; replace q8 := Gr.at g4 q8
  have g := g3.trans g4
  clear hW4 g4 g3
  obtain ⟨BA, hBA⟩ : ∃ BA, BA = w.heap.size + 1 + 1 := ⟨_, rfl⟩
  rw [← hBA] at q6 q8
  try rw [← hBA]
  clear hBA
  go_loopw [11, 30] (fun v y wr => ∃ i : Nat, i ≤ sn ∧ y = .int .i64 (i : Int) ∧ Hid (wr.ownsRow W4.heap.size 3 1 v (Q i).length ((Q i).map fun (q : Nat) => Value.int .i64 (q : Int))) ∧ Gr W4 wr) (fun _ y _ => sn - (intOf y).toNat)
  case atStart => exact ⟨0, Nat.zero_le _, rfl, Lib.hid (by rw [HQ1.out]; exact World.ownsRow_nil _ _ _ _), Gr.refl _⟩
  case round =>
    obtain ⟨i, hi, rfl, HO, hg2⟩ := hrel
    have gw := g.trans hg2
    by_cases hlt : i < sn
    · have hsA := HA.out (by omega)
      subst hsA
      obtain ⟨a0, a1, a2, a3, a4⟩ := (HX.out i hlt).1.gr gw
      have ib0 : (0 : Int) ≤ (i : Int) := by omega
      have ib1 : (i : Int) < (sn : Int) := by omega
      replace q6 := Gr.at hg2 q6; replace q8 := Gr.at hg2 q8
      have bN : sb < wr.heap.size := World.block_lt_of_cell? _ _ a0
      have bB : BA < wr.heap.size := World.block_lt_of_cell? _ _ q6
      have hll := HQL.out i
      have HN := Lib.hid (HQ0.out i)
      have hz := Gr.size hg2
      have HIi := Lib.hid (fun W (hW : Gr wr W) => HI.out (D i).nu W (gw.trans hW))
      clear HX HA HQ0 HQL HQM HQ1 HI
      obtain ⟨m, hm⟩ : ∃ m, D i = m := ⟨_, rfl⟩
      rw [hm] at a0 a1 a2 a3 a4 HN HIi
      clear hm
      obtain ⟨LO, hLO⟩ : ∃ LO, Q i = LO := ⟨_, rfl⟩
      rw [hLO] at HN HO hll
      clear hLO
      have hsi : (m.nd.toList == and_.toList) = Ba.eqS m.nd and_ := rfl
      cases e : Ba.eqS m.nd and_
      · rw [e] at HN hsi
        simp only [Bool.false_and, Al.oneIf, cond_false, List.append_nil] at HN
        have HP := Lib.hid (show ∀ wx, Gr wr wx → wx.ownsRow W4.heap.size 3 1 _ (Q (i + 1)).length ((Q (i + 1)).map fun (q : Nat) => Value.int .i64 (q : Int)) from fun wx hwx => by rw [HN.out]; exact ownsRow_gr HO.out hwx)
        clear HO HN HIi
        go_wp2_with fail
        go_roundw
        case rel => exact ⟨i + 1, by omega, by go_num, Lib.hid (HP.out _ (by exact gr_auto)), by exact gr_auto⟩
        case measure => simp [intOf]; omega
      · rw [e] at HN hsi
        rw [Bool.true_and] at HN
        cases e2 : bc.contains m.nu
        · rw [e2] at HN HIi
          simp only [Al.oneIf, cond_false, List.append_nil] at HN
          have HP := Lib.hid (show ∀ wx, Gr wr wx → wx.ownsRow W4.heap.size 3 1 _ (Q (i + 1)).length ((Q (i + 1)).map fun (q : Nat) => Value.int .i64 (q : Int)) from fun wx hwx => by rw [HN.out]; exact ownsRow_gr HO.out hwx)
          clear HO HN
          go_wp2_with fail
          refine (HIi.out _ gr_auto).mono ?_
          rintro e w7 ⟨rfl, hb⟩
          have g7 : Gr wr w7 := gr_auto
          clear hb HIi
          go_wp2_with fail
          go_roundw
          case rel => exact ⟨i + 1, by omega, by go_num, Lib.hid (HP.out _ (by exact g7)), hg2.trans g7⟩
          case measure => simp [intOf]; omega
        · rw [e2] at HN HIi
          simp only [Al.oneIf, cond_true] at HN
          go_wp2_with fail
          refine (HIi.out _ gr_auto).mono ?_
          rintro e w7 ⟨rfl, hb⟩
          have g7 : Gr wr w7 := gr_auto
          have hz7 := Gr.size g7
          clear hb HIi
          go_wp2_with (at_builtin; refine wpList_append_own _ rfl _ _ 29 rfl W4.heap.size 3 i1 (.int .i64 0) 1 8 Tryz.underlying29 KI.out KZ0.out KZ1.out KZ2.out rfl (by decide) _ _ _ rfl (ownsRow_gr HO.out (g7.trans (by exact gr_auto))) ⟨w7.heap.size, 0, none⟩ 1 1 [.int .i64 (i : Int)] rfl rfl (by intro p u hp; rcases p with _ | p <;> simp at hp <;> (try subst hp) <;> first | (simp [Addr.add, go_sem]; done) | (simp [Addr.add]; done)) (by intro u hu; simp at hu; rcases hu with rfl; rfl) (by unfold maxLen; omega) (by omega) (by simp; omega) ?_)
          intro v' w9 hown' hgrow hnil
          have HP := Lib.hid (show w9.ownsRow W4.heap.size 3 1 v' (Q (i + 1)).length ((Q (i + 1)).map fun (q : Nat) => Value.int .i64 (q : Int)) from by rw [HN.out, List.length_append, List.map_append]; exact hown')
          have g9 : Gr W4 w9 := Gr.own ((hg2.trans g7).alloc (Obj.cells #[.int .i64 (i : Int)] 3)) (Nat.le_refl _) (ownsRow_gr HO.out (g7.trans (Gr.alloc (Gr.refl w7) _))) hgrow
          clear HO hown' hgrow hnil HN
          go_wp2_with fail
          go_roundw
          case rel => exact ⟨i + 1, by omega, by go_num, HP, g9⟩
          case measure => simp [intOf]; omega
    · obtain rfl : sn = i := by omega
      obtain ⟨d, rfl, hd1, hd2, hd3⟩ := ownI_sl HO.out (fun q hq => by have := HQM.out _ q hq; omega)
      have HD1 := Lib.hid hd1; have HD2 := Lib.hid hd2; have HD3 := Lib.hid hd3
      clear HX HA HO hd1 hd2 hd3 HQ0 HQL HQM HQ1 HI q6 q8
      go_wp2_with fail
      go_ret2
      exact ⟨d, rfl, HD1.out, HD2.out, HD3.out, gw⟩
end Go.Proofs.YtllkiadedaghoaaGreatDoor
