/-
  Alarms: the law AlarmsCores. (Printed by mkang.py.)
-/
import Derived.Test.YtllkiadedaghoaaGreatAnE
import Derived.Test.YtllkiadedaghoaaGreatAnF
import Derived.Test.YtllkiadedaghoaaGreatCm46
import Derived.Test.YtllkiadedaghoaaGreatCm45
import Derived.Test.YtllkiadedaghoaaGreatCm02
set_option linter.unusedVariables false
set_option linter.unusedSimpArgs false
namespace Go.Proofs.YtllkiadedaghoaaGreat
open Go.RowKit Go.Shelf Go.Sort
attribute [local go_sem ↓] Go.wp_at_zero Go.wp_at_succ
theorem Al.conA_mem {s : Al.SlA} {i : Nat} (hi : i < s.n) : (s.D i).con ∈ s.con := List.mem_map.2 ⟨i, List.mem_range.2 hi, rfl⟩
theorem Al.conA_bc (a : Al.A) : a.con.bc.length = a.n := by simp [Al.A.con, Al.lst]
theorem cless_any (x y : Int) (w : World) : Calls Tryz.prog 73 #[.int .i64 x, .int .i64 y] w fun e w' => e = .returned (.bool (decide (x < y))) ∧ w = w' := by
  have H := Lib.hid (fun x w => Tryz.cmp_isNaN_int x w)
  go_enter Tryz.func73, Tryz.ntmps73
  go_wp2_with fail
  refine (H.out x _).mono ?_
  rintro e w1 ⟨rfl, rfl⟩
  go_wp2_with fail
  go_ret
  exact ⟨rfl, rfl⟩

set_option maxRecDepth 100000 in
set_option maxHeartbeats 4000000 in
theorem sorted_any (d : Ba.SlI) (w : World) (h : d.At w) (hn : 0 < d.n) (hs : ∀ i, i + 1 < d.n → d.X i ≤ d.X (i + 1)) : Calls Tryz.prog 35 #[.slice d.A d.n d.c] w fun e w' => e = .returned (.bool true) ∧ Gr w w' := by
  have HA := h.hA hn; have HX := Lib.hid h.hX; have HS := Lib.hid hs
  have hnc := h.hc; have hcb := h.hb
  have HL := Lib.hid (fun x y W => cless_any x y W)
  clear h hs
  cases d with | mk A n c b o X =>
  simp only [] at *
  subst HA
  go_enter Tryz.func35, Tryz.ntmps35
  -- @a
  go_wp2_with fail
  -- @b
  go_loopw [3] (fun x wr => ∃ i : Nat, i < n ∧ x = .int .i64 (i : Int) ∧ Gr w wr) (fun x _ => (intOf x).toNat)
  case atStart => exact ⟨n - 1, by omega, by rw [show ((n - 1 : Nat) : Int) = (n : Int) - 1 by omega], Gr.refl _⟩
  case round =>
    obtain ⟨i, hi, rfl, hg⟩ := hrel
    cases i with
    | zero =>
      go_wp2_with fail
      go_ret
      exact ⟨rfl, hg⟩
    | succ q =>
      have a1 := Gr.at hg (HX.out (q + 1) hi).1
      have a0 := Gr.at hg (HX.out q (by omega)).1
      have hle := HS.out q hi
      obtain ⟨x1, hx1⟩ : ∃ x1, X (q + 1) = x1 := ⟨_, rfl⟩
      obtain ⟨x0, hx0⟩ : ∃ x0, X q = x0 := ⟨_, rfl⟩
      rw [hx1] at a1 hle
      rw [hx0] at a0 hle
      have t0 : decide (x1 < x0) = false := by rw [decide_eq_false_iff_not]; omega
      have HLi := Lib.hid (fun W => show Calls Tryz.prog 73 #[.int .i64 x1, .int .i64 x0] W fun e w' => e = .returned (.bool false) ∧ W = w' from by
        have := HL.out x1 x0 W
        rw [t0] at this
        exact this)
      have ib0 : (0 : Int) ≤ ((q + 1 : Nat) : Int) := by omega
      have ib1 : ((q + 1 : Nat) : Int) < (n : Int) := by omega
      have ib2 : (0 : Int) < ((q + 1 : Nat) : Int) := by omega
      have ie : IntKind.i64.wrap (((q + 1 : Nat) : Int) - 1) = (q : Int) := by rw [IntKind.wrap_i64]; omega
      have ic0 : (0 : Int) ≤ (q : Int) := by omega
      have ic1 : (q : Int) < (n : Int) := by omega
      clear HX HS HL hx1 hx0 hle t0
      -- @c
      go_wp2_with fail
      -- @d
      (first | refine name_world ?_ | refine (show (∀ W, W = _ → Calls _ _ _ W _) → Calls _ _ _ _ _ from fun h => h _ rfl) ?_); intro W4 hW4
      have g4 : Gr w W4 := by rw [hW4]; exact gr_auto
      have k4_0 : W4.cell? ⟨b, o + (q + 1), none⟩ = some (.int .i64 x1) := by rw [hW4]; first | (simp [go_sem, *]; done) | (refine Gr.at ?_ (by assumption); exact gr_auto)
      have b4_0 : b < W4.heap.size := World.block_lt_of_cell? _ _ k4_0
      have k4_1 : W4.cell? ⟨b, o + q, none⟩ = some (.int .i64 x0) := by rw [hW4]; first | (simp [go_sem, *]; done) | (refine Gr.at ?_ (by assumption); exact gr_auto)
      clear hW4
      have s4_0 : ∀ gw : GW W4, gw.1.cell? ⟨b, o + (q + 1), none⟩ = some (.int .i64 x1) := fun gw => Gr.at gw.2 k4_0
      have s4_1 : ∀ gw : GW W4, gw.1.cell? ⟨b, o + q, none⟩ = some (.int .i64 x0) := fun gw => Gr.at gw.2 k4_1
      have HC1 := Lib.hid (fun gw : GW W4 => gw_same (HLi.out gw.1))
      refine wp_region_gr (by kernel_rfl) (by kernel_rfl) ?_
      repeat (go_big_quiet_step ((go_at_call 73; exact HC1.out _)))
      refine wpQuiet_nil ?_
      intro w5 hb5
      clear s4_0 s4_1
      have g5 : Gr w w5 := g4.trans hb5
      have k4_0 := Gr.at hb5 k4_0
      have k4_1 := Gr.at hb5 k4_1
      -- @e
      go_wp2_with fail
      go_roundw
      case rel => exact ⟨q, by omega, by first | rfl | go_num, g5⟩
      case measure => simp [intOf]

theorem wch_any (s : Al.SlA) (z : Al.A) (B : Nat) (w : World) (hs : s.At w) (hz : z.At w) (hc : z.Cells w B 0) : Calls Tryz.prog 13 #[.slice s.A s.n s.c, .func (.func 38) #[] #[.pointer (some ⟨B, 0, none⟩)]] w fun e w' => e = .returned (.bool (Ba.any (fun i => Al.eqC (s.D i).con z.con) s.n)) ∧ Gr w w' :=
  has_alm 38 #[.pointer (some ⟨B, 0, none⟩)] s _ w hs (enter_of Tryz.func38 (by kernel_rfl) (by kernel_rfl)) fun i hi W hW => wc_any (s.D i) z B W ((hs.hD i hi).2.at'.gr hW) (hz.gr hW) (hc.gr hW)

set_option maxRecDepth 100000 in
set_option maxHeartbeats 4000000 in
theorem hasc_any (N : Ba.SlNode) (L : Ba.SlLink) (s : Al.SlM) (jp sm tl : Int) (a : Al.A) (RES : Bool) (B1 B2 B3 : Nat) (w : World) (hN : N.At w) (hL : L.At w) (h : s.At w) (ha : a.At w) (hk : Al.gvE (Ba.netB N L && s.vB) (Al.lmO jp sm tl) = 0) (hre : RES = true ↔ a.con ∈ Al.allC N s.lst jp sm)
    (n0 : w.cell? ⟨B1, 0, none⟩ = some (.slice N.A N.n N.c)) (n1 : w.cell? ⟨B1, 1, none⟩ = some (.slice L.A L.n L.c)) (l0 : w.cell? ⟨B2, 0, none⟩ = some (.int .i64 jp)) (l1 : w.cell? ⟨B2, 1, none⟩ = some (.int .i64 sm)) (l2 : w.cell? ⟨B2, 2, none⟩ = some (.int .i64 tl)) (hc : a.Cells w B3 0) :
    Calls Tryz.prog 37 #[.slice s.A s.n s.c, .pointer (some ⟨B1, 0, none⟩), .pointer (some ⟨B2, 0, none⟩), .pointer (some ⟨B3, 0, none⟩)] w fun e w' => e = .returned (.bool RES) ∧ Gr w w' := by
  have HAl := Lib.hid (fun W (hW : Gr w W) => All_ok N L s jp sm tl W (hN.gr hW) (hL.gr hW) (h.gr hW) hk)
  have HCo := Lib.hid (fun (r : Al.SlA) W (hW : Gr w W) (hr : r.At W) (hrc : r.con = Al.allC N s.lst jp sm) => show Calls Tryz.prog 13 #[.slice r.A r.n r.c, .func (.func 38) #[] #[.pointer (some ⟨B3, 0, none⟩)]] W fun e w' => e = .returned (.bool RES) ∧ Gr W w' from by
    have := wch_any r a B3 W hr (ha.gr hW) (hc.gr hW)
    rw [show Ba.any (fun i => Al.eqC (r.D i).con a.con) r.n = RES from by rw [Bool.eq_iff_iff, Al.any_mem, hrc]; exact hre.symm] at this
    exact this)
  have b1 := World.block_lt_of_cell? _ _ n0; have b2 := World.block_lt_of_cell? _ _ l0
  simp only [] at b1 b2
  generalize Al.allC N s.lst jp sm = X1 at *
  clear hN hL h ha hk hre hc
  unfold Ba.netVal at *
  generalize N.A = nA at *; generalize N.n = nn at *; generalize N.c = nc at *; generalize L.A = lA at *; generalize L.n = ln at *; generalize L.c = lc at *
  generalize s.A = sA at *; generalize s.n = sn at *; generalize s.c = sc at *
  go_enter Tryz.func37, Tryz.ntmps37
  -- @a
  go_wp2_with fail
  -- @b
  refine (HAl.out _ gr_auto).mono ?_
  intro e w2 hR; obtain ⟨r, rfl, hr, hcr, hb⟩ := hR.at; clear hR
  have g2 : Gr w w2 := gr_auto
  have HQ := Lib.hid (HCo.out r w2 g2 hr hcr)
  clear hb hr hcr HAl HCo n0 n1 l0 l1 l2
  -- @c
  go_wp2_with fail
  refine HQ.out.mono ?_
  rintro e w3 ⟨rfl, hb⟩
  have g3 := g2.trans hb
  clear hb HQ
  go_wp2_with fail
  go_ret
  exact ⟨rfl, g3⟩

set_option maxRecDepth 100000 in
set_option maxHeartbeats 4000000 in
theorem cores_few (N : Ba.SlNode) (L : Ba.SlLink) (s : Al.SlM) (jp sm tl k j : Int) (w : World) (hN : N.At w) (hL : L.At w) (h : s.At w) (hk8 : 0 ≤ k ∧ k ≤ 255) (hj8 : 0 ≤ j ∧ j ≤ 255) (hf : Al.fewB N.n L.n s.n (Al.lngB s) = false) : Calls Tryz.prog 7 #[Ba.netVal N L, .slice s.A s.n s.c, .agg #[.int .i64 jp, .int .i64 sm, .int .i64 tl], .int .u8 k, .int .u8 j] w fun e w' => e = .returned (.bool true) ∧ Gr w w' := by
  have HAw := Lib.hid (fun W => awake_any W)
  have HFe := Lib.hid (fun W (hW : Gr w W) => few_any N L s W (hN.gr hW) (hL.gr hW) (h.gr hW))
  rw [hf] at HFe
  clear hN hL h hf
  unfold Ba.netVal at *
  generalize N.A = nA at *; generalize N.n = nn at *; generalize N.c = nc at *; generalize L.A = lA at *; generalize L.n = ln at *; generalize L.c = lc at *
  generalize s.A = sA at *; generalize s.n = sn at *; generalize s.c = sc at *
  go_enter Tryz.func7, Tryz.ntmps7
  go_wp2_with fail
  refine (HAw.out _).mono ?_
  rintro e w1 ⟨rfl, hb⟩
  have g : Gr w w1 := gr_auto
  have q0 := Gr.at (show Gr _ w1 from hb) (show World.cell? _ ⟨w.heap.size, 0, none⟩ = some (.slice nA nn nc) from by simp [go_sem])
  have q1 := Gr.at (show Gr _ w1 from hb) (show World.cell? _ ⟨w.heap.size, 1, none⟩ = some (.slice lA ln lc) from by simp [go_sem])
  have q2 := Gr.at (show Gr _ w1 from hb) (show World.cell? _ ⟨w.heap.size + 1, 0, none⟩ = some (.int .i64 jp) from by simp [go_sem])
  have q3 := Gr.at (show Gr _ w1 from hb) (show World.cell? _ ⟨w.heap.size + 1, 1, none⟩ = some (.int .i64 sm) from by simp [go_sem])
  have q4 := Gr.at (show Gr _ w1 from hb) (show World.cell? _ ⟨w.heap.size + 1, 2, none⟩ = some (.int .i64 tl) from by simp [go_sem])
  clear hb HAw
  go_wp2_with fail
  refine (HFe.out _ g).mono ?_
  rintro e w2 ⟨rfl, hb⟩
  replace q0 := Gr.at hb q0
  replace q1 := Gr.at hb q1
  replace q2 := Gr.at hb q2
  replace q3 := Gr.at hb q3
  replace q4 := Gr.at hb q4
  replace g := g.trans hb
  clear hb
  go_wp2_with fail
  go_ret
  exact ⟨rfl, g⟩

set_option maxRecDepth 100000 in
set_option maxHeartbeats 4000000 in
theorem cores_no (N : Ba.SlNode) (L : Ba.SlLink) (s : Al.SlM) (jp sm tl k j : Int) (w : World) (hN : N.At w) (hL : L.At w) (h : s.At w) (hk8 : 0 ≤ k ∧ k ≤ 255) (hj8 : 0 ≤ j ∧ j ≤ 255) (hf : Al.fewB N.n L.n s.n (Al.lngB s) = true) (k1 : Int) (hk : Al.gvE (Ba.netB N L && s.vB) (Al.lmO jp sm tl) = k1) (hk0 : k1 ≠ 0) : Calls Tryz.prog 7 #[Ba.netVal N L, .slice s.A s.n s.c, .agg #[.int .i64 jp, .int .i64 sm, .int .i64 tl], .int .u8 k, .int .u8 j] w fun e w' => e = .returned (.bool true) ∧ Gr w w' := by
  have HAw := Lib.hid (fun W => awake_any W)
  have HFe := Lib.hid (fun W (hW : Gr w W) => few_any N L s W (hN.gr hW) (hL.gr hW) (h.gr hW))
  rw [hf] at HFe
  have HAl := Lib.hid (fun W (hW : Gr w W) => All_no N L s jp sm tl W (hN.gr hW) (hL.gr hW) (h.gr hW) k1 hk hk0)
  have t0 : (k1 != 0) = true := bne_iff_ne.2 hk0
  clear hk hk0
  clear hN hL h hf
  unfold Ba.netVal at *
  generalize N.A = nA at *; generalize N.n = nn at *; generalize N.c = nc at *; generalize L.A = lA at *; generalize L.n = ln at *; generalize L.c = lc at *
  generalize s.A = sA at *; generalize s.n = sn at *; generalize s.c = sc at *
  go_enter Tryz.func7, Tryz.ntmps7
  go_wp2_with fail
  refine (HAw.out _).mono ?_
  rintro e w1 ⟨rfl, hb⟩
  have g : Gr w w1 := gr_auto
  have q0 := Gr.at (show Gr _ w1 from hb) (show World.cell? _ ⟨w.heap.size, 0, none⟩ = some (.slice nA nn nc) from by simp [go_sem])
  have q1 := Gr.at (show Gr _ w1 from hb) (show World.cell? _ ⟨w.heap.size, 1, none⟩ = some (.slice lA ln lc) from by simp [go_sem])
  have q2 := Gr.at (show Gr _ w1 from hb) (show World.cell? _ ⟨w.heap.size + 1, 0, none⟩ = some (.int .i64 jp) from by simp [go_sem])
  have q3 := Gr.at (show Gr _ w1 from hb) (show World.cell? _ ⟨w.heap.size + 1, 1, none⟩ = some (.int .i64 sm) from by simp [go_sem])
  have q4 := Gr.at (show Gr _ w1 from hb) (show World.cell? _ ⟨w.heap.size + 1, 2, none⟩ = some (.int .i64 tl) from by simp [go_sem])
  clear hb HAw
  go_wp2_with fail
  refine (HFe.out _ g).mono ?_
  rintro e w2 ⟨rfl, hb⟩
  replace q0 := Gr.at hb q0
  replace q1 := Gr.at hb q1
  replace q2 := Gr.at hb q2
  replace q3 := Gr.at hb q3
  replace q4 := Gr.at hb q4
  replace g := g.trans hb
  clear hb
  go_wp2_with fail
  refine (HAl.out _ g).mono ?_
  intro e w3 hR; obtain ⟨A1, c1, rfl, hb⟩ := hR.nil; clear hR
  replace q0 := Gr.at hb q0
  replace q1 := Gr.at hb q1
  replace q2 := Gr.at hb q2
  replace q3 := Gr.at hb q3
  replace q4 := Gr.at hb q4
  replace g := g.trans hb
  clear hb
  go_wp2_with fail
  go_ret
  exact ⟨rfl, g⟩

set_option maxRecDepth 100000 in
set_option maxHeartbeats 4000000 in
theorem cores_nil (N : Ba.SlNode) (L : Ba.SlLink) (s : Al.SlM) (jp sm tl k j : Int) (w : World) (hN : N.At w) (hL : L.At w) (h : s.At w) (hk8 : 0 ≤ k ∧ k ≤ 255) (hj8 : 0 ≤ j ∧ j ≤ 255) (hf : Al.fewB N.n L.n s.n (Al.lngB s) = true) (hk : Al.gvE (Ba.netB N L && s.vB) (Al.lmO jp sm tl) = 0) (hX : Al.allC N s.lst jp sm = []) : Calls Tryz.prog 7 #[Ba.netVal N L, .slice s.A s.n s.c, .agg #[.int .i64 jp, .int .i64 sm, .int .i64 tl], .int .u8 k, .int .u8 j] w fun e w' => e = .returned (.bool true) ∧ Gr w w' := by
  have HAw := Lib.hid (fun W => awake_any W)
  have HFe := Lib.hid (fun W (hW : Gr w W) => few_any N L s W (hN.gr hW) (hL.gr hW) (h.gr hW))
  rw [hf] at HFe
  have HAl := Lib.hid (fun W (hW : Gr w W) => All_ok N L s jp sm tl W (hN.gr hW) (hL.gr hW) (h.gr hW) hk)
  rw [hX] at HAl
  clear hk hX
  clear hN hL h hf
  unfold Ba.netVal at *
  generalize N.A = nA at *; generalize N.n = nn at *; generalize N.c = nc at *; generalize L.A = lA at *; generalize L.n = ln at *; generalize L.c = lc at *
  generalize s.A = sA at *; generalize s.n = sn at *; generalize s.c = sc at *
  go_enter Tryz.func7, Tryz.ntmps7
  go_wp2_with fail
  refine (HAw.out _).mono ?_
  rintro e w1 ⟨rfl, hb⟩
  have g : Gr w w1 := gr_auto
  have q0 := Gr.at (show Gr _ w1 from hb) (show World.cell? _ ⟨w.heap.size, 0, none⟩ = some (.slice nA nn nc) from by simp [go_sem])
  have q1 := Gr.at (show Gr _ w1 from hb) (show World.cell? _ ⟨w.heap.size, 1, none⟩ = some (.slice lA ln lc) from by simp [go_sem])
  have q2 := Gr.at (show Gr _ w1 from hb) (show World.cell? _ ⟨w.heap.size + 1, 0, none⟩ = some (.int .i64 jp) from by simp [go_sem])
  have q3 := Gr.at (show Gr _ w1 from hb) (show World.cell? _ ⟨w.heap.size + 1, 1, none⟩ = some (.int .i64 sm) from by simp [go_sem])
  have q4 := Gr.at (show Gr _ w1 from hb) (show World.cell? _ ⟨w.heap.size + 1, 2, none⟩ = some (.int .i64 tl) from by simp [go_sem])
  clear hb HAw
  go_wp2_with fail
  refine (HFe.out _ g).mono ?_
  rintro e w2 ⟨rfl, hb⟩
  replace q0 := Gr.at hb q0
  replace q1 := Gr.at hb q1
  replace q2 := Gr.at hb q2
  replace q3 := Gr.at hb q3
  replace q4 := Gr.at hb q4
  replace g := g.trans hb
  clear hb
  go_wp2_with fail
  refine (HAl.out _ g).mono ?_
  intro e w3 hR; obtain ⟨A1, c1, rfl, hb⟩ := hR.nil; clear hR
  replace q0 := Gr.at hb q0
  replace q1 := Gr.at hb q1
  replace q2 := Gr.at hb q2
  replace q3 := Gr.at hb q3
  replace q4 := Gr.at hb q4
  replace g := g.trans hb
  clear hb
  go_wp2_with fail
  go_ret
  exact ⟨rfl, g⟩

set_option maxRecDepth 100000 in
set_option maxHeartbeats 4000000 in
theorem cores_main (N : Ba.SlNode) (L : Ba.SlLink) (s : Al.SlM) (jp sm tl k j : Int) (w : World) (hN : N.At w) (hL : L.At w) (h : s.At w) (hk8 : 0 ≤ k ∧ k ≤ 255) (hj8 : 0 ≤ j ∧ j ≤ 255) (hf : Al.fewB N.n L.n s.n (Al.lngB s) = true) (hk : Al.gvE (Ba.netB N L && s.vB) (Al.lmO jp sm tl) = 0) (hX0 : Al.allC N s.lst jp sm ≠ []) : Calls Tryz.prog 7 #[Ba.netVal N L, .slice s.A s.n s.c, .agg #[.int .i64 jp, .int .i64 sm, .int .i64 tl], .int .u8 k, .int .u8 j] w fun e w' => e = .returned (.bool true) ∧ Gr w w' := by
  have HAw := Lib.hid (fun W => awake_any W)
  have HFe := Lib.hid (fun W (hW : Gr w W) => few_any N L s W (hN.gr hW) (hL.gr hW) (h.gr hW))
  rw [hf] at HFe
  have hok : (Ba.netB N L && s.vB) = true ∧ Al.lmO jp sm tl = true := by
    unfold Al.gvE at hk
    split at hk
    · rename_i q
      split at hk
      · rename_i r; exact ⟨q, r⟩
      · exact absurd hk (by decide)
    · exact absurd hk (by decide)
  have hok1 := hok.1
  rw [Bool.and_eq_true] at hok1
  have hvl := (Al.vB_iff s).1 hok1.2
  have hsn := Al.vB_len hok1.2
  have HAl := Lib.hid (fun W (hW : Gr w W) => All_ok N L s jp sm tl W (hN.gr hW) (hL.gr hW) (h.gr hW) hk)
  have HCo := Lib.hid (fun (a : Al.A) W (hW : Gr w W) (ha : a.At W) (hm : a.con ∈ Al.allC N s.lst jp sm) => Core_ok N L s jp sm tl a W (hN.gr hW) (hL.gr hW) (h.gr hW) ha hk hm)
  have HHas := Lib.hid (fun (a : Al.A) (t : Al.SlM) (RES : Bool) (B1 B2 B3 : Nat) W (hW : Gr w W) (ht : t.At W) (hv : Al.vL t.lst) (ha : a.At W) (hre : RES = true ↔ a.con ∈ Al.allC N t.lst jp sm) => hasc_any N L t jp sm tl a RES B1 B2 B3 W (hN.gr hW) (hL.gr hW) ht ha (by rw [hok1.1, (Al.vB_iff t).2 hv, hok.2]; rfl) hre)
  have HF := Lib.hid (fun (c : Al.C) (hm : c ∈ Al.allC N s.lst jp sm) => show (Al.cix c s.D s.n).length = c.bc.length ∧ c.bc ≠ [] ∧ (Al.cix c s.D s.n).map s.D = Al.aloC c s.lst ∧ c ∈ Al.allC N (Al.aloC c s.lst) jp sm ∧ (∀ i, i < c.bc.length → c ∉ Al.allC N ((Al.aloC c s.lst).eraseIdx i) jp sm) from by
    have h1 := Al.core_len hvl.2.2 hm
    have h2 : (Al.cix c s.D s.n).map s.D = Al.aloC c s.lst := Al.idxP_map s.D (Al.inC c) s.n
    refine ⟨?_, h1.2, h2, Al.core_alone hvl.2.2 hm, fun i hi => Al.core_less hvl.2.2 hm ?_⟩
    · rw [← h1.1, ← h2, List.length_map]
    · rw [List.length_eraseIdx_of_lt (by rw [h1.1]; exact hi)]
      have : 0 < (Al.aloC c s.lst).length := by rw [h1.1]; omega
      omega)
  have HQp := Lib.hid (fun (c : Al.C) q (hq : q ∈ Al.cix c s.D s.n) => show q < s.n ∧ Al.inC c (s.D q) = true from Al.idxP_lt hq)
  have HQs := Lib.hid (fun (c : Al.C) => show (Al.cix c s.D s.n).Pairwise (· < ·) from Al.idxP_sorted _ _)
  have HV := Lib.hid (fun (l : List Al.M) (hl : l.Sublist s.lst) => hvl.sub hl)
  have HOk := Lib.hid (fun m (hm : m ∈ s.lst) => show m.Ok from by
    obtain ⟨i, hi, rfl⟩ := List.mem_map.1 hm
    exact (h.hD i (List.mem_range.1 hi)).2)
  have hlx : 0 < (Al.allC N s.lst jp sm).length := List.length_pos_iff.2 hX0
  have HA := Lib.hid h.hA; have HX := Lib.hid h.hD
  have hsc := h.hc; have hsb := h.hb
  obtain ⟨LST, hLST⟩ : ∃ LST, s.lst = LST := ⟨_, rfl⟩
  rw [hLST] at HAl HCo HF HV HOk hlx
  obtain ⟨X1, hX1⟩ : ∃ X1, Al.allC N LST jp sm = X1 := ⟨_, rfl⟩
  rw [hX1] at HAl HCo HF hlx
  clear hX0 hX1 hLST hN hL h hf hk hok hok1 hvl
  unfold Ba.netVal at *
  generalize N.A = nA at *; generalize N.n = nn at *; generalize N.c = nc at *; generalize L.A = lA at *; generalize L.n = ln at *; generalize L.c = lc at *
  cases s with | mk sA sn sc sb so D =>
  simp only [] at *
  obtain ⟨i1, k0, k1, k2, k3⟩ := info_parts infoM
  have KI := Lib.hid k0; have KZ0 := Lib.hid k1; have KZ1 := Lib.hid k2; have KZ2 := Lib.hid k3
  clear k0 k1 k2 k3
  go_enter Tryz.func7, Tryz.ntmps7
  go_wp2_with fail
  refine (HAw.out _).mono ?_
  rintro e w1 ⟨rfl, hb⟩
  have g : Gr w w1 := gr_auto
  have q0 := Gr.at (show Gr _ w1 from hb) (show World.cell? _ ⟨w.heap.size, 0, none⟩ = some (.slice nA nn nc) from by simp [go_sem])
  have q1 := Gr.at (show Gr _ w1 from hb) (show World.cell? _ ⟨w.heap.size, 1, none⟩ = some (.slice lA ln lc) from by simp [go_sem])
  have q2 := Gr.at (show Gr _ w1 from hb) (show World.cell? _ ⟨w.heap.size + 1, 0, none⟩ = some (.int .i64 jp) from by simp [go_sem])
  have q3 := Gr.at (show Gr _ w1 from hb) (show World.cell? _ ⟨w.heap.size + 1, 1, none⟩ = some (.int .i64 sm) from by simp [go_sem])
  have q4 := Gr.at (show Gr _ w1 from hb) (show World.cell? _ ⟨w.heap.size + 1, 2, none⟩ = some (.int .i64 tl) from by simp [go_sem])
  clear hb HAw
  go_wp2_with fail
  refine (HFe.out _ g).mono ?_
  rintro e w2 ⟨rfl, hb⟩
  replace q0 := Gr.at hb q0
  replace q1 := Gr.at hb q1
  replace q2 := Gr.at hb q2
  replace q3 := Gr.at hb q3
  replace q4 := Gr.at hb q4
  replace g := g.trans hb
  clear hb
  go_wp2_with fail
  refine (HAl.out _ g).mono ?_
  intro e w3 hR; obtain ⟨r1, rfl, hr, hc1, hb⟩ := hR.at; clear hR
  replace q0 := Gr.at hb q0
  replace q1 := Gr.at hb q1
  replace q2 := Gr.at hb q2
  replace q3 := Gr.at hb q3
  replace q4 := Gr.at hb q4
  replace g := g.trans hb
  clear hb
  have HR1 := Lib.hid hr; have HC1 := Lib.hid hc1; clear hr hc1
  have hr1n : 0 < r1.n := by have e2 := r1.con_len; rw [HC1.out] at e2; omega
  obtain ⟨x, hx⟩ : ∃ x : Nat, k % (r1.n : Int) = (x : Int) := ⟨(k % (r1.n : Int)).toNat, by have := Int.emod_nonneg k (show (r1.n : Int) ≠ 0 by omega); omega⟩
  have hxl : x < r1.n := by have := Int.emod_lt_of_pos k (show (0 : Int) < r1.n by omega); omega
  have hx2 : Int.tmod k (r1.n : Int) = (x : Int) := by rw [Int.tmod_eq_emod_of_nonneg hk8.1]; exact hx
  have hne : ¬ (r1.n : Int) = 0 := by omega
  have t1 : ((r1.n : Int) == 0) = false := beq_eq_false_iff_ne.2 hne
  have hr1A := HR1.out.hA hr1n; have hr1c := HR1.out.hc; have hr1b := HR1.out.hb
  obtain ⟨⟨a0, a1, a2, a3⟩, hao⟩ := HR1.out.hD x hxl
  have hmem : (r1.D x).con ∈ X1 := HC1.out ▸ Al.conA_mem hxl
  have ix0 : (0 : Int) ≤ (x : Int) := by omega
  have ix1 : (x : Int) < (r1.n : Int) := by omega
  have br1 := World.block_lt_of_cell? _ _ a0
  have HCa := Lib.hid (fun W (hW : Gr w3 W) => HCo.out (r1.D x) W (g.trans hW) (hao.at'.gr hW) hmem)
  have HHa := Lib.hid (fun (t : Al.SlM) (RES : Bool) (B1 B2 B3 : Nat) W (hW : Gr w3 W) (ht : t.At W) hv hre => HHas.out (r1.D x) t RES B1 B2 B3 W (g.trans hW) ht hv (hao.at'.gr hW) hre)
  have HIa := Lib.hid (fun y W (hW : Gr w3 W) => show Calls Tryz.prog 36 #[.slice (r1.D x).p (r1.D x).n (r1.D x).c, .int .i64 y] W fun e w' => e = .returned (.bool ((r1.D x).con.bc.contains y)) ∧ Gr W w' from by
    have := hasi_any (r1.D x) y W (hao.at'.gr hW)
    rw [Al.hasi_bc] at this
    exact this)
  obtain ⟨f1, f2, f3, f4, f5⟩ := HF.out _ hmem
  have hQl : (Al.cix (r1.D x).con D sn).length ≤ sn := Al.idxP_len _ _
  have han := Al.conA_bc (r1.D x)
  rw [han] at f1 f5
  have HQp' := Lib.hid (HQp.out (r1.D x).con); have HQs' := Lib.hid (HQs.out (r1.D x).con)
  have hcn : (r1.D x).con.nd = (r1.D x).nd := rfl
  have HIn := Lib.hid (fun m => show Al.inC (r1.D x).con m = (Ba.eqS m.nd (r1.D x).nd && (r1.D x).con.bc.contains m.nu) from rfl)
  have hn0 : 0 < (r1.D x).n := by
    rw [← han]; exact List.length_pos_iff.2 f2
  have HF3 := Lib.hid f3; have HF4 := Lib.hid f4; have HF5 := Lib.hid f5
  have HSub := Lib.hid (show (Al.aloC (r1.D x).con LST).Sublist LST from List.filter_sublist)
  clear HCo HHas HF HQp HQs f2 f3 f4 f5 han hmem hcn hao HR1 HC1 hlx hr1n
  unfold Al.A.Cells at HHa
  simp only [Nat.zero_add] at HHa
  generalize Al.aloC (r1.D x).con LST = ALO at *
  generalize (r1.D x).con.bc = BC at *
  generalize (r1.D x).con = AC at *
  generalize Al.cix AC D sn = Q at *
  generalize r1.D x = a at *
  cases r1 with | mk rA rn rc rb ro rD =>
  simp only [] at *
  subst hr1A
  clear rD
  cases a with | mk akd and_ atm ap ab ao an ac aX =>
  simp only [] at *
  -- @a
  go_upto_region 9 with fail
  -- @b
  refine name_world ?_
  intro W4 hW4
  have g4 : Gr w3 W4 := by rw [hW4]; exact gr_auto
  have q5 : W4.cell? ⟨w3.heap.size, 0, none⟩ = some (.int .i64 akd) := by rw [hW4]; simp [go_sem]
  have q6 : W4.cell? ⟨w3.heap.size, 1, none⟩ = some (.string and_) := by rw [hW4]; simp [go_sem]
  have q7 : W4.cell? ⟨w3.heap.size, 2, none⟩ = some (.int .i64 atm) := by rw [hW4]; simp [go_sem]
  have q8 : W4.cell? ⟨w3.heap.size, 3, none⟩ = some (.slice ap an ac) := by rw [hW4]; simp [go_sem]
  obtain ⟨BA, hBA⟩ : ∃ BA, BA = w3.heap.size := ⟨_, rfl⟩
  rw [← hBA] at q5 q6 q7 q8
  try rw [← hBA]
  replace q0 := Gr.at g4 q0
  replace q1 := Gr.at g4 q1
  replace q2 := Gr.at g4 q2
  replace q3 := Gr.at g4 q3
  replace q4 := Gr.at g4 q4
  have gz := g4
  replace g := g.trans g4
  clear hW4 hBA g4 a0 a1 a2 a3 hx hx2 ix0 ix1 hne t1 br1
  -- @c
  go_wp2_with fail
  refine (HCa.out _ gz).mono ?_
  intro e w5 hR; obtain ⟨d, rfl, hd1, hd2, hd3, hb⟩ := hR
  replace q0 := Gr.at hb q0
  replace q1 := Gr.at hb q1
  replace q2 := Gr.at hb q2
  replace q3 := Gr.at hb q3
  replace q4 := Gr.at hb q4
  replace q5 := Gr.at hb q5
  replace q6 := Gr.at hb q6
  replace q7 := Gr.at hb q7
  replace q8 := Gr.at hb q8
  replace g := g.trans hb
  replace gz := gz.trans hb
  clear hb
  have hd0 : 0 < d.n := by omega
  have HSo := Lib.hid (sorted_any d w5 hd1 hd0 (fun i hi => by
    rw [hd3 i (by omega), hd3 (i + 1) (by omega)]
    have := List.pairwise_iff_getElem.1 HQs'.out i (i + 1) (by omega) (by omega) (by omega)
    omega))
  have hdA := hd1.hA hd0; have hdc := hd1.hc; have hdb := hd1.hb
  have c0 := (hd1.hX 0 hd0).1
  have c9 := (hd1.hX (d.n - 1) (by omega)).1
  rw [hd3 0 (by omega)] at c0
  rw [hd3 (d.n - 1) (by omega)] at c9
  obtain ⟨u0, hu0⟩ : ∃ u0, Q[0]'(by omega) = u0 := ⟨_, rfl⟩
  obtain ⟨u9, hu9⟩ : ∃ u9, Q[d.n - 1]'(by omega) = u9 := ⟨_, rfl⟩
  rw [hu0] at c0
  rw [hu9] at c9
  have hu9l : u9 < sn := by rw [← hu9]; exact (HQp'.out _ (List.getElem_mem _)).1
  have HDX := Lib.hid (fun i (hi : i < d.n) => show ∃ q, Q[i]? = some q ∧ w5.cell? ⟨d.b, d.o + i, none⟩ = some (.int .i64 (q : Int)) from ⟨_, List.getElem?_eq_getElem (by omega), by rw [← hd3 i (by omega)]; exact (hd1.hX i hi).1⟩)
  clear hu0 hu9 hd3 hd1 HQs'
  cases d with | mk dA dn dc db do_ dX =>
  simp only [Nat.add_zero] at *
  subst hdA
  clear dX
  obtain rfl : dn = an := by omega
  have HQL := Lib.hid hd2
  have hdn : dn ≤ 10000 := by omega
  clear hd2 f1 hQl
  have tn0 : ¬ (dn : Int) = 0 := by omega
  have tn1 : ((dn : Int) == 0) = false := beq_eq_false_iff_ne.2 tn0
  have te1 : ((dn : Int) != (dn : Int)) = false := by simp
  have tu0 : decide ((u0 : Int) < 0) = false := by rw [decide_eq_false_iff_not]; omega
  have ie9 : IntKind.i64.wrap ((dn : Int) - 1) = ((dn - 1 : Nat) : Int) := by rw [IntKind.wrap_i64]; omega
  have tu9 : decide ((sn : Int) ≤ (u9 : Int)) = false := by rw [decide_eq_false_iff_not]; omega
  have tu9n : decide (sn ≤ u9) = false := by rw [decide_eq_false_iff_not]; omega
  have ib0 : (0 : Int) ≤ ((dn - 1 : Nat) : Int) := by omega
  have ib1 : ((dn - 1 : Nat) : Int) < (dn : Int) := by omega
  have ib2 : (0 : Int) < (dn : Int) := by omega
  -- @d
  go_wp2_with fail
  -- @e
  refine HSo.out.mono ?_
  rintro e w6 ⟨rfl, hb⟩
  replace q0 := Gr.at hb q0
  replace q1 := Gr.at hb q1
  replace q2 := Gr.at hb q2
  replace q3 := Gr.at hb q3
  replace q4 := Gr.at hb q4
  replace q5 := Gr.at hb q5
  replace q6 := Gr.at hb q6
  replace q7 := Gr.at hb q7
  replace q8 := Gr.at hb q8
  replace c0 := Gr.at hb c0
  replace c9 := Gr.at hb c9
  have HDX' := Lib.hid (fun i (hi : i < dn) => show ∃ q, Q[i]? = some q ∧ w6.cell? ⟨db, do_ + i, none⟩ = some (.int .i64 (q : Int)) from let ⟨q, h1, h2⟩ := HDX.out i hi; ⟨q, h1, Gr.at hb h2⟩)
  replace gz := gz.trans hb
  replace g := g.trans hb
  clear hb HSo HDX
  -- @f
  go_wp2_with fail
  -- @g
  refine name_world ?_
  intro W7 hW7
  obtain rfl : W7 = w6 := hW7
  clear c0 c9 hu9l
  go_loopw [16, 99] (fun v y wr => ∃ i : Nat, i ≤ dn ∧ y = .int .i64 (i : Int) ∧ Hid (wr.ownsRow W7.heap.size 57 5 v ((Q.take i).map D).length (Al.flat ((Q.take i).map D))) ∧ Gr W7 wr) (fun _ y _ => dn - (intOf y).toNat)
  case atStart => exact ⟨0, Nat.zero_le _, rfl, Lib.hid (World.ownsRow_nil _ _ _ _), Gr.refl _⟩
  case round =>
    obtain ⟨i, hi, rfl, HO, hg2⟩ := hrel
    have gw := g.trans hg2
    have gzw := gz.trans hg2
    by_cases hlt : i < dn
    · obtain ⟨q, hq1, hq2⟩ := HDX'.out i hlt
      replace hq2 := Gr.at hg2 hq2
      have hqm : q ∈ Q := List.mem_of_getElem? hq1
      obtain ⟨hqn, hqi⟩ := HQp'.out q hqm
      have hsA := HA.out (by omega)
      subst hsA
      obtain ⟨m0, m1, m2, m3, m4⟩ := (HX.out q hqn).1.gr gw
      have HN := Lib.hid (show (Q.take (i + 1)).map D = (Q.take i).map D ++ [D q] from by rw [List.take_add_one, hq1, List.map_append]; rfl)
      have hll : ((Q.take i).map D).length ≤ i := by rw [List.length_map, List.length_take]; omega
      have HIq := Lib.hid (fun W (hW : Gr wr W) => HIa.out (D q).nu W (gzw.trans hW))
      rw [HIn.out (D q), Bool.and_eq_true] at hqi
      rw [hqi.2] at HIq
      have hnd : (D q).nd = and_ := (Al.eqS_iff' _ _).1 hqi.1
      rw [hnd] at m0
      obtain ⟨mv, hmv⟩ : ∃ mv, D q = mv := ⟨_, rfl⟩
      rw [hmv] at m1 m2 m3 m4 HN HIq hnd
      have HNd := Lib.hid hnd
      clear hqi hnd hmv HX HA HIa HIn HQp' HDX' hqm hq1
      obtain ⟨LO, hLO⟩ : ∃ LO, (Q.take i).map D = LO := ⟨_, rfl⟩
      rw [hLO] at HN HO hll
      clear hLO
      replace q6 := Gr.at hg2 q6; replace q8 := Gr.at hg2 q8
      have jb0 : (0 : Int) ≤ (i : Int) := by omega
      have jb1 : (i : Int) < (dn : Int) := by omega
      have iq0 : (0 : Int) ≤ (q : Int) := by omega
      have iq1 : (q : Int) < (sn : Int) := by omega
      have bN : sb < wr.heap.size := World.block_lt_of_cell? _ _ m0
      have bB : BA < wr.heap.size := World.block_lt_of_cell? _ _ q6
      have hz := Gr.size hg2
      have hss : (and_.toList != and_.toList) = false := by simp
      have hst : (and_.toList == and_.toList) = true := by simp
      clear q0 q1 q2 q3 q4 q5 q7
      -- @h
      go_wp2_with fail
      -- @i
      (first | refine name_world ?_ | refine (show (∀ W, W = _ → Calls _ _ _ W _) → Calls _ _ _ _ _ from fun h => h _ rfl) ?_); intro W8 hW8
      have g8 : Gr w W8 := by rw [hW8]; exact gr_auto
      have gb8_wr : Gr wr W8 := by (try clear g8); rw [hW8]; exact gr_auto
      have k8_0 : W8.cell? ⟨sb, so + q * 5, none⟩ = some (.string and_) := by rw [hW8]; first | (simp [go_sem, *]; done) | (refine Gr.at ?_ (by assumption); exact gr_auto)
      have b8_0 : sb < W8.heap.size := World.block_lt_of_cell? _ _ k8_0
      have k8_1 : W8.cell? ⟨sb, so + q * 5 + 1, none⟩ = some (.int .i64 mv.nu) := by rw [hW8]; first | (simp [go_sem, *]; done) | (refine Gr.at ?_ (by assumption); exact gr_auto)
      have k8_2 : W8.cell? ⟨sb, so + q * 5 + 2, none⟩ = some (.int .i64 mv.tm) := by rw [hW8]; first | (simp [go_sem, *]; done) | (refine Gr.at ?_ (by assumption); exact gr_auto)
      have k8_3 : W8.cell? ⟨sb, so + q * 5 + 3, none⟩ = some (.int .i64 mv.ar) := by rw [hW8]; first | (simp [go_sem, *]; done) | (refine Gr.at ?_ (by assumption); exact gr_auto)
      have k8_4 : W8.cell? ⟨sb, so + q * 5 + 4, none⟩ = some (.int .i64 mv.lv) := by rw [hW8]; first | (simp [go_sem, *]; done) | (refine Gr.at ?_ (by assumption); exact gr_auto)
      have k8_5 : W8.cell? ⟨BA, 1, none⟩ = some (.string and_) := by rw [hW8]; first | (simp [go_sem, *]; done) | (refine Gr.at ?_ (by assumption); exact gr_auto)
      have b8_5 : BA < W8.heap.size := World.block_lt_of_cell? _ _ k8_5
      have k8_6 : W8.cell? ⟨BA, 3, none⟩ = some (.slice ap dn ac) := by rw [hW8]; first | (simp [go_sem, *]; done) | (refine Gr.at ?_ (by assumption); exact gr_auto)
      clear hW8
      have s8_0 : ∀ gw : GW W8, gw.1.cell? ⟨sb, so + q * 5, none⟩ = some (.string and_) := fun gw => Gr.at gw.2 k8_0
      have s8_1 : ∀ gw : GW W8, gw.1.cell? ⟨sb, so + q * 5 + 1, none⟩ = some (.int .i64 mv.nu) := fun gw => Gr.at gw.2 k8_1
      have s8_2 : ∀ gw : GW W8, gw.1.cell? ⟨sb, so + q * 5 + 2, none⟩ = some (.int .i64 mv.tm) := fun gw => Gr.at gw.2 k8_2
      have s8_3 : ∀ gw : GW W8, gw.1.cell? ⟨sb, so + q * 5 + 3, none⟩ = some (.int .i64 mv.ar) := fun gw => Gr.at gw.2 k8_3
      have s8_4 : ∀ gw : GW W8, gw.1.cell? ⟨sb, so + q * 5 + 4, none⟩ = some (.int .i64 mv.lv) := fun gw => Gr.at gw.2 k8_4
      have s8_5 : ∀ gw : GW W8, gw.1.cell? ⟨BA, 1, none⟩ = some (.string and_) := fun gw => Gr.at gw.2 k8_5
      have s8_6 : ∀ gw : GW W8, gw.1.cell? ⟨BA, 3, none⟩ = some (.slice ap dn ac) := fun gw => Gr.at gw.2 k8_6
      have HC1 := Lib.hid (fun gw : GW W8 => gw_call (HIq.out gw.1 (gb8_wr.trans gw.2)))
      refine wp_region_gr (by kernel_rfl) (by kernel_rfl) ?_
      repeat (go_big_quiet_step ((go_at_call 36; exact HC1.out _)))
      refine wpQuiet_nil ?_
      intro w9 hb9
      clear s8_0 s8_1 s8_2 s8_3 s8_4 s8_5 s8_6
      have g9 : Gr w w9 := g8.trans hb9
      have k8_0 := Gr.at hb9 k8_0
      have k8_1 := Gr.at hb9 k8_1
      have k8_2 := Gr.at hb9 k8_2
      have k8_3 := Gr.at hb9 k8_3
      have k8_4 := Gr.at hb9 k8_4
      have k8_5 := Gr.at hb9 k8_5
      have k8_6 := Gr.at hb9 k8_6
      have g9r : Gr wr w9 := gb8_wr.trans hb9
      have hz9 := Gr.size g9r
      clear HIq
      -- @j
      go_wp2_with (at_builtin; refine wpList_append_own _ rfl _ _ 22 rfl W7.heap.size 57 i1 (.agg #[.string ⟨#[]⟩, .int .i64 0, .int .i64 0, .int .i64 0, .int .i64 0]) 5 48 Tryz.underlying22 KI.out KZ0.out KZ1.out KZ2.out rfl (by decide) _ _ _ rfl (ownsRow_gr HO.out (g9r.trans (by exact gr_auto))) ⟨w9.heap.size, 0, none⟩ 1 1 [.string and_, .int .i64 mv.nu, .int .i64 mv.tm, .int .i64 mv.ar, .int .i64 mv.lv] rfl rfl (by intro p u hp; rcases p with _ | _ | _ | _ | _ | p <;> simp at hp <;> (try subst hp) <;> first | (simp [Addr.add, go_sem]; done) | (simp [Addr.add]; done)) (by intro u hu; simp at hu; rcases hu with rfl | rfl | rfl | rfl | rfl <;> rfl) (by unfold maxLen; omega) (by omega) (by simp; omega) ?_)
      intro v' w10 hown' hgrow hnil
      have HP := Lib.hid (show w10.ownsRow W7.heap.size 57 5 v' ((Q.take (i + 1)).map D).length (Al.flat ((Q.take (i + 1)).map D)) from by rw [HN.out, List.length_append, Al.flat_snoc]; unfold Al.M.enc; rw [HNd.out]; exact hown')
      have g10 : Gr W7 w10 := Gr.own ((hg2.trans g9r).alloc (Obj.cells #[.string and_, .int .i64 mv.nu, .int .i64 mv.tm, .int .i64 mv.ar, .int .i64 mv.lv] 57)) (Nat.le_refl _) (ownsRow_gr HO.out (g9r.trans (Gr.alloc (Gr.refl w9) _))) hgrow
      clear HO hown' hgrow hnil HN
      -- @k
      go_wp2_with fail
      go_roundw
      -- @k2
      case rel => exact ⟨i + 1, by omega, by go_num, HP, g10⟩
      case measure => simp [intOf]; omega
    · obtain rfl : dn = i := by omega
      replace q0 := Gr.at hg2 q0
      replace q1 := Gr.at hg2 q1
      replace q2 := Gr.at hg2 q2
      replace q3 := Gr.at hg2 q3
      replace q4 := Gr.at hg2 q4
      replace q5 := Gr.at hg2 q5
      replace q6 := Gr.at hg2 q6
      replace q7 := Gr.at hg2 q7
      replace q8 := Gr.at hg2 q8
      rw [List.take_of_length_le (show Q.length ≤ dn by have := HQL.out; omega), HF3.out] at HO
      have hal : ALO.length = dn := by rw [← HF3.out, List.length_map]; exact HQL.out.symm
      obtain ⟨t, rfl, ht1, ht2, -, -⟩ := Al.ownM_sl HO.out (fun m hm => HOk.out m (HSub.out.subset hm))
      have htn : t.n = dn := by rw [← Al.SlM.lst_len, ht2, hal]
      have hkb : ∀ B1 B2 B3 : Nat, True := fun _ _ _ => trivial
      have H1 := Lib.hid (HHa.out t true w.heap.size (w.heap.size + 1) BA wr gzw ht1 (by rw [ht2]; exact HV.out _ HSub.out) (by rw [ht2]; exact ⟨fun _ => HF4.out, fun _ => rfl⟩) q0 q1 q2 q3 q4 ⟨q5, q6, q7, q8⟩)
      have HK := Lib.hid (fun W (hW : Gr wr W) => cloneM_any t W (ht1.gr hW) (by omega))
      obtain ⟨y, hy⟩ : ∃ y : Nat, j % (t.n : Int) = (y : Int) := ⟨(j % (t.n : Int)).toNat, by have := Int.emod_nonneg j (show (t.n : Int) ≠ 0 by omega); omega⟩
      have hyl : y < t.n := by have := Int.emod_lt_of_pos j (show (0 : Int) < t.n by omega); omega
      have hy2 : Int.tmod j (t.n : Int) = (y : Int) := by rw [Int.tmod_eq_emod_of_nonneg hj8.1]; exact hy
      have htne : ¬ (t.n : Int) = 0 := by omega
      have ht3 : ((t.n : Int) == 0) = false := beq_eq_false_iff_ne.2 htne
      have HTl := Lib.hid ht2
      have HL0 := Lib.hid (Al.SlM.lst_len t)
      have htb : t.n ≤ 10000 := by omega
      have HHn := Lib.hid htn
      clear htn ht2 hal
      clear HX HA HO HQp' HDX' HIa HIn ht1 hlt
      clear g gz
      have g := gw; have gz := gzw
      clear gw gzw
      -- @l
      go_wp2_with fail
      -- @m
      refine H1.out.mono ?_
      rintro e w11 ⟨rfl, hb⟩
      replace q0 := Gr.at hb q0
      replace q1 := Gr.at hb q1
      replace q2 := Gr.at hb q2
      replace q3 := Gr.at hb q3
      replace q4 := Gr.at hb q4
      replace q5 := Gr.at hb q5
      replace q6 := Gr.at hb q6
      replace q7 := Gr.at hb q7
      replace q8 := Gr.at hb q8
      have HKw := Lib.hid (HK.out w11 hb)
      replace g := g.trans hb
      replace gz := gz.trans hb
      clear hb H1 HK
      -- @n
      go_wp2_with fail
      refine HKw.out.mono ?_
      rintro e w12 ⟨v12, rfl, hv12, hb12⟩
      have HDl := Lib.hid (delM_any v12 t.lst w11.heap.size y w11 w12 hb12 (Nat.le_refl _) hv12 (fun m hm => HOk.out m (HSub.out.subset (by rw [← HTl.out]; exact hm))) (by have := HL0.out; omega) (by have := HL0.out; omega))
      clear HKw hv12
      have ie : IntKind.i64.wrap ((y : Int) + 1) = ((y + 1 : Nat) : Int) := by rw [IntKind.wrap_i64]; omega
      -- @o
      go_wp2_with fail
      -- @p
      refine HDl.out.mono ?_
      rintro e w13 ⟨z, rfl, hz1, hz2, hb⟩
      replace q0 := Gr.at hb q0
      replace q1 := Gr.at hb q1
      replace q2 := Gr.at hb q2
      replace q3 := Gr.at hb q3
      replace q4 := Gr.at hb q4
      replace q5 := Gr.at hb q5
      replace q6 := Gr.at hb q6
      replace q7 := Gr.at hb q7
      replace q8 := Gr.at hb q8
      replace g := g.trans hb
      replace gz := gz.trans hb
      have H0 := Lib.hid (HHa.out z false w.heap.size (w.heap.size + 1) BA w13 gz hz1 (by rw [hz2, HTl.out]; exact HV.out _ ((List.eraseIdx_sublist _ _).trans HSub.out)) (by rw [hz2, HTl.out]; exact ⟨fun h => (by cases h), fun h => absurd h (HF5.out y (by have := HHn.out; omega))⟩) q0 q1 q2 q3 q4 ⟨q5, q6, q7, q8⟩)
      clear hb hb12 HDl hz1 hz2 HHa q0 q1 q2 q3 q4 q5 q6 q7 q8
      -- @q
      go_wp2_with fail
      refine H0.out.mono ?_
      rintro e w14 ⟨rfl, hb⟩
      replace g := g.trans hb
      clear hb H0
      go_wp2_with fail
      go_ret
      exact ⟨rfl, g⟩

theorem cores_law (N : Ba.SlNode) (L : Ba.SlLink) (s : Al.SlM) (jp sm tl k j : Int) (w : World) (hN : N.At w) (hL : L.At w) (h : s.At w) (hk8 : 0 ≤ k ∧ k ≤ 255) (hj8 : 0 ≤ j ∧ j ≤ 255) : Calls Tryz.prog 7 #[Ba.netVal N L, .slice s.A s.n s.c, .agg #[.int .i64 jp, .int .i64 sm, .int .i64 tl], .int .u8 k, .int .u8 j] w fun e w' => e = .returned (.bool true) ∧ Gr w w' := by
  cases hf : Al.fewB N.n L.n s.n (Al.lngB s)
  · exact cores_few N L s jp sm tl k j w hN hL h hk8 hj8 hf
  by_cases hk : Al.gvE (Ba.netB N L && s.vB) (Al.lmO jp sm tl) = 0
  · by_cases hn : Al.allC N s.lst jp sm = []
    · exact cores_nil N L s jp sm tl k j w hN hL h hk8 hj8 hf hk hn
    · exact cores_main N L s jp sm tl k j w hN hL h hk8 hj8 hf hk hn
  · exact cores_no N L s jp sm tl k j w hN hL h hk8 hj8 hf _ rfl hk
theorem cores_in (N : Ba.SlNode) (L : Ba.SlLink) (s : Al.SlM) (jp sm tl k j : Int) (w : World) (hN : N.At w) (hL : L.At w) (h : s.At w) (_ : Ba.i64 jp) (_ : Ba.i64 sm) (_ : Ba.i64 tl) (hk8 : 0 ≤ k ∧ k ≤ 255) (hj8 : 0 ≤ j ∧ j ≤ 255) : Calls Tryz.prog 7 #[Ba.netVal N L, .slice s.A s.n s.c, .agg #[.int .i64 jp, .int .i64 sm, .int .i64 tl], .int .u8 k, .int .u8 j] w fun e w' => e = .returned (.bool true) ∧ Gr w w' := cores_law N L s jp sm tl k j w hN hL h hk8 hj8

end Go.Proofs.YtllkiadedaghoaaGreat
