/-
  Seat .ZD: alarms.Explain. (Printed by mkzxd.py.)
-/
import Derived.Test.YtllkiadedaghoaaGreatDoorOr13
import Derived.Test.YtllkiadedaghoaaGreatDoorOr14
import Derived.RangeFuncRecord
set_option linter.unusedVariables false
set_option linter.unusedSimpArgs false
namespace Go.Proofs.YtllkiadedaghoaaGreatDoor
open Go.RowKit Go.Shelf Go.Sort
attribute [local go_sem ↓] Go.wp_at_zero Go.wp_at_succ
set_option maxRecDepth 100000 in
set_option maxHeartbeats 4000000 in
theorem Exp_kind (nA lA : Option Addr) (nn nc ln lc : Nat) (s : Al.SlM) (a : Al.A) (w : World) (ha : a.At w) (HR : ∀ W, Gr w W → Calls Tryz.prog 25 #[.agg #[.slice nA nn nc, .slice lA ln lc], .slice s.A s.n s.c] W fun e w' => e = .returned (.bool true) ∧ Gr W w') (HW : ∀ W, Calls Tryz.prog 26 #[.int .i64 a.kd, .int .i64 1, .int .i64 6] W fun e w' => e = .returned (.bool false) ∧ W = w') : Calls Tryz.prog 7 #[.agg #[.slice nA nn nc, .slice lA ln lc], .slice s.A s.n s.c, .agg #[.int .i64 a.kd, .string a.nd, .int .i64 a.tm, .slice a.p a.n a.c]] w fun e w' => e = .returned (.tuple #[.string ⟨#[]⟩, .int .i64 11]) ∧ Gr w w' := by
  have HWw := Lib.hid HW
  clear HW ha
  cases a with | mk kd nd tm ap ab ao n ac aX =>
  simp only [] at *
  generalize s.A = sA at *; generalize s.n = sn at *; generalize s.c = sc at *
  have HRr := Lib.hid HR
  clear HR
  go_enter Tryz.func7, Tryz.ntmps7
  go_wp2_with fail
  refine (HRr.out _ gr_auto).mono ?_
  rintro e w1 ⟨rfl, hb⟩
  have g : Gr w w1 := gr_auto
  have q0 := Gr.at (show Gr _ w1 from hb) (show World.cell? _ ⟨w.heap.size + 1, 0, none⟩ = some (.int .i64 kd) from by simp [go_sem])
  have q1 := Gr.at (show Gr _ w1 from hb) (show World.cell? _ ⟨w.heap.size + 1, 1, none⟩ = some (.string nd) from by simp [go_sem])
  have q2 := Gr.at (show Gr _ w1 from hb) (show World.cell? _ ⟨w.heap.size + 1, 2, none⟩ = some (.int .i64 tm) from by simp [go_sem])
  have q3 := Gr.at (show Gr _ w1 from hb) (show World.cell? _ ⟨w.heap.size + 1, 3, none⟩ = some (.slice ap n ac) from by simp [go_sem])
  clear hb HRr
  go_wp2_with fail
  refine (HWw.out _).mono ?_
  rintro e w2 ⟨rfl, rfl⟩
  clear HWw
  go_wp2_with fail
  go_ret2
  exact ⟨rfl, g⟩
theorem infoSx : (Tryz.prog.info? 9).map (fun i => (i.zero, i.size, i.bytes)) = some (some (.string ⟨#[]⟩), 1, 16) := by kernel_rfl
theorem infoX_parts {P : Program} {t : TypeId} {z : Value} {s b : Nat} (h : (P.info? t).map (fun i => (i.zero, i.size, i.bytes)) = some (some z, s, b)) : ∃ i, P.info? t = some i ∧ i.zero = some z ∧ i.size = s ∧ i.bytes = b := by
  cases e : P.info? t with
  | none => rw [e] at h; cases h
  | some i => rw [e] at h; simp at h; exact ⟨i, rfl, h.1, h.2.1, h.2.2⟩
theorem own_four {w : World} {g base : Nat} {E : TypeId} {a b c d : Value} (h : w.heap[g]? = some (.cells #[a, b, c, d] E (0, 0))) (hb : base ≤ g) : w.ownsRow base E 1 (.slice (some ⟨g, 0, none⟩) 4 4) 4 [a, b, c, d] :=
  ⟨by simp, Or.inr ⟨g, 4, #[a, b, c, d], rfl, hb, h, Nat.le_refl _, by unfold maxLen; omega, by simp, by simp⟩⟩
set_option maxRecDepth 100000 in
set_option maxHeartbeats 4000000 in
theorem Exp_none (nA lA : Option Addr) (nn nc ln lc : Nat) (s : Al.SlM) (a : Al.A) (w : World) (ha : a.At w) (HR : ∀ W, Gr w W → Calls Tryz.prog 25 #[.agg #[.slice nA nn nc, .slice lA ln lc], .slice s.A s.n s.c] W fun e w' => e = .returned (.bool true) ∧ Gr W w') (HW : ∀ W, Calls Tryz.prog 26 #[.int .i64 a.kd, .int .i64 1, .int .i64 6] W fun e w' => e = .returned (.bool true) ∧ W = w') (HC : ∀ i B K W, i < a.n → Gr w W → W.cell? ⟨B, 1, none⟩ = some (.string a.nd) → W.cell? ⟨K, 0, none⟩ = some (.int .i64 (a.X i)) → Calls Tryz.prog 23 #[.slice s.A s.n s.c, .func (.func 27) #[] #[.pointer (some ⟨B, 0, none⟩), .pointer (some ⟨K, 0, none⟩)]] W fun e w' => e = .returned (.bool (!Al.mis s a i)) ∧ Gr W w') (HI : ∀ i W, i < a.n → Al.mis s a i = false → Gr w W → Calls Tryz.prog 28 #[.int .i64 (a.X i)] W fun e w' => e = .returned (.string ⟨(Lib.decDigits (a.X i).toNat).toArray⟩) ∧ Gr W w') (hn40 : a.n ≤ 40) (hk : 1 ≤ a.kd ∧ a.kd ≤ 6) (hm : ∃ i, i < a.n ∧ Al.mis s a i = true) : Calls Tryz.prog 7 #[.agg #[.slice nA nn nc, .slice lA ln lc], .slice s.A s.n s.c, .agg #[.int .i64 a.kd, .string a.nd, .int .i64 a.tm, .slice a.p a.n a.c]] w fun e w' => e = .returned (.tuple #[.string ⟨#[]⟩, .int .i64 12]) ∧ Gr w w' := by
  have HWw := Lib.hid HW
  have HCc := Lib.hid HC
  have HIt := Lib.hid HI
  have HA := Lib.hid ha.hp; have HX := Lib.hid ha.hX
  have hn := ha.hn
  clear HW HC HI ha
  generalize Al.mis s a = MS at *
  cases a with | mk kd nd tm ap ab ao n ac aX =>
  simp only [] at *
  generalize s.A = sA at *; generalize s.n = sn at *; generalize s.c = sc at *
  obtain ⟨r, hr⟩ : ∃ r : Nat, kd = (r : Int) := ⟨kd.toNat, by omega⟩
  subst hr
  have hr1 : 1 ≤ r ∧ r ≤ 6 := by omega
  have HRr := Lib.hid HR
  clear HR
  go_enter Tryz.func7, Tryz.ntmps7
  go_wp2_with fail
  refine (HRr.out _ gr_auto).mono ?_
  rintro e w1 ⟨rfl, hb⟩
  have g : Gr w w1 := gr_auto
  have q0 := Gr.at (show Gr _ w1 from hb) (show World.cell? _ ⟨w.heap.size + 1, 0, none⟩ = some (.int .i64 (r : Int)) from by simp [go_sem])
  have q1 := Gr.at (show Gr _ w1 from hb) (show World.cell? _ ⟨w.heap.size + 1, 1, none⟩ = some (.string nd) from by simp [go_sem])
  have q2 := Gr.at (show Gr _ w1 from hb) (show World.cell? _ ⟨w.heap.size + 1, 2, none⟩ = some (.int .i64 tm) from by simp [go_sem])
  have q3 := Gr.at (show Gr _ w1 from hb) (show World.cell? _ ⟨w.heap.size + 1, 3, none⟩ = some (.slice ap n ac) from by simp [go_sem])
  clear hb HRr
  go_wp2_with fail
  refine (HWw.out _).mono ?_
  rintro e w2 ⟨rfl, rfl⟩
  clear HWw
  go_upto_region 6 with fail
  refine name_world ?_
  intro W1 hW1
  have g1 : Gr w1 W1 := by rw [hW1]; exact gr_auto
  have z0 : W1.cell? ⟨w1.heap.size, r, none⟩ = some (.string ⟨(Al.wrd (r : Int)).toArray⟩) := by
    rw [hW1]
    have : r = 1 ∨ r = 2 ∨ r = 3 ∨ r = 4 ∨ r = 5 ∨ r = 6 := by omega
    rcases this with rfl | rfl | rfl | rfl | rfl | rfl <;> simp [go_sem, Al.wrd]
  have hbz : w1.heap.size < W1.heap.size := World.block_lt_of_cell? _ _ z0
  replace q0 := Gr.at g1 q0
  replace q1 := Gr.at g1 q1
  replace q2 := Gr.at g1 q2
  replace q3 := Gr.at g1 q3
  replace g := g.trans g1
  obtain ⟨BZ, hBZ⟩ : ∃ BZ, BZ = w1.heap.size := ⟨_, rfl⟩
  rw [← hBZ] at z0 hbz
  try rw [← hBZ]
  clear hW1 g1 hBZ
  obtain ⟨WD, hWD⟩ : ∃ WD, Al.wrd (r : Int) = WD := ⟨_, rfl⟩
  rw [hWD] at z0
  have rb0 : (0 : Int) ≤ (r : Int) := by omega
  have rb1 : (r : Int) < 7 := by omega
  (first | refine name_world ?_ | refine (show (∀ W, W = _ → Calls _ _ _ W _) → Calls _ _ _ _ _ from fun h => h _ rfl) ?_); intro W2 hW2
  have g2 : Gr w W2 := by rw [hW2]; exact gr_auto
  have k2_0 : W2.cell? ⟨w.heap.size + 1, 0, none⟩ = some (.int .i64 (r : Int)) := by rw [hW2]; first | (simp [go_sem, *]; done) | (refine Gr.at ?_ (by assumption); exact gr_auto)
  have b2_0 : w.heap.size + 1 < W2.heap.size := World.block_lt_of_cell? _ _ k2_0
  have k2_1 : W2.cell? ⟨w.heap.size + 1, 1, none⟩ = some (.string nd) := by rw [hW2]; first | (simp [go_sem, *]; done) | (refine Gr.at ?_ (by assumption); exact gr_auto)
  have k2_2 : W2.cell? ⟨BZ, r, none⟩ = some (.string ⟨WD.toArray⟩) := by rw [hW2]; first | (simp [go_sem, *]; done) | (refine Gr.at ?_ (by assumption); exact gr_auto)
  have b2_2 : BZ < W2.heap.size := World.block_lt_of_cell? _ _ k2_2
  have k2_3 : W2.cell? ⟨w.heap.size + 1, 3, none⟩ = some (.slice ap n ac) := by rw [hW2]; first | (simp [go_sem, *]; done) | (refine Gr.at ?_ (by assumption); exact gr_auto)
  have k2_4 : W2.cell? ⟨w.heap.size + 1, 2, none⟩ = some (.int .i64 tm) := by rw [hW2]; first | (simp [go_sem, *]; done) | (refine Gr.at ?_ (by assumption); exact gr_auto)
  clear hW2
  have s2_0 : ∀ w', Gr W2 w' → w'.cell? ⟨w.heap.size + 1, 0, none⟩ = some (.int .i64 (r : Int)) := fun w' hgW => Gr.at hgW k2_0
  have s2_1 : ∀ w', Gr W2 w' → w'.cell? ⟨w.heap.size + 1, 1, none⟩ = some (.string nd) := fun w' hgW => Gr.at hgW k2_1
  have s2_2 : ∀ w', Gr W2 w' → w'.cell? ⟨BZ, r, none⟩ = some (.string ⟨WD.toArray⟩) := fun w' hgW => Gr.at hgW k2_2
  have s2_3 : ∀ w', Gr W2 w' → w'.cell? ⟨w.heap.size + 1, 3, none⟩ = some (.slice ap n ac) := fun w' hgW => Gr.at hgW k2_3
  have s2_4 : ∀ w', Gr W2 w' → w'.cell? ⟨w.heap.size + 1, 2, none⟩ = some (.int .i64 tm) := fun w' hgW => Gr.at hgW k2_4
  first | (go_region_held3 (fun w' => Gr W2 w') (exact gr_auto) (fail)) | fail
  clear s2_0 s2_1 s2_2 s2_3 s2_4 k2_0 k2_2 b2_2 z0 hbz q0 q1 q2 q3
  go_wp2_with fail
  refine name_world ?_
  intro W3 hW3
  have g3 : Gr W2 W3 := by rw [hW3]; exact gr_auto
  have HO3 := Lib.hid (show W3.ownsRow W2.heap.size 9 1 (.slice (some ⟨W2.heap.size, 0, none⟩) 4 4) 4 [.string ⟨WD.toArray⟩, .string nd, .string ⟨#[]⟩, .string ⟨#[109, 101, 115, 115, 97, 103, 101, 115]⟩] from own_four (by rw [hW3]; exact World.alloc_heap_new W2 _) (Nat.le_refl _))
  have gW := g2.trans g3
  have hz3 := Gr.size g3
  clear hW3
  obtain ⟨BR, hBR⟩ : ∃ BR, W2.heap.size = BR := ⟨_, rfl⟩
  have hbr : W2.heap.size ≤ BR := hBR ▸ Nat.le_refl _
  have hbr2 : BR = W2.heap.size := hBR.symm
  rw [hBR] at HO3
  try rw [hBR]
  clear hBR
  obtain ⟨i1, k0, k1, k2, k3⟩ := infoX_parts infoSx
  have KI := Lib.hid k0; have KZ0 := Lib.hid k1; have KZ1 := Lib.hid k2; have KZ2 := Lib.hid k3
  clear k0 k1 k2 k3
  have HBR := Lib.hid hbr2
  clear hbr2
  go_loopw [9, 35] (fun v y wr => ∃ i : Nat, i ≤ n ∧ y = .int .i64 (i : Int) ∧ Hid (∀ j, j < i → MS j = false) ∧ Hid (wr.ownsRow BR 9 1 v (4 + i) ([.string ⟨WD.toArray⟩, .string nd, .string ⟨#[]⟩, .string ⟨#[109, 101, 115, 115, 97, 103, 101, 115]⟩] ++ (List.range i).map fun q => .string ⟨(Lib.decDigits (aX q).toNat).toArray⟩)) ∧ Gr W2 wr) (fun _ y _ => n - (intOf y).toNat)
  case atStart => exact ⟨0, Nat.zero_le _, rfl, Lib.hid (fun j hj => absurd hj (Nat.not_lt_zero _)), HO3, g3⟩
  case round =>
    obtain ⟨i, hi, rfl, HQ, HO, hg2⟩ := hrel
    rename World => wx
    have gw := g2.trans hg2
    have q1 := Gr.at hg2 k2_1; have q2 := Gr.at hg2 k2_4; have q3 := Gr.at hg2 k2_3
    by_cases hlt : i < n
    · obtain rfl := HA.out (by omega)
      have c0 := Gr.at gw (HX.out i hlt)
      have ib0 : (0 : Int) ≤ (i : Int) := by omega
      have ib1 : (i : Int) < (n : Int) := by omega
      have HCi := Lib.hid (fun B K W (hW : Gr wx W) h1 h2 => HCc.out i B K W hlt (gw.trans hW) h1 h2)
      obtain ⟨x, hx⟩ : ∃ x, aX i = x := ⟨_, rfl⟩
      have HXi := Lib.hid hx
      rw [hx] at c0 HCi
      clear hx
      have HMi := Lib.hid (show MS i = MS i from rfl)
      obtain ⟨ms, hms⟩ : ∃ ms, MS i = ms := ⟨_, rfl⟩
      rw [hms] at HCi
      have HMs := Lib.hid hms
      clear hms HMi HX HA HCc
      go_upto_region 10 with fail
      refine name_world ?_
      intro W5 hW5
      have g5 : Gr wx W5 := by rw [hW5]; exact gr_auto
      have y0 : W5.cell? ⟨wx.heap.size, 0, none⟩ = some (.int .i64 x) := by rw [hW5]; simp [go_sem]
      have y1 := Gr.at g5 q1
      have HCj := Lib.hid (HCi.out (w.heap.size + 1) wx.heap.size W5 g5 y1 y0)
      clear hW5 HCi
      go_wp2_with fail
      refine HCj.out.mono ?_
      rintro e w6 ⟨rfl, hb⟩
      have g6 := g5.trans hb
      replace y0 := Gr.at hb y0
      clear hb HCj
      have HIi := Lib.hid (fun W (hW : Gr wx W) (hq : ms = false) => HIt.out i W hlt (by rw [HMs.out]; exact hq) (gw.trans hW))
      rw [HXi.out] at HIi
      clear HIt
      cases ms
      · have HQ2 := Lib.hid (fun j (hj : j < i + 1) => show MS j = false from by
          by_cases q : j = i
          · rw [q]; exact HMs.out
          · exact HQ.out j (by omega))
        have HIj := Lib.hid (fun W (hW : Gr wx W) => HIi.out W hW rfl)
        clear HIi HQ HMs
        go_wp2_with fail
        refine (HIj.out _ gr_auto).mono ?_
        rintro e w7 ⟨rfl, hb⟩
        have g7 : Gr wx w7 := gr_auto
        have hz7 := Gr.size g7
        have hz2 := Gr.size hg2
        clear hb HIj
        obtain ⟨DX, hDX⟩ : ∃ DX, Lib.decDigits x.toNat = DX := ⟨_, rfl⟩
        have HDX := Lib.hid hDX
        rw [hDX]
        clear hDX
        have hbe : BR ≤ w7.heap.size := by have := HBR.out; omega
        go_wp2_with (at_builtin; refine wpList_append_own _ rfl _ _ 58 rfl BR 9 i1 (.string ⟨#[]⟩) 1 16 Tryz.underlying58 KI.out KZ0.out KZ1.out KZ2.out rfl (by decide) _ _ _ rfl (ownsRow_gr HO.out (g7.trans (by exact gr_auto))) ⟨w7.heap.size, 0, none⟩ 1 1 [.string ⟨DX.toArray⟩] rfl rfl (by intro p u hp; rcases p with _ | p <;> simp at hp <;> (try subst hp) <;> first | (simp [Addr.add, go_sem]; done) | (simp [Addr.add]; done)) (by intro u hu; simp at hu; rcases hu with rfl; rfl) (by unfold maxLen; omega) (by omega) (by simp; omega) ?_)
        intro v' w9 hown' hgrow hnil
        have HP := Lib.hid (show w9.ownsRow BR 9 1 v' (4 + (i + 1)) ([.string ⟨WD.toArray⟩, .string nd, .string ⟨#[]⟩, .string ⟨#[109, 101, 115, 115, 97, 103, 101, 115]⟩] ++ (List.range (i + 1)).map fun q => .string ⟨(Lib.decDigits (aX q).toNat).toArray⟩) from by
          rw [List.range_succ, List.map_append, List.map_cons, List.map_nil, HXi.out, HDX.out, ← List.append_assoc]; exact hown')
        have g9 : Gr W2 w9 := Gr.own ((hg2.trans g7).alloc (Obj.cells #[.string ⟨DX.toArray⟩] 9)) hbr (ownsRow_gr HO.out (g7.trans (Gr.alloc (Gr.refl w7) _))) hgrow
        clear HO hown' hgrow hnil HXi HDX
        go_wp2_with fail
        go_roundw
        case rel => exact ⟨i + 1, by omega, by go_num, HQ2, HP, g9⟩
        case measure => simp [intOf]; omega
      · clear HIi HQ HO
        clear HMs HXi
        go_wp2_with fail
        go_ret2
        exact ⟨rfl, gw.trans g6⟩
    · obtain rfl : i = n := by omega
      obtain ⟨j, hj, hj2⟩ := hm
      exact absurd (HQ.out j hj) (by rw [hj2]; decide)
set_option maxRecDepth 100000 in
set_option maxHeartbeats 4000000 in
theorem Exp_time (nA lA : Option Addr) (nn nc ln lc : Nat) (s : Al.SlM) (a : Al.A) (w : World) (ha : a.At w) (HR : ∀ W, Gr w W → Calls Tryz.prog 25 #[.agg #[.slice nA nn nc, .slice lA ln lc], .slice s.A s.n s.c] W fun e w' => e = .returned (.bool true) ∧ Gr W w') (HW : ∀ W, Calls Tryz.prog 26 #[.int .i64 a.kd, .int .i64 1, .int .i64 6] W fun e w' => e = .returned (.bool true) ∧ W = w') (HC : ∀ i B K W, i < a.n → Gr w W → W.cell? ⟨B, 1, none⟩ = some (.string a.nd) → W.cell? ⟨K, 0, none⟩ = some (.int .i64 (a.X i)) → Calls Tryz.prog 23 #[.slice s.A s.n s.c, .func (.func 27) #[] #[.pointer (some ⟨B, 0, none⟩), .pointer (some ⟨K, 0, none⟩)]] W fun e w' => e = .returned (.bool (!Al.mis s a i)) ∧ Gr W w') (HI : ∀ i W, i < a.n → Al.mis s a i = false → Gr w W → Calls Tryz.prog 28 #[.int .i64 (a.X i)] W fun e w' => e = .returned (.string ⟨(Lib.decDigits (a.X i).toNat).toArray⟩) ∧ Gr W w') (hn40 : a.n ≤ 40) (hk : 1 ≤ a.kd ∧ a.kd ≤ 6) (hm : ∀ i, i < a.n → Al.mis s a i = false) (k : Int) (L : List UInt8) (HT : ∀ W, Gr w W → Calls Tryz.prog 29 #[.int .i64 a.tm] W fun e w' => e = .returned (.tuple #[.string ⟨L.toArray⟩, .int .i64 k]) ∧ Gr W w') (hk0 : k ≠ 0) : Calls Tryz.prog 7 #[.agg #[.slice nA nn nc, .slice lA ln lc], .slice s.A s.n s.c, .agg #[.int .i64 a.kd, .string a.nd, .int .i64 a.tm, .slice a.p a.n a.c]] w fun e w' => e = .returned (.tuple #[.string ⟨#[]⟩, .int .i64 k]) ∧ Gr w w' := by
  have HTx := Lib.hid HT
  clear HT
  have HWw := Lib.hid HW
  have HCc := Lib.hid HC
  have HIt := Lib.hid HI
  have HA := Lib.hid ha.hp; have HX := Lib.hid ha.hX
  have hn := ha.hn
  clear HW HC HI ha
  generalize Al.mis s a = MS at *
  cases a with | mk kd nd tm ap ab ao n ac aX =>
  simp only [] at *
  generalize s.A = sA at *; generalize s.n = sn at *; generalize s.c = sc at *
  obtain ⟨r, hr⟩ : ∃ r : Nat, kd = (r : Int) := ⟨kd.toNat, by omega⟩
  subst hr
  have hr1 : 1 ≤ r ∧ r ≤ 6 := by omega
  have HRr := Lib.hid HR
  clear HR
  go_enter Tryz.func7, Tryz.ntmps7
  go_wp2_with fail
  refine (HRr.out _ gr_auto).mono ?_
  rintro e w1 ⟨rfl, hb⟩
  have g : Gr w w1 := gr_auto
  have q0 := Gr.at (show Gr _ w1 from hb) (show World.cell? _ ⟨w.heap.size + 1, 0, none⟩ = some (.int .i64 (r : Int)) from by simp [go_sem])
  have q1 := Gr.at (show Gr _ w1 from hb) (show World.cell? _ ⟨w.heap.size + 1, 1, none⟩ = some (.string nd) from by simp [go_sem])
  have q2 := Gr.at (show Gr _ w1 from hb) (show World.cell? _ ⟨w.heap.size + 1, 2, none⟩ = some (.int .i64 tm) from by simp [go_sem])
  have q3 := Gr.at (show Gr _ w1 from hb) (show World.cell? _ ⟨w.heap.size + 1, 3, none⟩ = some (.slice ap n ac) from by simp [go_sem])
  clear hb HRr
  go_wp2_with fail
  refine (HWw.out _).mono ?_
  rintro e w2 ⟨rfl, rfl⟩
  clear HWw
  go_upto_region 6 with fail
  refine name_world ?_
  intro W1 hW1
  have g1 : Gr w1 W1 := by rw [hW1]; exact gr_auto
  have z0 : W1.cell? ⟨w1.heap.size, r, none⟩ = some (.string ⟨(Al.wrd (r : Int)).toArray⟩) := by
    rw [hW1]
    have : r = 1 ∨ r = 2 ∨ r = 3 ∨ r = 4 ∨ r = 5 ∨ r = 6 := by omega
    rcases this with rfl | rfl | rfl | rfl | rfl | rfl <;> simp [go_sem, Al.wrd]
  have hbz : w1.heap.size < W1.heap.size := World.block_lt_of_cell? _ _ z0
  replace q0 := Gr.at g1 q0
  replace q1 := Gr.at g1 q1
  replace q2 := Gr.at g1 q2
  replace q3 := Gr.at g1 q3
  replace g := g.trans g1
  obtain ⟨BZ, hBZ⟩ : ∃ BZ, BZ = w1.heap.size := ⟨_, rfl⟩
  rw [← hBZ] at z0 hbz
  try rw [← hBZ]
  clear hW1 g1 hBZ
  obtain ⟨WD, hWD⟩ : ∃ WD, Al.wrd (r : Int) = WD := ⟨_, rfl⟩
  rw [hWD] at z0
  have rb0 : (0 : Int) ≤ (r : Int) := by omega
  have rb1 : (r : Int) < 7 := by omega
  (first | refine name_world ?_ | refine (show (∀ W, W = _ → Calls _ _ _ W _) → Calls _ _ _ _ _ from fun h => h _ rfl) ?_); intro W2 hW2
  have g2 : Gr w W2 := by rw [hW2]; exact gr_auto
  have k2_0 : W2.cell? ⟨w.heap.size + 1, 0, none⟩ = some (.int .i64 (r : Int)) := by rw [hW2]; first | (simp [go_sem, *]; done) | (refine Gr.at ?_ (by assumption); exact gr_auto)
  have b2_0 : w.heap.size + 1 < W2.heap.size := World.block_lt_of_cell? _ _ k2_0
  have k2_1 : W2.cell? ⟨w.heap.size + 1, 1, none⟩ = some (.string nd) := by rw [hW2]; first | (simp [go_sem, *]; done) | (refine Gr.at ?_ (by assumption); exact gr_auto)
  have k2_2 : W2.cell? ⟨BZ, r, none⟩ = some (.string ⟨WD.toArray⟩) := by rw [hW2]; first | (simp [go_sem, *]; done) | (refine Gr.at ?_ (by assumption); exact gr_auto)
  have b2_2 : BZ < W2.heap.size := World.block_lt_of_cell? _ _ k2_2
  have k2_3 : W2.cell? ⟨w.heap.size + 1, 3, none⟩ = some (.slice ap n ac) := by rw [hW2]; first | (simp [go_sem, *]; done) | (refine Gr.at ?_ (by assumption); exact gr_auto)
  have k2_4 : W2.cell? ⟨w.heap.size + 1, 2, none⟩ = some (.int .i64 tm) := by rw [hW2]; first | (simp [go_sem, *]; done) | (refine Gr.at ?_ (by assumption); exact gr_auto)
  clear hW2
  have s2_0 : ∀ w', Gr W2 w' → w'.cell? ⟨w.heap.size + 1, 0, none⟩ = some (.int .i64 (r : Int)) := fun w' hgW => Gr.at hgW k2_0
  have s2_1 : ∀ w', Gr W2 w' → w'.cell? ⟨w.heap.size + 1, 1, none⟩ = some (.string nd) := fun w' hgW => Gr.at hgW k2_1
  have s2_2 : ∀ w', Gr W2 w' → w'.cell? ⟨BZ, r, none⟩ = some (.string ⟨WD.toArray⟩) := fun w' hgW => Gr.at hgW k2_2
  have s2_3 : ∀ w', Gr W2 w' → w'.cell? ⟨w.heap.size + 1, 3, none⟩ = some (.slice ap n ac) := fun w' hgW => Gr.at hgW k2_3
  have s2_4 : ∀ w', Gr W2 w' → w'.cell? ⟨w.heap.size + 1, 2, none⟩ = some (.int .i64 tm) := fun w' hgW => Gr.at hgW k2_4
  first | (go_region_held3 (fun w' => Gr W2 w') (exact gr_auto) (fail)) | fail
  clear s2_0 s2_1 s2_2 s2_3 s2_4 k2_0 k2_2 b2_2 z0 hbz q0 q1 q2 q3
  go_wp2_with fail
  refine name_world ?_
  intro W3 hW3
  have g3 : Gr W2 W3 := by rw [hW3]; exact gr_auto
  have HO3 := Lib.hid (show W3.ownsRow W2.heap.size 9 1 (.slice (some ⟨W2.heap.size, 0, none⟩) 4 4) 4 [.string ⟨WD.toArray⟩, .string nd, .string ⟨#[]⟩, .string ⟨#[109, 101, 115, 115, 97, 103, 101, 115]⟩] from own_four (by rw [hW3]; exact World.alloc_heap_new W2 _) (Nat.le_refl _))
  have gW := g2.trans g3
  have hz3 := Gr.size g3
  clear hW3
  obtain ⟨BR, hBR⟩ : ∃ BR, W2.heap.size = BR := ⟨_, rfl⟩
  have hbr : W2.heap.size ≤ BR := hBR ▸ Nat.le_refl _
  have hbr2 : BR = W2.heap.size := hBR.symm
  rw [hBR] at HO3
  try rw [hBR]
  clear hBR
  obtain ⟨i1, k0, k1, k2, k3⟩ := infoX_parts infoSx
  have KI := Lib.hid k0; have KZ0 := Lib.hid k1; have KZ1 := Lib.hid k2; have KZ2 := Lib.hid k3
  clear k0 k1 k2 k3
  have HBR := Lib.hid hbr2
  clear hbr2
  have HNo := Lib.hid hm
  clear hm
  go_loopw [9, 35] (fun v y wr => ∃ i : Nat, i ≤ n ∧ y = .int .i64 (i : Int) ∧ Hid (∀ j, j < i → MS j = false) ∧ Hid (wr.ownsRow BR 9 1 v (4 + i) ([.string ⟨WD.toArray⟩, .string nd, .string ⟨#[]⟩, .string ⟨#[109, 101, 115, 115, 97, 103, 101, 115]⟩] ++ (List.range i).map fun q => .string ⟨(Lib.decDigits (aX q).toNat).toArray⟩)) ∧ Gr W2 wr) (fun _ y _ => n - (intOf y).toNat)
  case atStart => exact ⟨0, Nat.zero_le _, rfl, Lib.hid (fun j hj => absurd hj (Nat.not_lt_zero _)), HO3, g3⟩
  case round =>
    obtain ⟨i, hi, rfl, HQ, HO, hg2⟩ := hrel
    rename World => wx
    have gw := g2.trans hg2
    have q1 := Gr.at hg2 k2_1; have q2 := Gr.at hg2 k2_4; have q3 := Gr.at hg2 k2_3
    by_cases hlt : i < n
    · obtain rfl := HA.out (by omega)
      have c0 := Gr.at gw (HX.out i hlt)
      have ib0 : (0 : Int) ≤ (i : Int) := by omega
      have ib1 : (i : Int) < (n : Int) := by omega
      have HCi := Lib.hid (fun B K W (hW : Gr wx W) h1 h2 => HCc.out i B K W hlt (gw.trans hW) h1 h2)
      obtain ⟨x, hx⟩ : ∃ x, aX i = x := ⟨_, rfl⟩
      have HXi := Lib.hid hx
      rw [hx] at c0 HCi
      clear hx
      have HMi := Lib.hid (show MS i = MS i from rfl)
      obtain ⟨ms, hms⟩ : ∃ ms, MS i = ms := ⟨_, rfl⟩
      rw [hms] at HCi
      have HMs := Lib.hid hms
      clear hms HMi HX HA HCc
      go_upto_region 10 with fail
      refine name_world ?_
      intro W5 hW5
      have g5 : Gr wx W5 := by rw [hW5]; exact gr_auto
      have y0 : W5.cell? ⟨wx.heap.size, 0, none⟩ = some (.int .i64 x) := by rw [hW5]; simp [go_sem]
      have y1 := Gr.at g5 q1
      have HCj := Lib.hid (HCi.out (w.heap.size + 1) wx.heap.size W5 g5 y1 y0)
      clear hW5 HCi
      go_wp2_with fail
      refine HCj.out.mono ?_
      rintro e w6 ⟨rfl, hb⟩
      have g6 := g5.trans hb
      replace y0 := Gr.at hb y0
      clear hb HCj
      have HIi := Lib.hid (fun W (hW : Gr wx W) (hq : ms = false) => HIt.out i W hlt (by rw [HMs.out]; exact hq) (gw.trans hW))
      rw [HXi.out] at HIi
      clear HIt
      cases ms
      · have HQ2 := Lib.hid (fun j (hj : j < i + 1) => show MS j = false from by
          by_cases q : j = i
          · rw [q]; exact HMs.out
          · exact HQ.out j (by omega))
        have HIj := Lib.hid (fun W (hW : Gr wx W) => HIi.out W hW rfl)
        clear HIi HQ HMs
        go_wp2_with fail
        refine (HIj.out _ gr_auto).mono ?_
        rintro e w7 ⟨rfl, hb⟩
        have g7 : Gr wx w7 := gr_auto
        have hz7 := Gr.size g7
        have hz2 := Gr.size hg2
        clear hb HIj
        obtain ⟨DX, hDX⟩ : ∃ DX, Lib.decDigits x.toNat = DX := ⟨_, rfl⟩
        have HDX := Lib.hid hDX
        rw [hDX]
        clear hDX
        have hbe : BR ≤ w7.heap.size := by have := HBR.out; omega
        go_wp2_with (at_builtin; refine wpList_append_own _ rfl _ _ 58 rfl BR 9 i1 (.string ⟨#[]⟩) 1 16 Tryz.underlying58 KI.out KZ0.out KZ1.out KZ2.out rfl (by decide) _ _ _ rfl (ownsRow_gr HO.out (g7.trans (by exact gr_auto))) ⟨w7.heap.size, 0, none⟩ 1 1 [.string ⟨DX.toArray⟩] rfl rfl (by intro p u hp; rcases p with _ | p <;> simp at hp <;> (try subst hp) <;> first | (simp [Addr.add, go_sem]; done) | (simp [Addr.add]; done)) (by intro u hu; simp at hu; rcases hu with rfl; rfl) (by unfold maxLen; omega) (by omega) (by simp; omega) ?_)
        intro v' w9 hown' hgrow hnil
        have HP := Lib.hid (show w9.ownsRow BR 9 1 v' (4 + (i + 1)) ([.string ⟨WD.toArray⟩, .string nd, .string ⟨#[]⟩, .string ⟨#[109, 101, 115, 115, 97, 103, 101, 115]⟩] ++ (List.range (i + 1)).map fun q => .string ⟨(Lib.decDigits (aX q).toNat).toArray⟩) from by
          rw [List.range_succ, List.map_append, List.map_cons, List.map_nil, HXi.out, HDX.out, ← List.append_assoc]; exact hown')
        have g9 : Gr W2 w9 := Gr.own ((hg2.trans g7).alloc (Obj.cells #[.string ⟨DX.toArray⟩] 9)) hbr (ownsRow_gr HO.out (g7.trans (Gr.alloc (Gr.refl w7) _))) hgrow
        clear HO hown' hgrow hnil HXi HDX
        go_wp2_with fail
        go_roundw
        case rel => exact ⟨i + 1, by omega, by go_num, HQ2, HP, g9⟩
        case measure => simp [intOf]; omega
      · clear HIi HQ HO
        exact absurd HMs.out (by rw [HNo.out i hlt]; decide)
    · obtain rfl : i = n := by omega
      clear HIt HCc HQ HNo HX HA HO
      go_wp2_with fail
      refine (HTx.out _ gw).mono ?_
      rintro e w7 ⟨rfl, hb⟩
      have g7 := gw.trans hb
      have v0 : (k != 0) = true := bne_iff_ne.2 hk0
      clear hb HTx q1 q2 q3
      go_wp2_with fail
      go_ret2
      exact ⟨rfl, g7⟩
theorem own_cells {w : World} {base E n : Nat} {v : Value} {xs : List Value} (h : w.ownsRow base E 1 v n xs) (h0 : 0 < n) : ∃ g cap, v = .slice (some ⟨g, 0, none⟩) n cap ∧ base ≤ g ∧ n ≤ cap ∧ cap ≤ 9223372036854775807 ∧ ∀ i u, xs[i]? = some u → Own w g i u := by
  obtain ⟨hl, ⟨rfl, z⟩ | ⟨g, cap, cur, rfl, hb, hc, hn, hm, hs, hx⟩⟩ := h
  · omega
  · refine ⟨g, cap, rfl, hb, hn, by unfold maxLen at hm; exact hm, fun i u hi => ?_⟩
    have hcv : cur.toList[i]? = some u := by
      have hlt := (List.getElem?_eq_some_iff.1 hi).1
      rw [← hx, List.getElem?_take_of_lt (by omega)] at hi; exact hi
    refine ⟨?_, ?_⟩
    · simp only [World.cell?, hc]; simpa using hcv
    · simp only [World.frozen?, hc]; simp
/-- The words of an explanation. -/
def Al.words (WD : List UInt8) (nd : ByteArray) (L : List UInt8) (X : Nat → Int) (n : Nat) : List ByteArray := [⟨WD.toArray⟩, nd, ⟨L.toArray⟩, ⟨#[109, 101, 115, 115, 97, 103, 101, 115]⟩] ++ (List.range n).map fun q => ⟨(Lib.decDigits (X q).toNat).toArray⟩
theorem Al.words_len (WD : List UInt8) (nd : ByteArray) (L : List UInt8) (X : Nat → Int) (n : Nat) : (Al.words WD nd L X n).length = 4 + n := by unfold Al.words; simp; omega
theorem Al.words_map (kd : Int) (nd : ByteArray) (L : List UInt8) (X : Nat → Int) (n : Nat) : Lib.join ((Al.words (Al.wrd kd) nd L X n).map (·.data.toList)) [32] = Al.expl kd nd.data.toList L X n := by
  rw [← Al.join_expl]
  unfold Al.words Al.decs
  rw [List.map_append, List.map_map]; rfl
theorem Al.expl_len (kd : Int) (nd : List UInt8) (L : List UInt8) (X : Nat → Int) (n : Nat) (hx : ∀ i, i < n → X i ≤ 9223372036854775807) : (Al.expl kd nd L X n).length ≤ 20 + nd.length + L.length + 20 * n := by
  unfold Al.expl Al.msgW
  have h1 := Al.wrd_len kd; have h2 := Al.numT_len X n hx
  simp only [List.length_append, List.length_cons, List.length_nil]
  omega
theorem join_words (kd : Int) (nd : ByteArray) (L : List UInt8) (X : Nat → Int) (n g cap : Nat) (w : World) (hx : ∀ i, i < n → X i ≤ 9223372036854775807) (hn : n ≤ 40) (hnd : nd.size ≤ 50) (hL : L.length ≤ 1000) (hcap : 4 + n ≤ cap) (hc : ∀ j u, (Al.words (Al.wrd kd) nd L X n)[j]? = some u → w.cell? ⟨g, j, none⟩ = some (.string u)) :
    Calls Tryz.prog 30 #[.slice (some ⟨g, 0, none⟩) (4 + n : Nat) cap, .string ⟨#[32]⟩] w fun e w' => e = .returned (.string ⟨(Al.expl kd nd.data.toList L X n).toArray⟩) ∧ Gr w w' := by
  have hl := Al.words_len (Al.wrd kd) nd L X n
  have hm := Al.words_map kd nd L X n
  have he := Al.expl_len kd nd.data.toList L X n hx
  have hnd2 : nd.data.toList.length = nd.size := by rw [Array.length_toList]; rfl
  generalize Al.words (Al.wrd kd) nd L X n = xs at *
  have hcells : ∀ (j : Nat) x, xs[j]? = some x → w.cell? ⟨g, 0 + j, none⟩ = some (.string x) := fun j x hj => by rw [Nat.zero_add]; exact hc j x hj
  obtain ⟨u, hu⟩ : ∃ u, xs[0]? = some u := ⟨_, List.getElem?_eq_getElem (by omega)⟩
  have hlt := World.block_lt_of_cell? w _ (hcells 0 u hu)
  have e2 : (⟨#[32]⟩ : ByteArray).data.toList = [32] := rfl
  have := Tryz.strings_Join g 0 cap xs ⟨#[32]⟩ w hcells hlt (by omega) (by omega) (by rw [e2, hm]; omega)
  rw [e2, hm, hl] at this
  exact this
set_option maxRecDepth 100000 in
set_option maxHeartbeats 4000000 in
theorem Exp_ok (nA lA : Option Addr) (nn nc ln lc : Nat) (s : Al.SlM) (a : Al.A) (w : World) (ha : a.At w) (HR : ∀ W, Gr w W → Calls Tryz.prog 25 #[.agg #[.slice nA nn nc, .slice lA ln lc], .slice s.A s.n s.c] W fun e w' => e = .returned (.bool true) ∧ Gr W w') (HW : ∀ W, Calls Tryz.prog 26 #[.int .i64 a.kd, .int .i64 1, .int .i64 6] W fun e w' => e = .returned (.bool true) ∧ W = w') (HC : ∀ i B K W, i < a.n → Gr w W → W.cell? ⟨B, 1, none⟩ = some (.string a.nd) → W.cell? ⟨K, 0, none⟩ = some (.int .i64 (a.X i)) → Calls Tryz.prog 23 #[.slice s.A s.n s.c, .func (.func 27) #[] #[.pointer (some ⟨B, 0, none⟩), .pointer (some ⟨K, 0, none⟩)]] W fun e w' => e = .returned (.bool (!Al.mis s a i)) ∧ Gr W w') (HI : ∀ i W, i < a.n → Al.mis s a i = false → Gr w W → Calls Tryz.prog 28 #[.int .i64 (a.X i)] W fun e w' => e = .returned (.string ⟨(Lib.decDigits (a.X i).toNat).toArray⟩) ∧ Gr W w') (hn40 : a.n ≤ 40) (hk : 1 ≤ a.kd ∧ a.kd ≤ 6) (hm : ∀ i, i < a.n → Al.mis s a i = false) (L : List UInt8) (HT : ∀ W, Gr w W → Calls Tryz.prog 29 #[.int .i64 a.tm] W fun e w' => e = .returned (.tuple #[.string ⟨L.toArray⟩, .int .i64 0]) ∧ Gr W w') (hL : L.length ≤ 1000) (hnd : a.nd.size ≤ 50) (hx : ∀ i, i < a.n → a.X i ≤ 9223372036854775807) : Calls Tryz.prog 7 #[.agg #[.slice nA nn nc, .slice lA ln lc], .slice s.A s.n s.c, .agg #[.int .i64 a.kd, .string a.nd, .int .i64 a.tm, .slice a.p a.n a.c]] w fun e w' => e = .returned (.tuple #[.string ⟨(Al.expl a.kd a.nd.data.toList L a.X a.n).toArray⟩, .int .i64 0]) ∧ Gr w w' := by
  have HTx := Lib.hid HT
  clear HT
  have HJn := Lib.hid (fun g cap W (hcap : 4 + a.n ≤ cap) hc => join_words a.kd a.nd L a.X a.n g cap W hx hn40 hnd hL hcap hc)
  clear hx
  generalize Al.expl a.kd a.nd.data.toList L a.X a.n = RES at *
  have HWw := Lib.hid HW
  have HCc := Lib.hid HC
  have HIt := Lib.hid HI
  have HA := Lib.hid ha.hp; have HX := Lib.hid ha.hX
  have hn := ha.hn
  clear HW HC HI ha
  generalize Al.mis s a = MS at *
  cases a with | mk kd nd tm ap ab ao n ac aX =>
  simp only [] at *
  generalize s.A = sA at *; generalize s.n = sn at *; generalize s.c = sc at *
  obtain ⟨r, hr⟩ : ∃ r : Nat, kd = (r : Int) := ⟨kd.toNat, by omega⟩
  subst hr
  have hr1 : 1 ≤ r ∧ r ≤ 6 := by omega
  have HRr := Lib.hid HR
  clear HR
  go_enter Tryz.func7, Tryz.ntmps7
  go_wp2_with fail
  refine (HRr.out _ gr_auto).mono ?_
  rintro e w1 ⟨rfl, hb⟩
  have g : Gr w w1 := gr_auto
  have q0 := Gr.at (show Gr _ w1 from hb) (show World.cell? _ ⟨w.heap.size + 1, 0, none⟩ = some (.int .i64 (r : Int)) from by simp [go_sem])
  have q1 := Gr.at (show Gr _ w1 from hb) (show World.cell? _ ⟨w.heap.size + 1, 1, none⟩ = some (.string nd) from by simp [go_sem])
  have q2 := Gr.at (show Gr _ w1 from hb) (show World.cell? _ ⟨w.heap.size + 1, 2, none⟩ = some (.int .i64 tm) from by simp [go_sem])
  have q3 := Gr.at (show Gr _ w1 from hb) (show World.cell? _ ⟨w.heap.size + 1, 3, none⟩ = some (.slice ap n ac) from by simp [go_sem])
  clear hb HRr
  go_wp2_with fail
  refine (HWw.out _).mono ?_
  rintro e w2 ⟨rfl, rfl⟩
  clear HWw
  go_upto_region 6 with fail
  refine name_world ?_
  intro W1 hW1
  have g1 : Gr w1 W1 := by rw [hW1]; exact gr_auto
  have z0 : W1.cell? ⟨w1.heap.size, r, none⟩ = some (.string ⟨(Al.wrd (r : Int)).toArray⟩) := by
    rw [hW1]
    have : r = 1 ∨ r = 2 ∨ r = 3 ∨ r = 4 ∨ r = 5 ∨ r = 6 := by omega
    rcases this with rfl | rfl | rfl | rfl | rfl | rfl <;> simp [go_sem, Al.wrd]
  have hbz : w1.heap.size < W1.heap.size := World.block_lt_of_cell? _ _ z0
  replace q0 := Gr.at g1 q0
  replace q1 := Gr.at g1 q1
  replace q2 := Gr.at g1 q2
  replace q3 := Gr.at g1 q3
  replace g := g.trans g1
  obtain ⟨BZ, hBZ⟩ : ∃ BZ, BZ = w1.heap.size := ⟨_, rfl⟩
  rw [← hBZ] at z0 hbz
  try rw [← hBZ]
  clear hW1 g1 hBZ
  obtain ⟨WD, hWD⟩ : ∃ WD, Al.wrd (r : Int) = WD := ⟨_, rfl⟩
  rw [hWD] at z0
  have rb0 : (0 : Int) ≤ (r : Int) := by omega
  have rb1 : (r : Int) < 7 := by omega
  rw [hWD] at HJn
  (first | refine name_world ?_ | refine (show (∀ W, W = _ → Calls _ _ _ W _) → Calls _ _ _ _ _ from fun h => h _ rfl) ?_); intro W2 hW2
  have g2 : Gr w W2 := by rw [hW2]; exact gr_auto
  have k2_0 : W2.cell? ⟨w.heap.size + 1, 0, none⟩ = some (.int .i64 (r : Int)) := by rw [hW2]; first | (simp [go_sem, *]; done) | (refine Gr.at ?_ (by assumption); exact gr_auto)
  have b2_0 : w.heap.size + 1 < W2.heap.size := World.block_lt_of_cell? _ _ k2_0
  have k2_1 : W2.cell? ⟨w.heap.size + 1, 1, none⟩ = some (.string nd) := by rw [hW2]; first | (simp [go_sem, *]; done) | (refine Gr.at ?_ (by assumption); exact gr_auto)
  have k2_2 : W2.cell? ⟨BZ, r, none⟩ = some (.string ⟨WD.toArray⟩) := by rw [hW2]; first | (simp [go_sem, *]; done) | (refine Gr.at ?_ (by assumption); exact gr_auto)
  have b2_2 : BZ < W2.heap.size := World.block_lt_of_cell? _ _ k2_2
  have k2_3 : W2.cell? ⟨w.heap.size + 1, 3, none⟩ = some (.slice ap n ac) := by rw [hW2]; first | (simp [go_sem, *]; done) | (refine Gr.at ?_ (by assumption); exact gr_auto)
  have k2_4 : W2.cell? ⟨w.heap.size + 1, 2, none⟩ = some (.int .i64 tm) := by rw [hW2]; first | (simp [go_sem, *]; done) | (refine Gr.at ?_ (by assumption); exact gr_auto)
  clear hW2
  have s2_0 : ∀ w', Gr W2 w' → w'.cell? ⟨w.heap.size + 1, 0, none⟩ = some (.int .i64 (r : Int)) := fun w' hgW => Gr.at hgW k2_0
  have s2_1 : ∀ w', Gr W2 w' → w'.cell? ⟨w.heap.size + 1, 1, none⟩ = some (.string nd) := fun w' hgW => Gr.at hgW k2_1
  have s2_2 : ∀ w', Gr W2 w' → w'.cell? ⟨BZ, r, none⟩ = some (.string ⟨WD.toArray⟩) := fun w' hgW => Gr.at hgW k2_2
  have s2_3 : ∀ w', Gr W2 w' → w'.cell? ⟨w.heap.size + 1, 3, none⟩ = some (.slice ap n ac) := fun w' hgW => Gr.at hgW k2_3
  have s2_4 : ∀ w', Gr W2 w' → w'.cell? ⟨w.heap.size + 1, 2, none⟩ = some (.int .i64 tm) := fun w' hgW => Gr.at hgW k2_4
  first | (go_region_held3 (fun w' => Gr W2 w') (exact gr_auto) (fail)) | fail
  clear s2_0 s2_1 s2_2 s2_3 s2_4 k2_0 k2_2 b2_2 z0 hbz q0 q1 q2 q3
  go_wp2_with fail
  refine name_world ?_
  intro W3 hW3
  have g3 : Gr W2 W3 := by rw [hW3]; exact gr_auto
  have HO3 := Lib.hid (show W3.ownsRow W2.heap.size 9 1 (.slice (some ⟨W2.heap.size, 0, none⟩) 4 4) 4 [.string ⟨WD.toArray⟩, .string nd, .string ⟨#[]⟩, .string ⟨#[109, 101, 115, 115, 97, 103, 101, 115]⟩] from own_four (by rw [hW3]; exact World.alloc_heap_new W2 _) (Nat.le_refl _))
  have gW := g2.trans g3
  have hz3 := Gr.size g3
  clear hW3
  obtain ⟨BR, hBR⟩ : ∃ BR, W2.heap.size = BR := ⟨_, rfl⟩
  have hbr : W2.heap.size ≤ BR := hBR ▸ Nat.le_refl _
  have hbr2 : BR = W2.heap.size := hBR.symm
  rw [hBR] at HO3
  try rw [hBR]
  clear hBR
  obtain ⟨i1, k0, k1, k2, k3⟩ := infoX_parts infoSx
  have KI := Lib.hid k0; have KZ0 := Lib.hid k1; have KZ1 := Lib.hid k2; have KZ2 := Lib.hid k3
  clear k0 k1 k2 k3
  have HBR := Lib.hid hbr2
  clear hbr2
  have HNo := Lib.hid hm
  clear hm
  go_loopw [9, 35] (fun v y wr => ∃ i : Nat, i ≤ n ∧ y = .int .i64 (i : Int) ∧ Hid (∀ j, j < i → MS j = false) ∧ Hid (wr.ownsRow BR 9 1 v (4 + i) ([.string ⟨WD.toArray⟩, .string nd, .string ⟨#[]⟩, .string ⟨#[109, 101, 115, 115, 97, 103, 101, 115]⟩] ++ (List.range i).map fun q => .string ⟨(Lib.decDigits (aX q).toNat).toArray⟩)) ∧ Gr W2 wr) (fun _ y _ => n - (intOf y).toNat)
  case atStart => exact ⟨0, Nat.zero_le _, rfl, Lib.hid (fun j hj => absurd hj (Nat.not_lt_zero _)), HO3, g3⟩
  case round =>
    obtain ⟨i, hi, rfl, HQ, HO, hg2⟩ := hrel
    rename World => wx
    have gw := g2.trans hg2
    have q1 := Gr.at hg2 k2_1; have q2 := Gr.at hg2 k2_4; have q3 := Gr.at hg2 k2_3
    by_cases hlt : i < n
    · obtain rfl := HA.out (by omega)
      have c0 := Gr.at gw (HX.out i hlt)
      have ib0 : (0 : Int) ≤ (i : Int) := by omega
      have ib1 : (i : Int) < (n : Int) := by omega
      have HCi := Lib.hid (fun B K W (hW : Gr wx W) h1 h2 => HCc.out i B K W hlt (gw.trans hW) h1 h2)
      obtain ⟨x, hx⟩ : ∃ x, aX i = x := ⟨_, rfl⟩
      have HXi := Lib.hid hx
      rw [hx] at c0 HCi
      clear hx
      have HMi := Lib.hid (show MS i = MS i from rfl)
      obtain ⟨ms, hms⟩ : ∃ ms, MS i = ms := ⟨_, rfl⟩
      rw [hms] at HCi
      have HMs := Lib.hid hms
      clear hms HMi HX HA HCc
      go_upto_region 10 with fail
      refine name_world ?_
      intro W5 hW5
      have g5 : Gr wx W5 := by rw [hW5]; exact gr_auto
      have y0 : W5.cell? ⟨wx.heap.size, 0, none⟩ = some (.int .i64 x) := by rw [hW5]; simp [go_sem]
      have y1 := Gr.at g5 q1
      have HCj := Lib.hid (HCi.out (w.heap.size + 1) wx.heap.size W5 g5 y1 y0)
      clear hW5 HCi
      go_wp2_with fail
      refine HCj.out.mono ?_
      rintro e w6 ⟨rfl, hb⟩
      have g6 := g5.trans hb
      replace y0 := Gr.at hb y0
      clear hb HCj
      have HIi := Lib.hid (fun W (hW : Gr wx W) (hq : ms = false) => HIt.out i W hlt (by rw [HMs.out]; exact hq) (gw.trans hW))
      rw [HXi.out] at HIi
      clear HIt
      cases ms
      · have HQ2 := Lib.hid (fun j (hj : j < i + 1) => show MS j = false from by
          by_cases q : j = i
          · rw [q]; exact HMs.out
          · exact HQ.out j (by omega))
        have HIj := Lib.hid (fun W (hW : Gr wx W) => HIi.out W hW rfl)
        clear HIi HQ HMs
        go_wp2_with fail
        refine (HIj.out _ gr_auto).mono ?_
        rintro e w7 ⟨rfl, hb⟩
        have g7 : Gr wx w7 := gr_auto
        have hz7 := Gr.size g7
        have hz2 := Gr.size hg2
        clear hb HIj
        obtain ⟨DX, hDX⟩ : ∃ DX, Lib.decDigits x.toNat = DX := ⟨_, rfl⟩
        have HDX := Lib.hid hDX
        rw [hDX]
        clear hDX
        have hbe : BR ≤ w7.heap.size := by have := HBR.out; omega
        go_wp2_with (at_builtin; refine wpList_append_own _ rfl _ _ 58 rfl BR 9 i1 (.string ⟨#[]⟩) 1 16 Tryz.underlying58 KI.out KZ0.out KZ1.out KZ2.out rfl (by decide) _ _ _ rfl (ownsRow_gr HO.out (g7.trans (by exact gr_auto))) ⟨w7.heap.size, 0, none⟩ 1 1 [.string ⟨DX.toArray⟩] rfl rfl (by intro p u hp; rcases p with _ | p <;> simp at hp <;> (try subst hp) <;> first | (simp [Addr.add, go_sem]; done) | (simp [Addr.add]; done)) (by intro u hu; simp at hu; rcases hu with rfl; rfl) (by unfold maxLen; omega) (by omega) (by simp; omega) ?_)
        intro v' w9 hown' hgrow hnil
        have HP := Lib.hid (show w9.ownsRow BR 9 1 v' (4 + (i + 1)) ([.string ⟨WD.toArray⟩, .string nd, .string ⟨#[]⟩, .string ⟨#[109, 101, 115, 115, 97, 103, 101, 115]⟩] ++ (List.range (i + 1)).map fun q => .string ⟨(Lib.decDigits (aX q).toNat).toArray⟩) from by
          rw [List.range_succ, List.map_append, List.map_cons, List.map_nil, HXi.out, HDX.out, ← List.append_assoc]; exact hown')
        have g9 : Gr W2 w9 := Gr.own ((hg2.trans g7).alloc (Obj.cells #[.string ⟨DX.toArray⟩] 9)) hbr (ownsRow_gr HO.out (g7.trans (Gr.alloc (Gr.refl w7) _))) hgrow
        clear HO hown' hgrow hnil HXi HDX
        go_wp2_with fail
        go_roundw
        case rel => exact ⟨i + 1, by omega, by go_num, HQ2, HP, g9⟩
        case measure => simp [intOf]; omega
      · clear HIi HQ HO
        exact absurd HMs.out (by rw [HNo.out i hlt]; decide)
    · obtain rfl : i = n := by omega
      clear HIt HCc HQ HNo HX HA q1 q3
      go_wp2_with fail
      refine (HTx.out _ gw).mono ?_
      rintro e w7 ⟨rfl, hb⟩
      have g7 := gw.trans hb
      obtain ⟨g8, cap, rfl, hg8, hc8, hcm, hown⟩ := own_cells HO.out (by omega)
      have HOw := Lib.hid (fun j u hj => (hown j u hj).gr hb)
      have hgs : w.heap.size ≤ g8 := Nat.le_trans (Nat.le_trans (Gr.size g2) hbr) hg8
      clear hb HTx q2 hown HO hg8
      have z2 : w7.cell? ⟨g8, 2, none⟩ = some (.string ⟨#[]⟩) := (HOw.out 2 _ rfl).1
      have y2 : w7.frozen? ⟨g8, 2, none⟩ = false := (HOw.out 2 _ rfl).2
      have ib : (2 : Int) < ((4 + i : Nat) : Int) := by omega
      have ib2 : (2 : Int) < 4 + (i : Int) := by omega
      go_upto_region 18 with fail
      refine name_world ?_
      intro W9 hW9
      have g9 : Gr w W9 := by rw [hW9]; first | exact Gr.setCell g7 hgs _ | exact gr_auto
      have HJ := Lib.hid (HJn.out g8 cap W9 hc8 (fun j u hj => by
        rw [hW9]
        unfold Al.words at hj
        by_cases e : j = 2
        · subst e
          simp at hj
          subst hj
          exact (Own.set (HOw.out 2 _ rfl)).1
        · refine (Own.other (HOw.out j (.string u) ?_) (Or.inr e)).1
          rcases j with _ | _ | _ | _ | j
          · simp at hj ⊢; exact hj
          · simp at hj ⊢; exact hj
          · exact absurd rfl e
          · simp at hj ⊢; exact hj
          · simp at hj ⊢
            obtain ⟨a, ha, rfl⟩ := hj
            exact ⟨a, ha, rfl⟩))
      clear hW9 HOw z2 y2 hc8 HJn
      go_wp2_with fail
      refine HJ.out.mono ?_
      rintro e w10 ⟨rfl, hb⟩
      have g10 := g9.trans hb
      clear hb HJ
      go_wp2_with fail
      go_ret2
      exact ⟨rfl, g10⟩
end Go.Proofs.YtllkiadedaghoaaGreatDoor
