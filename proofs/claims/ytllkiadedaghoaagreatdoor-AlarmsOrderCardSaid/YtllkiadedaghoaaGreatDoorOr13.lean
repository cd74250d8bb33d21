/-
  Seat .ZD: the reference's Explain. (Printed by mkzxc.py.)
-/
import Derived.Test.YtllkiadedaghoaaGreatDoorOr09
import Derived.Test.YtllkiadedaghoaaGreatDoorOr12

set_option linter.unusedVariables false
set_option linter.unusedSimpArgs false
namespace Go.Proofs.YtllkiadedaghoaaGreatDoor
open Go.RowKit Go.Shelf Go.Sort
attribute [local go_sem ↓] Go.wp_at_zero Go.wp_at_succ
namespace Al
/-- The place of a number of an alarm among the messages. -/
def plc (s : SlM) (a : A) (i : Nat) : Int := Ba.fstI (fun j => isK a.nd (a.X i) (s.D j)) s.n
def mis (s : SlM) (a : A) (i : Nat) : Bool := decide (plc s a i < 0)
theorem wrd_len (kd : Int) : (wrd kd).length ≤ 7 := by unfold wrd; split <;> simp
end Al
set_option maxRecDepth 100000 in
set_option maxHeartbeats 4000000 in
theorem rExp_kind (s : Al.SlM) (a : Al.A) (w : World) (h : s.At w) (ha : a.At w) (hk : a.kd < 1 ∨ 6 < a.kd) : Calls Tryz.prog 11 #[.slice s.A s.n s.c, .agg #[.int .i64 a.kd, .string a.nd, .int .i64 a.tm, .slice a.p a.n a.c]] w fun e w' => e = .returned (.tuple #[.string ⟨#[]⟩, .int .i64 11]) ∧ Gr w w' := by
  clear h ha
  cases a with | mk kd nd tm ap ab ao n ac aX =>
  simp only [] at *
  generalize s.A = sA at *; generalize s.n = sn at *; generalize s.c = sc at *
  rcases (by omega : kd < 1 ∨ (1 ≤ kd ∧ 6 < kd)) with z | ⟨z, z2⟩
  · have t0 : decide (kd < 1) = true := decide_eq_true z
    clear hk
    go_enter Tryz.func11, Tryz.ntmps11
    go_wp2_with fail
    go_ret2
    exact ⟨rfl, gr_auto⟩
  · have t0 : decide (kd < 1) = false := decide_eq_false (by omega)
    have t1 : decide (6 < kd) = true := decide_eq_true z2
    have t2 : ¬ kd < 1 := by omega
    clear hk
    go_enter Tryz.func11, Tryz.ntmps11
    go_wp2_with fail
    go_ret2
    exact ⟨rfl, gr_auto⟩
set_option maxRecDepth 100000 in
set_option maxHeartbeats 4000000 in
theorem rExp_none (s : Al.SlM) (a : Al.A) (w : World) (h : s.At w) (ha : a.At w) (hk : 1 ≤ a.kd ∧ a.kd ≤ 6) (hm : ∃ i, i < a.n ∧ Al.mis s a i = true) : Calls Tryz.prog 11 #[.slice s.A s.n s.c, .agg #[.int .i64 a.kd, .string a.nd, .int .i64 a.tm, .slice a.p a.n a.c]] w fun e w' => e = .returned (.tuple #[.string ⟨#[]⟩, .int .i64 12]) ∧ Gr w w' := by
  have HIx := Lib.hid (fun i W (hW : Gr w W) => show Calls Tryz.prog 43 #[.slice s.A s.n s.c, .string a.nd, .int .i64 (a.X i)] W fun e w' => e = .returned (.int .i64 (Al.plc s a i)) ∧ Gr W w' from rindex_any s a.nd (a.X i) W (h.gr hW))
  have HMs := Lib.hid (fun i => show Al.mis s a i = decide (Al.plc s a i < 0) from rfl)
  have HA := Lib.hid ha.hp; have HX := Lib.hid ha.hX
  have hn := ha.hn
  generalize Al.mis s a = MS at *
  generalize Al.plc s a = PL at *
  clear h ha
  cases a with | mk kd nd tm ap ab ao n ac aX =>
  simp only [] at *
  generalize s.A = sA at *; generalize s.n = sn at *; generalize s.c = sc at *
  have t0 : decide (kd < 1) = false := decide_eq_false (by omega)
  have t1 : decide (6 < kd) = false := decide_eq_false (by omega)
  have t2 : ¬ kd < 1 := by omega
  have t3 : ¬ 6 < kd := by omega
  go_enter Tryz.func11, Tryz.ntmps11
  go_upto_region 4 with fail
  go_wp2_with fail
  refine name_world ?_
  intro W1 hW1
  have g : Gr w W1 := by rw [hW1]; exact gr_auto
  have q0 : W1.cell? ⟨w.heap.size, 0, none⟩ = some (.int .i64 kd) := by rw [hW1]; simp [go_sem]
  have q1 : W1.cell? ⟨w.heap.size, 1, none⟩ = some (.string nd) := by rw [hW1]; simp [go_sem]
  have q2 : W1.cell? ⟨w.heap.size, 2, none⟩ = some (.int .i64 tm) := by rw [hW1]; simp [go_sem]
  have q3 : W1.cell? ⟨w.heap.size, 3, none⟩ = some (.slice ap n ac) := by rw [hW1]; simp [go_sem]
  have z0 : ∀ j, j < 6 → W1.cell? ⟨w.heap.size + 1, j, none⟩ = some (.string ⟨(Al.wrd ((j : Int) + 1)).toArray⟩) := fun j hj => by
    rw [hW1]
    have : j = 0 ∨ j = 1 ∨ j = 2 ∨ j = 3 ∨ j = 4 ∨ j = 5 := by omega
    rcases this with rfl | rfl | rfl | rfl | rfl | rfl <;> simp [go_sem, Al.wrd]
  clear hW1
  go_loopw [7] (fun y wr => ∃ i : Nat, i ≤ n ∧ y = .int .i64 (i : Int) ∧ Hid (∀ j, j < i → MS j = false) ∧ Gr W1 wr) (fun y _ => n - (intOf y).toNat)
  case atStart => exact ⟨0, Nat.zero_le _, rfl, Lib.hid (fun j hj => absurd hj (Nat.not_lt_zero _)), Gr.refl _⟩
  case round =>
    obtain ⟨i, hi, rfl, HQ, hg2⟩ := hrel
    rename World => wx
    have gw := g.trans hg2
    replace q0 := Gr.at hg2 q0; replace q1 := Gr.at hg2 q1; replace q2 := Gr.at hg2 q2; replace q3 := Gr.at hg2 q3
    by_cases hlt : i < n
    · obtain rfl := HA.out (by omega)
      have c0 := Gr.at gw (HX.out i hlt)
      have ib0 : (0 : Int) ≤ (i : Int) := by omega
      have ib1 : (i : Int) < (n : Int) := by omega
      have HIi := Lib.hid (fun W (hW : Gr wx W) => HIx.out i W (gw.trans hW))
      have hms := HMs.out i
      clear HIx HMs HX HA z0 hm
      generalize aX i = x at *
      obtain ⟨pl, hpl⟩ : ∃ pl, PL i = pl := ⟨_, rfl⟩
      rw [hpl] at hms HIi
      clear hpl
      go_upto_region 7 with fail
      (first | refine name_world ?_ | refine (show (∀ W, W = _ → Calls _ _ _ W _) → Calls _ _ _ _ _ from fun h => h _ rfl) ?_); intro W5 hW5
      have g5 : Gr w W5 := by rw [hW5]; exact gr_auto
      have gb5_wx : Gr wx W5 := by (try clear g5); rw [hW5]; exact gr_auto
      have k5_0 : W5.cell? ⟨w.heap.size, 1, none⟩ = some (.string nd) := by rw [hW5]; first | (simp [go_sem, *]; done) | (refine Gr.at ?_ (by assumption); exact gr_auto)
      have b5_0 : w.heap.size < W5.heap.size := World.block_lt_of_cell? _ _ k5_0
      have k5_1 : W5.cell? ⟨w.heap.size, 3, none⟩ = some (.slice (some ⟨ab, ao, none⟩) n ac) := by rw [hW5]; first | (simp [go_sem, *]; done) | (refine Gr.at ?_ (by assumption); exact gr_auto)
      have k5_2 : W5.cell? ⟨ab, ao + i, none⟩ = some (.int .i64 x) := by rw [hW5]; first | (simp [go_sem, *]; done) | (refine Gr.at ?_ (by assumption); exact gr_auto)
      have b5_2 : ab < W5.heap.size := World.block_lt_of_cell? _ _ k5_2
      clear hW5
      have s5_0 : ∀ gw : GW W5, gw.1.cell? ⟨w.heap.size, 1, none⟩ = some (.string nd) := fun gw => Gr.at gw.2 k5_0
      have s5_1 : ∀ gw : GW W5, gw.1.cell? ⟨w.heap.size, 3, none⟩ = some (.slice (some ⟨ab, ao, none⟩) n ac) := fun gw => Gr.at gw.2 k5_1
      have s5_2 : ∀ gw : GW W5, gw.1.cell? ⟨ab, ao + i, none⟩ = some (.int .i64 x) := fun gw => Gr.at gw.2 k5_2
      have HC1 := Lib.hid (fun gw : GW W5 => gw_call (HIi.out gw.1 (gb5_wx.trans gw.2)))
      refine wp_region_gr (by kernel_rfl) (by kernel_rfl) ?_
      repeat (go_big_quiet_step ((go_at_call 43; with_reducible exact HC1.out _)))
      refine wpQuiet_nil ?_
      intro w6 hb6
      clear s5_0 s5_1 s5_2
      have g6 : Gr w w6 := g5.trans hb6
      have k5_0 := Gr.at hb6 k5_0
      have k5_1 := Gr.at hb6 k5_1
      have k5_2 := Gr.at hb6 k5_2
      have g6x : Gr wx w6 := gb5_wx.trans hb6
      cases e : MS i
      · rw [e] at hms
        have u0 : decide (pl < 0) = false := hms.symm
        have u1 : ¬ pl < 0 := by simpa using u0
        have HQ2 := Lib.hid (fun j (hj : j < i + 1) => show MS j = false from by
          by_cases q : j = i
          · rw [q]; exact e
          · exact HQ.out j (by omega))
        clear e hms HQ HIi
        go_wp2_with fail
        go_roundw
        case rel => exact ⟨i + 1, by omega, by go_num, HQ2, hg2.trans g6x⟩
        case measure => simp [intOf]; omega
      · rw [e] at hms
        have u0 : decide (pl < 0) = true := hms.symm
        have u1 : pl < 0 := by simpa using u0
        clear e hms HQ HIi
        go_wp2_with fail
        go_ret2
        exact ⟨rfl, gw.trans g6x⟩
    · obtain rfl : n = i := by omega
      obtain ⟨j, hj, hj2⟩ := hm
      exact absurd (HQ.out j hj) (by rw [hj2]; decide)
set_option maxRecDepth 100000 in
set_option maxHeartbeats 4000000 in
theorem rExp_time (s : Al.SlM) (a : Al.A) (w : World) (h : s.At w) (ha : a.At w) (hk : 1 ≤ a.kd ∧ a.kd ≤ 6) (hm : ∀ i, i < a.n → Al.mis s a i = false) (L : List UInt8) (k : Int) (HT : ∀ W, Gr w W → Calls Tryz.prog 44 #[.int .i64 a.tm] W fun e w' => e = .returned (.tuple #[.string ⟨L.toArray⟩, .int .i64 k]) ∧ Gr W w') (hk0 : k ≠ 0) : Calls Tryz.prog 11 #[.slice s.A s.n s.c, .agg #[.int .i64 a.kd, .string a.nd, .int .i64 a.tm, .slice a.p a.n a.c]] w fun e w' => e = .returned (.tuple #[.string ⟨#[]⟩, .int .i64 k]) ∧ Gr w w' := by
  have HTx := Lib.hid HT
  clear HT
  have HIx := Lib.hid (fun i W (hW : Gr w W) => show Calls Tryz.prog 43 #[.slice s.A s.n s.c, .string a.nd, .int .i64 (a.X i)] W fun e w' => e = .returned (.int .i64 (Al.plc s a i)) ∧ Gr W w' from rindex_any s a.nd (a.X i) W (h.gr hW))
  have HMs := Lib.hid (fun i => show Al.mis s a i = decide (Al.plc s a i < 0) from rfl)
  have HA := Lib.hid ha.hp; have HX := Lib.hid ha.hX
  have hn := ha.hn
  generalize Al.mis s a = MS at *
  generalize Al.plc s a = PL at *
  clear h ha
  cases a with | mk kd nd tm ap ab ao n ac aX =>
  simp only [] at *
  generalize s.A = sA at *; generalize s.n = sn at *; generalize s.c = sc at *
  have t0 : decide (kd < 1) = false := decide_eq_false (by omega)
  have t1 : decide (6 < kd) = false := decide_eq_false (by omega)
  have t2 : ¬ kd < 1 := by omega
  have t3 : ¬ 6 < kd := by omega
  go_enter Tryz.func11, Tryz.ntmps11
  go_upto_region 4 with fail
  go_wp2_with fail
  refine name_world ?_
  intro W1 hW1
  have g : Gr w W1 := by rw [hW1]; exact gr_auto
  have q0 : W1.cell? ⟨w.heap.size, 0, none⟩ = some (.int .i64 kd) := by rw [hW1]; simp [go_sem]
  have q1 : W1.cell? ⟨w.heap.size, 1, none⟩ = some (.string nd) := by rw [hW1]; simp [go_sem]
  have q2 : W1.cell? ⟨w.heap.size, 2, none⟩ = some (.int .i64 tm) := by rw [hW1]; simp [go_sem]
  have q3 : W1.cell? ⟨w.heap.size, 3, none⟩ = some (.slice ap n ac) := by rw [hW1]; simp [go_sem]
  have z0 : ∀ j, j < 6 → W1.cell? ⟨w.heap.size + 1, j, none⟩ = some (.string ⟨(Al.wrd ((j : Int) + 1)).toArray⟩) := fun j hj => by
    rw [hW1]
    have : j = 0 ∨ j = 1 ∨ j = 2 ∨ j = 3 ∨ j = 4 ∨ j = 5 := by omega
    rcases this with rfl | rfl | rfl | rfl | rfl | rfl <;> simp [go_sem, Al.wrd]
  clear hW1
  have HNo := Lib.hid hm
  clear hm
  go_loopw [7] (fun y wr => ∃ i : Nat, i ≤ n ∧ y = .int .i64 (i : Int) ∧ Hid (∀ j, j < i → MS j = false) ∧ Gr W1 wr) (fun y _ => n - (intOf y).toNat)
  case atStart => exact ⟨0, Nat.zero_le _, rfl, Lib.hid (fun j hj => absurd hj (Nat.not_lt_zero _)), Gr.refl _⟩
  case round =>
    obtain ⟨i, hi, rfl, HQ, hg2⟩ := hrel
    rename World => wx
    have gw := g.trans hg2
    replace q0 := Gr.at hg2 q0; replace q1 := Gr.at hg2 q1; replace q2 := Gr.at hg2 q2; replace q3 := Gr.at hg2 q3
    by_cases hlt : i < n
    · obtain rfl := HA.out (by omega)
      have c0 := Gr.at gw (HX.out i hlt)
      have ib0 : (0 : Int) ≤ (i : Int) := by omega
      have ib1 : (i : Int) < (n : Int) := by omega
      have HIi := Lib.hid (fun W (hW : Gr wx W) => HIx.out i W (gw.trans hW))
      have hms := HMs.out i
      clear HIx HMs HX HA z0 HTx
      generalize aX i = x at *
      obtain ⟨pl, hpl⟩ : ∃ pl, PL i = pl := ⟨_, rfl⟩
      rw [hpl] at hms HIi
      clear hpl
      go_upto_region 7 with fail
      (first | refine name_world ?_ | refine (show (∀ W, W = _ → Calls _ _ _ W _) → Calls _ _ _ _ _ from fun h => h _ rfl) ?_); intro W5 hW5
      have g5 : Gr w W5 := by rw [hW5]; exact gr_auto
      have gb5_wx : Gr wx W5 := by (try clear g5); rw [hW5]; exact gr_auto
      have k5_0 : W5.cell? ⟨w.heap.size, 1, none⟩ = some (.string nd) := by rw [hW5]; first | (simp [go_sem, *]; done) | (refine Gr.at ?_ (by assumption); exact gr_auto)
      have b5_0 : w.heap.size < W5.heap.size := World.block_lt_of_cell? _ _ k5_0
      have k5_1 : W5.cell? ⟨w.heap.size, 3, none⟩ = some (.slice (some ⟨ab, ao, none⟩) n ac) := by rw [hW5]; first | (simp [go_sem, *]; done) | (refine Gr.at ?_ (by assumption); exact gr_auto)
      have k5_2 : W5.cell? ⟨ab, ao + i, none⟩ = some (.int .i64 x) := by rw [hW5]; first | (simp [go_sem, *]; done) | (refine Gr.at ?_ (by assumption); exact gr_auto)
      have b5_2 : ab < W5.heap.size := World.block_lt_of_cell? _ _ k5_2
      clear hW5
      have s5_0 : ∀ gw : GW W5, gw.1.cell? ⟨w.heap.size, 1, none⟩ = some (.string nd) := fun gw => Gr.at gw.2 k5_0
      have s5_1 : ∀ gw : GW W5, gw.1.cell? ⟨w.heap.size, 3, none⟩ = some (.slice (some ⟨ab, ao, none⟩) n ac) := fun gw => Gr.at gw.2 k5_1
      have s5_2 : ∀ gw : GW W5, gw.1.cell? ⟨ab, ao + i, none⟩ = some (.int .i64 x) := fun gw => Gr.at gw.2 k5_2
      have HC1 := Lib.hid (fun gw : GW W5 => gw_call (HIi.out gw.1 (gb5_wx.trans gw.2)))
      refine wp_region_gr (by kernel_rfl) (by kernel_rfl) ?_
      repeat (go_big_quiet_step ((go_at_call 43; with_reducible exact HC1.out _)))
      refine wpQuiet_nil ?_
      intro w6 hb6
      clear s5_0 s5_1 s5_2
      have g6 : Gr w w6 := g5.trans hb6
      have k5_0 := Gr.at hb6 k5_0
      have k5_1 := Gr.at hb6 k5_1
      have k5_2 := Gr.at hb6 k5_2
      have g6x : Gr wx w6 := gb5_wx.trans hb6
      cases e : MS i
      · rw [e] at hms
        have u0 : decide (pl < 0) = false := hms.symm
        have u1 : ¬ pl < 0 := by simpa using u0
        have HQ2 := Lib.hid (fun j (hj : j < i + 1) => show MS j = false from by
          by_cases q : j = i
          · rw [q]; exact e
          · exact HQ.out j (by omega))
        clear e hms HQ HIi
        go_wp2_with fail
        go_roundw
        case rel => exact ⟨i + 1, by omega, by go_num, HQ2, hg2.trans g6x⟩
        case measure => simp [intOf]; omega
      · rw [e] at hms
        have u0 : decide (pl < 0) = true := hms.symm
        have u1 : pl < 0 := by simpa using u0
        exact absurd e (by rw [HNo.out i hlt]; decide)
    · obtain rfl : n = i := by omega
      clear HX HA HIx HMs HQ HNo
      go_wp2_with fail
      refine (HTx.out _ gw).mono ?_
      rintro e w7 ⟨rfl, hb⟩
      have g7 := gw.trans hb
      have v0 : (k != 0) = true := bne_iff_ne.2 hk0
      clear hb HTx z0 q0 q1 q2 q3
      go_wp2_with fail
      go_ret2
      exact ⟨rfl, g7⟩
namespace Al
theorem numT_len (X : Nat → Int) : ∀ n, (∀ i, i < n → X i ≤ 9223372036854775807) → (numT X n).length ≤ 20 * n
  | 0, _ => by simp [numT]
  | n + 1, h => by
    rw [numT_succ, List.length_append, List.length_append]
    have a := numT_len X n (fun i hi => h i (by omega))
    have b := Ck.dec_le (n := (X n).toNat) (by have := h n (by omega); omega)
    simp only [List.length_cons, List.length_nil]
    omega
/-- What is ahead of the numbers. -/
def explH (W nd L : List UInt8) : List UInt8 := W ++ [32] ++ nd ++ [32] ++ L ++ [32] ++ msgW
end Al
theorem bytes_explH (W L : List UInt8) (nd : ByteArray) : ((((((⟨W.toArray⟩ : ByteArray) ++ ⟨#[32]⟩) ++ nd) ++ ⟨#[32]⟩) ++ ⟨L.toArray⟩) ++ ⟨#[32, 109, 101, 115, 115, 97, 103, 101, 115]⟩ : ByteArray) = ⟨(Al.explH W nd.data.toList L).toArray⟩ := by
  apply ByteArray.ext
  apply Array.ext'
  simp [Al.explH, Al.msgW, ByteArray.data_append, List.append_assoc]
theorem bytes_num (P D : List UInt8) : (((⟨P.toArray⟩ : ByteArray) ++ ⟨#[32]⟩) ++ ⟨D.toArray⟩ : ByteArray) = ⟨(P ++ ([32] ++ D)).toArray⟩ := by
  apply ByteArray.ext
  apply Array.ext'
  simp [ByteArray.data_append, List.append_assoc]
set_option maxRecDepth 100000 in
set_option maxHeartbeats 4000000 in
theorem rExp_ok (s : Al.SlM) (a : Al.A) (w : World) (h : s.At w) (ha : a.At w) (hk : 1 ≤ a.kd ∧ a.kd ≤ 6) (hm : ∀ i, i < a.n → Al.mis s a i = false) (L : List UInt8) (HT : ∀ W, Gr w W → Calls Tryz.prog 44 #[.int .i64 a.tm] W fun e w' => e = .returned (.tuple #[.string ⟨L.toArray⟩, .int .i64 0]) ∧ Gr W w') (hL : L.length ≤ 1000) (hnd : a.nd.size ≤ 50) (hn40 : a.n ≤ 40) (hx : ∀ i, i < a.n → 0 ≤ a.X i ∧ a.X i ≤ 9223372036854775807) : Calls Tryz.prog 11 #[.slice s.A s.n s.c, .agg #[.int .i64 a.kd, .string a.nd, .int .i64 a.tm, .slice a.p a.n a.c]] w fun e w' => e = .returned (.tuple #[.string ⟨(Al.expl a.kd a.nd.data.toList L a.X a.n).toArray⟩, .int .i64 0]) ∧ Gr w w' := by
  have HTx := Lib.hid HT
  clear HT
  have HF := Lib.hid (fun i (hi : i < a.n) W => show Calls Tryz.prog 45 #[.int .i64 (a.X i), .int .i64 0] W fun e w' => e = .returned (.string ⟨(Lib.decDigits (a.X i).toNat).toArray⟩) ∧ Gr W w' from by
    have := rfmt0_any (a.X i).toNat W (by have := hx i hi; omega)
    rw [show ((a.X i).toNat : Int) = a.X i by have := hx i hi; omega] at this
    exact this)
  have HDl := Lib.hid (fun i (hi : i < a.n) => show (Lib.decDigits (a.X i).toNat).length ≤ 19 from Ck.dec_le (by have := hx i hi; omega))
  have HNl := Lib.hid (fun i (hi : i ≤ a.n) => show (Al.numT a.X i).length ≤ 20 * i from Al.numT_len a.X i (fun j hj => (hx j (by omega)).2))
  have HNs := Lib.hid (fun i => Al.numT_succ a.X i)
  have HN0 := Lib.hid (show Al.numT a.X 0 = [] from rfl)
  have HEx := Lib.hid (show Al.expl a.kd a.nd.data.toList L a.X a.n = Al.explH (Al.wrd a.kd) a.nd.data.toList L ++ Al.numT a.X a.n from rfl)
  have hwl := Al.wrd_len a.kd
  generalize Al.expl a.kd a.nd.data.toList L a.X a.n = RES at *
  clear hx
  have HIx := Lib.hid (fun i W (hW : Gr w W) => show Calls Tryz.prog 43 #[.slice s.A s.n s.c, .string a.nd, .int .i64 (a.X i)] W fun e w' => e = .returned (.int .i64 (Al.plc s a i)) ∧ Gr W w' from rindex_any s a.nd (a.X i) W (h.gr hW))
  have HMs := Lib.hid (fun i => show Al.mis s a i = decide (Al.plc s a i < 0) from rfl)
  have HA := Lib.hid ha.hp; have HX := Lib.hid ha.hX
  have hn := ha.hn
  generalize Al.numT a.X = NT at *
  generalize Al.mis s a = MS at *
  generalize Al.plc s a = PL at *
  clear h ha
  cases a with | mk kd nd tm ap ab ao n ac aX =>
  simp only [] at *
  generalize s.A = sA at *; generalize s.n = sn at *; generalize s.c = sc at *
  have t0 : decide (kd < 1) = false := decide_eq_false (by omega)
  have t1 : decide (6 < kd) = false := decide_eq_false (by omega)
  have t2 : ¬ kd < 1 := by omega
  have t3 : ¬ 6 < kd := by omega
  go_enter Tryz.func11, Tryz.ntmps11
  go_upto_region 4 with fail
  go_wp2_with fail
  refine name_world ?_
  intro W1 hW1
  have g : Gr w W1 := by rw [hW1]; exact gr_auto
  have q0 : W1.cell? ⟨w.heap.size, 0, none⟩ = some (.int .i64 kd) := by rw [hW1]; simp [go_sem]
  have q1 : W1.cell? ⟨w.heap.size, 1, none⟩ = some (.string nd) := by rw [hW1]; simp [go_sem]
  have q2 : W1.cell? ⟨w.heap.size, 2, none⟩ = some (.int .i64 tm) := by rw [hW1]; simp [go_sem]
  have q3 : W1.cell? ⟨w.heap.size, 3, none⟩ = some (.slice ap n ac) := by rw [hW1]; simp [go_sem]
  have z0 : ∀ j, j < 6 → W1.cell? ⟨w.heap.size + 1, j, none⟩ = some (.string ⟨(Al.wrd ((j : Int) + 1)).toArray⟩) := fun j hj => by
    rw [hW1]
    have : j = 0 ∨ j = 1 ∨ j = 2 ∨ j = 3 ∨ j = 4 ∨ j = 5 := by omega
    rcases this with rfl | rfl | rfl | rfl | rfl | rfl <;> simp [go_sem, Al.wrd]
  clear hW1
  have HNo := Lib.hid hm
  clear hm
  go_loopw [7] (fun y wr => ∃ i : Nat, i ≤ n ∧ y = .int .i64 (i : Int) ∧ Hid (∀ j, j < i → MS j = false) ∧ Gr W1 wr) (fun y _ => n - (intOf y).toNat)
  case atStart => exact ⟨0, Nat.zero_le _, rfl, Lib.hid (fun j hj => absurd hj (Nat.not_lt_zero _)), Gr.refl _⟩
  case round =>
    obtain ⟨i, hi, rfl, HQ, hg2⟩ := hrel
    rename World => wx
    have gw := g.trans hg2
    replace q0 := Gr.at hg2 q0; replace q1 := Gr.at hg2 q1; replace q2 := Gr.at hg2 q2; replace q3 := Gr.at hg2 q3
    by_cases hlt : i < n
    · obtain rfl := HA.out (by omega)
      have c0 := Gr.at gw (HX.out i hlt)
      have ib0 : (0 : Int) ≤ (i : Int) := by omega
      have ib1 : (i : Int) < (n : Int) := by omega
      have HIi := Lib.hid (fun W (hW : Gr wx W) => HIx.out i W (gw.trans hW))
      have hms := HMs.out i
      clear HIx HMs HX HA z0 HTx HF HDl HNl HNs HN0 HEx
      generalize aX i = x at *
      obtain ⟨pl, hpl⟩ : ∃ pl, PL i = pl := ⟨_, rfl⟩
      rw [hpl] at hms HIi
      clear hpl
      go_upto_region 7 with fail
      (first | refine name_world ?_ | refine (show (∀ W, W = _ → Calls _ _ _ W _) → Calls _ _ _ _ _ from fun h => h _ rfl) ?_); intro W5 hW5
      have g5 : Gr w W5 := by rw [hW5]; exact gr_auto
      have gb5_wx : Gr wx W5 := by (try clear g5); rw [hW5]; exact gr_auto
      have k5_0 : W5.cell? ⟨w.heap.size, 1, none⟩ = some (.string nd) := by rw [hW5]; first | (simp [go_sem, *]; done) | (refine Gr.at ?_ (by assumption); exact gr_auto)
      have b5_0 : w.heap.size < W5.heap.size := World.block_lt_of_cell? _ _ k5_0
      have k5_1 : W5.cell? ⟨w.heap.size, 3, none⟩ = some (.slice (some ⟨ab, ao, none⟩) n ac) := by rw [hW5]; first | (simp [go_sem, *]; done) | (refine Gr.at ?_ (by assumption); exact gr_auto)
      have k5_2 : W5.cell? ⟨ab, ao + i, none⟩ = some (.int .i64 x) := by rw [hW5]; first | (simp [go_sem, *]; done) | (refine Gr.at ?_ (by assumption); exact gr_auto)
      have b5_2 : ab < W5.heap.size := World.block_lt_of_cell? _ _ k5_2
      clear hW5
      have s5_0 : ∀ gw : GW W5, gw.1.cell? ⟨w.heap.size, 1, none⟩ = some (.string nd) := fun gw => Gr.at gw.2 k5_0
      have s5_1 : ∀ gw : GW W5, gw.1.cell? ⟨w.heap.size, 3, none⟩ = some (.slice (some ⟨ab, ao, none⟩) n ac) := fun gw => Gr.at gw.2 k5_1
      have s5_2 : ∀ gw : GW W5, gw.1.cell? ⟨ab, ao + i, none⟩ = some (.int .i64 x) := fun gw => Gr.at gw.2 k5_2
      have HC1 := Lib.hid (fun gw : GW W5 => gw_call (HIi.out gw.1 (gb5_wx.trans gw.2)))
      refine wp_region_gr (by kernel_rfl) (by kernel_rfl) ?_
      repeat (go_big_quiet_step ((go_at_call 43; with_reducible exact HC1.out _)))
      refine wpQuiet_nil ?_
      intro w6 hb6
      clear s5_0 s5_1 s5_2
      have g6 : Gr w w6 := g5.trans hb6
      have k5_0 := Gr.at hb6 k5_0
      have k5_1 := Gr.at hb6 k5_1
      have k5_2 := Gr.at hb6 k5_2
      have g6x : Gr wx w6 := gb5_wx.trans hb6
      cases e : MS i
      · rw [e] at hms
        have u0 : decide (pl < 0) = false := hms.symm
        have u1 : ¬ pl < 0 := by simpa using u0
        have HQ2 := Lib.hid (fun j (hj : j < i + 1) => show MS j = false from by
          by_cases q : j = i
          · rw [q]; exact e
          · exact HQ.out j (by omega))
        clear e hms HQ HIi
        go_wp2_with fail
        go_roundw
        case rel => exact ⟨i + 1, by omega, by go_num, HQ2, hg2.trans g6x⟩
        case measure => simp [intOf]; omega
      · rw [e] at hms
        have u0 : decide (pl < 0) = true := hms.symm
        have u1 : pl < 0 := by simpa using u0
        exact absurd e (by rw [HNo.out i hlt]; decide)
    · obtain rfl : n = i := by omega
      clear HIx HMs HQ HNo
      go_wp2_with fail
      refine (HTx.out _ gw).mono ?_
      rintro e w7 ⟨rfl, hb⟩
      have g7 := gw.trans hb
      replace q0 := Gr.at hb q0; replace q1 := Gr.at hb q1; replace q3 := Gr.at hb q3
      have g17 := hg2.trans hb
      obtain ⟨j, hj⟩ : ∃ j : Nat, kd = (j : Int) + 1 := ⟨(kd - 1).toNat, by omega⟩
      subst hj
      have zj := Gr.at g17 (z0 j (by omega))
      have HWl := Lib.hid hwl
      clear z0 hb HTx q2 hg2 hwl
      obtain ⟨WD, hWD⟩ : ∃ WD, Al.wrd ((j : Int) + 1) = WD := ⟨_, rfl⟩
      rw [hWD] at zj HEx HWl
      clear hWD
      have hwd := HWl.out
      have jb0 : (0 : Int) ≤ (j : Int) := by omega
      have jb1 : (j : Int) < 6 := by omega
      have wj0 : IntKind.i64.wrap ((j : Int) + 1 - 1) = (j : Int) := by rw [show (j : Int) + 1 - 1 = (j : Int) by omega]; rw [IntKind.wrap_i64]; omega
      have wj1 : IntKind.i64.wrap (j : Int) = (j : Int) := by rw [IntKind.wrap_i64]; omega
      have sW : (⟨WD.toArray⟩ : ByteArray).size = WD.length := by simp [ByteArray.size]
      have sL : (⟨L.toArray⟩ : ByteArray).size = L.length := by simp [ByteArray.size]
      have s1 : (⟨#[32]⟩ : ByteArray).size = 1 := rfl
      have s9 : (⟨#[32, 109, 101, 115, 115, 97, 103, 101, 115]⟩ : ByteArray).size = 9 := rfl
      have sN : nd.data.toList.length = nd.size := by rw [Array.length_toList]; rfl
      have x0 : ∀ W : World, (Op.stringOp .add (⟨WD.toArray⟩ : ByteArray) ⟨#[32]⟩).run Tryz.prog W = .ok (.string ((⟨WD.toArray⟩ : ByteArray) ++ ⟨#[32]⟩)) W := fun W => run_string_add_sum W _ _ (by omega)
      have x1 : ∀ W : World, (Op.stringOp .add ((⟨WD.toArray⟩ : ByteArray) ++ ⟨#[32]⟩) nd).run Tryz.prog W = .ok (.string (((⟨WD.toArray⟩ : ByteArray) ++ ⟨#[32]⟩) ++ nd)) W := fun W => run_string_add_sum W _ _ (by simp only [ByteArray.size_append']; omega)
      have x2 : ∀ W : World, (Op.stringOp .add (((⟨WD.toArray⟩ : ByteArray) ++ ⟨#[32]⟩) ++ nd) ⟨#[32]⟩).run Tryz.prog W = .ok (.string ((((⟨WD.toArray⟩ : ByteArray) ++ ⟨#[32]⟩) ++ nd) ++ ⟨#[32]⟩)) W := fun W => run_string_add_sum W _ _ (by simp only [ByteArray.size_append']; omega)
      have x3 : ∀ W : World, (Op.stringOp .add ((((⟨WD.toArray⟩ : ByteArray) ++ ⟨#[32]⟩) ++ nd) ++ ⟨#[32]⟩) ⟨L.toArray⟩).run Tryz.prog W = .ok (.string (((((⟨WD.toArray⟩ : ByteArray) ++ ⟨#[32]⟩) ++ nd) ++ ⟨#[32]⟩) ++ ⟨L.toArray⟩)) W := fun W => run_string_add_sum W _ _ (by simp only [ByteArray.size_append']; omega)
      have x4 : ∀ W : World, (Op.stringOp .add (((((⟨WD.toArray⟩ : ByteArray) ++ ⟨#[32]⟩) ++ nd) ++ ⟨#[32]⟩) ++ ⟨L.toArray⟩) ⟨#[32, 109, 101, 115, 115, 97, 103, 101, 115]⟩).run Tryz.prog W = .ok (.string ((((((⟨WD.toArray⟩ : ByteArray) ++ ⟨#[32]⟩) ++ nd) ++ ⟨#[32]⟩) ++ ⟨L.toArray⟩) ++ ⟨#[32, 109, 101, 115, 115, 97, 103, 101, 115]⟩)) W := fun W => run_string_add_sum W _ _ (by simp only [ByteArray.size_append']; omega)
      have HP := Lib.hid (bytes_explH WD L nd)
      have HPl := Lib.hid (show (Al.explH WD nd.data.toList L).length ≤ 2000 from by
        unfold Al.explH Al.msgW
        simp only [List.length_append, List.length_cons, List.length_nil]
        omega)
      generalize Al.explH WD nd.data.toList L = P at *
      go_upto_region 12 with fail
      go_quiet (fail)
      go_wp2_with fail
      refine name_world ?_
      intro W8 hW8
      have g8 : Gr w7 W8 := by rw [hW8]; exact gr_auto
      replace q3 := Gr.at g8 q3
      replace g7 := g7.trans g8
      clear hW8 q0 q1 zj x0 x1 x2 x3 x4 g8 g17 sW sL s1 s9 sN
      go_loopw [10, 11] (fun u y wr => ∃ i : Nat, i ≤ n ∧ y = .int .i64 (i : Int) ∧ u = .string ⟨(P ++ NT i).toArray⟩ ∧ Gr W8 wr) (fun _ y _ => n - (intOf y).toNat)
      case atStart => exact ⟨0, Nat.zero_le _, rfl, by rw [HN0.out, List.append_nil, ← HP.out], Gr.refl _⟩
      case round =>
        obtain ⟨i, hi, rfl, rfl, hg3⟩ := hrel
        rename World => wy
        replace q3 := Gr.at hg3 q3
        have gy := g7.trans hg3
        by_cases hlt : i < n
        · obtain rfl := HA.out (by omega)
          have c0 := Gr.at gy (HX.out i hlt)
          have ib0 : (0 : Int) ≤ (i : Int) := by omega
          have ib1 : (i : Int) < (n : Int) := by omega
          have HFi := Lib.hid (HF.out i hlt)
          have HDi := Lib.hid (HDl.out i hlt)
          have HNi := Lib.hid (HNs.out i)
          have HLi := Lib.hid (show (P ++ NT i).length ≤ 3000 from by
            rw [List.length_append]
            have a := HNl.out i hi; have b := HPl.out; omega)
          have HZ := Lib.hid (show P ++ NT (i + 1) = (P ++ NT i) ++ ([32] ++ Lib.decDigits (aX i).toNat) from by rw [HNi.out, List.append_assoc])
          clear HX HA HF HDl HNs HNl HP HPl HN0 HEx HNi
          generalize Lib.decDigits (aX i).toNat = DC at *
          generalize P ++ NT i = OUT at *
          generalize aX i = x at *
          have ho := HLi.out; have hd := HDi.out
          have y0 : ∀ W : World, (Op.stringOp .add (⟨OUT.toArray⟩ : ByteArray) ⟨#[32]⟩).run Tryz.prog W = .ok (.string ((⟨OUT.toArray⟩ : ByteArray) ++ ⟨#[32]⟩)) W := fun W => run_string_add_sum W _ _ (by simp [ByteArray.size]; omega)
          have y1 : ∀ W : World, (Op.stringOp .add ((⟨OUT.toArray⟩ : ByteArray) ++ ⟨#[32]⟩) ⟨DC.toArray⟩).run Tryz.prog W = .ok (.string (((⟨OUT.toArray⟩ : ByteArray) ++ ⟨#[32]⟩) ++ ⟨DC.toArray⟩)) W := fun W => run_string_add_sum W _ _ (by simp only [ByteArray.size_append']; simp [ByteArray.size]; omega)
          go_wp2_with fail
          refine (HFi.out _).mono ?_
          rintro e w9 ⟨rfl, hb9⟩
          have g9 : Gr W8 w9 := hg3.trans hb9
          clear hb9 HFi
          go_wp2_with fail
          go_roundw
          case rel => exact ⟨i + 1, by omega, by go_num, by rw [HZ.out, ← bytes_num], g9⟩
          case measure => simp [intOf]; omega
        · obtain rfl : n = i := by omega
          have HR := Lib.hid HEx.out
          clear HX HA HF HDl HNs HNl HP HPl HN0 HEx
          go_wp2_with fail
          go_ret2
          exact ⟨congrArg (fun l : List UInt8 => Ending.returned (.tuple #[.string ⟨l.toArray⟩, .int .i64 0])) HR.out.symm, gy⟩
end Go.Proofs.YtllkiadedaghoaaGreatDoor
