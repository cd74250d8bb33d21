/-
  Runoff: the program's Mix, of what is right. (Printed by mkd.py.)
-/
import Derived.Test.YtajhhplgcegodaaGreatDoorInf12
import Derived.Test.YtajhhplgcegodaaGreatDoorInf02
import Derived.Deep.RegionWith
set_option linter.unusedVariables false
set_option linter.unusedSimpArgs false
namespace Go.Proofs.YtajhhplgcegodaaGreatDoor
open Go.RowKit
attribute [local go_sem ↓] Go.wp_at_zero Go.wp_at_succ
theorem info_store : (Tryz.prog.info? 185).map (fun i => (i.zero, i.size, i.bytes)) = some (some (.agg #[.int .i64 0, .int .i64 0]), 2, 16) := by kernel_rfl
theorem info_parts {x : Option TypeInfo} {z : Option Value} {k b : Nat} (h : x.map (fun i => (i.zero, i.size, i.bytes)) = some (z, k, b)) : ∃ i, x = some i ∧ i.zero = z ∧ i.size = k ∧ i.bytes = b := by
  cases x with
  | none => cases h
  | some i => simp only [Option.map_some, Option.some.injEq, Prod.mk.injEq] at h; exact ⟨i, rfl, h.1, h.2.1, h.2.2⟩
theorem own_k2 {w w' : World} {B : Nat} {C : Prop} (hg : Gr w w') (h0 : w.cell? ⟨B, 0, none⟩ = some (.int .i64 0)) (f0 : w.frozen? ⟨B, 0, none⟩ = false) (h1 : w.cell? ⟨B, 1, none⟩ = some (.int .i64 0)) (f1 : w.frozen? ⟨B, 1, none⟩ = false)
    (k : w'.cell? ⟨B, 0, none⟩ = some (.int .i64 0) → w'.frozen? ⟨B, 0, none⟩ = false → w'.cell? ⟨B, 1, none⟩ = some (.int .i64 0) → w'.frozen? ⟨B, 1, none⟩ = false → C) : C :=
  k (Gr.at hg h0) (Gr.free hg h0 f0) (Gr.at hg h1) (Gr.free hg h1 f1)
namespace Ba
/-- A slice of stores. -/
structure SlT where
  A : Option Addr
  n : Nat
  c : Nat
  b : Nat
  o : Nat
  W : Nat → Int
  H : Nat → Int
structure SlT.At (w : World) (s : SlT) : Prop where
  hA : 0 < s.n → s.A = some ⟨s.b, s.o, none⟩
  hc : s.n ≤ s.c
  hb : s.c ≤ 9223372036854775807
  hX : ∀ i, i < s.n → w.cell? ⟨s.b, s.o + i * 2, none⟩ = some (.int .i64 (s.W i)) ∧ w.cell? ⟨s.b, s.o + i * 2 + 1, none⟩ = some (.int .i64 (s.H i))
theorem SlT.At.gr {w w1 : World} {s : SlT} (h : s.At w) (hg : Gr w w1) : s.At w1 := ⟨h.hA, h.hc, h.hb, fun i hi => ⟨Gr.at hg (h.hX i hi).1, Gr.at hg (h.hX i hi).2⟩⟩
/-- The cells of stores, one behind the other. -/
def flatT (W H : Nat → Int) : Nat → List Value
  | 0 => []
  | n + 1 => flatT W H n ++ [.int .i64 (W n), .int .i64 (H n)]
theorem flatT_len (W H : Nat → Int) : ∀ n, (flatT W H n).length = n * 2
  | 0 => rfl
  | n + 1 => by rw [flatT, List.length_append, flatT_len W H n]; simp; omega
theorem flatT_get (W H : Nat → Int) : ∀ {n j : Nat}, j < n → (flatT W H n)[j * 2]? = some (.int .i64 (W j)) ∧ (flatT W H n)[j * 2 + 1]? = some (.int .i64 (H j))
  | 0, _, h => by omega
  | n + 1, j, h => by
    rw [flatT]
    by_cases e : j = n
    · subst e
      have hl := flatT_len W H j
      refine ⟨?_, ?_⟩
      · rw [List.getElem?_append_right (by omega), hl, show j * 2 - j * 2 = 0 by omega]; rfl
      · rw [List.getElem?_append_right (by omega), hl, show j * 2 + 1 - j * 2 = 1 by omega]; rfl
    · obtain ⟨h1, h2⟩ := flatT_get W H (n := n) (j := j) (by omega)
      have hl := flatT_len W H n
      refine ⟨?_, ?_⟩
      · rw [List.getElem?_append_left (by omega)]; exact h1
      · rw [List.getElem?_append_left (by omega)]; exact h2
theorem own_slt {w : World} {base E n : Nat} {v : Value} {W H : Nat → Int} (h : w.ownsRow base E 2 v n (flatT W H n)) : ∃ s : SlT, v = .slice s.A s.n s.c ∧ s.At w ∧ s.n = n ∧ s.W = W ∧ s.H = H ∧ (0 < n → base ≤ s.b) := by
  have h' := h
  obtain ⟨hl, ⟨rfl, rfl⟩ | ⟨g, cap, cur, rfl, hb, hc, hn, hm, hs, hx⟩⟩ := h
  · exact ⟨⟨none, 0, 0, 0, 0, W, H⟩, rfl, ⟨fun h => absurd h (by simp), Nat.le_refl _, by simp, fun i hi => absurd hi (by simp)⟩, rfl, rfl, rfl, fun h => absurd h (by omega)⟩
  · refine ⟨⟨some ⟨g, 0, none⟩, n, cap, g, 0, W, H⟩, rfl, ⟨fun _ => rfl, hn, by unfold maxLen at hm; exact hm, fun j hj => ?_⟩, rfl, rfl, rfl, fun _ => hb⟩
    have own : ∀ i v, i < n * 2 → (flatT W H n)[i]? = some v → w.cell? ⟨g, i, none⟩ = some v := fun i v hi hv => by
      have hcv : cur.toList[i]? = some v := by
        rw [← hx, List.getElem?_take_of_lt hi] at hv; exact hv
      simp only [World.cell?, hc]; simpa using hcv
    simp only at hj
    obtain ⟨g1, g2⟩ := flatT_get W H hj
    simp only [Nat.zero_add]
    exact ⟨own _ _ (by omega) g1, own _ _ (by omega) g2⟩
/-- The volume of a mixture. -/
def volI (C : SlClass) (a : SlI) (W H : Nat → Int) (dep : Int) (n : Nat) : Int := sumI (fun i => a.X i * offI (C.D i) (W i) (H i) dep) n
/-- What Mix answers: the stores, and a volume. -/
def RetMix (C : SlClass) (a : SlI) (T : SlT) (dep sec : Int) (w : World) (e : Ending) (w' : World) : Prop := ∃ s : SlT, e = .returned (.tuple #[.slice s.A s.n s.c, .int .i64 (volI C a T.W T.H dep C.n), .int .i64 0]) ∧ s.At w' ∧ s.n = C.n ∧ s.W = (fun i => stW (C.D i) (T.W i) dep sec) ∧ s.H = (fun i => stH (C.D i) (T.W i) (T.H i) dep sec) ∧ (0 < C.n → w.heap.size ≤ s.b) ∧ Gr w w'
end Ba
set_option maxRecDepth 100000 in
set_option maxHeartbeats 8000000 in
theorem mix_ok (A A2 A3 : Option Addr) (n c ac tc b oo ab ao tb to_ : Nat) (D : Nat → Ba.Class) (X W H : Nat → Int) (dep sec : Int) (w : World) (hn1 : 1 ≤ n) (hn : n ≤ 16) (hA : A = some ⟨b, oo, none⟩) (hA2 : A2 = some ⟨ab, ao, none⟩) (hA3 : A3 = some ⟨tb, to_, none⟩) (hd : 0 ≤ dep ∧ dep ≤ 4194304) (hs : 1 ≤ sec ∧ sec ≤ 86400)
    (HV : Hid (∀ W, Gr w W → Calls Tryz.prog 102 #[.slice A n c] W fun e w' => e = .returned (.bool true) ∧ Gr W w'))
    (HD : Hid (∀ i, i < n → (D i).Cells w b (oo + i * 5))) (HX : Hid (∀ i, i < n → w.cell? ⟨ab, ao + i, none⟩ = some (.int .i64 (X i)) ∧ 0 ≤ X i ∧ X i ≤ 1073741824)) (HT : Hid (∀ i, i < n → w.cell? ⟨tb, to_ + i * 2, none⟩ = some (.int .i64 (W i)) ∧ w.cell? ⟨tb, to_ + i * 2 + 1, none⟩ = some (.int .i64 (H i))))
    (HVS : Hid (∀ i, i < n → ∀ W', Gr w W' → Calls Tryz.prog 146 #[(D i).val, .agg #[.int .i64 (W i), .int .i64 (H i)]] W' fun e w' => e = .returned (.bool true) ∧ Gr W' w'))
    (off sw sh : Nat → Int) (HST : Hid (∀ i, i < n → ∀ W', Gr w W' → Calls Tryz.prog 149 #[(D i).val, .agg #[.int .i64 (W i), .int .i64 (H i)], .int .i64 dep, .int .i64 sec] W' fun e w' => e = .returned (.tuple #[.agg #[.int .i64 (sw i), .int .i64 (sh i)], .int .i64 (off i)]) ∧ Gr W' w'))
    (HS0 : Hid (Ba.sumI X 0 = 0)) (HSS : Hid (∀ i, Ba.sumI X (i + 1) = Ba.sumI X i + X i)) (HSB : Hid (∀ i, i ≤ n → 0 ≤ Ba.sumI X i ∧ Ba.sumI X i ≤ 1073741824))
    (vo : Nat → Int) (HV0 : Hid (vo 0 = 0)) (HVS2 : Hid (∀ i, vo (i + 1) = vo i + X i * off i)) (HVB : Hid (∀ i, i ≤ n → 0 ≤ vo i ∧ vo i ≤ 4611686018427387904)) (HOB : Hid (∀ i, i < n → 0 ≤ X i * off i ∧ X i * off i ≤ 4611686018427387904)) : Calls Tryz.prog 93 #[.slice A n c, .slice A2 n ac, .slice A3 n tc, .int .i64 dep, .int .i64 sec] w (fun e w' => ∃ s : Ba.SlT, e = .returned (.tuple #[.slice s.A s.n s.c, .int .i64 (vo n), .int .i64 0]) ∧ s.At w' ∧ s.n = n ∧ s.W = sw ∧ s.H = sh ∧ (0 < n → w.heap.size ≤ s.b) ∧ Gr w w') := by
  subst hA hA2 hA3
  obtain ⟨i0, hi0, hz0, hz1, hz2⟩ := info_parts info_store
  have JI := Lib.hid hi0; have JZ0 := Lib.hid hz0; have JZ1 := Lib.hid hz1; have JZ2 := Lib.hid hz2
  clear hi0 hz0 hz1 hz2
  have HW1 := Lib.hid (fun W => lwithin_any dep 4194304 W); have HL1 := Lib.hid (fun W => length_any sec W)
  rw [show Ba.bet dep 0 4194304 = true by rw [Ba.bet_iff]; omega] at HW1
  rw [show Ba.bet sec 1 86400 = true by rw [Ba.bet_iff]; omega] at HL1
  go_enter Tryz.func93, Tryz.ntmps93
  go_wp2_with fail
  refine (HV.out _ (Gr.refl _)).mono ?_
  rintro e w1 ⟨rfl, g1⟩
  clear HV
  go_wp2_with fail
  go_loopw [41] (fun x wr => ∃ i : Nat, i ≤ n ∧ x = .int .i64 (i : Int) ∧ Gr w1 wr) (fun x _ => n - (intOf x).toNat)
  case atStart => exact ⟨0, Nat.zero_le _, rfl, Gr.refl _⟩
  case round =>
    obtain ⟨i, hi, rfl, hg⟩ := hrel
    have gr : Gr w wr := g1.trans hg
    by_cases hlt : i < n
    · obtain ⟨a0, a1, a2, a3, a4⟩ := (HD.out i hlt).gr gr
      obtain ⟨t0, t1⟩ := HT.out i hlt
      replace t0 := Gr.at gr t0; replace t1 := Gr.at gr t1
      have ib0 : (0 : Int) ≤ (i : Int) := by omega
      have ib1 : (i : Int) < (n : Int) := by omega
      have HVi := Lib.hid (fun W' hW => HVS.out i hlt W' hW)
      clear HD HX HT HVS HST HS0 HSS HSB HV0 HVS2 HVB HOB
      generalize W i = wi at *
      generalize H i = hi_ at *
      generalize D i = d at *
      unfold Ba.Class.val at HVi
      go_wp2_with fail
      (first | refine name_world ?_ | refine (show (∀ W, W = _ → Calls _ _ _ W _) → Calls _ _ _ _ _ from fun h => h _ rfl) ?_); intro W2 hW2
      have g2 : Gr w W2 := by rw [hW2]; exact gr_auto
      have gb2_wr : Gr wr W2 := by (try clear g2); rw [hW2]; exact gr_auto
      have k2_0 : W2.cell? ⟨b, oo + i * 5, none⟩ = some (.string d.nm) := by rw [hW2]; first | (simp [go_sem, *]; done) | (refine Gr.at ?_ (by assumption); exact gr_auto)
      have b2_0 : b < W2.heap.size := World.block_lt_of_cell? _ _ k2_0
      have k2_1 : W2.cell? ⟨b, oo + i * 5 + 1, none⟩ = some (.int .i64 d.se) := by rw [hW2]; first | (simp [go_sem, *]; done) | (refine Gr.at ?_ (by assumption); exact gr_auto)
      have k2_2 : W2.cell? ⟨b, oo + i * 5 + 2, none⟩ = some (.int .i64 d.we) := by rw [hW2]; first | (simp [go_sem, *]; done) | (refine Gr.at ?_ (by assumption); exact gr_auto)
      have k2_3 : W2.cell? ⟨b, oo + i * 5 + 3, none⟩ = some (.int .i64 d.ro) := by rw [hW2]; first | (simp [go_sem, *]; done) | (refine Gr.at ?_ (by assumption); exact gr_auto)
      have k2_4 : W2.cell? ⟨b, oo + i * 5 + 4, none⟩ = some (.int .i64 d.dr) := by rw [hW2]; first | (simp [go_sem, *]; done) | (refine Gr.at ?_ (by assumption); exact gr_auto)
      have k2_5 : W2.cell? ⟨tb, to_ + i * 2, none⟩ = some (.int .i64 wi) := by rw [hW2]; first | (simp [go_sem, *]; done) | (refine Gr.at ?_ (by assumption); exact gr_auto)
      have b2_5 : tb < W2.heap.size := World.block_lt_of_cell? _ _ k2_5
      have k2_6 : W2.cell? ⟨tb, to_ + i * 2 + 1, none⟩ = some (.int .i64 hi_) := by rw [hW2]; first | (simp [go_sem, *]; done) | (refine Gr.at ?_ (by assumption); exact gr_auto)
      clear hW2
      have s2_0 : ∀ gw : GW W2, gw.1.cell? ⟨b, oo + i * 5, none⟩ = some (.string d.nm) := fun gw => Gr.at gw.2 k2_0
      have s2_1 : ∀ gw : GW W2, gw.1.cell? ⟨b, oo + i * 5 + 1, none⟩ = some (.int .i64 d.se) := fun gw => Gr.at gw.2 k2_1
      have s2_2 : ∀ gw : GW W2, gw.1.cell? ⟨b, oo + i * 5 + 2, none⟩ = some (.int .i64 d.we) := fun gw => Gr.at gw.2 k2_2
      have s2_3 : ∀ gw : GW W2, gw.1.cell? ⟨b, oo + i * 5 + 3, none⟩ = some (.int .i64 d.ro) := fun gw => Gr.at gw.2 k2_3
      have s2_4 : ∀ gw : GW W2, gw.1.cell? ⟨b, oo + i * 5 + 4, none⟩ = some (.int .i64 d.dr) := fun gw => Gr.at gw.2 k2_4
      have s2_5 : ∀ gw : GW W2, gw.1.cell? ⟨tb, to_ + i * 2, none⟩ = some (.int .i64 wi) := fun gw => Gr.at gw.2 k2_5
      have s2_6 : ∀ gw : GW W2, gw.1.cell? ⟨tb, to_ + i * 2 + 1, none⟩ = some (.int .i64 hi_) := fun gw => Gr.at gw.2 k2_6
      have HA3 := Lib.hid (fun gw : GW W2 => gw_call (HVi.out gw.1 (g2.trans gw.2)))
      refine wp_region_gr (by kernel_rfl) (by kernel_rfl) ?_
      repeat (go_big_quiet_step ((go_at_call 146; exact HA3.out _)))
      refine wpQuiet_nil ?_
      intro w3 hb3
      clear s2_0 s2_1 s2_2 s2_3 s2_4 s2_5 s2_6
      have g3 : Gr w w3 := g2.trans hb3
      have k2_0 := Gr.at hb3 k2_0
      have k2_1 := Gr.at hb3 k2_1
      have k2_2 := Gr.at hb3 k2_2
      have k2_3 := Gr.at hb3 k2_3
      have k2_4 := Gr.at hb3 k2_4
      have k2_5 := Gr.at hb3 k2_5
      have k2_6 := Gr.at hb3 k2_6
      go_wp2_with fail
      go_roundw
      case rel => exact ⟨i + 1, by omega, by go_num, hg.trans (gb2_wr.trans hb3)⟩
      case measure => simp [intOf]; omega
    · obtain rfl : n = i := by omega
      clear HVS
      go_wp2_with fail
      go_loopw [14, 57] (fun v x wz => ∃ i : Nat, i ≤ n ∧ x = .int .i64 (i : Int) ∧ v = .int .i64 (Ba.sumI X i) ∧ Gr w1 wz) (fun _ x _ => n - (intOf x).toNat)
      case atStart => exact ⟨0, Nat.zero_le _, rfl, by rw [HS0.out], hg⟩
      case round =>
        clear hg gr
        rename_i wq
        obtain ⟨i, hi, rfl, rfl, hg⟩ := hrel
        have gr : Gr w wr := g1.trans hg
        have t := HSB.out i hi
        by_cases hlt : i < n
        · obtain ⟨a0, a1, a2⟩ := HX.out i hlt
          replace a0 := Gr.at gr a0
          have T := Lib.hid (HSS.out i)
          have ib0 : (0 : Int) ≤ (i : Int) := by omega
          have ib1 : (i : Int) < (n : Int) := by omega
          have HWi := Lib.hid (fun W => lwithin_any (X i) 1073741824 W)
          rw [show Ba.bet (X i) 0 1073741824 = true by rw [Ba.bet_iff]; omega] at HWi
          clear HD HX HT HST HS0 HSS HSB HV0 HVS2 HVB HOB HW1 HL1
          generalize Ba.sumI X i = s0 at *
          generalize X i = x at *
          go_wp2_with fail
          refine (HWi.out _).mono ?_
          rintro e w3 ⟨rfl, rfl⟩
          go_wp2_with fail
          go_roundw
          case rel => exact ⟨i + 1, by omega, by go_num, by rw [T.out], hg⟩
          case measure => simp [intOf]; omega
        · obtain rfl : n = i := by omega
          have t4 : decide ((1073741824 : Int) < Ba.sumI X n) = false := decide_eq_false (by omega)
          clear HS0 HSS HSB
          generalize Ba.sumI X n = s0 at *
          go_wp2_with fail
          refine (HW1.out _).mono ?_
          rintro e w3 ⟨rfl, rfl⟩
          go_wp2_with fail
          refine (HL1.out _).mono ?_
          rintro e w3 ⟨rfl, rfl⟩
          clear HW1 HL1
          go_wp2_with fail
          go_loopw [17, 18, 80] (fun va v x wz => ∃ i : Nat, i ≤ n ∧ x = .int .i64 (i : Int) ∧ v = .int .i64 (vo i) ∧ Hid (wz.ownsRow w1.heap.size 185 2 va i (Ba.flatT sw sh i)) ∧ Gr w1 wz) (fun _ _ x _ => n - (intOf x).toNat)
          case atStart => exact ⟨0, Nat.zero_le _, rfl, by rw [HV0.out], Lib.hid ⟨rfl, Or.inl ⟨rfl, rfl⟩⟩, hg⟩
          case round =>
            clear hg gr
            rename_i wq
            obtain ⟨i, hi, rfl, rfl, HO, hg⟩ := hrel
            have gr : Gr w wr := g1.trans hg
            have t := HVB.out i hi
            by_cases hlt : i < n
            · obtain ⟨a0, a1, a2, a3, a4⟩ := (HD.out i hlt).gr gr
              obtain ⟨t0, t1⟩ := HT.out i hlt
              replace t0 := Gr.at gr t0; replace t1 := Gr.at gr t1
              have ib0 : (0 : Int) ≤ (i : Int) := by omega
              have ib1 : (i : Int) < (n : Int) := by omega
              have X0 := Lib.hid (HX.out i hlt).1
              have x1 := (HX.out i hlt).2; have x2 := HOB.out i hlt; have x3 := HVB.out (i + 1) (by omega)
              have T := Lib.hid (HVS2.out i)
              rw [T.out] at x3
              have HSi := Lib.hid (fun W' hW => HST.out i hlt W' hW)
              have HF := Lib.hid (show Ba.flatT sw sh (i + 1) = Ba.flatT sw sh i ++ [.int .i64 (sw i), .int .i64 (sh i)] from rfl)
              have hfl := Ba.flatT_len sw sh i
              clear HD HX HT HST HV0 HVS2 HVB HOB
              generalize vo i = v0 at *
              generalize W i = wi at *
              generalize H i = hi_ at *
              generalize D i = d at *
              generalize sw i = swi at *
              generalize sh i = shi at *
              generalize X i = xi at *
              generalize off i = oi at *
              unfold Ba.Class.val at HSi
              go_wp2_with fail
              refine name_world ?_; intro W20 hW20
              have g20 : Gr w W20 := by rw [hW20]; exact gr_auto
              have gb20_wr : Gr wr W20 := by rw [hW20]; exact gr_auto
              have zb20_wr := Gr.size gb20_wr
              have k20_0 : ∀ w', Gr W20 w' → w'.cell? ⟨b, oo + i * 5, none⟩ = some (.string d.nm) := fun w' hgW => by first | exact (Gr.at hgW (by rw [hW20]; simp [go_sem, *])) | (have hbW := Gr.trans gb20_wr hgW; simp [*]; done)
              have k20_1 : ∀ w', Gr W20 w' → w'.cell? ⟨b, oo + i * 5 + 1, none⟩ = some (.int .i64 d.se) := fun w' hgW => by first | exact (Gr.at hgW (by rw [hW20]; simp [go_sem, *])) | (have hbW := Gr.trans gb20_wr hgW; simp [*]; done)
              have k20_2 : ∀ w', Gr W20 w' → w'.cell? ⟨b, oo + i * 5 + 2, none⟩ = some (.int .i64 d.we) := fun w' hgW => by first | exact (Gr.at hgW (by rw [hW20]; simp [go_sem, *])) | (have hbW := Gr.trans gb20_wr hgW; simp [*]; done)
              have k20_3 : ∀ w', Gr W20 w' → w'.cell? ⟨b, oo + i * 5 + 3, none⟩ = some (.int .i64 d.ro) := fun w' hgW => by first | exact (Gr.at hgW (by rw [hW20]; simp [go_sem, *])) | (have hbW := Gr.trans gb20_wr hgW; simp [*]; done)
              have k20_4 : ∀ w', Gr W20 w' → w'.cell? ⟨b, oo + i * 5 + 4, none⟩ = some (.int .i64 d.dr) := fun w' hgW => by first | exact (Gr.at hgW (by rw [hW20]; simp [go_sem, *])) | (have hbW := Gr.trans gb20_wr hgW; simp [*]; done)
              have k20_5 : ∀ w', Gr W20 w' → w'.cell? ⟨tb, to_ + i * 2, none⟩ = some (.int .i64 wi) := fun w' hgW => by first | exact (Gr.at hgW (by rw [hW20]; simp [go_sem, *])) | (have hbW := Gr.trans gb20_wr hgW; simp [*]; done)
              have k20_6 : ∀ w', Gr W20 w' → w'.cell? ⟨tb, to_ + i * 2 + 1, none⟩ = some (.int .i64 hi_) := fun w' hgW => by first | exact (Gr.at hgW (by rw [hW20]; simp [go_sem, *])) | (have hbW := Gr.trans gb20_wr hgW; simp [*]; done)
              (try rw [← hW20] at hNA); (try rw [← hW20] at hLA)
              clear hW20
              have zW20 := Gr.size g20
              have qW20 := Gr.refl W20; have qD20 : Gr W20 W20.drew := Gr.drew (Gr.refl _); have qA20 := fun o => Gr.alloc (Gr.refl W20) o; have qB20 := fun o => Gr.drew (Gr.alloc (Gr.refl W20) o); have qC20 := fun o => Gr.alloc (Gr.drew (Gr.refl W20)) o; go_region_with ((go_at_call 149; refine (HSi.out _ (g20.trans gr_auto)).mono ?_; rintro e w21 ⟨rfl, hb21⟩; have q21 : Gr W20 w21 := Gr.trans gr_auto hb21; (first | (refine own_k2 (B := W20.heap.size) hb21 ?_ ?_ ?_ ?_ ?_; (solve | exact World.frozen?_alloc_new _ _ _ _ | simp | simp [go_sem]); (solve | exact World.frozen?_alloc_new _ _ _ _ | simp | simp [go_sem]); (solve | exact World.frozen?_alloc_new _ _ _ _ | simp | simp [go_sem]); (solve | exact World.frozen?_alloc_new _ _ _ _ | simp | simp [go_sem]); intro y0 y1 y2 y3) | skip)))
              all_goals
                first
                | ((first | refine name_world ?_ | refine (show (∀ W, W = _ → Exit.then _ _ _ _ W) → Exit.then _ _ _ _ _ from fun h => h _ rfl) ?_); intro W22 hW22; have gz : Gr wr W22 := (by rw [hW22]; exact gr_auto); have l0 : W22.cell? ⟨w21.heap.size, 0, none⟩ = some (.int .i64 swi) := (by rw [hW22]; first | (simp [go_sem, *]; done) | exact (by first | (simp [go_sem, *]; done) | ((try simp [go_sem, *]); refine World.cell?_setCell_same' _ _ _ ?_; simp [go_sem, *]; done))); have l1 : W22.cell? ⟨w21.heap.size, 1, none⟩ = some (.int .i64 shi) := (by rw [hW22]; first | (simp [go_sem, *]; done) | exact (by first | (simp [go_sem, *]; done) | ((try simp [go_sem, *]); refine World.cell?_setCell_same' _ _ _ ?_; simp [go_sem, *]; done))); clear hW22; generalize w21.heap.size = bx at *)
                | ((first | refine name_world ?_ | refine (show (∀ W, W = _ → Exit.then _ _ _ _ W) → Exit.then _ _ _ _ _ from fun h => h _ rfl) ?_); intro W22 hW22; have gz : Gr wr W22 := (by rw [hW22]; exact gr_auto); have l0 : W22.cell? ⟨W20.heap.size, 0, none⟩ = some (.int .i64 swi) := (by rw [hW22]; first | (simp [go_sem, *]; done) | exact (by first | (simp [go_sem, *]; done) | ((try simp [go_sem, *]); refine World.cell?_setCell_same' _ _ _ ?_; simp [go_sem, *]; done))); have l1 : W22.cell? ⟨W20.heap.size, 1, none⟩ = some (.int .i64 shi) := (by rw [hW22]; first | (simp [go_sem, *]; done) | exact (by first | (simp [go_sem, *]; done) | ((try simp [go_sem, *]); refine World.cell?_setCell_same' _ _ _ ?_; simp [go_sem, *]; done))); clear hW22; generalize W20.heap.size = bx at *)
              all_goals
                have HO2 := Lib.hid (ownsRow_gr HO.out gz)
                have gz2 := hg.trans gz
                have bz := World.block_lt_of_cell? _ _ l0
                have bz2 := Nat.ne_of_lt bz
                clear HO
                go_wp2_with (at_builtin; refine wpList_append_own _ rfl _ _ 135 rfl w1.heap.size 185 i0 (.agg #[.int .i64 0, .int .i64 0]) 2 16 Tryz.underlying135 JI.out JZ0.out JZ1.out JZ2.out rfl (by decide) _ i (Ba.flatT sw sh i) rfl (ownsRow_gr HO2.out (by exact gr_auto)) ⟨W22.heap.size, 0, none⟩ 1 1 [.int .i64 swi, .int .i64 shi] rfl rfl (by intro j u hj; rcases j with _ | _ | j <;> simp at hj <;> (try subst hj) <;> first | (simp [Addr.add, go_sem]; done) | (simp [Addr.add]; done)) (by intro u hu; simp at hu; rcases hu with rfl | rfl <;> rfl) (by unfold maxLen; omega) (by omega) (by have := Gr.size gz2; simp; omega) ?_)
                intro v' w9 hown' hgrow hnil
                have hg9 : Gr w1 w9 := by
                  refine Gr.own (base := w1.heap.size) ?_ (Nat.le_refl _) (ownsRow_gr HO2.out ?_) hgrow
                  · exact gz2.trans (by exact gr_auto)
                  · exact gr_auto
                have HO9 := Lib.hid (show w9.ownsRow w1.heap.size 185 2 v' (i + 1) (Ba.flatT sw sh (i + 1)) from by rw [HF.out]; exact hown')
                have x0 := Gr.at (g1.trans hg9) X0.out
                clear hown' hgrow hnil HO2 l0 l1 bz bz2
                go_wp2_with fail
                go_roundw
                case rel => exact ⟨i + 1, by omega, by go_num, by rw [T.out], HO9, hg9⟩
                case measure => simp [intOf]; omega
            · obtain rfl : n = i := by omega
              obtain ⟨s, rfl, q1, q2, q3, q4, q5⟩ := Ba.own_slt HO.out
              have z1 := Gr.size g1
              go_wp2_with fail
              refine bodyPost_ret (by simp [results, Tryz.results93, go_sem]; try rfl) rfl ?_
              exact ⟨s, rfl, q1, q2, q3, q4, fun h => Nat.le_trans z1 (q5 h), gr⟩
end Go.Proofs.YtajhhplgcegodaaGreatDoor
