/-
  Surfaces: mesh.neighbours.
-/
import Derived.Test.YtajhhplgcegodaaDoorMsW
set_option linter.unusedVariables false
set_option linter.unusedSimpArgs false
namespace Go.Proofs.YtajhhplgcegodaaDoor
open Go.RowKit
/-- The neighbours of a surface's faces, in a new block. -/
def RetNear (m : Ms.Mesh) (w : World) (w' : World) (v : Value) : Prop := ∃ G, v = .slice (some ⟨G, 0, none⟩) m.F.n m.F.n ∧ w.heap.size ≤ G ∧ (∀ t, t < 3 * m.F.n → w'.cell? ⟨G, t, none⟩ = some (.int .i64 (Ms.nb m (t / 3) (t % 3)))) ∧ Gr w w'
theorem zero_int (w : World) : (zeroValue 3).run Tryd.prog w = .ok (.int .i64 0) w := by kernel_rfl
/-- The neighbours ahead of side t0; zeros behind. -/
def nbX (m : Ms.Mesh) (t0 t : Nat) : Value := .int .i64 (if t < t0 then Ms.nb m (t / 3) (t % 3) else 0)
theorem nbX_none (m : Ms.Mesh) : (fun _ => Value.int .i64 0) = nbX m 0 := by funext t; unfold nbX; rw [if_neg (by omega)]
theorem nbX_zero (m : Ms.Mesh) {t0 t : Nat} (h : t0 ≤ t) : nbX m t0 t = .int .i64 0 := by unfold nbX; rw [if_neg (by omega)]
theorem nbX_new (m : Ms.Mesh) (i k : Nat) (hk : k < 3) : nbX m (3 * i + (k + 1)) (i * 3 + k) = .int .i64 (Ms.nb m i k) := by unfold nbX; rw [if_pos (by omega), show (i * 3 + k) / 3 = i by omega, show (i * 3 + k) % 3 = k by omega]
theorem nbX_old (m : Ms.Mesh) (i k j : Nat) (h : j ≠ i * 3 + k) : nbX m (3 * i + (k + 1)) j = nbX m (3 * i + k) j := by
  unfold nbX
  by_cases c : j < 3 * i + k
  · rw [if_pos c, if_pos (by omega)]
  · rw [if_neg c, if_neg (by omega)]
set_option maxRecDepth 100000 in
set_option maxHeartbeats 4000000 in
theorem ms_near (m : Ms.Mesh) (w : World) (h : m.F.At w) (hv : Ms.vlB m = true) (hn : m.F.n ≤ 61) : Calls Tryd.prog 70 #[m.val] w fun e w' => ∃ v, e = .returned v ∧ RetNear m w w' v := by
  have HFP := Lib.hid (fun i (hi : i < m.F.n) => h.hD i hi)
  have HFA := Lib.hid h.hA
  have hfc := h.hc; have hfb := h.hb
  have HSD := Lib.hid (fun i k (hk : k < 3) W => ms_side (m.F.D i) k hk W)
  have HSAME := Lib.hid (fun i k (hk : k < 3) => Ms.sdF_same m (i := i) hk)
  have HNE := Lib.hid (fun i k (hk : k < 3) => Ms.sdF_ne m (i := i) hk)
  have HNB := Lib.hid (fun i k => Ms.sdF_nb hv i k)
  obtain ⟨ig, hi0, hz0, hz1, hz2⟩ := info_parts info_nb
  have GI := Lib.hid hi0; have GI0 := Lib.hid hz0; have GI1 := Lib.hid hz1; have GI2 := Lib.hid hz2
  clear hi0 hz0 hz1 hz2 h
  unfold Ms.Mesh.val at *
  unfold RetNear
  generalize m.S.A = sA at *; generalize m.S.n = sn at *; generalize m.S.c = sc at *
  obtain ⟨fA, hfA⟩ : ∃ A, m.F.A = A := ⟨_, rfl⟩; obtain ⟨fn, hfn⟩ : ∃ n, m.F.n = n := ⟨_, rfl⟩; obtain ⟨fc', hfc'⟩ : ∃ c, m.F.c = c := ⟨_, rfl⟩
  rw [hfA, hfn, hfc']
  rw [hfA, hfn] at HFA
  rw [hfn] at HFP hfc HNB hn
  rw [hfc'] at hfc hfb
  clear hfA hfn hfc'
  have hmm := @run_makeMap Tryd.prog
  go_enter Tryd.func70, Tryd.ntmps70
  go_wp2_with fail
  -- @a
  obtain ⟨MB, hMB⟩ : ∃ B, w.heap.size + 1 = B := ⟨_, rfl⟩
  obtain ⟨W0, hW0⟩ : ∃ W, ((w.alloc (Obj.cells #[.slice sA sn sc, .slice fA fn fc'] 25)).alloc (.map #[] 0)) = W := ⟨_, rfl⟩
  have g0 : Gr w W0 := hW0 ▸ (Gr.trans (Gr.alloc (Gr.refl w) _) (Gr.alloc (Gr.refl _) _))
  have d1 : W0.cell? ⟨w.heap.size, 1, none⟩ = some (.slice fA fn fc') := by rw [← hW0]; simp [go_sem]
  have HM0 := Lib.hid (show MapIs Tryd.prog 48 W0 MB 0 (Ms.sdF m 0) from by
    have e : (fun _ => none) = Ms.sdF m 0 := rfl
    rw [← hW0, ← hMB, ← e]
    exact map_made (by simp))
  rw [hW0, hMB]
  have hMw : w.heap.size < MB := by omega
  clear hW0 hMB hmm
  -- @b
  go_loopw [18] (fun x wr => ∃ i : Nat, i ≤ fn ∧ x = .int .i64 (i : Int) ∧ Hid (MapIs Tryd.prog 48 wr MB (3 * i) (Ms.sdF m (3 * i))) ∧ GrX MB W0 wr) (fun x _ => fn - (intOf x).toNat)
  case atStart => exact ⟨0, Nat.zero_le _, rfl, HM0, GrX.refl _ _⟩
  case round =>
    clear HM0
    obtain ⟨i, hi, rfl, HM, hg⟩ := hrel
    rename World => W1
    have gw1 := GrX.gr g0 (by omega) hg
    by_cases hlt : i < fn
    · obtain rfl := HFA.out (by omega)
      have ib0 : (0 : Int) ≤ (i : Int) := by omega
      have ib1 : (i : Int) < (fn : Int) := by omega
      obtain ⟨⟨a0, a1, a2, a3⟩, fo⟩ := HFP.out i hlt
      replace a0 := Gr.at gw1 a0; replace a1 := Gr.at gw1 a1; replace a2 := Gr.at gw1 a2; replace a3 := Gr.at gw1 a3
      have hMl := HM.out.lt
      have HS := Lib.hid (fun k (hk : k < 3) W => HSD.out i k hk W)
      have HSm := Lib.hid (fun k hk => HSAME.out i k hk); have HNe := Lib.hid (fun k hk => HNE.out i k hk)
      clear HSD HSAME HNE HNB HFP HFA
      obtain ⟨f, hf⟩ : ∃ f, m.F.D i = f := ⟨_, rfl⟩
      simp only [hf] at a0 a1 a2 a3 fo HS HSm HNe
      unfold Ba.Face.val at HS
      have hci : ∀ r, Ba.i64 (Ms.cor f r) := fun r => by unfold Ms.cor; split; exact fo.1; exact fo.2.1; exact fo.2.2.1
      have HCI := Lib.hid hci
      clear hf fo hci
      -- @c
      go_wp2_with fail
      -- @d
      obtain ⟨W2, hW2⟩ : ∃ W, (W1.alloc (Obj.cells #[.int .i64 f.a, .int .i64 f.b, .int .i64 f.c, .int .i64 f.k] 43)) = W := ⟨_, rfl⟩
      have g12 : Gr W1 W2 := hW2 ▸ Gr.alloc (Gr.refl W1) _
      have b0 : W2.cell? ⟨W1.heap.size, 0, none⟩ = some (.int .i64 f.a) := by rw [← hW2]; simp [go_sem]
      have b1 : W2.cell? ⟨W1.heap.size, 1, none⟩ = some (.int .i64 f.b) := by rw [← hW2]; simp [go_sem]
      have b2 : W2.cell? ⟨W1.heap.size, 2, none⟩ = some (.int .i64 f.c) := by rw [← hW2]; simp [go_sem]
      have b3 : W2.cell? ⟨W1.heap.size, 3, none⟩ = some (.int .i64 f.k) := by rw [← hW2]; simp [go_sem]
      have HM2 := Lib.hid (HM.out.gr g12)
      have hg2 := hg.grown g12
      rw [hW2]
      clear hW2 a0 a1 a2 a3 HM hg
      go_loopw [23] (fun x wr => ∃ k : Nat, k ≤ 3 ∧ x = .int .i64 (k : Int) ∧ Hid (MapIs Tryd.prog 48 wr MB (3 * i + k) (Ms.sdF m (3 * i + k))) ∧ GrX MB W2 wr) (fun x _ => 3 - (intOf x).toNat)
      case atStart => exact ⟨0, by omega, rfl, HM2, GrX.refl _ _⟩
      case round =>
        clear HM2
        obtain ⟨k, hk, rfl, HM, hg3⟩ := hrel
        rename World => W3
        by_cases hlk : k < 3
        · have kb0 : (0 : Int) ≤ (k : Int) := by omega
          have kb1 : (k : Int) < 3 := by omega
          replace b0 := GrX.at hg3 (by omega) b0; replace b1 := GrX.at hg3 (by omega) b1; replace b2 := GrX.at hg3 (by omega) b2; replace b3 := GrX.at hg3 (by omega) b3
          have HC := Lib.hid (HS.out k hlk)
          obtain ⟨kl, hkl⟩ := key_side (HCI.out k) (HCI.out (k + 1))
          have HKL := Lib.hid hkl
          have HSm' := Lib.hid (HSm.out k hlk); have HNe' := Lib.hid (HNe.out k hlk)
          clear hkl HS HSm HNe HCI
          -- @e
          go_wp2_with fail
          refine (HC.out _).mono ?_
          rintro e w4 ⟨rfl, hb4⟩
          obtain ⟨w5, hrun, hst, -, hgx⟩ := (HM.out.gr hb4).store (val := .int .i64 (i : Int)) keyed_side Tryd.underlying46 HKL.out
          have HM5 := Lib.hid (hst (Ms.sdF m (3 * i + (k + 1))) HSm'.out HNe'.out)
          unfold Ms.k2 at hrun
          have hg5 := (hg3.grown hb4).trans hgx
          clear hst hgx HM HKL HSm' HNe' HC
          -- @f
          go_wp2_with fail
          -- @g
          go_roundw
          case rel => exact ⟨k + 1, by omega, by go_num, HM5, hg5⟩
          case measure => simp [intOf]; omega
        · obtain rfl : k = 3 := by omega
          have HM5 := Lib.hid (show MapIs Tryd.prog 48 W3 MB (3 * (i + 1)) (Ms.sdF m (3 * (i + 1))) from HM.out)
          have hg5 := hg2.trans hg3
          clear HM
          go_wp2_with fail
          -- @h
          go_roundw
          case rel => exact ⟨i + 1, by omega, by go_num, HM5, hg5⟩
          case measure => simp [intOf]; omega
    · obtain rfl : fn = i := by omega
      replace d1 := GrX.at hg (by omega) d1
      have hMl := HM.out.lt
      have z1 := Gr.size gw1
      clear HSAME HNE hg g0
      -- @j
      go_wp2_with (at_make; refine wpList_make_full _ rfl _ _ _ rfl w.heap.size 47 ig (.agg #[.int .i64 0, .int .i64 0, .int .i64 0]) 3 Tryd.underlying36 GI.out GI0.out GI1.out .i64 .i64 fn fn fn rfl rfl rfl rfl ?d1 ?d2 ?d3 ?_)
      case d1 => rw [GI2.out]; omega
      case d2 => unfold maxLen; omega
      case d3 => exact z1
      intro w2 hown hgrow
      -- @k
      have hg12 : Gr W1 w2 := grown_gr hgrow
      obtain ⟨G, hG⟩ : ∃ B, W1.heap.size = B := ⟨_, rfl⟩
      have HR0 := Lib.hid (made_row3 hown)
      rw [hG] at HR0 ⊢
      have g2 := gw1.trans hg12
      have HM2 := Lib.hid (HM.out.gr hg12)
      replace d1 := Gr.at hg12 d1
      have hGb : G < w2.heap.size := hG ▸ (hown.lt _ rfl).2
      have hMG : MB < G := by omega
      have hwG : w.heap.size < G := by omega
      rw [nbX_none m] at HR0
      have HNX := Lib.hid (fun i k hk => nbX_new m i k hk); have HNO := Lib.hid (fun i k j h => nbX_old m i k j h); have HNZ := Lib.hid (fun i k => nbX_zero m (t0 := 3 * i + k) (t := i * 3 + k) (by omega))
      clear hown hgrow hg12 HM hG z1 gw1 hMl hMw hi
      -- @l
      go_wp2_with fail
      go_loopw [40] (fun x wr => ∃ i : Nat, i ≤ fn ∧ x = .int .i64 (i : Int) ∧ Hid (Row wr G (3 * fn) (nbX m (3 * i))) ∧ GrX G w2 wr) (fun x _ => fn - (intOf x).toNat)
      case atStart => exact ⟨0, Nat.zero_le _, rfl, HR0, GrX.refl _ _⟩
      case round =>
        clear HR0
        obtain ⟨i, hi, rfl, HR, hg⟩ := hrel
        rename World => W3
        have gw3 := GrX.gr g2 (by omega) hg
        have zg := hg.size
        by_cases hlt : i < fn
        · obtain rfl := HFA.out (by omega)
          have ib0 : (0 : Int) ≤ (i : Int) := by omega
          have ib1 : (i : Int) < (fn : Int) := by omega
          obtain ⟨⟨a0, a1, a2, a3⟩, fo⟩ := HFP.out i hlt
          replace a0 := Gr.at gw3 a0; replace a1 := Gr.at gw3 a1; replace a2 := Gr.at gw3 a2; replace a3 := Gr.at gw3 a3
          have HS := Lib.hid (fun k (hk : k < 3) W => HSD.out i k hk W)
          have HB := Lib.hid (fun k => HNB.out i k)
          have HM3 := Lib.hid (HM2.out.grx hg (by omega))
          clear HSD HNB HFP HFA HM2
          obtain ⟨f, hf⟩ : ∃ f, m.F.D i = f := ⟨_, rfl⟩
          simp only [hf] at a0 a1 a2 a3 fo HS HB
          unfold Ba.Face.val at HS
          have hci : ∀ r, Ba.i64 (Ms.cor f r) := fun r => by unfold Ms.cor; split; exact fo.1; exact fo.2.1; exact fo.2.2.1
          have HCI := Lib.hid hci
          clear hf fo hci
          -- @m
          go_wp2_with fail
          obtain ⟨W4, hW4⟩ : ∃ W, (W3.alloc (Obj.cells #[.int .i64 f.a, .int .i64 f.b, .int .i64 f.c, .int .i64 f.k] 43)) = W := ⟨_, rfl⟩
          have g34 : Gr W3 W4 := hW4 ▸ Gr.alloc (Gr.refl W3) _
          have b0 : W4.cell? ⟨W3.heap.size, 0, none⟩ = some (.int .i64 f.a) := by rw [← hW4]; simp [go_sem]
          have b1 : W4.cell? ⟨W3.heap.size, 1, none⟩ = some (.int .i64 f.b) := by rw [← hW4]; simp [go_sem]
          have b2 : W4.cell? ⟨W3.heap.size, 2, none⟩ = some (.int .i64 f.c) := by rw [← hW4]; simp [go_sem]
          have b3 : W4.cell? ⟨W3.heap.size, 3, none⟩ = some (.int .i64 f.k) := by rw [← hW4]; simp [go_sem]
          have HM4 := Lib.hid (HM3.out.gr g34)
          have HR4 := Lib.hid (HR.out.gr g34)
          have hg4 := hg.grown g34
          have hGW : G < W3.heap.size := by omega
          rw [hW4]
          clear hW4 a0 a1 a2 a3 HM3 HR hg g34 gw3 zg
          -- @n
          go_loopw [45] (fun x wr => ∃ k : Nat, k ≤ 3 ∧ x = .int .i64 (k : Int) ∧ Hid (Row wr G (3 * fn) (nbX m (3 * i + k))) ∧ GrX G W4 wr) (fun x _ => 3 - (intOf x).toNat)
          case atStart => exact ⟨0, by omega, rfl, HR4, GrX.refl _ _⟩
          case round =>
            clear HR4
            obtain ⟨k, hk, rfl, HR, hg5⟩ := hrel
            rename World => W5
            by_cases hlk : k < 3
            · have kb0 : (0 : Int) ≤ (k : Int) := by omega
              have kb1 : (k : Int) < 3 := by omega
              replace b0 := GrX.at hg5 (by omega) b0; replace b1 := GrX.at hg5 (by omega) b1; replace b2 := GrX.at hg5 (by omega) b2; replace b3 := GrX.at hg5 (by omega) b3
              have HC := Lib.hid (HS.out k hlk)
              obtain ⟨kl, hkl⟩ := key_side (HCI.out (k + 1)) (HCI.out k)
              have HKL := Lib.hid hkl
              have hNX := HNX.out i k hlk
              have hNB := HB.out k
              have HM5 := Lib.hid (HM4.out.grx hg5 (by omega))
              have og : Own W5 G (i * 3 + k) (.int .i64 0) := by rw [← HNZ.out i k]; exact HR.out (i * 3 + k) (by omega)
              have HOL := Lib.hid (fun j (hj : j ≠ i * 3 + k) => HNO.out i k j hj)
              clear hkl HS HB HCI HNX HNO HNZ HM4
              generalize Ms.cor f k = x at *; generalize Ms.cor f (k + 1) = y at *
              -- @o
              go_wp2_with fail
              refine (HC.out _).mono ?_
              rintro e w5 ⟨rfl, hb5⟩
              clear HC
              obtain ⟨W6, hW6⟩ : ∃ W, w5.alloc (Obj.cells #[.int .i64 x, .int .i64 y] 48) = W := ⟨_, rfl⟩
              have g56 : Gr W5 W6 := hb5.trans (hW6 ▸ Gr.alloc (Gr.refl w5) _)
              have s0 : W6.cell? ⟨w5.heap.size, 0, none⟩ = some (.int .i64 x) := by rw [← hW6]; simp [go_sem]
              have s1 : W6.cell? ⟨w5.heap.size, 1, none⟩ = some (.int .i64 y) := by rw [← hW6]; simp [go_sem]
              have og6 := og.gr g56
              have x6 := og6.1; have y6 := og6.2
              have HR6 := Lib.hid (HR.out.gr g56)
              have hg6 := hg5.grown g56
              have HM6 := Lib.hid (HM5.out.gr g56)
              clear og og6 HR HM5 b0 b1 b2 b3 hb5 g56 hg5
              -- @p
              cases hq : Ms.acO m i k with
              | none =>
                rw [hq] at hNB
                have hv : Ms.nb m i k = -1 := by unfold Ms.nb; rw [hq]
                rw [hv] at hNX
                have hlk : (Instr.lookup 46 (.map (some MB)) (.agg #[.int .i64 y, .int .i64 x]) true).run Tryd.prog W6 = .ok (.tuple #[.int .i64 0, .bool false]) W6 := by
                  have z := HM6.out.look true keyed_side Tryd.underlying46 (zero_int W6) HKL.out
                  rw [if_pos rfl, hNB] at z
                  exact z
                have HRn := Lib.hid (Row.set (k := i * 3 + k) (u := .int .i64 (-1)) HR6.out hNX (fun j _ hj => HOL.out j hj))
                have hgn := GrX.setCell hg6 (p := ⟨G, i * 3 + k, none⟩) rfl (.int .i64 (-1))
                clear hNB hNX HM6 HKL HOL HR6 hv hq hg6
                -- @q
                go_wp2_with fail
                -- @r
                go_roundw
                case rel => exact ⟨k + 1, by omega, by go_num, HRn, hgn⟩
                case measure => simp [intOf]; omega
              | some t =>
                rw [hq] at hNB
                have hv : Ms.nb m i k = ((t / 3 : Nat) : Int) := by unfold Ms.nb; rw [hq]
                rw [hv] at hNX
                have hlk : (Instr.lookup 46 (.map (some MB)) (.agg #[.int .i64 y, .int .i64 x]) true).run Tryd.prog W6 = .ok (.tuple #[.int .i64 ((t / 3 : Nat) : Int), .bool true]) W6 := by
                  have z := HM6.out.look true keyed_side Tryd.underlying46 (zero_int W6) HKL.out
                  rw [if_pos rfl, hNB] at z
                  exact z
                generalize ((t / 3 : Nat) : Int) = tv at *
                have HRn := Lib.hid (Row.set (k := i * 3 + k) (u := .int .i64 tv) HR6.out hNX (fun j _ hj => HOL.out j hj))
                have hgn := GrX.setCell hg6 (p := ⟨G, i * 3 + k, none⟩) rfl (.int .i64 tv)
                clear hNB hNX HM6 HKL HOL HR6 hv hq hg6
                go_wp2_with fail
                -- @s
                go_roundw
                case rel => exact ⟨k + 1, by omega, by go_num, HRn, hgn⟩
                case measure => simp [intOf]; omega
            · obtain rfl : k = 3 := by omega
              have HRn := Lib.hid (show Row W5 G (3 * fn) (nbX m (3 * (i + 1))) from HR.out)
              have hgn := hg4.trans hg5
              clear HR
              go_wp2_with fail
              -- @t
              go_roundw
              case rel => exact ⟨i + 1, by omega, by go_num, HRn, hgn⟩
              case measure => simp [intOf]; omega
        · obtain rfl : fn = i := by omega
          have HL := Lib.hid (fun t (ht : t < 3 * fn) => show W3.cell? ⟨G, t, none⟩ = some (.int .i64 (Ms.nb m (t / 3) (t % 3))) from by
            have e := (HR.out t ht).1
            unfold nbX at e
            rw [if_pos ht] at e; exact e)
          clear HR
          go_wp2_with fail
          -- @u
          go_ret
          exact ⟨_, rfl, G, rfl, by omega, HL.out, gw3⟩
end Go.Proofs.YtajhhplgcegodaaDoor
