/-
  Surfaces: mesh.Border.
  Surfaces: the reference's Border. (Printed by mkrb.py.)
  slices.Equal on slices that hold the same: rows of three ints, findings, ints. (Printed by mkes.py.)
  slices.EqualFunc on rows of rows that hold the same.
  Surfaces: the law's example: square, awake, few.
-/
import Derived.Test.YtajhhplgcegodaaDoorMsTa
import Derived.Test.YtajhhplgcegodaaDoorHeld
set_option linter.unusedVariables false
set_option linter.unusedSimpArgs false
namespace Go.Proofs.YtajhhplgcegodaaDoor
open Go.RowKit
theorem info_b3 : (Tryd.prog.info? 123).map (fun i => (i.zero, i.size, i.bytes)) = some (some (.agg #[.bool false, .bool false, .bool false]), 3, 3) := by kernel_rfl
theorem info_sli : (Tryd.prog.info? 44).map (fun i => (i.zero, i.size, i.bytes)) = some (some (.slice none 0 0), 1, 24) := by kernel_rfl
theorem ix2_0 (a b : Int) (w : World) : (Instr.index 48 (.agg #[.int .i64 a, .int .i64 b]) (.int .i64 0)).run Tryd.prog w = .ok (.int .i64 a) w := by kernel_rfl
/-- Which sides are done, as cells. -/
def bX (d : Nat → Bool) (t : Nat) : Value := .bool (d t)
/-- The length of a slice. -/
def slL : Value → Nat | .slice _ n _ => n | _ => 0
namespace Ms
theorem nx_div (t : Nat) : nx t / 3 = t / 3 := by unfold nx; omega
theorem nx_mod (t : Nat) : nx t % 3 = (t % 3 + 1) % 3 := by unfold nx; omega
theorem op_dm (m : Mesh) (y : Nat) : op m y = acO m (y / 3) (y % 3) := rfl
theorem rt_some {m : Mesh} {y u : Nat} (h : op m y = some u) : rt (op m) nx y = some (nx u) := by unfold rt; rw [h]; rfl
theorem rt_none {m : Mesh} {y : Nat} (h : op m y = none) : rt (op m) nx y = none := by unfold rt; rw [h]; rfl
/-- What opposite answers at a side's neighbour. -/
theorem opI_eq {m : Mesh} (hv : vlB m = true) {y u : Nat} (h : op m y = some u) : opI (m.F.D (u / 3)) (st m y) (en m y) = ((u % 3 : Nat) : Int) := by
  obtain ⟨p, q, r⟩ := sdO_some h
  have hb : opB (m.F.D (u / 3)) (st m y) (en m y) (u % 3) = true := by
    unfold opB
    rw [show cor (m.F.D (u / 3)) (u % 3) = en m y from q, show cor (m.F.D (u / 3)) (u % 3 + 1) = st m y from r, beq_self_eq_true, beq_self_eq_true]; rfl
  have hn : Ba.fst (opB (m.F.D (u / 3)) (st m y) (en m y)) (u % 3) = none := by
    cases e : Ba.fst (opB (m.F.D (u / 3)) (st m y) (en m y)) (u % 3) with
    | none => rfl
    | some j =>
      obtain ⟨a, b, -⟩ := Ba.fst_some e
      unfold opB at b
      rw [Bool.and_eq_true, beq_iff_eq, beq_iff_eq] at b
      have := cor_ne (vl_fc hv (i := u / 3) (by omega)) (show j < 3 by omega) (show u % 3 < 3 by omega) (b.1.trans (show en m y = cor (m.F.D (u / 3)) (u % 3) from q.symm))
      omega
  exact Ba.fstI_hit hn hb (by omega)
theorem nb_some {m : Mesh} {y u : Nat} (h : op m y = some u) : nb m (y / 3) (y % 3) = ((u / 3 : Nat) : Int) := by unfold nb; rw [← op_dm, h]
theorem nb_none {m : Mesh} {y : Nat} (h : op m y = none) : nb m (y / 3) (y % 3) = -1 := by unfold nb; rw [← op_dm, h]
theorem op_lt {m : Mesh} {y u : Nat} (h : op m y = some u) : u < 3 * m.F.n := (sdO_some h).1
/-- The next border side. -/
def ph (m : Mesh) (t : Nat) : Nat := phi (op m) nx (3 * m.F.n) t
theorem bS_skip {m : Mesh} {t : Nat} (h : ((op m t).isNone && !(bS m t).1 t) = false) : bS m (t + 1) = bS m t := brS_skip h
theorem bS_go {m : Mesh} (hv : vlB m = true) {t : Nat} (ht : t < 3 * m.F.n) (ho : op m t = none) (hd : (bS m t).1 t = false) :
    ∃ p, 0 < p ∧ p ≤ 3 * m.F.n ∧ (∀ j, j < p → mkL (bS m t).1 (rng (ph m) t j) (itr (ph m) t j) = false) ∧ mkL (bS m t).1 (rng (ph m) t p) (itr (ph m) t p) = true ∧
      bS m (t + 1) = (mkL (bS m t).1 (rng (ph m) t p), (bS m t).2 ++ [rng (ph m) t p]) ∧ (∀ j, itr (ph m) t j < 3 * m.F.n ∧ op m (itr (ph m) t j) = none) := by
  obtain ⟨p, a, b, c, d, e, f⟩ := brS_go (i := t) (hed hv).per ht (by show (op m t).isNone = true; rw [ho]; rfl) hd
  exact ⟨p, a, b, c, d, e, fun j => ⟨(f j).1, Option.isNone_iff_eq_none.1 (f j).2⟩⟩
theorem bS_len {m : Mesh} : ∀ i, (bS m i).2.length ≤ i
  | 0 => Nat.le_refl _
  | i + 1 => by
    have ih := bS_len (m := m) i
    show (brS _ _ _ (i + 1)).2.length ≤ i + 1
    rw [brS_succ]
    split
    · rw [List.length_append]; exact Nat.add_le_add_right ih 1
    · exact Nat.le_succ_of_le ih
end Ms
def RetBo (m : Ms.Mesh) (w w' : World) (v : Value) : Prop := ∃ V, Brd m w.heap.size w' v (.slice none 0 0) V (Ms.bS m (3 * m.F.n)).2 [] ∧ Gr w w'
set_option maxRecDepth 100000 in
set_option maxHeartbeats 4000000 in
theorem ms_border_no (m : Ms.Mesh) (w : World) (h : m.At w) (hs : Ms.smB m = false ∨ (m.S.n ≤ 61 ∧ m.F.n ≤ 61)) (hv : Ms.vlB m = false) : Calls Tryd.prog 18 #[m.val] w fun e w' => e = .returned (.tuple #[.slice none 0 0, .int .i64 1]) ∧ Gr w w' := by
  have HV := Lib.hid (fun W (hW : Gr w W) => ms_valid m W ⟨h.s.gr hW, h.f.gr hW⟩ hs)
  rw [hv] at HV
  clear h hs hv
  unfold Ms.Mesh.val at *
  generalize m.S.A = sA at *; generalize m.S.n = sn at *; generalize m.S.c = sc at *; generalize m.F.A = fA at *; generalize m.F.n = fn at *; generalize m.F.c = fc at *
  go_enter Tryd.func18, Tryd.ntmps18
  go_wp2_with fail
  refine (HV.out _ (by exact gr_auto)).mono ?_
  rintro e w1 ⟨rfl, hb1⟩
  clear HV
  have g1 : Gr w w1 := Gr.trans (by exact gr_auto) hb1
  go_wp2_with fail
  go_ret2
  exact ⟨rfl, g1⟩
set_option maxRecDepth 100000 in
set_option maxHeartbeats 8000000 in
theorem ms_border (m : Ms.Mesh) (w : World) (h : m.At w) (hs : m.S.n ≤ 61 ∧ m.F.n ≤ 61) (hv : Ms.vlB m = true) : Calls Tryd.prog 18 #[m.val] w fun e w' => ∃ v, e = .returned (.tuple #[v, .int .i64 0]) ∧ RetBo m w w' v := by
  have HV := Lib.hid (fun W (hW : Gr w W) => ms_valid m W ⟨h.s.gr hW, h.f.gr hW⟩ (Or.inr hs))
  rw [hv] at HV
  have HNR := Lib.hid (fun W (hW : Gr w W) => ms_near m W (h.f.gr hW) hv hs.2)
  have HFP := Lib.hid (fun i (hi : i < m.F.n) => h.f.hD i hi)
  have HFA := Lib.hid h.f.hA
  have hfc := h.f.hc; have hfb := h.f.hb
  have hn := hs.2
  have HSD := Lib.hid (fun i k (hk : k < 3) W => ms_side (m.F.D i) k hk W)
  have HOP := Lib.hid (fun i a b W => ms_opp (m.F.D i) a b W)
  have HOI := Lib.hid (fun y u h => Ms.opI_eq hv (y := y) (u := u) h)
  have HGO := Lib.hid (fun t ht ho hd => Ms.bS_go hv (t := t) ht ho hd)
  have HEN := Lib.hid (fun t ht ho => Ms.bd_ends hv (t := t) ht ho)
  have HSK := Lib.hid (fun t h => Ms.bS_skip (m := m) (t := t) h)
  have HLE := Lib.hid (fun t => Ms.bS_len (m := m) t)
  have HLT := Lib.hid (fun y u h => Ms.op_lt (m := m) (y := y) (u := u) h)
  have hPH : Ms.ph m = fun t => Ms.last (Ms.rt (Ms.op m) Ms.nx) (3 * m.F.n) (Ms.nx t) := rfl
  obtain ⟨ib, hi0, hz0, hz1, hz2⟩ := info_parts info_b3
  have KB := Lib.hid hi0; have KB0 := Lib.hid hz0; have KB1 := Lib.hid hz1; have KB2 := Lib.hid hz2
  clear hi0 hz0 hz1 hz2
  obtain ⟨ii, hi0, hz0, hz1, hz2⟩ := info_parts info_int
  have KI := Lib.hid hi0; have KI0 := Lib.hid hz0; have KI1 := Lib.hid hz1; have KI2 := Lib.hid hz2
  clear hi0 hz0 hz1 hz2
  obtain ⟨is, hi0, hz0, hz1, hz2⟩ := info_parts info_sli
  have KS := Lib.hid hi0; have KS0 := Lib.hid hz0; have KS1 := Lib.hid hz1; have KS2 := Lib.hid hz2
  clear hi0 hz0 hz1 hz2 h hs hv
  unfold RetNear at HNR
  unfold RetBo
  unfold Ms.Mesh.val at *
  generalize m.S.A = sA at *; generalize m.S.n = sn at *; generalize m.S.c = sc at *
  obtain ⟨fA, hfA⟩ : ∃ A, m.F.A = A := ⟨_, rfl⟩; obtain ⟨fn, hfn⟩ : ∃ n, m.F.n = n := ⟨_, rfl⟩; obtain ⟨fc', hfc'⟩ : ∃ c, m.F.c = c := ⟨_, rfl⟩
  rw [hfA, hfn, hfc'] at HV HNR ⊢
  rw [hfA, hfn] at HFA
  rw [hfn] at HFP hfc hn HGO HEN HLT hPH
  rw [hfc'] at hfc hfb
  clear hfA hfn hfc'
  have HPH := Lib.hid hPH
  clear hPH
  go_enter Tryd.func18, Tryd.ntmps18
  go_wp2_with fail
  refine (HV.out _ (by exact gr_auto)).mono ?_
  rintro e w1 ⟨rfl, hb1⟩
  clear HV
  have g1 : Gr w w1 := Gr.trans (by exact gr_auto) hb1
  have d0 := Gr.at hb1 (b := w.heap.size) (o := 0) (v := .slice sA sn sc) (by simp [go_sem])
  have d1 := Gr.at hb1 (b := w.heap.size) (o := 1) (v := .slice fA fn fc') (by simp [go_sem])
  clear hb1
  go_wp2_with fail
  refine (HNR.out _ g1).mono ?_
  rintro e w2 ⟨v, rfl, GN, rfl, hGN, hcn, hb2⟩
  clear HNR
  have HC := Lib.hid hcn
  replace d1 := Gr.at hb2 d1; replace d0 := Gr.at hb2 d0
  have g2 := g1.trans hb2
  have z2 := Gr.size g2
  clear hcn hb2 g1
  -- @a
  go_wp2_with (at_make; refine wpList_make_full _ rfl _ _ _ rfl w.heap.size 123 ib (.agg #[.bool false, .bool false, .bool false]) 3 Tryd.underlying122 KB.out KB0.out KB1.out .i64 .i64 fn fn fn rfl rfl rfl rfl ?d1 ?d2 ?d3 ?_)
  case d1 => rw [KB2.out]; omega
  case d2 => unfold maxLen; omega
  case d3 => exact z2
  intro w3 hown hgrow
  -- @b
  have hg23 : Gr w2 w3 := grown_gr hgrow
  have hDb : w2.heap.size < w3.heap.size := (hown.lt _ rfl).2
  have HR0 := Lib.hid (made_row3 hown)
  obtain ⟨D, hD⟩ : ∃ B, w2.heap.size = B := ⟨_, rfl⟩
  rw [hD] at HR0 hDb z2 ⊢
  have HB0 := Lib.hid (Brd.nil m w3.heap.size w3)
  obtain ⟨base, hbase⟩ : ∃ B, w3.heap.size = B := ⟨_, rfl⟩
  rw [hbase] at HB0 hDb
  have hbs : base ≤ w3.heap.size := by omega
  have HW := Lib.hid (show w.heap.size < D from by have := World.block_lt_of_cell? _ _ d1; simp only at this; omega)
  have d3 := Gr.at hg23 d1
  clear hown hgrow KB KB0 KB1 KB2 z2 hbase
  go_wp2_with fail
  clear d3
  -- @c
  go_loopw [6, 25] (fun v x wr => ∃ (i : Nat) (V : Nat → Value), i ≤ fn ∧ x = .int .i64 (i : Int) ∧ Hid (Row wr D (3 * fn) (bX (Ms.bS m (3 * i)).1)) ∧ Hid (Brd m base wr v (.slice none 0 0) V (Ms.bS m (3 * i)).2 []) ∧ Gr w2 wr ∧ base ≤ wr.heap.size) (fun _ x _ => fn - (intOf x).toNat)
  case atStart => exact ⟨0, _, Nat.zero_le _, rfl, HR0, HB0, hg23, hbs⟩
  case round =>
    clear HR0 HB0 hg23 hbs
    obtain ⟨i, V, hi, rfl, HR, HB, hg, hbs⟩ := hrel
    rename World => W1
    have e1 := Gr.at hg d1
    by_cases hlt : i < fn
    · clear e1
      have ib0 : (0 : Int) ≤ (i : Int) := by omega
      have ib1 : (i : Int) < (fn : Int) := by omega
      -- @d
      go_wp2_with fail
      -- @e
      go_loopw [6, 28] (fun v x wr => ∃ (k : Nat) (V : Nat → Value), k ≤ 3 ∧ x = .int .i64 (k : Int) ∧ Hid (Row wr D (3 * fn) (bX (Ms.bS m (3 * i + k)).1)) ∧ Hid (Brd m base wr v (.slice none 0 0) V (Ms.bS m (3 * i + k)).2 []) ∧ Gr w2 wr ∧ base ≤ wr.heap.size) (fun _ x _ => 3 - (intOf x).toNat)
      case atStart => exact ⟨0, V, by omega, rfl, HR, HB, hg, hbs⟩
      case round =>
        clear HR HB hg hbs V
        obtain ⟨k, V, hk, rfl, HR, HB, hg, hbs⟩ := hrel
        rename World => W2
        by_cases hlk : k < 3
        · have kb0 : (0 : Int) ≤ (k : Int) := by omega
          have kb1 : (k : Int) < 3 := by omega
          obtain ⟨t, ht⟩ : ∃ t, 3 * i + k = t := ⟨_, rfl⟩
          have ht3 : i * 3 + k = t := by omega
          have ht1 : t < 3 * fn := by omega
          have htd : t / 3 = i := by omega
          have htm : t % 3 = k := by omega
          have cn : W2.cell? ⟨GN, i * 3 + k, none⟩ = some (.int .i64 (Ms.nb m (t / 3) (t % 3))) := by rw [ht3]; exact Gr.at hg (HC.out t ht1)
          have cd : W2.cell? ⟨D, i * 3 + k, none⟩ = some (.bool ((Ms.bS m t).1 t)) := by
            have e := (HR.out t ht1).1
            rw [ht] at e
            rw [ht3]; exact e
          rw [htd, htm] at cn
          have hSK := Lib.hid (HSK.out t)
          have hop : Ms.op m t = Ms.acO m i k := by rw [Ms.op_dm, htd, htm]
          rw [ht] at HR HB
          -- @f
          cases hq : Ms.op m t with
          | some u =>
            have hnb := Ms.nb_some hq
            rw [htd, htm] at hnb
            rw [hnb] at cn
            have hb := hSK.out (by rw [hq]; rfl)
            have HRn := Lib.hid (show Row W2 D (3 * fn) (bX (Ms.bS m (3 * i + (k + 1))).1) from by rw [show 3 * i + (k + 1) = t + 1 by omega, hb]; exact HR.out)
            have HBn := Lib.hid (show Brd m base W2 _ (.slice none 0 0) V (Ms.bS m (3 * i + (k + 1))).2 [] from by rw [show 3 * i + (k + 1) = t + 1 by omega, hb]; exact HB.out)
            have hne : ¬ ((u / 3 : Nat) : Int) = -1 := by omega
            generalize ((u / 3 : Nat) : Int) = uv at *
            clear hSK hop hq hnb hb HR HB htd htm ht ht3 ht1 HGO HEN HSK HLE HLT HPH HC HSD HOP HOI HFP HFA
            go_wp2_with fail
            -- @g
            go_roundw
            case rel => exact ⟨k + 1, V, by omega, by go_num, HRn, HBn, hg, hbs⟩
            case measure => simp [intOf]; omega
          | none =>
            have hnb := Ms.nb_none hq
            rw [htd, htm] at hnb
            rw [hnb] at cn
            cases hd : (Ms.bS m t).1 t with
            | true =>
              rw [hd] at cd
              have hb := hSK.out (by rw [hd]; simp)
              have HRn := Lib.hid (show Row W2 D (3 * fn) (bX (Ms.bS m (3 * i + (k + 1))).1) from by rw [show 3 * i + (k + 1) = t + 1 by omega, hb]; exact HR.out)
              have HBn := Lib.hid (show Brd m base W2 _ (.slice none 0 0) V (Ms.bS m (3 * i + (k + 1))).2 [] from by rw [show 3 * i + (k + 1) = t + 1 by omega, hb]; exact HB.out)
              clear hSK hop hq hnb hb HR HB htd htm ht ht3 ht1 hd HGO HEN HSK HLE HLT HPH HC HSD HOP HOI HFP HFA
              go_wp2_with fail
              -- @h
              go_roundw
              case rel => exact ⟨k + 1, V, by omega, by go_num, HRn, HBn, hg, hbs⟩
              case measure => simp [intOf]; omega
            | false =>
              rw [hd] at cd
              obtain ⟨p, p0, pN, hpf, hpt, hb1, hpi⟩ := HGO.out t ht1 hq hd
              have HPF := Lib.hid hpf; have HPT := Lib.hid hpt; have HB1 := Lib.hid hb1; have HPI := Lib.hid hpi
              have hLt := HLE.out t
              have HT3 := Lib.hid (show 3 * i + k = t ∧ t / 3 = i ∧ t % 3 = k from ⟨ht, htd, htm⟩)
              clear hpf hpt hb1 hpi hSK hop hq hnb hd HGO HSK HLE ht ht3 htd htm
              -- @i
              go_wp2_with fail
              clear cn cd
              -- @j
              obtain ⟨d, hdd⟩ : ∃ d, (Ms.bS m t).1 = d := ⟨_, rfl⟩
              obtain ⟨L, hLL⟩ : ∃ L, (Ms.bS m t).2 = L := ⟨_, rfl⟩
              rw [hdd] at HR HPF HPT HB1
              rw [hLL] at HB HB1 hLt
              clear hdd hLL
              go_loopw [9, 10, 11] (fun b f s wr => ∃ (j : Nat) (A : Option Addr) (c : Nat), j ≤ p ∧ b = .slice A j c ∧ f = .int .i64 ((Ms.itr (Ms.ph m) t j / 3 : Nat) : Int) ∧ s = .int .i64 ((Ms.itr (Ms.ph m) t j % 3 : Nat) : Int) ∧ Hid (Row wr D (3 * fn) (bX (Ms.mkL d (Ms.rng (Ms.ph m) t j)))) ∧ Hid (Brd m base wr u6 (.slice A j c) V L (Ms.rng (Ms.ph m) t j)) ∧ Gr w2 wr ∧ base ≤ wr.heap.size) (fun b _ _ _ => p - slL b)
              case atStart =>
                exact ⟨0, none, 0, by omega, rfl, by show _ = Value.int .i64 ((t / 3 : Nat) : Int); rw [HT3.out.2.1], by show _ = Value.int .i64 ((t % 3 : Nat) : Int); rw [HT3.out.2.2], HR, HB, hg, hbs⟩
              case round =>
                clear HR HB hg hbs
                obtain ⟨j, A, c, hj, rfl, rfl, rfl, HR, HB, hg, hbs⟩ := hrel
                rename World => W3
                obtain ⟨hx1, hx2⟩ := HPI.out j
                have HXS := Lib.hid (show Ms.itr (Ms.ph m) t (j + 1) = Ms.ph m (Ms.itr (Ms.ph m) t j) from rfl)
                have HRG := Lib.hid (Ms.rng_snoc (Ms.ph m) j t)
                have HRL := Lib.hid (Ms.rng_len (Ms.ph m) j t)
                have HMK := Lib.hid (fun q => Ms.mkL_rng (Ms.ph m) d t j q)
                have HPFj := Lib.hid (HPF.out j)
                obtain ⟨x, hx⟩ : ∃ x, Ms.itr (Ms.ph m) t j = x := ⟨_, rfl⟩
                have HPTj := Lib.hid (fun (h : j = p) => show Ms.mkL d (Ms.rng (Ms.ph m) t j) x = true from by rw [← hx, h]; exact HPT.out)
                rw [hx] at hx1 hx2 HXS HRG HPFj
                simp only [hx] at HMK
                rw [hx]
                clear hx
                have HX := Lib.hid (And.intro hx1 hx2)
                obtain ⟨xf, hxf⟩ : ∃ q, x / 3 = q := ⟨_, rfl⟩
                obtain ⟨xs, hxs⟩ : ∃ q, x % 3 = q := ⟨_, rfl⟩
                have hxa : xf * 3 + xs = x := by omega
                have hxl : xf < fn := by omega
                have hs3 : xs < 3 := by omega
                rw [hxf, hxs]
                have ib0x : (0 : Int) ≤ (xf : Int) := by omega
                have ib1x : (xf : Int) < (fn : Int) := by omega
                have kb0x : (0 : Int) ≤ (xs : Int) := by omega
                have kb1x : (xs : Int) < 3 := by omega
                have og : Own W3 D (xf * 3 + xs) (.bool (Ms.mkL d (Ms.rng (Ms.ph m) t j) x)) := by rw [hxa]; exact HR.out x hx1
                have HXA := Lib.hid (show xf * 3 + xs = x ∧ x / 3 = xf ∧ x % 3 = xs from ⟨hxa, hxf, hxs⟩)
                clear hxf hxs hxa hx1 hx2
                by_cases hlj : j < p
                · rw [HPFj.out hlj] at og
                  have e3 := Gr.at hg d1
                  obtain ⟨⟨a0, a1, a2, a3⟩, fo⟩ := HFP.out xf hxl
                  obtain rfl := HFA.out (by omega)
                  obtain ⟨W4, hW4⟩ : ∃ W, W3.setCell ⟨D, xf * 3 + xs, none⟩ (.bool true) = W := ⟨_, rfl⟩
                  have gx4 : GrX D W3 W4 := hW4 ▸ GrX.setCell (GrX.refl D W3) rfl _
                  have hg4 : Gr w2 W4 := GrX.gr hg (by omega) gx4
                  have HR4 := Lib.hid (show Row W4 D (3 * fn) (bX (Ms.mkL d (Ms.rng (Ms.ph m) t (j + 1)))) from hW4 ▸ Row.set (k := xf * 3 + xs) (u := .bool true) HR.out (by unfold bX; rw [HMK.out, HXA.out.1, decide_eq_true rfl, Bool.or_true]) (fun q _ hq => by unfold bX; rw [HMK.out, decide_eq_false (by rw [HXA.out.1] at hq; exact hq), Bool.or_false]))
                  have HB4 := Lib.hid (HB.out.grx gx4 hDb)
                  have e4 := Gr.at hg4 d1
                  have gw4 := g2.trans hg4
                  replace a0 := Gr.at gw4 a0; replace a1 := Gr.at gw4 a1; replace a2 := Gr.at gw4 a2; replace a3 := Gr.at gw4 a3
                  have hb4 : base ≤ W4.heap.size := Nat.le_trans hbs gx4.size
                  have HS1 := Lib.hid (HSD.out xf xs hs3)
                  have HST := Lib.hid (show Ms.st m x = Ms.cor (m.F.D xf) xs from by unfold Ms.st; rw [HXA.out.2.1, HXA.out.2.2])
                  have x3 := og.1; have y3 := og.2
                  clear og HR HB gx4 hbs gw4 fo
                  have hix : ∀ a b w, (Instr.index 48 (.agg #[.int .i64 a, .int .i64 b]) (.int .i64 0)).run Tryd.prog w = .ok (.int .i64 a) w := ix2_0
                  generalize Ms.cor (m.F.D xf) xs = sv at *
                  generalize Ms.cor (m.F.D xf) (xs + 1) = sv2 at *
                  obtain ⟨f, hf⟩ : ∃ f, m.F.D xf = f := ⟨_, rfl⟩
                  simp only [hf] at a0 a1 a2 a3 HS1
                  unfold Ba.Face.val at HS1
                  clear hf
                  -- @k
                  go_upto_region 17 with fail
                  -- @k1
                  clear x3 y3 hW4 e3 hg
                  go_wp2_with fail
                  -- @l
                  refine (HS1.out _).mono ?_
                  rintro e w5 ⟨rfl, hb5⟩
                  clear HS1
                  have g45 : Gr W4 (w5.alloc (Obj.cells #[.int .i64 sv] 3)) := hb5.trans (Gr.alloc (Gr.refl w5) _)
                  have HB6 := Lib.hid (HB4.out.gr g45)
                  have HR6 := Lib.hid (HR4.out.gr g45)
                  have HO6 := Lib.hid (show (w5.alloc (Obj.cells #[.int .i64 sv] 3)).ownsRow base 3 1 (.slice A j c) j (stl m (Ms.rng (Ms.ph m) t j)) from by have e := HB6.out.cur; rw [HRL.out] at e; exact e)
                  have hg6 := hg4.trans g45
                  have hb6 : base ≤ w5.heap.size := Nat.le_trans hb4 (Gr.size hb5)
                  clear HB4 HR4 e4 a0 a1 a2 a3 hg4 hb4 hb5 g45
                  -- @m
                  go_wp2_with (at_builtin; refine wpList_append_lies _ rfl _ _ 44 rfl base 3 ii (.int .i64 0) 1 8 Tryd.underlying44 KI.out KI0.out KI1.out KI2.out rfl (by decide) (.slice A j c) j (stl m (Ms.rng (Ms.ph m) t j)) rfl HO6.out ⟨w5.heap.size, 0, none⟩ 1 1 [.int .i64 sv] rfl rfl (by intro p u hp; rcases p with _ | p <;> simp at hp <;> (try subst hp) <;> first | (simp [Addr.add, go_sem]; done) | (simp [Addr.add]; done)) (by intro u hu; simp at hu; subst hu; rfl) (by decide) (by unfold maxLen; omega) (by omega) (by simp; omega) _ rfl ?_)
                  intro gg pp vv ho hr ht8 hl
                  -- @n
                  have hBl := own_below HO6.out hr (by simp; omega)
                  have HB8 := Lib.hid (show Brd m base vv u6 (.slice (some ⟨gg, 0, none⟩) (j + 1) pp) V L (Ms.rng (Ms.ph m) t (j + 1)) from by rw [HRG.out]; exact HB6.out.push (t := x) (by rw [HST.out]; exact ho) (by rw [List.length_append, HRL.out]; rfl) hr (by rcases ht8 with h | h; exact .inl h; exact .inr (by rw [h]; simp)))
                  have HR8 := Lib.hid (HR6.out.below hBl (fun _ => hDb))
                  have hg8 : Gr w2 vv := Gr.own hg6 (by omega) HO6.out hr
                  have hb8 : base ≤ vv.heap.size := by have := hr.size; simp at this; omega
                  have e8 := Gr.at hg8 d1
                  clear ho hr ht8 hl hBl HB6 HR6 HO6 hg6 hb6 hix HST HRG HRL HMK
                  -- @o
                  go_wp2_with fail
                  -- @p
                  go_loopw [10, 11] (fun f s wr => ∃ y : Nat, y < 3 * fn ∧ f = .int .i64 ((y / 3 : Nat) : Int) ∧ s = .int .i64 ((y % 3 : Nat) : Int) ∧ Hid (Ms.it (Ms.rt (Ms.op m) Ms.nx) y (3 * fn) = none ∧ Ms.last (Ms.rt (Ms.op m) Ms.nx) (3 * fn) y = Ms.ph m x) ∧ Gr vv wr) (fun f s _ => Ms.steps (Ms.rt (Ms.op m) Ms.nx) (3 * fn) (3 * (intOf f).toNat + (intOf s).toNat))
                  case atStart =>
                    refine ⟨Ms.nx x, ?_, ?_, ?_, Lib.hid ⟨HEN.out x HX.out.1 HX.out.2, (congrFun HPH.out x).symm⟩, Gr.refl _⟩
                    · unfold Ms.nx; have := HX.out.1; omega
                    · rw [Ms.nx_div, HXA.out.2.1]
                    · rw [Ms.nx_mod, HXA.out.2.2, show (((xs + 1) % 3 : Nat) : Int) = ((xs : Int) + 1) % 3 from by omega]
                  case round =>
                    obtain ⟨y, hy1, rfl, rfl, HI, hgq⟩ := hrel
                    rename World => W9
                    have hg9 := hg8.trans hgq
                    have hb9 : base ≤ W9.heap.size := Nat.le_trans hb8 (Gr.size hgq)
                    have cn : W9.cell? ⟨GN, y / 3 * 3 + y % 3, none⟩ = some (.int .i64 (Ms.nb m (y / 3) (y % 3))) := by rw [show y / 3 * 3 + y % 3 = y by omega]; exact Gr.at hg9 (HC.out y hy1)
                    have e9 := Gr.at hg9 d1
                    have hyl : y / 3 < fn := by omega
                    have hys3 : y % 3 < 3 := by omega
                    clear e8
                    cases hq : Ms.op m y with
                    | none =>
                      rw [Ms.nb_none hq] at cn
                      have hl : Ms.ph m x = y := by rw [← HI.out.2]; exact Ms.last_none (Ms.rt_none hq)
                      have HR9 := Lib.hid (HR8.out.gr hgq)
                      have HB9 := Lib.hid (HB8.out.gr hgq)
                      obtain ⟨yf, hyf⟩ : ∃ q, y / 3 = q := ⟨_, rfl⟩
                      obtain ⟨ys, hys⟩ : ∃ q, y % 3 = q := ⟨_, rfl⟩
                      rw [hyf, hys] at cn ⊢
                      rw [hyf] at hyl
                      rw [hys] at hys3
                      have HF1 := Lib.hid (show Ms.itr (Ms.ph m) t (j + 1) / 3 = yf ∧ Ms.itr (Ms.ph m) t (j + 1) % 3 = ys from by rw [HXS.out, hl]; exact ⟨hyf, hys⟩)
                      clear hyf hys hl hq HI HR8 HB8 hg8 hb8 hy1
                      have yb0 : (0 : Int) ≤ (yf : Int) := by omega
                      have yb1 : (yf : Int) < (fn : Int) := by omega
                      have yk0 : (0 : Int) ≤ (ys : Int) := by omega
                      have yk1 : (ys : Int) < 3 := by omega
                      go_wp2_with fail
                      -- @q
                      go_roundw
                      case rel => exact ⟨j + 1, some ⟨gg, 0, none⟩, pp, by omega, rfl, by rw [HF1.out.1], by rw [HF1.out.2], HR9, HB9, hg9, hb9⟩
                      case measure => simp [slL]; omega
                    | some u =>
                      rw [Ms.nb_some hq] at cn
                      have hoi := HOI.out y u hq
                      have hul := HLT.out y u hq
                      obtain ⟨hm1, hm2, hm3⟩ := Ms.steps_lt HI.out.1 (Ms.rt_some hq)
                      have HI2 := Lib.hid (show Ms.it (Ms.rt (Ms.op m) Ms.nx) (Ms.nx u) (3 * fn) = none ∧ Ms.last (Ms.rt (Ms.op m) Ms.nx) (3 * fn) (Ms.nx u) = Ms.ph m x from ⟨hm2, hm3.trans HI.out.2⟩)
                      have HM1 := Lib.hid hm1
                      have hul3 : u / 3 < fn := by omega
                      have HS2 := Lib.hid (HSD.out (y / 3) (y % 3) hys3)
                      have HO2 := Lib.hid (HOP.out (u / 3) (Ms.st m y) (Ms.en m y))
                      rw [hoi] at HO2
                      rw [show Ms.cor (m.F.D (y / 3)) (y % 3) = Ms.st m y from rfl, show Ms.cor (m.F.D (y / 3)) (y % 3 + 1) = Ms.en m y from rfl] at HS2
                      obtain ⟨⟨a0, a1, a2, a3⟩, -⟩ := HFP.out (y / 3) hyl
                      obtain ⟨⟨b0, b1, b2, b3⟩, -⟩ := HFP.out (u / 3) hul3
                      have gw9 := g2.trans hg9
                      replace a0 := Gr.at gw9 a0; replace a1 := Gr.at gw9 a1; replace a2 := Gr.at gw9 a2; replace a3 := Gr.at gw9 a3
                      replace b0 := Gr.at gw9 b0; replace b1 := Gr.at gw9 b1; replace b2 := Gr.at gw9 b2; replace b3 := Gr.at gw9 b3
                      clear hoi hm1 hm2 hm3 hq HI gw9 HSD HOP HOI HLT HFP HXS HR8 HB8 HEN HPH HPI HPF HPT HB1 HX
                      generalize Ms.st m y = sy at *; generalize Ms.en m y = ey at *
                      obtain ⟨f, hf⟩ : ∃ f, m.F.D (y / 3) = f := ⟨_, rfl⟩
                      obtain ⟨h, hh⟩ : ∃ f, m.F.D (u / 3) = f := ⟨_, rfl⟩
                      simp only [hf] at a0 a1 a2 a3 HS2
                      simp only [hh] at b0 b1 b2 b3 HO2
                      unfold Ba.Face.val at HS2 HO2
                      clear hf hh
                      obtain ⟨uf, huf⟩ : ∃ q, u / 3 = q := ⟨_, rfl⟩
                      obtain ⟨us, hus⟩ : ∃ q, u % 3 = q := ⟨_, rfl⟩
                      have HNX := Lib.hid (show Ms.nx u / 3 = uf ∧ Ms.nx u % 3 = (us + 1) % 3 ∧ Ms.nx u < 3 * fn ∧ Ms.nx u = 3 * uf + (us + 1) % 3 from ⟨by rw [Ms.nx_div, huf], by rw [Ms.nx_mod, hus], by unfold Ms.nx; omega, by unfold Ms.nx; rw [huf, hus]⟩)
                      have hus3 : us < 3 := by omega
                      rw [huf] at cn b0 b1 b2 b3 hul3
                      rw [hus] at HO2
                      have HM2 := Lib.hid (show Ms.steps (Ms.rt (Ms.op m) Ms.nx) (3 * fn) (3 * uf + (us + 1) % 3) < Ms.steps (Ms.rt (Ms.op m) Ms.nx) (3 * fn) (3 * (y / 3) + y % 3) from by rw [← HNX.out.2.2.2, show 3 * (y / 3) + y % 3 = y by omega]; exact HM1.out)
                      clear huf hus HM1 hul hy1
                      generalize y / 3 = yf at *; generalize y % 3 = ys at *
                      have yb0 : (0 : Int) ≤ (yf : Int) := by omega
                      have yb1 : (yf : Int) < (fn : Int) := by omega
                      have yk0 : (0 : Int) ≤ (ys : Int) := by omega
                      have yk1 : (ys : Int) < 3 := by omega
                      have ub0 : (0 : Int) ≤ (uf : Int) := by omega
                      have ub1 : (uf : Int) < (fn : Int) := by omega
                      have une : ¬ (uf : Int) = -1 := by omega
                      have hww : IntKind.i64.wrap ((us : Int) + 1) = (us : Int) + 1 := by rw [IntKind.wrap_i64]; omega
                      -- @r
                      go_upto_region 21 with fail
                      -- @s
                      clear cn
                      (first | refine name_world ?_ | refine (show (∀ W, W = _ → Calls _ _ _ W _) → Calls _ _ _ _ _ from fun h => h _ rfl) ?_); intro W6 hW6
                      have g6 : Gr w W6 := by rw [hW6]; exact gr_auto
                      have gb6_W9 : Gr W9 W6 := by (try clear g6); rw [hW6]; exact gr_auto
                      have k6_0 : W6.cell? ⟨w.heap.size, 1, none⟩ = some (.slice (some ⟨m.F.b, m.F.o, none⟩) fn fc') := by rw [hW6]; first | (simp [go_sem, *]; done) | (refine Gr.at ?_ (by assumption); exact gr_auto)
                      have b6_0 : w.heap.size < W6.heap.size := World.block_lt_of_cell? _ _ k6_0
                      have k6_1 : W6.cell? ⟨m.F.b, m.F.o + yf * 4, none⟩ = some (.int .i64 f.a) := by rw [hW6]; first | (simp [go_sem, *]; done) | (refine Gr.at ?_ (by assumption); exact gr_auto)
                      have b6_1 : m.F.b < W6.heap.size := World.block_lt_of_cell? _ _ k6_1
                      have k6_2 : W6.cell? ⟨m.F.b, m.F.o + yf * 4 + 1, none⟩ = some (.int .i64 f.b) := by rw [hW6]; first | (simp [go_sem, *]; done) | (refine Gr.at ?_ (by assumption); exact gr_auto)
                      have k6_3 : W6.cell? ⟨m.F.b, m.F.o + yf * 4 + 2, none⟩ = some (.int .i64 f.c) := by rw [hW6]; first | (simp [go_sem, *]; done) | (refine Gr.at ?_ (by assumption); exact gr_auto)
                      have k6_4 : W6.cell? ⟨m.F.b, m.F.o + yf * 4 + 3, none⟩ = some (.int .i64 f.k) := by rw [hW6]; first | (simp [go_sem, *]; done) | (refine Gr.at ?_ (by assumption); exact gr_auto)
                      have k6_5 : W6.cell? ⟨m.F.b, m.F.o + uf * 4, none⟩ = some (.int .i64 h.a) := by rw [hW6]; first | (simp [go_sem, *]; done) | (refine Gr.at ?_ (by assumption); exact gr_auto)
                      have k6_6 : W6.cell? ⟨m.F.b, m.F.o + uf * 4 + 1, none⟩ = some (.int .i64 h.b) := by rw [hW6]; first | (simp [go_sem, *]; done) | (refine Gr.at ?_ (by assumption); exact gr_auto)
                      have k6_7 : W6.cell? ⟨m.F.b, m.F.o + uf * 4 + 2, none⟩ = some (.int .i64 h.c) := by rw [hW6]; first | (simp [go_sem, *]; done) | (refine Gr.at ?_ (by assumption); exact gr_auto)
                      have k6_8 : W6.cell? ⟨m.F.b, m.F.o + uf * 4 + 3, none⟩ = some (.int .i64 h.k) := by rw [hW6]; first | (simp [go_sem, *]; done) | (refine Gr.at ?_ (by assumption); exact gr_auto)
                      clear hW6
                      have s6_0 : ∀ gw : GW W6, gw.1.cell? ⟨w.heap.size, 1, none⟩ = some (.slice (some ⟨m.F.b, m.F.o, none⟩) fn fc') := fun gw => Gr.at gw.2 k6_0
                      have s6_1 : ∀ gw : GW W6, gw.1.cell? ⟨m.F.b, m.F.o + yf * 4, none⟩ = some (.int .i64 f.a) := fun gw => Gr.at gw.2 k6_1
                      have s6_2 : ∀ gw : GW W6, gw.1.cell? ⟨m.F.b, m.F.o + yf * 4 + 1, none⟩ = some (.int .i64 f.b) := fun gw => Gr.at gw.2 k6_2
                      have s6_3 : ∀ gw : GW W6, gw.1.cell? ⟨m.F.b, m.F.o + yf * 4 + 2, none⟩ = some (.int .i64 f.c) := fun gw => Gr.at gw.2 k6_3
                      have s6_4 : ∀ gw : GW W6, gw.1.cell? ⟨m.F.b, m.F.o + yf * 4 + 3, none⟩ = some (.int .i64 f.k) := fun gw => Gr.at gw.2 k6_4
                      have s6_5 : ∀ gw : GW W6, gw.1.cell? ⟨m.F.b, m.F.o + uf * 4, none⟩ = some (.int .i64 h.a) := fun gw => Gr.at gw.2 k6_5
                      have s6_6 : ∀ gw : GW W6, gw.1.cell? ⟨m.F.b, m.F.o + uf * 4 + 1, none⟩ = some (.int .i64 h.b) := fun gw => Gr.at gw.2 k6_6
                      have s6_7 : ∀ gw : GW W6, gw.1.cell? ⟨m.F.b, m.F.o + uf * 4 + 2, none⟩ = some (.int .i64 h.c) := fun gw => Gr.at gw.2 k6_7
                      have s6_8 : ∀ gw : GW W6, gw.1.cell? ⟨m.F.b, m.F.o + uf * 4 + 3, none⟩ = some (.int .i64 h.k) := fun gw => Gr.at gw.2 k6_8
                      have Q1 := Lib.hid (fun gw : GW W6 => gw_call (HS2.out gw.1))
                      have Q2 := Lib.hid (fun gw : GW W6 => gw_call (HO2.out gw.1))
                      refine wp_region_gr (by kernel_rfl) (by kernel_rfl) ?_
                      repeat (go_big_quiet_step (first | (go_at_call 58; with_reducible exact Q1.out _) | (go_at_call 71; with_reducible exact Q2.out _)))
                      refine wpQuiet_nil ?_
                      intro w7 hb7
                      clear s6_0 s6_1 s6_2 s6_3 s6_4 s6_5 s6_6 s6_7 s6_8
                      have g7 : Gr w w7 := g6.trans hb7
                      have k6_0 := Gr.at hb7 k6_0
                      have k6_1 := Gr.at hb7 k6_1
                      have k6_2 := Gr.at hb7 k6_2
                      have k6_3 := Gr.at hb7 k6_3
                      have k6_4 := Gr.at hb7 k6_4
                      have k6_5 := Gr.at hb7 k6_5
                      have k6_6 := Gr.at hb7 k6_6
                      have k6_7 := Gr.at hb7 k6_7
                      have k6_8 := Gr.at hb7 k6_8
                      -- @t
                      go_wp2_with fail
                      -- @t1
                      go_roundw
                      case rel => exact ⟨Ms.nx u, HNX.out.2.2.1, by rw [HNX.out.1], by rw [HNX.out.2.1, show (((us + 1) % 3 : Nat) : Int) = ((us : Int) + 1) % 3 from by omega], HI2, hgq.trans (gb6_W9.trans hb7)⟩
                      case measure =>
                        have e := HM2.out
                        simp only [intOf, Int.toNat_natCast]
                        rw [show (((us : Int) + 1) % 3).toNat = (us + 1) % 3 from by omega]
                        exact e
                · obtain rfl : j = p := by omega
                  rw [HPTj.out rfl] at og
                  have x3 := og.1
                  clear og
                  -- @u
                  have hbe : Ms.bS m (3 * i + (k + 1)) = (Ms.mkL d (Ms.rng (Ms.ph m) t j), L ++ [Ms.rng (Ms.ph m) t j]) := by
                    rw [show 3 * i + (k + 1) = t + 1 by have := HT3.out.1; omega]; exact HB1.out
                  have g4 : Gr W3 (W3.alloc (Obj.cells #[.slice A j c] 44)) := Gr.alloc (Gr.refl W3) _
                  have HB6 := Lib.hid (HB.out.gr g4)
                  have HR6 := Lib.hid (HR.out.gr g4)
                  have HO6 := Lib.hid HB6.out.out
                  have hg6 := hg.trans g4
                  have HBE := Lib.hid hbe
                  clear hbe HB HR hg g4 HB1 HPT HPTj HPF HPFj HPI HXS HRG HRL HMK HX HFP HFA HSD HOP HOI HEN HPH HLT HC
                  -- @v
                  go_wp2_with (at_builtin; refine wpList_append_lies _ rfl _ _ 39 rfl base 44 is (.slice none 0 0) 1 24 Tryd.underlying39 KS.out KS0.out KS1.out KS2.out rfl (by decide) u6 L.length (vs V L.length) rfl HO6.out ⟨W3.heap.size, 0, none⟩ 1 1 [.slice A j c] rfl rfl (by intro p u hp; rcases p with _ | p <;> simp at hp <;> (try subst hp) <;> first | (simp [Addr.add, go_sem]; done) | (simp [Addr.add]; done)) (by intro u hu; simp at hu; subst hu; rfl) (by decide) (by unfold maxLen; omega) (by omega) (by simp; omega) _ rfl ?_)
                  intro gg pp vv ho hr ht8 hl
                  -- @w
                  have hBl := own_below HO6.out hr (by simp; omega)
                  have HB8 := Lib.hid (HB6.out.done ho (by rw [List.length_append]; rfl) hr (by rcases ht8 with h | h; exact .inl h; exact .inr (by rw [h]; simp)))
                  have HR8 := Lib.hid (HR6.out.below hBl (fun _ => hDb))
                  have hg8 : Gr w2 vv := Gr.own hg6 (by omega) HO6.out hr
                  have hb8 : base ≤ vv.heap.size := by have := hr.size; simp at this; omega
                  have HBn := Lib.hid (show Brd m base vv (.slice (some ⟨gg, 0, none⟩) (L.length + 1) pp) (.slice none 0 0) (upd V L.length (.slice A j c)) (Ms.bS m (3 * i + (k + 1))).2 [] from by rw [HBE.out]; exact HB8.out)
                  have HRn := Lib.hid (show Row vv D (3 * fn) (bX (Ms.bS m (3 * i + (k + 1))).1) from by rw [HBE.out]; exact HR8.out)
                  clear ho hr ht8 hl hBl HB6 HR6 HO6 hg6 HB8 HR8 HBE
                  go_wp2_with fail
                  -- @x
                  go_roundw
                  case rel => exact ⟨k + 1, _, by omega, by go_num, HRn, HBn, hg8, hb8⟩
                  case measure => simp [intOf]; omega
        · obtain rfl : k = 3 := by omega
          have HRn := Lib.hid (show Row W2 D (3 * fn) (bX (Ms.bS m (3 * (i + 1))).1) from HR.out)
          have HBn := Lib.hid (show Brd m base W2 _ (.slice none 0 0) V (Ms.bS m (3 * (i + 1))).2 [] from HB.out)
          clear HR HB
          go_wp2_with fail
          -- @y
          go_roundw
          case rel => exact ⟨i + 1, V, by omega, by go_num, HRn, HBn, hg, hbs⟩
          case measure => simp [intOf]; omega
    · obtain rfl : fn = i := by omega
      go_wp2_with fail
      -- @z
      go_ret2
      exact ⟨_, rfl, V, HB.out.lower (by have := HW.out; omega), g2.trans hg⟩
end Go.Proofs.YtajhhplgcegodaaDoor
namespace Go.Proofs.YtajhhplgcegodaaDoor
open Go.RowKit
def RetRb (m : Ms.Mesh) (w : World) (e : Ending) (w' : World) : Prop := ∃ v, e = .returned v ∧ RetBo m w w' v
set_option maxRecDepth 100000 in
set_option maxHeartbeats 8000000 in
theorem rs_border (m : Ms.Mesh) (w : World) (h : m.At w) (hs : m.S.n ≤ 61 ∧ m.F.n ≤ 61) (hv : Ms.vlB m = true) : Calls Tryd.prog 26 #[m.val] w (RetRb m w) := by
  have HFP := Lib.hid (fun i (hi : i < m.F.n) => h.f.hD i hi)
  have HFA := Lib.hid h.f.hA
  have hfc := h.f.hc; have hfb := h.f.hb
  have hn := hs.2
  have HAC := Lib.hid (fun y (hy : y < 3 * m.F.n) W (hW : Gr w W) => rs_across m (y / 3) (y % 3) (by omega) (by omega) W (h.f.gr hW))
  have HCR := Lib.hid (fun i k (hk : k < 3) W => rs_corner (m.F.D i) k (by omega) W)
  have HGO := Lib.hid (fun t ht ho hd => Ms.bS_go hv (t := t) ht ho hd)
  have HEN := Lib.hid (fun t ht ho => Ms.bd_ends hv (t := t) ht ho)
  have HSK := Lib.hid (fun t h => Ms.bS_skip (m := m) (t := t) h)
  have HLE := Lib.hid (fun t => Ms.bS_len (m := m) t)
  have HLT := Lib.hid (fun y u h => Ms.op_lt (m := m) (y := y) (u := u) h)
  have hPH : Ms.ph m = fun t => Ms.last (Ms.rt (Ms.op m) Ms.nx) (3 * m.F.n) (Ms.nx t) := rfl
  obtain ⟨ib, hi0, hz0, hz1, hz2⟩ := info_parts info_bool
  have KB := Lib.hid hi0; have KB0 := Lib.hid hz0; have KB1 := Lib.hid hz1; have KB2 := Lib.hid hz2
  clear hi0 hz0 hz1 hz2
  obtain ⟨ii, hi0, hz0, hz1, hz2⟩ := info_parts info_int
  have KI := Lib.hid hi0; have KI0 := Lib.hid hz0; have KI1 := Lib.hid hz1; have KI2 := Lib.hid hz2
  clear hi0 hz0 hz1 hz2
  obtain ⟨is, hi0, hz0, hz1, hz2⟩ := info_parts info_sli
  have KS := Lib.hid hi0; have KS0 := Lib.hid hz0; have KS1 := Lib.hid hz1; have KS2 := Lib.hid hz2
  clear hi0 hz0 hz1 hz2 h hs hv
  unfold RetRb RetBo
  unfold Ms.Mesh.val at *
  generalize m.S.A = sA at *; generalize m.S.n = sn at *; generalize m.S.c = sc at *
  obtain ⟨fA, hfA⟩ : ∃ A, m.F.A = A := ⟨_, rfl⟩; obtain ⟨fn, hfn⟩ : ∃ n, m.F.n = n := ⟨_, rfl⟩; obtain ⟨fc', hfc'⟩ : ∃ c, m.F.c = c := ⟨_, rfl⟩
  rw [hfA, hfn, hfc'] at HAC ⊢
  rw [hfA, hfn] at HFA
  rw [hfn] at HFP hfc hn HGO HEN HLT hPH
  rw [hfc'] at hfc hfb
  clear hfA hfn hfc'
  have HPH := Lib.hid hPH
  clear hPH
  go_enter Tryd.func26, Tryd.ntmps26
  go_upto_region 2 with fail
  obtain ⟨W0, hW0⟩ : ∃ W, w.alloc (Obj.cells #[.slice sA sn sc, .slice fA fn fc'] 25) = W := ⟨_, rfl⟩
  have d0 : W0.cell? ⟨w.heap.size, 0, none⟩ = some (.slice sA sn sc) := by rw [← hW0]; simp [go_sem]
  have d1 : W0.cell? ⟨w.heap.size, 1, none⟩ = some (.slice fA fn fc') := by rw [← hW0]; simp [go_sem]
  have g2 : Gr w W0 := hW0 ▸ Gr.alloc (Gr.refl w) _
  have z2 := Gr.size g2
  rw [hW0]
  clear hW0
  have h3n : (3 : Int) * (fn : Int) = ((3 * fn : Nat) : Int) := by omega
  have hm1 : (3 : Int) * (fn : Int) ≤ 9223372036854775807 := by omega
  have hm2 : (-9223372036854775808 : Int) ≤ (3 : Int) * (fn : Int) := by omega
  have H3N := Lib.hid h3n
  clear h3n
  -- @a
  go_wp2_with (at_make; refine wpList_make_full _ rfl _ _ _ rfl w.heap.size 4 ib (.bool false) 1 Tryd.underlying101 KB.out KB0.out KB1.out .i64 .i64 (3 * (fn : Int)) (3 * (fn : Int)) (3 * fn) rfl rfl H3N.out H3N.out ?d1 ?d2 ?d3 ?_)
  case d1 => rw [KB2.out]; omega
  case d2 => unfold maxLen; omega
  case d3 => exact z2
  intro w3 hown hgrow
  -- @b
  have hg23 : Gr W0 w3 := grown_gr hgrow
  have hDb : W0.heap.size < w3.heap.size := (hown.lt _ rfl).2
  have HR0 := Lib.hid (made_row hown)
  obtain ⟨D, hD⟩ : ∃ B, W0.heap.size = B := ⟨_, rfl⟩
  rw [hD] at HR0 hDb z2 ⊢
  have HB0 := Lib.hid (Brd.nil m w3.heap.size w3)
  obtain ⟨base, hbase⟩ : ∃ B, w3.heap.size = B := ⟨_, rfl⟩
  rw [hbase] at HB0 hDb
  have hbs : base ≤ w3.heap.size := by omega
  have HW := Lib.hid (show w.heap.size < D from by have := World.block_lt_of_cell? _ _ d1; simp only at this; omega)
  have d3 := Gr.at hg23 d1
  clear hown hgrow KB KB0 KB1 KB2 z2 hbase H3N
  go_wp2_with fail
  clear d3
  -- @c
  go_loopw [3, 5] (fun v x wr => ∃ (t : Nat) (V : Nat → Value), t ≤ 3 * fn ∧ x = .int .i64 (t : Int) ∧ Hid (Row wr D (3 * fn) (bX (Ms.bS m t).1)) ∧ Hid (Brd m base wr v (.slice none 0 0) V (Ms.bS m t).2 []) ∧ Gr W0 wr ∧ base ≤ wr.heap.size) (fun _ x _ => 3 * fn - (intOf x).toNat)
  case atStart => exact ⟨0, _, Nat.zero_le _, rfl, HR0, HB0, hg23, hbs⟩
  case round =>
    clear HR0 HB0 hg23 hbs
    obtain ⟨t, V, ht, rfl, HR, HB, hg, hbs⟩ := hrel
    rename World => W2
    have e0 := Gr.at hg d0; have e1 := Gr.at hg d1
    by_cases ht1 : t < 3 * fn
    · have tb0 : (0 : Int) ≤ (t : Int) := by omega
      have tb1 : (t : Int) < ((3 * fn : Nat) : Int) := by omega
      have tb2 : (t : Int) < 3 * (fn : Int) := by omega
      have HA1 := Lib.hid (HAC.out t ht1)
      rw [show ((t / 3 : Nat) : Int) = (t : Int) / 3 from by omega, show ((t % 3 : Nat) : Int) = (t : Int) % 3 from by omega, show Ms.acO m (t / 3) (t % 3) = Ms.op m t from rfl] at HA1
      have cd : W2.cell? ⟨D, t, none⟩ = some (.bool ((Ms.bS m t).1 t)) := (HR.out t ht1).1
      have hSK := Lib.hid (HSK.out t)
      -- @d
      cases hq : Ms.op m t with
      | some u =>
        rw [hq] at HA1
        have hb := hSK.out (by rw [hq]; rfl)
        have HRn := Lib.hid (show Row W2 D (3 * fn) (bX (Ms.bS m (t + 1)).1) from by rw [hb]; exact HR.out)
        have HBn := Lib.hid (show Brd m base W2 _ (.slice none 0 0) V (Ms.bS m (t + 1)).2 [] from by rw [hb]; exact HB.out)
        unfold Ms.sdV at HA1
        have hne : (0 : Int) ≤ ((u / 3 : Nat) : Int) := by omega
        generalize ((u / 3 : Nat) : Int) = uv at *
        generalize ((u % 3 : Nat) : Int) = uw at *
        clear hSK hq hb HR HB HGO HEN HSK HLE HLT HPH HAC HCR HFP HFA cd
        go_wp2_with fail
        -- @e
        refine (HA1.out _ (g2.trans hg)).mono ?_
        rintro e w5 ⟨rfl, hb5⟩
        have hg5 := hg.trans hb5
        have HRm := Lib.hid (HRn.out.gr hb5); have HBm := Lib.hid (HBn.out.gr hb5)
        have hbm := Nat.le_trans hbs (Gr.size hb5)
        clear HA1 HRn HBn e0 e1 hbs hb5 hg
        go_wp2_with fail
        -- @g
        go_roundw
        case rel => exact ⟨t + 1, V, by omega, by go_num, HRm, HBm, hg5, hbm⟩
        case measure => simp [intOf]; omega
      | none =>
        rw [hq] at HA1
        unfold Ms.sdV at HA1
        cases hd : (Ms.bS m t).1 t with
        | true =>
          rw [hd] at cd
          have hb := hSK.out (by rw [hd]; simp)
          have HRn := Lib.hid (show Row W2 D (3 * fn) (bX (Ms.bS m (t + 1)).1) from by rw [hb]; exact HR.out)
          have HBn := Lib.hid (show Brd m base W2 _ (.slice none 0 0) V (Ms.bS m (t + 1)).2 [] from by rw [hb]; exact HB.out)
          clear hSK hq hb HR HB hd HGO HEN HSK HLE HLT HPH HAC HCR HFP HFA
          go_wp2_with fail
          refine (HA1.out _ (g2.trans hg)).mono ?_
          rintro e w5 ⟨rfl, hb5⟩
          have hg5 := hg.trans hb5
          have HRm := Lib.hid (HRn.out.gr hb5); have HBm := Lib.hid (HBn.out.gr hb5)
          have hbm := Nat.le_trans hbs (Gr.size hb5)
          replace cd := Gr.at hb5 cd
          clear HA1 HRn HBn e0 e1 hbs hb5 hg
          go_wp2_with fail
          -- @h
          go_roundw
          case rel => exact ⟨t + 1, V, by omega, by go_num, HRm, HBm, hg5, hbm⟩
          case measure => simp [intOf]; omega
        | false =>
          rw [hd] at cd
          obtain ⟨p, p0, pN, hpf, hpt, hb1, hpi⟩ := HGO.out t ht1 hq hd
          have HPF := Lib.hid hpf; have HPT := Lib.hid hpt; have HB1 := Lib.hid hb1; have HPI := Lib.hid hpi
          have hLt := HLE.out t
          clear hpf hpt hb1 hpi hSK hq hd HGO HSK HLE
          -- @i
          go_wp2_with fail
          refine (HA1.out _ (g2.trans hg)).mono ?_
          rintro e w5 ⟨rfl, hb5⟩
          have hg5 := hg.trans hb5
          have HRm := Lib.hid (HR.out.gr hb5); have HBm := Lib.hid (HB.out.gr hb5)
          have hbm := Nat.le_trans hbs (Gr.size hb5)
          replace cd := Gr.at hb5 cd
          clear HA1 HR HB e0 e1 hbs hb5 hg
          go_wp2_with fail
          clear cd
          -- @j
          obtain ⟨d, hdd⟩ : ∃ d, (Ms.bS m t).1 = d := ⟨_, rfl⟩
          obtain ⟨L, hLL⟩ : ∃ L, (Ms.bS m t).2 = L := ⟨_, rfl⟩
          rw [hdd] at HRm HPF HPT HB1
          rw [hLL] at HBm HB1 hLt
          clear hdd hLL
          go_loopw [8, 9] (fun b a wr => ∃ (j : Nat) (A : Option Addr) (c : Nat), j ≤ p ∧ b = .slice A j c ∧ a = .int .i64 ((Ms.itr (Ms.ph m) t j : Nat) : Int) ∧ Hid (Row wr D (3 * fn) (bX (Ms.mkL d (Ms.rng (Ms.ph m) t j)))) ∧ Hid (Brd m base wr u3 (.slice A j c) V L (Ms.rng (Ms.ph m) t j)) ∧ Gr W0 wr ∧ base ≤ wr.heap.size) (fun b _ _ => p - slL b)
          case atStart =>
            exact ⟨0, none, 0, by omega, rfl, rfl, HRm, HBm, hg5, hbm⟩
          case round =>
            clear HRm HBm hg5 hbm
            obtain ⟨j, A, c, hj, rfl, rfl, HR, HB, hg, hbs⟩ := hrel
            rename World => W3
            obtain ⟨hx1, hx2⟩ := HPI.out j
            have HXS := Lib.hid (show Ms.itr (Ms.ph m) t (j + 1) = Ms.ph m (Ms.itr (Ms.ph m) t j) from rfl)
            have HRG := Lib.hid (Ms.rng_snoc (Ms.ph m) j t)
            have HRL := Lib.hid (Ms.rng_len (Ms.ph m) j t)
            have HMK := Lib.hid (fun q => Ms.mkL_rng (Ms.ph m) d t j q)
            have HPFj := Lib.hid (HPF.out j)
            obtain ⟨x, hx⟩ : ∃ x, Ms.itr (Ms.ph m) t j = x := ⟨_, rfl⟩
            have HPTj := Lib.hid (fun (h : j = p) => show Ms.mkL d (Ms.rng (Ms.ph m) t j) x = true from by rw [← hx, h]; exact HPT.out)
            rw [hx] at hx1 hx2 HXS HRG HPFj
            simp only [hx] at HMK
            rw [hx]
            clear hx
            have HX := Lib.hid (And.intro hx1 hx2)
            have xb0 : (0 : Int) ≤ (x : Int) := by omega
            have xb1 : (x : Int) < ((3 * fn : Nat) : Int) := by omega
            have xb2 : (x : Int) < 3 * (fn : Int) := by omega
            have og : Own W3 D x (.bool (Ms.mkL d (Ms.rng (Ms.ph m) t j) x)) := HR.out x hx1
            by_cases hlj : j < p
            · rw [HPFj.out hlj] at og
              have e3 := Gr.at hg d1
              obtain ⟨xf, hxf⟩ : ∃ q, x / 3 = q := ⟨_, rfl⟩
              obtain ⟨xs, hxs⟩ : ∃ q, x % 3 = q := ⟨_, rfl⟩
              have hxl : xf < fn := by omega
              have hs3 : xs < 3 := by omega
              have xq : (x : Int) / 3 = (xf : Int) := by omega
              have xr : (x : Int) % 3 = (xs : Int) := by omega
              have HXA := Lib.hid (show 3 * xf + xs = x ∧ x / 3 = xf ∧ x % 3 = xs from ⟨by omega, hxf, hxs⟩)
              clear hxf hxs hx1 hx2
              have ib0x : (0 : Int) ≤ (xf : Int) := by omega
              have ib1x : (xf : Int) < (fn : Int) := by omega
              have kb0x : (0 : Int) ≤ (xs : Int) := by omega
              have kb1x : (xs : Int) < 3 := by omega
              obtain ⟨⟨a0, a1, a2, a3⟩, fo⟩ := HFP.out xf hxl
              obtain rfl := HFA.out (by omega)
              obtain ⟨W4, hW4⟩ : ∃ W, W3.setCell ⟨D, x, none⟩ (.bool true) = W := ⟨_, rfl⟩
              have gx4 : GrX D W3 W4 := hW4 ▸ GrX.setCell (GrX.refl D W3) rfl _
              have hg4 : Gr W0 W4 := GrX.gr hg (by omega) gx4
              have HR4 := Lib.hid (show Row W4 D (3 * fn) (bX (Ms.mkL d (Ms.rng (Ms.ph m) t (j + 1)))) from hW4 ▸ Row.set (k := x) (u := .bool true) HR.out (by unfold bX; rw [HMK.out, decide_eq_true rfl, Bool.or_true]) (fun q _ hq => by unfold bX; rw [HMK.out, decide_eq_false hq, Bool.or_false]))
              have HB4 := Lib.hid (HB.out.grx gx4 hDb)
              have e4 := Gr.at hg4 d1
              have gw4 := g2.trans hg4
              replace a0 := Gr.at gw4 a0; replace a1 := Gr.at gw4 a1; replace a2 := Gr.at gw4 a2; replace a3 := Gr.at gw4 a3
              have hb4 : base ≤ W4.heap.size := Nat.le_trans hbs gx4.size
              have HS1 := Lib.hid (HCR.out xf xs hs3)
              have HST := Lib.hid (show Ms.st m x = Ms.cor (m.F.D xf) xs from by unfold Ms.st; rw [HXA.out.2.1, HXA.out.2.2])
              have x3 := og.1; have y3 := og.2
              clear og HR HB gx4 hbs gw4 fo
              generalize Ms.cor (m.F.D xf) xs = sv at *
              obtain ⟨f, hf⟩ : ∃ f, m.F.D xf = f := ⟨_, rfl⟩
              simp only [hf] at a0 a1 a2 a3 HS1
              unfold Ba.Face.val at HS1
              clear hf
              -- @k
              go_upto_region 12 with fail
              -- @k1
              clear x3 y3 hW4 e3 hg
              go_wp2_with fail
              -- @l
              refine (HS1.out _).mono ?_
              rintro e w5 ⟨rfl, hb5⟩
              clear HS1
              have g45 : Gr W4 (w5.alloc (Obj.cells #[.int .i64 sv] 3)) := hb5.trans (Gr.alloc (Gr.refl w5) _)
              have HB6 := Lib.hid (HB4.out.gr g45)
              have HR6 := Lib.hid (HR4.out.gr g45)
              have HO6 := Lib.hid (show (w5.alloc (Obj.cells #[.int .i64 sv] 3)).ownsRow base 3 1 (.slice A j c) j (stl m (Ms.rng (Ms.ph m) t j)) from by have e := HB6.out.cur; rw [HRL.out] at e; exact e)
              have hg6 := hg4.trans g45
              have hb6 : base ≤ w5.heap.size := Nat.le_trans hb4 (Gr.size hb5)
              clear HB4 HR4 e4 a0 a1 a2 a3 hg4 hb4 hb5 g45
              -- @m
              go_wp2_with (at_builtin; refine wpList_append_lies _ rfl _ _ 44 rfl base 3 ii (.int .i64 0) 1 8 Tryd.underlying44 KI.out KI0.out KI1.out KI2.out rfl (by decide) (.slice A j c) j (stl m (Ms.rng (Ms.ph m) t j)) rfl HO6.out ⟨w5.heap.size, 0, none⟩ 1 1 [.int .i64 sv] rfl rfl (by intro p u hp; rcases p with _ | p <;> simp at hp <;> (try subst hp) <;> first | (simp [Addr.add, go_sem]; done) | (simp [Addr.add]; done)) (by intro u hu; simp at hu; subst hu; rfl) (by decide) (by unfold maxLen; omega) (by omega) (by simp; omega) _ rfl ?_)
              intro gg pp vv ho hr ht8 hl
              -- @n
              have hBl := own_below HO6.out hr (by simp; omega)
              have HB8 := Lib.hid (show Brd m base vv u3 (.slice (some ⟨gg, 0, none⟩) (j + 1) pp) V L (Ms.rng (Ms.ph m) t (j + 1)) from by rw [HRG.out]; exact HB6.out.push (t := x) (by rw [HST.out]; exact ho) (by rw [List.length_append, HRL.out]; rfl) hr (by rcases ht8 with h | h; exact .inl h; exact .inr (by rw [h]; simp)))
              have HR8 := Lib.hid (HR6.out.below hBl (fun _ => hDb))
              have hg8 : Gr W0 vv := Gr.own hg6 (by omega) HO6.out hr
              have hb8 : base ≤ vv.heap.size := by have := hr.size; simp at this; omega
              have e8 := Gr.at hg8 d0; have e9 := Gr.at hg8 d1
              clear ho hr ht8 hl hBl HB6 HR6 HO6 hg6 hb6 HST HRG HRL HMK
              have HA2 := Lib.hid (HAC.out (Ms.nx x) (by unfold Ms.nx; have := HX.out.1; omega))
              rw [show ((Ms.nx x / 3 : Nat) : Int) = (xf : Int) from by rw [Ms.nx_div, HXA.out.2.1], show ((Ms.nx x % 3 : Nat) : Int) = ((xs : Int) + 1) % 3 from by rw [Ms.nx_mod, HXA.out.2.2]; omega, show Ms.acO m (Ms.nx x / 3) (Ms.nx x % 3) = Ms.op m (Ms.nx x) from rfl] at HA2
              obtain ⟨n1, k1, hnk⟩ : ∃ n k : Int, Ms.sdV (Ms.op m (Ms.nx x)) = .tuple #[.int .i64 n, .int .i64 k] := Ms.sdV_two _
              rw [hnk] at HA2
              have HNK := Lib.hid hnk
              clear hnk
              -- @o
              go_wp2_with fail
              -- @o1
              refine (HA2.out _ (g2.trans hg8)).mono ?_
              rintro e w9 ⟨rfl, hb9⟩
              clear HA2 e8 e9
              have HB9 := Lib.hid (HB8.out.gr hb9); have HR9 := Lib.hid (HR8.out.gr hb9)
              have hg9 := hg8.trans hb9
              have hb10 := Nat.le_trans hb8 (Gr.size hb9)
              clear HB8 HR8 hg8 hb8 hb9
              go_wp2_with fail
              -- @p
              go_loopw [10, 11, 12, 13] (fun f s nn kk wr => ∃ y : Nat, y < 3 * fn ∧ f = .int .i64 ((y / 3 : Nat) : Int) ∧ s = .int .i64 ((y % 3 : Nat) : Int) ∧ Ms.sdV (Ms.op m y) = .tuple #[nn, kk] ∧ Hid (Ms.it (Ms.rt (Ms.op m) Ms.nx) y (3 * fn) = none ∧ Ms.last (Ms.rt (Ms.op m) Ms.nx) (3 * fn) y = Ms.ph m x) ∧ Gr w9 wr) (fun f s _ _ _ => Ms.steps (Ms.rt (Ms.op m) Ms.nx) (3 * fn) (3 * (intOf f).toNat + (intOf s).toNat))
              case atStart =>
                refine ⟨Ms.nx x, ?_, ?_, ?_, HNK.out, Lib.hid ⟨HEN.out x HX.out.1 HX.out.2, (congrFun HPH.out x).symm⟩, Gr.refl _⟩
                · unfold Ms.nx; have := HX.out.1; omega
                · rw [Ms.nx_div, HXA.out.2.1]
                · rw [Ms.nx_mod, HXA.out.2.2, show (((xs + 1) % 3 : Nat) : Int) = ((xs : Int) + 1) % 3 from by omega]
              case round =>
                obtain ⟨y, hy1, rfl, rfl, hnk, HI, hgq⟩ := hrel
                rename World => W9
                have hgW := hg9.trans hgq
                have hbW : base ≤ W9.heap.size := Nat.le_trans hb10 (Gr.size hgq)
                have e8 := Gr.at hgW d0; have e9 := Gr.at hgW d1
                have hyl : y / 3 < fn := by omega
                have hys3 : y % 3 < 3 := by omega
                cases hq : Ms.op m y with
                | none =>
                  rw [hq] at hnk
                  unfold Ms.sdV at hnk
                  simp only [Value.tuple.injEq, Array.mk.injEq, List.cons.injEq, and_true] at hnk
                  obtain ⟨rfl, rfl⟩ := hnk
                  have hl : Ms.ph m x = y := by rw [← HI.out.2]; exact Ms.last_none (Ms.rt_none hq)
                  have HRW := Lib.hid (HR9.out.gr hgq)
                  have HBW := Lib.hid (HB9.out.gr hgq)
                  have HF1 := Lib.hid (show Ms.itr (Ms.ph m) t (j + 1) = y from by rw [HXS.out, hl])
                  have hsum : (3 : Int) * ((y / 3 : Nat) : Int) + ((y % 3 : Nat) : Int) = (y : Int) := by omega
                  clear hl hq HI HR9 HB9 hg9 hb10 e8 e9
                  have ym0 : (0 : Int) ≤ ((y / 3 : Nat) : Int) := by omega
                  have ym1 : ((y / 3 : Nat) : Int) < 61 := by omega
                  have yn0 : (0 : Int) ≤ ((y % 3 : Nat) : Int) := by omega
                  have yn1 : ((y % 3 : Nat) : Int) < 3 := by omega
                  generalize ((y / 3 : Nat) : Int) = yf at *
                  generalize ((y % 3 : Nat) : Int) = ys at *
                  go_wp2_with fail
                  -- @q
                  try rw [hsum]
                  go_roundw
                  case rel => exact ⟨j + 1, some ⟨gg, 0, none⟩, pp, by omega, rfl, by rw [HF1.out], HRW, HBW, hgW, hbW⟩
                  case measure => simp [slL]; omega
                | some u =>
                  rw [hq] at hnk
                  unfold Ms.sdV at hnk
                  simp only [Value.tuple.injEq, Array.mk.injEq, List.cons.injEq, and_true] at hnk
                  obtain ⟨rfl, rfl⟩ := hnk
                  have hul := HLT.out y u hq
                  obtain ⟨hm1, hm2, hm3⟩ := Ms.steps_lt HI.out.1 (Ms.rt_some hq)
                  have HI2 := Lib.hid (show Ms.it (Ms.rt (Ms.op m) Ms.nx) (Ms.nx u) (3 * fn) = none ∧ Ms.last (Ms.rt (Ms.op m) Ms.nx) (3 * fn) (Ms.nx u) = Ms.ph m x from ⟨hm2, hm3.trans HI.out.2⟩)
                  have HNX := Lib.hid (show Ms.nx u / 3 = u / 3 ∧ Ms.nx u % 3 = (u % 3 + 1) % 3 ∧ Ms.nx u < 3 * fn ∧ Ms.nx u = 3 * (u / 3) + (u % 3 + 1) % 3 from ⟨Ms.nx_div u, Ms.nx_mod u, by unfold Ms.nx; omega, rfl⟩)
                  have HM2 := Lib.hid (show Ms.steps (Ms.rt (Ms.op m) Ms.nx) (3 * fn) (3 * (u / 3) + (u % 3 + 1) % 3) < Ms.steps (Ms.rt (Ms.op m) Ms.nx) (3 * fn) (3 * (y / 3) + y % 3) from by rw [← HNX.out.2.2.2, show 3 * (y / 3) + y % 3 = y by omega]; exact hm1)
                  have HA3 := Lib.hid (HAC.out (Ms.nx u) HNX.out.2.2.1)
                  rw [show ((Ms.nx u / 3 : Nat) : Int) = ((u / 3 : Nat) : Int) from by rw [Ms.nx_div], show ((Ms.nx u % 3 : Nat) : Int) = (((u % 3 : Nat) : Int) + 1) % 3 from by rw [Ms.nx_mod]; omega, show Ms.acO m (Ms.nx u / 3) (Ms.nx u % 3) = Ms.op m (Ms.nx u) from rfl] at HA3
                  obtain ⟨n2, k2, hnk2⟩ : ∃ n k : Int, Ms.sdV (Ms.op m (Ms.nx u)) = .tuple #[.int .i64 n, .int .i64 k] := Ms.sdV_two _
                  rw [hnk2] at HA3
                  have HNK2 := Lib.hid hnk2
                  have hgw := g2.trans hgW
                  clear hm1 hm2 hm3 hq HI hnk2 HNK HXS HR9 HB9 HEN HPH HPI HPF HPT HB1 HX HAC HCR HLT HFP
                  obtain ⟨uf, huf⟩ : ∃ q, u / 3 = q := ⟨_, rfl⟩
                  obtain ⟨us, hus⟩ : ∃ q, u % 3 = q := ⟨_, rfl⟩
                  rw [huf, hus] at HNX HM2
                  rw [huf, hus] at HA3 ⊢
                  have hus3 : us < 3 := by omega
                  clear huf hus
                  have ub0 : (0 : Int) ≤ (uf : Int) := by omega
                  have us0 : (0 : Int) ≤ (us : Int) := by omega
                  have us1 : (us : Int) < 3 := by omega
                  -- @r
                  go_wp2_with fail
                  -- @s
                  refine (HA3.out _ hgw).mono ?_
                  rintro e w10 ⟨rfl, hb11⟩
                  clear HA3 e8 e9
                  go_wp2_with fail
                  -- @t
                  go_roundw
                  case rel => exact ⟨Ms.nx u, HNX.out.2.2.1, by rw [HNX.out.1], by rw [HNX.out.2.1, show (((us + 1) % 3 : Nat) : Int) = ((us : Int) + 1) % 3 from by omega], HNK2.out, HI2, hgq.trans hb11⟩
                  case measure =>
                    have e := HM2.out
                    simp only [intOf, Int.toNat_natCast]
                    rw [show (((us : Int) + 1) % 3).toNat = (us + 1) % 3 from by omega]
                    exact e
            · obtain rfl : j = p := by omega
              rw [HPTj.out rfl] at og
              have x3 := og.1
              clear og
              -- @u
              have hbe : Ms.bS m (t + 1) = (Ms.mkL d (Ms.rng (Ms.ph m) t j), L ++ [Ms.rng (Ms.ph m) t j]) := HB1.out
              have g4 : Gr W3 (W3.alloc (Obj.cells #[.slice A j c] 44)) := Gr.alloc (Gr.refl W3) _
              have HB6 := Lib.hid (HB.out.gr g4)
              have HR6 := Lib.hid (HR.out.gr g4)
              have HO6 := Lib.hid HB6.out.out
              have hg6 := hg.trans g4
              have HBE := Lib.hid hbe
              clear hbe HB HR hg g4 HB1 HPT HPTj HPF HPFj HPI HXS HRG HRL HMK HX HFP HFA HCR HAC HEN HPH HLT
              -- @v
              go_wp2_with (at_builtin; refine wpList_append_lies _ rfl _ _ 39 rfl base 44 is (.slice none 0 0) 1 24 Tryd.underlying39 KS.out KS0.out KS1.out KS2.out rfl (by decide) u3 L.length (vs V L.length) rfl HO6.out ⟨W3.heap.size, 0, none⟩ 1 1 [.slice A j c] rfl rfl (by intro p u hp; rcases p with _ | p <;> simp at hp <;> (try subst hp) <;> first | (simp [Addr.add, go_sem]; done) | (simp [Addr.add]; done)) (by intro u hu; simp at hu; subst hu; rfl) (by decide) (by unfold maxLen; omega) (by omega) (by simp; omega) _ rfl ?_)
              intro gg pp vv ho hr ht8 hl
              -- @w
              have hBl := own_below HO6.out hr (by simp; omega)
              have HB8 := Lib.hid (HB6.out.done ho (by rw [List.length_append]; rfl) hr (by rcases ht8 with h | h; exact .inl h; exact .inr (by rw [h]; simp)))
              have HR8 := Lib.hid (HR6.out.below hBl (fun _ => hDb))
              have hg8 : Gr W0 vv := Gr.own hg6 (by omega) HO6.out hr
              have hb8 : base ≤ vv.heap.size := by have := hr.size; simp at this; omega
              have HBn := Lib.hid (show Brd m base vv (.slice (some ⟨gg, 0, none⟩) (L.length + 1) pp) (.slice none 0 0) (upd V L.length (.slice A j c)) (Ms.bS m (t + 1)).2 [] from by rw [HBE.out]; exact HB8.out)
              have HRn := Lib.hid (show Row vv D (3 * fn) (bX (Ms.bS m (t + 1)).1) from by rw [HBE.out]; exact HR8.out)
              clear ho hr ht8 hl hBl HB6 HR6 HO6 hg6 HB8 HR8 HBE
              go_wp2_with fail
              -- @x
              go_roundw
              case rel => exact ⟨t + 1, _, by omega, by go_num, HRn, HBn, hg8, hb8⟩
              case measure => simp [intOf]; omega
    · obtain rfl : t = 3 * fn := by omega
      go_wp2_with fail
      -- @z
      go_ret
      exact ⟨_, rfl, V, HB.out.lower (by have := HW.out; omega), g2.trans hg⟩
end Go.Proofs.YtajhhplgcegodaaDoor
namespace Go.Proofs.YtajhhplgcegodaaDoor
open Go.RowKit
theorem ms_neq3 (a b c : Int) (w : World) : (binOp .neq 47 (.agg #[.int .i64 a, .int .i64 b, .int .i64 c]) (.agg #[.int .i64 a, .int .i64 b, .int .i64 c])).run Tryd.prog w = .ok (.bool false) w := by
  have hi : Tryd.prog.underlying 3 = some (.int .i64) := Tryd.underlying3
  rw [run_neq_struct, show (10000 : Nat) = 9998 + 1 + 1 from rfl]
  conv => lhs; unfold Op.equalIn
  simp only [Sem.run_bind, run_underlying Tryd.underlying47, Result.andThen_ok]
  simp only [Std.Legacy.Range.forIn_eq_forIn_range', Std.Legacy.Range.size, Nat.sub_zero, Nat.add_one_sub_one, Nat.div_one, List.range']
  go_simp
theorem fd_eqg : Tryd.prog.eqGuardType Tryd.prog.depth 35 = false := by kernel_rfl
theorem fd_neq (a : Int) (s : ByteArray) (w : World) : (binOp .neq 35 (.agg #[.int .i64 a, .string s]) (.agg #[.int .i64 a, .string s])).run Tryd.prog w = .ok (.bool false) w := by
  have hS : Tryd.prog.underlying 35 = some (.struct (Tryd.prog.fieldsOf 35)) := by kernel_rfl
  have hp : Tryd.prog.stoodInHeld 35 = false := by kernel_rfl
  rw [run_neq_struct, show (10000 : Nat) = 9999 + 1 from rfl, run_equalIn_agg w 9999 35 _ _ hS hp]
  simp only [Program.fieldsOf, Tryd.underlying35]
  go_simp
set_option maxRecDepth 100000 in
set_option maxHeartbeats 4000000 in
theorem eq_3 (X0 : Nat → Int) (X1 : Nat → Int) (X2 : Nat → Int) (A1 A2 : Option Addr) (n c1 c2 b1 b2 : Nat) (w : World) (hn : n ≤ c1) (hn2 : n ≤ c2) (hc1 : c1 ≤ 9223372036854775807) (hc2 : c2 ≤ 9223372036854775807) (hA1 : 0 < n → A1 = some ⟨b1, 0, none⟩) (hA2 : 0 < n → A2 = some ⟨b2, 0, none⟩)
    (h1 : ∀ i, i < n → w.cell? ⟨b1, i * 3, none⟩ = some (.int .i64 (X0 i)) ∧ w.cell? ⟨b1, i * 3 + 1, none⟩ = some (.int .i64 (X1 i)) ∧ w.cell? ⟨b1, i * 3 + 2, none⟩ = some (.int .i64 (X2 i))) (h2 : ∀ i, i < n → w.cell? ⟨b2, i * 3, none⟩ = some (.int .i64 (X0 i)) ∧ w.cell? ⟨b2, i * 3 + 1, none⟩ = some (.int .i64 (X1 i)) ∧ w.cell? ⟨b2, i * 3 + 2, none⟩ = some (.int .i64 (X2 i))) : Calls Tryd.prog 23 #[.slice A1 n c1, .slice A2 n c2] w fun e w' => e = .returned (.bool true) ∧ Gr w w' := by
  have H1 := Lib.hid h1; have H2 := Lib.hid h2; have HA1 := Lib.hid hA1; have HA2 := Lib.hid hA2
  clear h1 h2 hA1 hA2
  go_enter Tryd.func23, Tryd.ntmps23
  go_wp2_with fail
  go_loopw [13] (fun s13 wr => ∃ i : Nat, i ≤ n ∧ s13 = .int .i64 (i : Int) ∧ Gr w wr) (fun s13 _ => n - (intOf s13).toNat)
  case atStart => exact ⟨0, Nat.zero_le _, rfl, Gr.refl _⟩
  case round =>
    obtain ⟨i, hi, rfl, hg⟩ := hrel
    by_cases hlt : i < n
    · obtain rfl := HA1.out (by omega); obtain rfl := HA2.out (by omega)
      have ib0 : (0 : Int) ≤ (i : Int) := by omega
      have ib1 : (i : Int) < (n : Int) := by omega
      obtain ⟨a0, a1, a2⟩ := H1.out i hlt
      obtain ⟨e0, e1, e2⟩ := H2.out i hlt
      replace a0 := Gr.at hg a0; replace e0 := Gr.at hg e0
      replace a1 := Gr.at hg a1; replace e1 := Gr.at hg e1
      replace a2 := Gr.at hg a2; replace e2 := Gr.at hg e2
      clear H1 H2 HA1 HA2
      generalize X0 i = x0 at *
      generalize X1 i = x1 at *
      generalize X2 i = x2 at *
      have eg := ms_eq3g
      have en : ∀ W, (binOp .neq 47 (.agg #[.int .i64 x0, .int .i64 x1, .int .i64 x2]) (.agg #[.int .i64 x0, .int .i64 x1, .int .i64 x2])).run Tryd.prog W = .ok (.bool false) W := fun W => ms_neq3 x0 x1 x2 W
      go_wp2_with fail
      -- @a
      go_quiet (fail)
      -- @b
      go_wp2_with fail
      go_roundw
      case rel => exact ⟨i + 1, by omega, by go_num, gr_auto⟩
      case measure => simp [intOf]; omega
    · go_wp2_with fail
      go_ret
      exact ⟨rfl, hg⟩
set_option maxRecDepth 100000 in
set_option maxHeartbeats 4000000 in
theorem eq_f (X0 : Nat → Int) (X1 : Nat → ByteArray) (A1 A2 : Option Addr) (n c1 c2 b1 b2 : Nat) (w : World) (hn : n ≤ c1) (hn2 : n ≤ c2) (hc1 : c1 ≤ 9223372036854775807) (hc2 : c2 ≤ 9223372036854775807) (hA1 : 0 < n → A1 = some ⟨b1, 0, none⟩) (hA2 : 0 < n → A2 = some ⟨b2, 0, none⟩)
    (h1 : ∀ i, i < n → w.cell? ⟨b1, i * 2, none⟩ = some (.int .i64 (X0 i)) ∧ w.cell? ⟨b1, i * 2 + 1, none⟩ = some (.string (X1 i))) (h2 : ∀ i, i < n → w.cell? ⟨b2, i * 2, none⟩ = some (.int .i64 (X0 i)) ∧ w.cell? ⟨b2, i * 2 + 1, none⟩ = some (.string (X1 i))) : Calls Tryd.prog 16 #[.slice A1 n c1, .slice A2 n c2] w fun e w' => e = .returned (.bool true) ∧ Gr w w' := by
  have H1 := Lib.hid h1; have H2 := Lib.hid h2; have HA1 := Lib.hid hA1; have HA2 := Lib.hid hA2
  clear h1 h2 hA1 hA2
  go_enter Tryd.func16, Tryd.ntmps16
  go_wp2_with fail
  go_loopw [13] (fun s13 wr => ∃ i : Nat, i ≤ n ∧ s13 = .int .i64 (i : Int) ∧ Gr w wr) (fun s13 _ => n - (intOf s13).toNat)
  case atStart => exact ⟨0, Nat.zero_le _, rfl, Gr.refl _⟩
  case round =>
    obtain ⟨i, hi, rfl, hg⟩ := hrel
    by_cases hlt : i < n
    · obtain rfl := HA1.out (by omega); obtain rfl := HA2.out (by omega)
      have ib0 : (0 : Int) ≤ (i : Int) := by omega
      have ib1 : (i : Int) < (n : Int) := by omega
      obtain ⟨a0, a1⟩ := H1.out i hlt
      obtain ⟨e0, e1⟩ := H2.out i hlt
      replace a0 := Gr.at hg a0; replace e0 := Gr.at hg e0
      replace a1 := Gr.at hg a1; replace e1 := Gr.at hg e1
      clear H1 H2 HA1 HA2
      generalize X0 i = x0 at *
      generalize X1 i = x1 at *
      have eg := fd_eqg
      have en : ∀ W, (binOp .neq 35 (.agg #[.int .i64 x0, .string x1]) (.agg #[.int .i64 x0, .string x1])).run Tryd.prog W = .ok (.bool false) W := fun W => fd_neq x0 x1 W
      go_wp2_with fail
      -- @a
      go_quiet (fail)
      -- @b
      go_wp2_with fail
      go_roundw
      case rel => exact ⟨i + 1, by omega, by go_num, gr_auto⟩
      case measure => simp [intOf]; omega
    · go_wp2_with fail
      go_ret
      exact ⟨rfl, hg⟩
set_option maxRecDepth 100000 in
set_option maxHeartbeats 4000000 in
theorem eq_i (X0 : Nat → Int) (A1 A2 : Option Addr) (n c1 c2 b1 b2 : Nat) (w : World) (hn : n ≤ c1) (hn2 : n ≤ c2) (hc1 : c1 ≤ 9223372036854775807) (hc2 : c2 ≤ 9223372036854775807) (hA1 : 0 < n → A1 = some ⟨b1, 0, none⟩) (hA2 : 0 < n → A2 = some ⟨b2, 0, none⟩)
    (h1 : ∀ i, i < n → w.cell? ⟨b1, i, none⟩ = some (.int .i64 (X0 i))) (h2 : ∀ i, i < n → w.cell? ⟨b2, i, none⟩ = some (.int .i64 (X0 i))) : Calls Tryd.prog 27 #[.slice A1 n c1, .slice A2 n c2] w fun e w' => e = .returned (.bool true) ∧ Gr w w' := by
  have H1 := Lib.hid h1; have H2 := Lib.hid h2; have HA1 := Lib.hid hA1; have HA2 := Lib.hid hA2
  clear h1 h2 hA1 hA2
  go_enter Tryd.func27, Tryd.ntmps27
  go_wp2_with fail
  go_loopw [13] (fun s13 wr => ∃ i : Nat, i ≤ n ∧ s13 = .int .i64 (i : Int) ∧ Gr w wr) (fun s13 _ => n - (intOf s13).toNat)
  case atStart => exact ⟨0, Nat.zero_le _, rfl, Gr.refl _⟩
  case round =>
    obtain ⟨i, hi, rfl, hg⟩ := hrel
    by_cases hlt : i < n
    · obtain rfl := HA1.out (by omega); obtain rfl := HA2.out (by omega)
      have ib0 : (0 : Int) ≤ (i : Int) := by omega
      have ib1 : (i : Int) < (n : Int) := by omega
      obtain a0 := H1.out i hlt
      obtain e0 := H2.out i hlt
      replace a0 := Gr.at hg a0; replace e0 := Gr.at hg e0
      clear H1 H2 HA1 HA2
      generalize X0 i = x0 at *
      go_wp2_with fail
      -- @a
      go_quiet (fail)
      -- @b
      go_wp2_with fail
      go_roundw
      case rel => exact ⟨i + 1, by omega, by go_num, gr_auto⟩
      case measure => simp [intOf]; omega
    · go_wp2_with fail
      go_ret
      exact ⟨rfl, hg⟩
end Go.Proofs.YtajhhplgcegodaaDoor
namespace Go.Proofs.YtajhhplgcegodaaDoor
open Go.RowKit
/-- n rows of ints, whose slices lie in block b. -/
def RowsAt (w : World) (b n : Nat) (N : Nat → Nat) (X : Nat → Nat → Int) : Prop := ∀ k, k < n → ∃ (P : Option Addr) (C B : Nat), w.cell? ⟨b, k, none⟩ = some (.slice P (N k) C) ∧ N k ≤ C ∧ C ≤ 9223372036854775807 ∧ (0 < N k → P = some ⟨B, 0, none⟩) ∧ ∀ i, i < N k → w.cell? ⟨B, i, none⟩ = some (.int .i64 (X k i))
theorem RowsAt.gr {w w' : World} {b n : Nat} {N : Nat → Nat} {X : Nat → Nat → Int} (h : RowsAt w b n N X) (g : Gr w w') : RowsAt w' b n N X := fun k hk => by
  obtain ⟨P, C, B, h1, h2, h3, h4, h5⟩ := h k hk
  exact ⟨P, C, B, Gr.at g h1, h2, h3, h4, fun i hi => Gr.at g (h5 i hi)⟩
theorem brd_rows {m : Ms.Mesh} {base : Nat} {w : World} {v : Value} {V : Nat → Value} {L : List (List Nat)} {x : Value} {l : List Nat} (h : Brd m base w v x V L l) : ∃ (A : Option Addr) (c b : Nat), v = .slice A L.length c ∧ (0 < L.length → A = some ⟨b, 0, none⟩) ∧ L.length ≤ c ∧ c ≤ 9223372036854775807 ∧
    RowsAt w b L.length (fun k => (L.getD k []).length) (fun k i => Ms.st m ((L.getD k []).getD i 0)) := by
  obtain ⟨A, c, b, hv, hA, hn, hc, hcel⟩ := ownsRow_at h.out
  refine ⟨A, c, b, hv, hA, hn, hc, fun k hk => ?_⟩
  have hl : L[k]? = some (L.getD k []) := by rw [List.getElem?_eq_getElem hk, List.getD, List.getElem?_eq_getElem hk]; rfl
  obtain ⟨P, C, B, hV, hP, hC, hC2, hr⟩ := ownsRow_at (h.row k _ hl)
  refine ⟨P, C, B, ?_, hC, hC2, hP, fun i hi => ?_⟩
  · rw [← hV]; exact (hcel k hk).trans (vs_get V hk)
  · have hm : ∀ (l : List Nat) (i : Nat), i < l.length → (stl m l)[i]? = some (.int .i64 (Ms.st m (l.getD i 0))) := fun l i hi => by
      unfold stl
      rw [List.getElem?_map, List.getElem?_eq_getElem hi, List.getD, List.getElem?_eq_getElem hi]; rfl
    exact (hr i hi).trans (hm _ i hi)
set_option maxRecDepth 100000 in
set_option maxHeartbeats 4000000 in
theorem eq_rows (A1 A2 : Option Addr) (n c1 c2 b1 b2 : Nat) (N : Nat → Nat) (X : Nat → Nat → Int) (w : World) (hn : n ≤ c1) (hn2 : n ≤ c2) (hc1 : c1 ≤ 9223372036854775807) (hc2 : c2 ≤ 9223372036854775807) (hA1 : 0 < n → A1 = some ⟨b1, 0, none⟩) (hA2 : 0 < n → A2 = some ⟨b2, 0, none⟩)
    (h1 : RowsAt w b1 n N X) (h2 : RowsAt w b2 n N X) : Calls Tryd.prog 25 #[.slice A1 n c1, .slice A2 n c2, .func (.func 27) #[] #[]] w fun e w' => e = .returned (.bool true) ∧ Gr w w' := by
  have H1 := Lib.hid h1; have H2 := Lib.hid h2; have HA1 := Lib.hid hA1; have HA2 := Lib.hid hA2
  clear h1 h2 hA1 hA2
  go_enter Tryd.func25, Tryd.ntmps25
  go_wp2_with fail
  go_loopw [17] (fun x wr => ∃ i : Nat, i ≤ n ∧ x = .int .i64 (i : Int) ∧ Gr w wr) (fun x _ => n - (intOf x).toNat)
  case atStart => exact ⟨0, Nat.zero_le _, rfl, Gr.refl _⟩
  case round =>
    obtain ⟨i, hi, rfl, hg⟩ := hrel
    rename World => W1
    by_cases hlt : i < n
    · obtain rfl := HA1.out (by omega); obtain rfl := HA2.out (by omega)
      have ib0 : (0 : Int) ≤ (i : Int) := by omega
      have ib1 : (i : Int) < (n : Int) := by omega
      obtain ⟨P1, C1, B1, p1, p2, p3, p4, p5⟩ := H1.out i hlt
      obtain ⟨P2, C2, B2, q1, q2, q3, q4, q5⟩ := H2.out i hlt
      have HE := Lib.hid (fun W (hW : Gr w W) => eq_i (X i) P1 P2 (N i) C1 C2 B1 B2 W p2 q2 p3 q3 p4 q4 (fun j hj => Gr.at hW (p5 j hj)) (fun j hj => Gr.at hW (q5 j hj)))
      replace p1 := Gr.at hg p1; replace q1 := Gr.at hg q1
      clear H1 H2 HA1 HA2 p4 q4 p5 q5
      generalize N i = l at *
      -- @a
      go_wp2_with fail
      -- @b
      refine (HE.out _ (by exact gr_auto)).mono ?_
      rintro e w5 ⟨rfl, hb5⟩
      clear HE
      go_wp2_with fail
      go_roundw
      case rel => exact ⟨i + 1, by omega, by go_num, hg.trans (Gr.trans (by exact gr_auto) hb5)⟩
      case measure => simp [intOf]; omega
    · go_wp2_with fail
      go_ret
      exact ⟨rfl, hg⟩
end Go.Proofs.YtajhhplgcegodaaDoor
namespace Go.Proofs.YtajhhplgcegodaaDoor
open Go.RowKit
namespace Ms
/-- The surface of the example, in two blocks. -/
def sq (b1 b2 : Nat) : Mesh := ⟨⟨some ⟨b1, 0, none⟩, 4, 4, b1, 0, fun i => match i with | 0 => ⟨0, 0, 0⟩ | 1 => ⟨1000, 0, 0⟩ | 2 => ⟨1000, 1000, 0⟩ | _ => ⟨0, 1000, 0⟩⟩, ⟨some ⟨b2, 0, none⟩, 2, 2, b2, 0, fun i => match i with | 0 => ⟨0, 1, 2, 0⟩ | _ => ⟨0, 2, 3, 0⟩⟩⟩
theorem sq_vl (b1 b2 : Nat) : vlB (sq b1 b2) = true := by kernel_rfl
theorem sq_tot (b1 b2 : Nat) : totI (sq b1 b2) 2 = 2000000 := by kernel_rfl
theorem sq_nb (b1 b2 : Nat) : nb (sq b1 b2) 0 0 = -1 ∧ nb (sq b1 b2) 0 1 = -1 ∧ nb (sq b1 b2) 0 2 = 1 ∧ nb (sq b1 b2) 1 0 = 0 ∧ nb (sq b1 b2) 1 1 = -1 ∧ nb (sq b1 b2) 1 2 = -1 := ⟨by kernel_rfl, by kernel_rfl, by kernel_rfl, by kernel_rfl, by kernel_rfl, by kernel_rfl⟩
theorem sq_bS (b1 b2 : Nat) : (bS (sq b1 b2) 6).2 = [[0, 1, 4, 5]] := by kernel_rfl
end Ms
theorem sq_stl (b1 b2 : Nat) : stl (Ms.sq b1 b2) [0, 1, 4, 5] = [.int .i64 0, .int .i64 1, .int .i64 2, .int .i64 3] := by kernel_rfl
set_option maxRecDepth 100000 in
set_option maxHeartbeats 4000000 in
theorem sq_any (w : World) : Calls Tryd.prog 50 #[] w fun e w' => ∃ b1 b2, e = .returned (Ms.sq b1 b2).val ∧ (Ms.sq b1 b2).At w' ∧ Gr w w' := by
  go_enter Tryd.func50, Tryd.ntmps50
  -- @a
  go_wp2_with fail
  -- @b
  refine bodyPost_ret (by simp [results, Tryd.results50, go_sem]; try rfl) rfl ?_
  refine ⟨w.heap.size + 1, w.heap.size + 2, rfl, ⟨⟨fun _ => rfl, by show 4 ≤ 4; omega, by show 4 ≤ 9223372036854775807; omega, fun i hi => ?_⟩, ⟨fun _ => rfl, by show 2 ≤ 2; omega, by show 2 ≤ 9223372036854775807; omega, fun i hi => ?_⟩⟩, by exact gr_auto⟩
  · have hi : i < 4 := hi
    rcases (by omega : i = 0 ∨ i = 1 ∨ i = 2 ∨ i = 3) with rfl | rfl | rfl | rfl <;> exact ⟨⟨by simp [Ms.sq, go_sem], by simp [Ms.sq, go_sem], by simp [Ms.sq, go_sem]⟩, by simp [Ms.sq, Ba.Spot.Ok, Ba.i64]⟩
  · have hi : i < 2 := hi
    rcases (by omega : i = 0 ∨ i = 1) with rfl | rfl <;> exact ⟨⟨by simp [Ms.sq, go_sem], by simp [Ms.sq, go_sem], by simp [Ms.sq, go_sem], by simp [Ms.sq, go_sem]⟩, by simp [Ms.sq, Ba.Face.Ok, Ba.i64]⟩
theorem few_any (m : Ms.Mesh) (w : World) : Calls Tryd.prog 11 #[m.val] w fun e w' => e = .returned (.bool (decide (m.S.n ≤ 60) && decide (m.F.n ≤ 60))) ∧ Gr w w' := by
  unfold Ms.Mesh.val at *
  generalize m.S.A = sA at *; generalize m.S.n = sn at *; generalize m.S.c = sc at *; generalize m.F.A = fA at *; generalize m.F.n = fn at *; generalize m.F.c = fc at *
  go_enter Tryd.func11, Tryd.ntmps11
  cases h1 : decide (sn ≤ 60)
  · have := of_decide_eq_false h1
    go_wp2_with fail
    go_ret
    exact ⟨rfl, by exact gr_auto⟩
  · have := of_decide_eq_true h1
    cases h2 : decide (fn ≤ 60)
    · have h3 := of_decide_eq_false h2
      go_wp2_with fail
      go_ret
      exact ⟨by show Ending.returned (Value.bool (decide ((fn : Int) ≤ 60))) = _; rw [decide_eq_false (by omega)]; rfl, by exact gr_auto⟩
    · have h3 := of_decide_eq_true h2
      go_wp2_with fail
      go_ret
      exact ⟨by show Ending.returned (Value.bool (decide ((fn : Int) ≤ 60))) = _; rw [decide_eq_true (by omega)]; rfl, by exact gr_auto⟩
set_option maxRecDepth 100000 in
set_option maxHeartbeats 8000000 in
theorem aw_any (w : World) : Calls Tryd.prog 10 #[] w fun e w' => e = .returned (.bool true) ∧ Gr w w' := by
  have HQ := Lib.hid (fun W => sq_any W)
  have HN := Lib.hid (fun b1 b2 W (h : (Ms.sq b1 b2).At W) => ms_neigh (Ms.sq b1 b2) W h ⟨by show 4 ≤ 61; omega, by show 2 ≤ 61; omega⟩ (Ms.sq_vl b1 b2))
  have HT := Lib.hid (fun b1 b2 W (h : (Ms.sq b1 b2).At W) => show Calls Tryd.prog 34 #[(Ms.sq b1 b2).val] W fun e w' => e = .returned (.tuple #[.int .i64 2000000, .int .i64 0]) ∧ Gr W w' from by
    have z := ms_total (Ms.sq b1 b2) W h ⟨by show 4 ≤ 61; omega, by show 2 ≤ 61; omega⟩ (Ms.sq_vl b1 b2)
    rw [show Ms.totI (Ms.sq b1 b2) (Ms.sq b1 b2).F.n = 2000000 from Ms.sq_tot b1 b2] at z
    exact z)
  have HB := Lib.hid (fun b1 b2 W (h : (Ms.sq b1 b2).At W) => ms_border (Ms.sq b1 b2) W h ⟨by show 4 ≤ 61; omega, by show 2 ≤ 61; omega⟩ (Ms.sq_vl b1 b2))
  unfold RetNear at HN
  unfold RetBo at HB
  go_enter Tryd.func10, Tryd.ntmps10
  go_wp2_with fail
  -- @a
  refine (HQ.out _).mono ?_
  rintro e w1 ⟨p1, p2, rfl, hA1, g1⟩
  go_wp2_with fail
  -- @b
  refine (HN.out p1 p2 _ hA1).mono ?_
  rintro e w2 ⟨v, rfl, G, rfl, -, hcn, g2⟩
  have HC := Lib.hid (show ∀ t, t < 6 → w2.cell? ⟨G, t, none⟩ = some (.int .i64 (Ms.nb (Ms.sq p1 p2) (t / 3) (t % 3))) from hcn)
  obtain ⟨n0, n1, n2, n3, n4, n5⟩ := Ms.sq_nb p1 p2
  have c0 := HC.out 0 (by omega); have c1 := HC.out 1 (by omega); have c2 := HC.out 2 (by omega); have c3 := HC.out 3 (by omega); have c4 := HC.out 4 (by omega); have c5 := HC.out 5 (by omega)
  rw [show Ms.nb (Ms.sq p1 p2) (0 / 3) (0 % 3) = -1 from n0] at c0
  rw [show Ms.nb (Ms.sq p1 p2) (1 / 3) (1 % 3) = -1 from n1] at c1
  rw [show Ms.nb (Ms.sq p1 p2) (2 / 3) (2 % 3) = 1 from n2] at c2
  rw [show Ms.nb (Ms.sq p1 p2) (3 / 3) (3 % 3) = 0 from n3] at c3
  rw [show Ms.nb (Ms.sq p1 p2) (4 / 3) (4 % 3) = -1 from n4] at c4
  rw [show Ms.nb (Ms.sq p1 p2) (5 / 3) (5 % 3) = -1 from n5] at c5
  rw [show (Ms.sq p1 p2).F.n = 2 from rfl]
  clear hcn HC n0 n1 n2 n3 n4 n5 HN hA1
  go_wp2_with fail
  -- @c
  refine (HQ.out _).mono ?_
  rintro e w3 ⟨p3, p4, rfl, hA3, g3⟩
  go_wp2_with fail
  refine (HT.out p3 p4 _ hA3).mono ?_
  rintro e w4 ⟨rfl, g4⟩
  clear HT hA3
  go_wp2_with fail
  -- @d
  refine (HQ.out _).mono ?_
  rintro e w5 ⟨p5, p6, rfl, hA5, g5⟩
  go_wp2_with fail
  refine (HB.out p5 p6 _ hA5).mono ?_
  rintro e w6 ⟨v, rfl, V, hbr, g6⟩
  rw [show (3 * (Ms.sq p5 p6).F.n) = 6 from rfl, Ms.sq_bS] at hbr
  have hout := hbr.out
  have hrow := hbr.row 0 [0, 1, 4, 5] rfl
  rw [sq_stl] at hrow
  clear hbr HB hA5 HQ
  have g26 : Gr w2 w6 := g3.trans (g4.trans (g5.trans g6))
  have g06 : Gr w w6 := g1.trans (g2.trans g26)
  replace c0 := Gr.at g26 c0; replace c1 := Gr.at g26 c1; replace c2 := Gr.at g26 c2; replace c3 := Gr.at g26 c3; replace c4 := Gr.at g26 c4; replace c5 := Gr.at g26 c5
  obtain ⟨A, c, b, rfl, hA, hnc, hcb, hcel⟩ := ownsRow_at hout
  obtain ⟨A1, c1', b1, hV1, hA1, hnc1, hcb1, hcel1⟩ := ownsRow_at hrow
  have q0 := hcel 0 (by simp)
  rw [show (vs V [[0, 1, 4, 5]].length)[0]? = some (V 0) from rfl, hV1] at q0
  obtain rfl := hA (by simp)
  have r0 := hcel1 0 (by simp); have r1 := hcel1 1 (by simp); have r2 := hcel1 2 (by simp); have r3 := hcel1 3 (by simp)
  obtain rfl := hA1 (by simp)
  simp only [List.length_cons, List.length_nil, Nat.zero_add, Nat.reduceAdd] at *
  simp at r0 r1 r2 r3
  clear hcel hcel1 hA hA1 hV1 hout hrow g1 g2 g3 g4 g5 g6 g26
  -- @e
  have E3 := Lib.hid (fun (B : Nat) W (hg : Gr w6 W) (e0 : W.cell? ⟨B, 0, none⟩ = some (.int .i64 (-1))) (e1 : W.cell? ⟨B, 1, none⟩ = some (.int .i64 (-1))) (e2 : W.cell? ⟨B, 2, none⟩ = some (.int .i64 1)) (e3 : W.cell? ⟨B, 3, none⟩ = some (.int .i64 0)) (e4 : W.cell? ⟨B, 4, none⟩ = some (.int .i64 (-1))) (e5 : W.cell? ⟨B, 5, none⟩ = some (.int .i64 (-1))) =>
    eq_3 (fun i => if i = 0 then -1 else 0) (fun i => -1) (fun i => if i = 0 then 1 else -1) (some ⟨G, 0, none⟩) (some ⟨B, 0, none⟩) 2 2 2 G B W (by omega) (by omega) (by omega) (by omega) (fun _ => rfl) (fun _ => rfl)
      (fun i hi => by rcases (by omega : i = 0 ∨ i = 1) with rfl | rfl <;> exact ⟨Gr.at hg (by assumption), Gr.at hg (by assumption), Gr.at hg (by assumption)⟩)
      (fun i hi => by rcases (by omega : i = 0 ∨ i = 1) with rfl | rfl <;> exact ⟨by assumption, by assumption, by assumption⟩))
  have EI := Lib.hid (fun (B : Nat) W (hg : Gr w6 W) (e0 : W.cell? ⟨B, 0, none⟩ = some (.int .i64 0)) (e1 : W.cell? ⟨B, 1, none⟩ = some (.int .i64 1)) (e2 : W.cell? ⟨B, 2, none⟩ = some (.int .i64 2)) (e3 : W.cell? ⟨B, 3, none⟩ = some (.int .i64 3)) =>
    eq_i (fun i => (i : Int)) (some ⟨b1, 0, none⟩) (some ⟨B, 0, none⟩) 4 c1' 4 b1 B W hnc1 (by omega) hcb1 (by omega) (fun _ => rfl) (fun _ => rfl)
      (fun i hi => by rcases (by omega : i = 0 ∨ i = 1 ∨ i = 2 ∨ i = 3) with rfl | rfl | rfl | rfl <;> exact Gr.at hg (by assumption))
      (fun i hi => by rcases (by omega : i = 0 ∨ i = 1 ∨ i = 2 ∨ i = 3) with rfl | rfl | rfl | rfl <;> assumption))
  clear c0 c1 c2 c3 c4 c5 r0 r1 r2 r3
  -- @f
  go_wp2_with fail
  -- @g
  refine (E3.out w6.heap.size _ (by exact gr_auto) (by simp [go_sem]) (by simp [go_sem]) (by simp [go_sem]) (by simp [go_sem]) (by simp [go_sem]) (by simp [go_sem])).mono ?_
  rintro e w7 ⟨rfl, g7⟩
  have g67 : Gr w6 w7 := Gr.trans (by exact gr_auto) g7
  replace q0 := Gr.at g67 q0
  clear E3 g7
  go_wp2_with fail
  -- @h
  refine (EI.out w7.heap.size _ (by exact gr_auto) (by simp [go_sem]) (by simp [go_sem]) (by simp [go_sem]) (by simp [go_sem])).mono ?_
  rintro e w8 ⟨rfl, g8⟩
  have g68 : Gr w6 w8 := g67.trans (Gr.trans (by exact gr_auto) g8)
  go_wp2_with fail
  -- @i
  go_ret
  exact ⟨rfl, g06.trans g68⟩
end Go.Proofs.YtajhhplgcegodaaDoor
