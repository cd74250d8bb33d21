/-
  Surfaces: mesh.Border.
-/
import Derived.Test.YtajhhplgcegodaaDoorMsNb
set_option linter.unusedVariables false
set_option linter.unusedSimpArgs false
namespace Go.Proofs.YtajhhplgcegodaaDoor
open Go.RowKit
theorem info_b3 : (Tryd.prog.info? 123).map (fun i => (i.zero, i.size, i.bytes)) = some (some (.agg #[.bool false, .bool false, .bool false]), 3, 3) := by kernel_rfl
theorem info_sli : (Tryd.prog.info? 44).map (fun i => (i.zero, i.size, i.bytes)) = some (some (.slice none 0 0), 1, 24) := by kernel_rfl
theorem ix2_0 (a b : Int) (w : World) : (Instr.index 48 (.agg #[.int .i64 a, .int .i64 b]) (.int .i64 0)).run Tryd.prog w = .ok (.int .i64 a) w := by kernel_rfl
/-- Which sides are done, as cells. -/
def bX (d : Nat → Bool) (t : Nat) : Value := .bool (d t)
/-- The length of a slice. -/
def slL : Value → Nat | .slice _ n _ => n | _ => 0
namespace Ms
theorem nx_div (t : Nat) : nx t / 3 = t / 3 := by unfold nx; omega
theorem nx_mod (t : Nat) : nx t % 3 = (t % 3 + 1) % 3 := by unfold nx; omega
theorem op_dm (m : Mesh) (y : Nat) : op m y = acO m (y / 3) (y % 3) := rfl
theorem rt_some {m : Mesh} {y u : Nat} (h : op m y = some u) : rt (op m) nx y = some (nx u) := by unfold rt; rw [h]; rfl
theorem rt_none {m : Mesh} {y : Nat} (h : op m y = none) : rt (op m) nx y = none := by unfold rt; rw [h]; rfl
/-- What opposite answers at a side's neighbour. -/
theorem opI_eq {m : Mesh} (hv : vlB m = true) {y u : Nat} (h : op m y = some u) : opI (m.F.D (u / 3)) (st m y) (en m y) = ((u % 3 : Nat) : Int) := by
  obtain ⟨p, q, r⟩ := sdO_some h
  have hb : opB (m.F.D (u / 3)) (st m y) (en m y) (u % 3) = true := by
    unfold opB
    rw [show cor (m.F.D (u / 3)) (u % 3) = en m y from q, show cor (m.F.D (u / 3)) (u % 3 + 1) = st m y from r, beq_self_eq_true, beq_self_eq_true]; rfl
  have hn : Ba.fst (opB (m.F.D (u / 3)) (st m y) (en m y)) (u % 3) = none := by
    cases e : Ba.fst (opB (m.F.D (u / 3)) (st m y) (en m y)) (u % 3) with
    | none => rfl
    | some j =>
      obtain ⟨a, b, -⟩ := Ba.fst_some e
      unfold opB at b
      rw [Bool.and_eq_true, beq_iff_eq, beq_iff_eq] at b
      have := cor_ne (vl_fc hv (i := u / 3) (by omega)) (show j < 3 by omega) (show u % 3 < 3 by omega) (b.1.trans (show en m y = cor (m.F.D (u / 3)) (u % 3) from q.symm))
      omega
  exact Ba.fstI_hit hn hb (by omega)
theorem nb_some {m : Mesh} {y u : Nat} (h : op m y = some u) : nb m (y / 3) (y % 3) = ((u / 3 : Nat) : Int) := by unfold nb; rw [← op_dm, h]
theorem nb_none {m : Mesh} {y : Nat} (h : op m y = none) : nb m (y / 3) (y % 3) = -1 := by unfold nb; rw [← op_dm, h]
theorem op_lt {m : Mesh} {y u : Nat} (h : op m y = some u) : u < 3 * m.F.n := (sdO_some h).1
/-- The next border side. -/
def ph (m : Mesh) (t : Nat) : Nat := phi (op m) nx (3 * m.F.n) t
theorem bS_skip {m : Mesh} {t : Nat} (h : ((op m t).isNone && !(bS m t).1 t) = false) : bS m (t + 1) = bS m t := brS_skip h
theorem bS_go {m : Mesh} (hv : vlB m = true) {t : Nat} (ht : t < 3 * m.F.n) (ho : op m t = none) (hd : (bS m t).1 t = false) :
    ∃ p, 0 < p ∧ p ≤ 3 * m.F.n ∧ (∀ j, j < p → mkL (bS m t).1 (rng (ph m) t j) (itr (ph m) t j) = false) ∧ mkL (bS m t).1 (rng (ph m) t p) (itr (ph m) t p) = true ∧
      bS m (t + 1) = (mkL (bS m t).1 (rng (ph m) t p), (bS m t).2 ++ [rng (ph m) t p]) ∧ (∀ j, itr (ph m) t j < 3 * m.F.n ∧ op m (itr (ph m) t j) = none) := by
  obtain ⟨p, a, b, c, d, e, f⟩ := brS_go (i := t) (hed hv).per ht (by show (op m t).isNone = true; rw [ho]; rfl) hd
  exact ⟨p, a, b, c, d, e, fun j => ⟨(f j).1, Option.isNone_iff_eq_none.1 (f j).2⟩⟩
theorem bS_len {m : Mesh} : ∀ i, (bS m i).2.length ≤ i
  | 0 => Nat.le_refl _
  | i + 1 => by
    have ih := bS_len (m := m) i
    show (brS _ _ _ (i + 1)).2.length ≤ i + 1
    rw [brS_succ]
    split
    · rw [List.length_append]; exact Nat.add_le_add_right ih 1
    · exact Nat.le_succ_of_le ih
end Ms
def RetBo (m : Ms.Mesh) (w w' : World) (v : Value) : Prop := ∃ V, Brd m w.heap.size w' v (.slice none 0 0) V (Ms.bS m (3 * m.F.n)).2 [] ∧ Gr w w'
set_option maxRecDepth 100000 in
set_option maxHeartbeats 4000000 in
theorem ms_border_no (m : Ms.Mesh) (w : World) (h : m.At w) (hs : Ms.smB m = false ∨ (m.S.n ≤ 61 ∧ m.F.n ≤ 61)) (hv : Ms.vlB m = false) : Calls Tryd.prog 18 #[m.val] w fun e w' => e = .returned (.tuple #[.slice none 0 0, .int .i64 1]) ∧ Gr w w' := by
  have HV := Lib.hid (fun W (hW : Gr w W) => ms_valid m W ⟨h.s.gr hW, h.f.gr hW⟩ hs)
  rw [hv] at HV
  clear h hs hv
  unfold Ms.Mesh.val at *
  generalize m.S.A = sA at *; generalize m.S.n = sn at *; generalize m.S.c = sc at *; generalize m.F.A = fA at *; generalize m.F.n = fn at *; generalize m.F.c = fc at *
  go_enter Tryd.func18, Tryd.ntmps18
  go_wp2_with fail
  refine (HV.out _ (by exact gr_auto)).mono ?_
  rintro e w1 ⟨rfl, hb1⟩
  clear HV
  have g1 : Gr w w1 := Gr.trans (by exact gr_auto) hb1
  go_wp2_with fail
  go_ret2
  exact ⟨rfl, g1⟩
set_option maxRecDepth 100000 in
set_option maxHeartbeats 8000000 in
theorem ms_border (m : Ms.Mesh) (w : World) (h : m.At w) (hs : m.S.n ≤ 61 ∧ m.F.n ≤ 61) (hv : Ms.vlB m = true) : Calls Tryd.prog 18 #[m.val] w fun e w' => ∃ v, e = .returned (.tuple #[v, .int .i64 0]) ∧ RetBo m w w' v := by
  have HV := Lib.hid (fun W (hW : Gr w W) => ms_valid m W ⟨h.s.gr hW, h.f.gr hW⟩ (Or.inr hs))
  rw [hv] at HV
  have HNR := Lib.hid (fun W (hW : Gr w W) => ms_near m W (h.f.gr hW) hv hs.2)
  have HFP := Lib.hid (fun i (hi : i < m.F.n) => h.f.hD i hi)
  have HFA := Lib.hid h.f.hA
  have hfc := h.f.hc; have hfb := h.f.hb
  have hn := hs.2
  have HSD := Lib.hid (fun i k (hk : k < 3) W => ms_side (m.F.D i) k hk W)
  have HOP := Lib.hid (fun i a b W => ms_opp (m.F.D i) a b W)
  have HOI := Lib.hid (fun y u h => Ms.opI_eq hv (y := y) (u := u) h)
  have HGO := Lib.hid (fun t ht ho hd => Ms.bS_go hv (t := t) ht ho hd)
  have HEN := Lib.hid (fun t ht ho => Ms.bd_ends hv (t := t) ht ho)
  have HSK := Lib.hid (fun t h => Ms.bS_skip (m := m) (t := t) h)
  have HLE := Lib.hid (fun t => Ms.bS_len (m := m) t)
  have HLT := Lib.hid (fun y u h => Ms.op_lt (m := m) (y := y) (u := u) h)
  have hPH : Ms.ph m = fun t => Ms.last (Ms.rt (Ms.op m) Ms.nx) (3 * m.F.n) (Ms.nx t) := rfl
  obtain ⟨ib, hi0, hz0, hz1, hz2⟩ := info_parts info_b3
  have KB := Lib.hid hi0; have KB0 := Lib.hid hz0; have KB1 := Lib.hid hz1; have KB2 := Lib.hid hz2
  clear hi0 hz0 hz1 hz2
  obtain ⟨ii, hi0, hz0, hz1, hz2⟩ := info_parts info_int
  have KI := Lib.hid hi0; have KI0 := Lib.hid hz0; have KI1 := Lib.hid hz1; have KI2 := Lib.hid hz2
  clear hi0 hz0 hz1 hz2
  obtain ⟨is, hi0, hz0, hz1, hz2⟩ := info_parts info_sli
  have KS := Lib.hid hi0; have KS0 := Lib.hid hz0; have KS1 := Lib.hid hz1; have KS2 := Lib.hid hz2
  clear hi0 hz0 hz1 hz2 h hs hv
  unfold RetNear at HNR
  unfold RetBo
  unfold Ms.Mesh.val at *
  generalize m.S.A = sA at *; generalize m.S.n = sn at *; generalize m.S.c = sc at *
  obtain ⟨fA, hfA⟩ : ∃ A, m.F.A = A := ⟨_, rfl⟩; obtain ⟨fn, hfn⟩ : ∃ n, m.F.n = n := ⟨_, rfl⟩; obtain ⟨fc', hfc'⟩ : ∃ c, m.F.c = c := ⟨_, rfl⟩
  rw [hfA, hfn, hfc'] at HV HNR ⊢
  rw [hfA, hfn] at HFA
  rw [hfn] at HFP hfc hn HGO HEN HLT hPH
  rw [hfc'] at hfc hfb
  clear hfA hfn hfc'
  have HPH := Lib.hid hPH
  clear hPH
  go_enter Tryd.func18, Tryd.ntmps18
  go_wp2_with fail
  refine (HV.out _ (by exact gr_auto)).mono ?_
  rintro e w1 ⟨rfl, hb1⟩
  clear HV
  have g1 : Gr w w1 := Gr.trans (by exact gr_auto) hb1
  have d0 := Gr.at hb1 (b := w.heap.size) (o := 0) (v := .slice sA sn sc) (by simp [go_sem])
  have d1 := Gr.at hb1 (b := w.heap.size) (o := 1) (v := .slice fA fn fc') (by simp [go_sem])
  clear hb1
  go_wp2_with fail
  refine (HNR.out _ g1).mono ?_
  rintro e w2 ⟨v, rfl, GN, rfl, hGN, hcn, hb2⟩
  clear HNR
  have HC := Lib.hid hcn
  replace d1 := Gr.at hb2 d1; replace d0 := Gr.at hb2 d0
  have g2 := g1.trans hb2
  have z2 := Gr.size g2
  clear hcn hb2 g1
  -- @a
  go_wp2_with (at_make; refine wpList_make_full _ rfl _ _ _ rfl w.heap.size 123 ib (.agg #[.bool false, .bool false, .bool false]) 3 Tryd.underlying122 KB.out KB0.out KB1.out .i64 .i64 fn fn fn rfl rfl rfl rfl ?d1 ?d2 ?d3 ?_)
  case d1 => rw [KB2.out]; omega
  case d2 => unfold maxLen; omega
  case d3 => exact z2
  intro w3 hown hgrow
  -- @b
  have hg23 : Gr w2 w3 := grown_gr hgrow
  have hDb : w2.heap.size < w3.heap.size := (hown.lt _ rfl).2
  have HR0 := Lib.hid (made_row3 hown)
  obtain ⟨D, hD⟩ : ∃ B, w2.heap.size = B := ⟨_, rfl⟩
  rw [hD] at HR0 hDb z2 ⊢
  have HB0 := Lib.hid (Brd.nil m w3.heap.size w3)
  obtain ⟨base, hbase⟩ : ∃ B, w3.heap.size = B := ⟨_, rfl⟩
  rw [hbase] at HB0 hDb
  have hbs : base ≤ w3.heap.size := by omega
  have HW := Lib.hid (show w.heap.size < D from by have := World.block_lt_of_cell? _ _ d1; simp only at this; omega)
  have d3 := Gr.at hg23 d1
  clear hown hgrow KB KB0 KB1 KB2 z2 hbase
  go_wp2_with fail
  clear d3
  -- @c
  go_loopw [6, 25] (fun v x wr => ∃ (i : Nat) (V : Nat → Value), i ≤ fn ∧ x = .int .i64 (i : Int) ∧ Hid (Row wr D (3 * fn) (bX (Ms.bS m (3 * i)).1)) ∧ Hid (Brd m base wr v (.slice none 0 0) V (Ms.bS m (3 * i)).2 []) ∧ Gr w2 wr ∧ base ≤ wr.heap.size) (fun _ x _ => fn - (intOf x).toNat)
  case atStart => exact ⟨0, _, Nat.zero_le _, rfl, HR0, HB0, hg23, hbs⟩
  case round =>
    clear HR0 HB0 hg23 hbs
    obtain ⟨i, V, hi, rfl, HR, HB, hg, hbs⟩ := hrel
    rename World => W1
    have e1 := Gr.at hg d1
    by_cases hlt : i < fn
    · clear e1
      have ib0 : (0 : Int) ≤ (i : Int) := by omega
      have ib1 : (i : Int) < (fn : Int) := by omega
      -- @d
      go_wp2_with fail
      -- @e
      go_loopw [6, 28] (fun v x wr => ∃ (k : Nat) (V : Nat → Value), k ≤ 3 ∧ x = .int .i64 (k : Int) ∧ Hid (Row wr D (3 * fn) (bX (Ms.bS m (3 * i + k)).1)) ∧ Hid (Brd m base wr v (.slice none 0 0) V (Ms.bS m (3 * i + k)).2 []) ∧ Gr w2 wr ∧ base ≤ wr.heap.size) (fun _ x _ => 3 - (intOf x).toNat)
      case atStart => exact ⟨0, V, by omega, rfl, HR, HB, hg, hbs⟩
      case round =>
        clear HR HB hg hbs V
        obtain ⟨k, V, hk, rfl, HR, HB, hg, hbs⟩ := hrel
        rename World => W2
        by_cases hlk : k < 3
        · have kb0 : (0 : Int) ≤ (k : Int) := by omega
          have kb1 : (k : Int) < 3 := by omega
          obtain ⟨t, ht⟩ : ∃ t, 3 * i + k = t := ⟨_, rfl⟩
          have ht3 : i * 3 + k = t := by omega
          have ht1 : t < 3 * fn := by omega
          have htd : t / 3 = i := by omega
          have htm : t % 3 = k := by omega
          have cn : W2.cell? ⟨GN, i * 3 + k, none⟩ = some (.int .i64 (Ms.nb m (t / 3) (t % 3))) := by rw [ht3]; exact Gr.at hg (HC.out t ht1)
          have cd : W2.cell? ⟨D, i * 3 + k, none⟩ = some (.bool ((Ms.bS m t).1 t)) := by
            have e := (HR.out t ht1).1
            rw [ht] at e
            rw [ht3]; exact e
          rw [htd, htm] at cn
          have hSK := Lib.hid (HSK.out t)
          have hop : Ms.op m t = Ms.acO m i k := by rw [Ms.op_dm, htd, htm]
          rw [ht] at HR HB
          -- @f
          cases hq : Ms.op m t with
          | some u =>
            have hnb := Ms.nb_some hq
            rw [htd, htm] at hnb
            rw [hnb] at cn
            have hb := hSK.out (by rw [hq]; rfl)
            have HRn := Lib.hid (show Row W2 D (3 * fn) (bX (Ms.bS m (3 * i + (k + 1))).1) from by rw [show 3 * i + (k + 1) = t + 1 by omega, hb]; exact HR.out)
            have HBn := Lib.hid (show Brd m base W2 _ (.slice none 0 0) V (Ms.bS m (3 * i + (k + 1))).2 [] from by rw [show 3 * i + (k + 1) = t + 1 by omega, hb]; exact HB.out)
            have hne : ¬ ((u / 3 : Nat) : Int) = -1 := by omega
            generalize ((u / 3 : Nat) : Int) = uv at *
            clear hSK hop hq hnb hb HR HB htd htm ht ht3 ht1 HGO HEN HSK HLE HLT HPH HC HSD HOP HOI HFP HFA
            go_wp2_with fail
            -- @g
            go_roundw
            case rel => exact ⟨k + 1, V, by omega, by go_num, HRn, HBn, hg, hbs⟩
            case measure => simp [intOf]; omega
          | none =>
            have hnb := Ms.nb_none hq
            rw [htd, htm] at hnb
            rw [hnb] at cn
            cases hd : (Ms.bS m t).1 t with
            | true =>
              rw [hd] at cd
              have hb := hSK.out (by rw [hd]; simp)
              have HRn := Lib.hid (show Row W2 D (3 * fn) (bX (Ms.bS m (3 * i + (k + 1))).1) from by rw [show 3 * i + (k + 1) = t + 1 by omega, hb]; exact HR.out)
              have HBn := Lib.hid (show Brd m base W2 _ (.slice none 0 0) V (Ms.bS m (3 * i + (k + 1))).2 [] from by rw [show 3 * i + (k + 1) = t + 1 by omega, hb]; exact HB.out)
              clear hSK hop hq hnb hb HR HB htd htm ht ht3 ht1 hd HGO HEN HSK HLE HLT HPH HC HSD HOP HOI HFP HFA
              go_wp2_with fail
              -- @h
              go_roundw
              case rel => exact ⟨k + 1, V, by omega, by go_num, HRn, HBn, hg, hbs⟩
              case measure => simp [intOf]; omega
            | false =>
              rw [hd] at cd
              obtain ⟨p, p0, pN, hpf, hpt, hb1, hpi⟩ := HGO.out t ht1 hq hd
              have HPF := Lib.hid hpf; have HPT := Lib.hid hpt; have HB1 := Lib.hid hb1; have HPI := Lib.hid hpi
              have hLt := HLE.out t
              have HT3 := Lib.hid (show 3 * i + k = t ∧ t / 3 = i ∧ t % 3 = k from ⟨ht, htd, htm⟩)
              clear hpf hpt hb1 hpi hSK hop hq hnb hd HGO HSK HLE ht ht3 htd htm
              -- @i
              go_wp2_with fail
              clear cn cd
              -- @j
              obtain ⟨d, hdd⟩ : ∃ d, (Ms.bS m t).1 = d := ⟨_, rfl⟩
              obtain ⟨L, hLL⟩ : ∃ L, (Ms.bS m t).2 = L := ⟨_, rfl⟩
              rw [hdd] at HR HPF HPT HB1
              rw [hLL] at HB HB1 hLt
              clear hdd hLL
              go_loopw [9, 10, 11] (fun b f s wr => ∃ (j : Nat) (A : Option Addr) (c : Nat), j ≤ p ∧ b = .slice A j c ∧ f = .int .i64 ((Ms.itr (Ms.ph m) t j / 3 : Nat) : Int) ∧ s = .int .i64 ((Ms.itr (Ms.ph m) t j % 3 : Nat) : Int) ∧ Hid (Row wr D (3 * fn) (bX (Ms.mkL d (Ms.rng (Ms.ph m) t j)))) ∧ Hid (Brd m base wr u6 (.slice A j c) V L (Ms.rng (Ms.ph m) t j)) ∧ Gr w2 wr ∧ base ≤ wr.heap.size) (fun b _ _ _ => p - slL b)
              case atStart =>
                exact ⟨0, none, 0, by omega, rfl, by show _ = Value.int .i64 ((t / 3 : Nat) : Int); rw [HT3.out.2.1], by show _ = Value.int .i64 ((t % 3 : Nat) : Int); rw [HT3.out.2.2], HR, HB, hg, hbs⟩
              case round =>
                clear HR HB hg hbs
                obtain ⟨j, A, c, hj, rfl, rfl, rfl, HR, HB, hg, hbs⟩ := hrel
                rename World => W3
                obtain ⟨hx1, hx2⟩ := HPI.out j
                have HXS := Lib.hid (show Ms.itr (Ms.ph m) t (j + 1) = Ms.ph m (Ms.itr (Ms.ph m) t j) from rfl)
                have HRG := Lib.hid (Ms.rng_snoc (Ms.ph m) j t)
                have HRL := Lib.hid (Ms.rng_len (Ms.ph m) j t)
                have HMK := Lib.hid (fun q => Ms.mkL_rng (Ms.ph m) d t j q)
                have HPFj := Lib.hid (HPF.out j)
                obtain ⟨x, hx⟩ : ∃ x, Ms.itr (Ms.ph m) t j = x := ⟨_, rfl⟩
                have HPTj := Lib.hid (fun (h : j = p) => show Ms.mkL d (Ms.rng (Ms.ph m) t j) x = true from by rw [← hx, h]; exact HPT.out)
                rw [hx] at hx1 hx2 HXS HRG HPFj
                simp only [hx] at HMK
                rw [hx]
                clear hx
                have HX := Lib.hid (And.intro hx1 hx2)
                obtain ⟨xf, hxf⟩ : ∃ q, x / 3 = q := ⟨_, rfl⟩
                obtain ⟨xs, hxs⟩ : ∃ q, x % 3 = q := ⟨_, rfl⟩
                have hxa : xf * 3 + xs = x := by omega
                have hxl : xf < fn := by omega
                have hs3 : xs < 3 := by omega
                rw [hxf, hxs]
                have ib0x : (0 : Int) ≤ (xf : Int) := by omega
                have ib1x : (xf : Int) < (fn : Int) := by omega
                have kb0x : (0 : Int) ≤ (xs : Int) := by omega
                have kb1x : (xs : Int) < 3 := by omega
                have og : Own W3 D (xf * 3 + xs) (.bool (Ms.mkL d (Ms.rng (Ms.ph m) t j) x)) := by rw [hxa]; exact HR.out x hx1
                have HXA := Lib.hid (show xf * 3 + xs = x ∧ x / 3 = xf ∧ x % 3 = xs from ⟨hxa, hxf, hxs⟩)
                clear hxf hxs hxa hx1 hx2
                by_cases hlj : j < p
                · rw [HPFj.out hlj] at og
                  have e3 := Gr.at hg d1
                  obtain ⟨⟨a0, a1, a2, a3⟩, fo⟩ := HFP.out xf hxl
                  obtain rfl := HFA.out (by omega)
                  obtain ⟨W4, hW4⟩ : ∃ W, W3.setCell ⟨D, xf * 3 + xs, none⟩ (.bool true) = W := ⟨_, rfl⟩
                  have gx4 : GrX D W3 W4 := hW4 ▸ GrX.setCell (GrX.refl D W3) rfl _
                  have hg4 : Gr w2 W4 := GrX.gr hg (by omega) gx4
                  have HR4 := Lib.hid (show Row W4 D (3 * fn) (bX (Ms.mkL d (Ms.rng (Ms.ph m) t (j + 1)))) from hW4 ▸ Row.set (k := xf * 3 + xs) (u := .bool true) HR.out (by unfold bX; rw [HMK.out, HXA.out.1, decide_eq_true rfl, Bool.or_true]) (fun q _ hq => by unfold bX; rw [HMK.out, decide_eq_false (by rw [HXA.out.1] at hq; exact hq), Bool.or_false]))
                  have HB4 := Lib.hid (HB.out.grx gx4 hDb)
                  have e4 := Gr.at hg4 d1
                  have gw4 := g2.trans hg4
                  replace a0 := Gr.at gw4 a0; replace a1 := Gr.at gw4 a1; replace a2 := Gr.at gw4 a2; replace a3 := Gr.at gw4 a3
                  have hb4 : base ≤ W4.heap.size := Nat.le_trans hbs gx4.size
                  have HS1 := Lib.hid (HSD.out xf xs hs3)
                  have HST := Lib.hid (show Ms.st m x = Ms.cor (m.F.D xf) xs from by unfold Ms.st; rw [HXA.out.2.1, HXA.out.2.2])
                  have x3 := og.1; have y3 := og.2
                  clear og HR HB gx4 hbs gw4 fo
                  have hix : ∀ a b w, (Instr.index 48 (.agg #[.int .i64 a, .int .i64 b]) (.int .i64 0)).run Tryd.prog w = .ok (.int .i64 a) w := ix2_0
                  generalize Ms.cor (m.F.D xf) xs = sv at *
                  generalize Ms.cor (m.F.D xf) (xs + 1) = sv2 at *
                  obtain ⟨f, hf⟩ : ∃ f, m.F.D xf = f := ⟨_, rfl⟩
                  simp only [hf] at a0 a1 a2 a3 HS1
                  unfold Ba.Face.val at HS1
                  clear hf
                  -- @k
                  go_upto_region 17 with fail
                  -- @k1
                  clear x3 y3 hW4 e3 hg
                  go_wp2_with fail
                  -- @l
                  refine (HS1.out _).mono ?_
                  rintro e w5 ⟨rfl, hb5⟩
                  clear HS1
                  have g45 : Gr W4 (w5.alloc (Obj.cells #[.int .i64 sv] 3)) := hb5.trans (Gr.alloc (Gr.refl w5) _)
                  have HB6 := Lib.hid (HB4.out.gr g45)
                  have HR6 := Lib.hid (HR4.out.gr g45)
                  have HO6 := Lib.hid (show (w5.alloc (Obj.cells #[.int .i64 sv] 3)).ownsRow base 3 1 (.slice A j c) j (stl m (Ms.rng (Ms.ph m) t j)) from by have e := HB6.out.cur; rw [HRL.out] at e; exact e)
                  have hg6 := hg4.trans g45
                  have hb6 : base ≤ w5.heap.size := Nat.le_trans hb4 (Gr.size hb5)
                  clear HB4 HR4 e4 a0 a1 a2 a3 hg4 hb4 hb5 g45
                  -- @m
                  go_wp2_with (at_builtin; refine wpList_append_lies _ rfl _ _ 44 rfl base 3 ii (.int .i64 0) 1 8 Tryd.underlying44 KI.out KI0.out KI1.out KI2.out rfl (by decide) (.slice A j c) j (stl m (Ms.rng (Ms.ph m) t j)) rfl HO6.out ⟨w5.heap.size, 0, none⟩ 1 1 [.int .i64 sv] rfl rfl (by intro p u hp; rcases p with _ | p <;> simp at hp <;> (try subst hp) <;> first | (simp [Addr.add, go_sem]; done) | (simp [Addr.add]; done)) (by intro u hu; simp at hu; subst hu; rfl) (by decide) (by unfold maxLen; omega) (by omega) (by simp; omega) _ rfl ?_)
                  intro gg pp vv ho hr ht8 hl
                  -- @n
                  have hBl := own_below HO6.out hr (by simp; omega)
                  have HB8 := Lib.hid (show Brd m base vv u6 (.slice (some ⟨gg, 0, none⟩) (j + 1) pp) V L (Ms.rng (Ms.ph m) t (j + 1)) from by rw [HRG.out]; exact HB6.out.push (t := x) (by rw [HST.out]; exact ho) (by rw [List.length_append, HRL.out]; rfl) hr (by rcases ht8 with h | h; exact .inl h; exact .inr (by rw [h]; simp)))
                  have HR8 := Lib.hid (HR6.out.below hBl (fun _ => hDb))
                  have hg8 : Gr w2 vv := Gr.own hg6 (by omega) HO6.out hr
                  have hb8 : base ≤ vv.heap.size := by have := hr.size; simp at this; omega
                  have e8 := Gr.at hg8 d1
                  clear ho hr ht8 hl hBl HB6 HR6 HO6 hg6 hb6 hix HST HRG HRL HMK
                  -- @o
                  go_wp2_with fail
                  -- @p
                  go_loopw [10, 11] (fun f s wr => ∃ y : Nat, y < 3 * fn ∧ f = .int .i64 ((y / 3 : Nat) : Int) ∧ s = .int .i64 ((y % 3 : Nat) : Int) ∧ Hid (Ms.it (Ms.rt (Ms.op m) Ms.nx) y (3 * fn) = none ∧ Ms.last (Ms.rt (Ms.op m) Ms.nx) (3 * fn) y = Ms.ph m x) ∧ Gr vv wr) (fun f s _ => Ms.steps (Ms.rt (Ms.op m) Ms.nx) (3 * fn) (3 * (intOf f).toNat + (intOf s).toNat))
                  case atStart =>
                    refine ⟨Ms.nx x, ?_, ?_, ?_, Lib.hid ⟨HEN.out x HX.out.1 HX.out.2, (congrFun HPH.out x).symm⟩, Gr.refl _⟩
                    · unfold Ms.nx; have := HX.out.1; omega
                    · rw [Ms.nx_div, HXA.out.2.1]
                    · rw [Ms.nx_mod, HXA.out.2.2, show (((xs + 1) % 3 : Nat) : Int) = ((xs : Int) + 1) % 3 from by omega]
                  case round =>
                    obtain ⟨y, hy1, rfl, rfl, HI, hgq⟩ := hrel
                    rename World => W9
                    have hg9 := hg8.trans hgq
                    have hb9 : base ≤ W9.heap.size := Nat.le_trans hb8 (Gr.size hgq)
                    have cn : W9.cell? ⟨GN, y / 3 * 3 + y % 3, none⟩ = some (.int .i64 (Ms.nb m (y / 3) (y % 3))) := by rw [show y / 3 * 3 + y % 3 = y by omega]; exact Gr.at hg9 (HC.out y hy1)
                    have e9 := Gr.at hg9 d1
                    have hyl : y / 3 < fn := by omega
                    have hys3 : y % 3 < 3 := by omega
                    clear e8
                    cases hq : Ms.op m y with
                    | none =>
                      rw [Ms.nb_none hq] at cn
                      have hl : Ms.ph m x = y := by rw [← HI.out.2]; exact Ms.last_none (Ms.rt_none hq)
                      have HR9 := Lib.hid (HR8.out.gr hgq)
                      have HB9 := Lib.hid (HB8.out.gr hgq)
                      obtain ⟨yf, hyf⟩ : ∃ q, y / 3 = q := ⟨_, rfl⟩
                      obtain ⟨ys, hys⟩ : ∃ q, y % 3 = q := ⟨_, rfl⟩
                      rw [hyf, hys] at cn ⊢
                      rw [hyf] at hyl
                      rw [hys] at hys3
                      have HF1 := Lib.hid (show Ms.itr (Ms.ph m) t (j + 1) / 3 = yf ∧ Ms.itr (Ms.ph m) t (j + 1) % 3 = ys from by rw [HXS.out, hl]; exact ⟨hyf, hys⟩)
                      clear hyf hys hl hq HI HR8 HB8 hg8 hb8 hy1
                      have yb0 : (0 : Int) ≤ (yf : Int) := by omega
                      have yb1 : (yf : Int) < (fn : Int) := by omega
                      have yk0 : (0 : Int) ≤ (ys : Int) := by omega
                      have yk1 : (ys : Int) < 3 := by omega
                      go_wp2_with fail
                      -- @q
                      go_roundw
                      case rel => exact ⟨j + 1, some ⟨gg, 0, none⟩, pp, by omega, rfl, by rw [HF1.out.1], by rw [HF1.out.2], HR9, HB9, hg9, hb9⟩
                      case measure => simp [slL]; omega
                    | some u =>
                      rw [Ms.nb_some hq] at cn
                      have hoi := HOI.out y u hq
                      have hul := HLT.out y u hq
                      obtain ⟨hm1, hm2, hm3⟩ := Ms.steps_lt HI.out.1 (Ms.rt_some hq)
                      have HI2 := Lib.hid (show Ms.it (Ms.rt (Ms.op m) Ms.nx) (Ms.nx u) (3 * fn) = none ∧ Ms.last (Ms.rt (Ms.op m) Ms.nx) (3 * fn) (Ms.nx u) = Ms.ph m x from ⟨hm2, hm3.trans HI.out.2⟩)
                      have HM1 := Lib.hid hm1
                      have hul3 : u / 3 < fn := by omega
                      have HS2 := Lib.hid (HSD.out (y / 3) (y % 3) hys3)
                      have HO2 := Lib.hid (HOP.out (u / 3) (Ms.st m y) (Ms.en m y))
                      rw [hoi] at HO2
                      rw [show Ms.cor (m.F.D (y / 3)) (y % 3) = Ms.st m y from rfl, show Ms.cor (m.F.D (y / 3)) (y % 3 + 1) = Ms.en m y from rfl] at HS2
                      obtain ⟨⟨a0, a1, a2, a3⟩, -⟩ := HFP.out (y / 3) hyl
                      obtain ⟨⟨b0, b1, b2, b3⟩, -⟩ := HFP.out (u / 3) hul3
                      have gw9 := g2.trans hg9
                      replace a0 := Gr.at gw9 a0; replace a1 := Gr.at gw9 a1; replace a2 := Gr.at gw9 a2; replace a3 := Gr.at gw9 a3
                      replace b0 := Gr.at gw9 b0; replace b1 := Gr.at gw9 b1; replace b2 := Gr.at gw9 b2; replace b3 := Gr.at gw9 b3
                      clear hoi hm1 hm2 hm3 hq HI gw9 HSD HOP HOI HLT HFP HXS HR8 HB8 HEN HPH HPI HPF HPT HB1 HX
                      generalize Ms.st m y = sy at *; generalize Ms.en m y = ey at *
                      obtain ⟨f, hf⟩ : ∃ f, m.F.D (y / 3) = f := ⟨_, rfl⟩
                      obtain ⟨h, hh⟩ : ∃ f, m.F.D (u / 3) = f := ⟨_, rfl⟩
                      simp only [hf] at a0 a1 a2 a3 HS2
                      simp only [hh] at b0 b1 b2 b3 HO2
                      unfold Ba.Face.val at HS2 HO2
                      clear hf hh
                      obtain ⟨uf, huf⟩ : ∃ q, u / 3 = q := ⟨_, rfl⟩
                      obtain ⟨us, hus⟩ : ∃ q, u % 3 = q := ⟨_, rfl⟩
                      have HNX := Lib.hid (show Ms.nx u / 3 = uf ∧ Ms.nx u % 3 = (us + 1) % 3 ∧ Ms.nx u < 3 * fn ∧ Ms.nx u = 3 * uf + (us + 1) % 3 from ⟨by rw [Ms.nx_div, huf], by rw [Ms.nx_mod, hus], by unfold Ms.nx; omega, by unfold Ms.nx; rw [huf, hus]⟩)
                      have hus3 : us < 3 := by omega
                      rw [huf] at cn b0 b1 b2 b3 hul3
                      rw [hus] at HO2
                      have HM2 := Lib.hid (show Ms.steps (Ms.rt (Ms.op m) Ms.nx) (3 * fn) (3 * uf + (us + 1) % 3) < Ms.steps (Ms.rt (Ms.op m) Ms.nx) (3 * fn) (3 * (y / 3) + y % 3) from by rw [← HNX.out.2.2.2, show 3 * (y / 3) + y % 3 = y by omega]; exact HM1.out)
                      clear huf hus HM1 hul hy1
                      generalize y / 3 = yf at *; generalize y % 3 = ys at *
                      have yb0 : (0 : Int) ≤ (yf : Int) := by omega
                      have yb1 : (yf : Int) < (fn : Int) := by omega
                      have yk0 : (0 : Int) ≤ (ys : Int) := by omega
                      have yk1 : (ys : Int) < 3 := by omega
                      have ub0 : (0 : Int) ≤ (uf : Int) := by omega
                      have ub1 : (uf : Int) < (fn : Int) := by omega
                      have une : ¬ (uf : Int) = -1 := by omega
                      have hww : IntKind.i64.wrap ((us : Int) + 1) = (us : Int) + 1 := by rw [IntKind.wrap_i64]; omega
                      -- @r
                      go_upto_region 21 with fail
                      -- @s
                      clear cn
                      (first | refine name_world ?_ | refine (show (∀ W, W = _ → Calls _ _ _ W _) → Calls _ _ _ _ _ from fun h => h _ rfl) ?_); intro W6 hW6
                      have g6 : Gr w W6 := by rw [hW6]; exact gr_auto
                      have gb6_W9 : Gr W9 W6 := by (try clear g6); rw [hW6]; exact gr_auto
                      have k6_0 : W6.cell? ⟨w.heap.size, 1, none⟩ = some (.slice (some ⟨m.F.b, m.F.o, none⟩) fn fc') := by rw [hW6]; first | (simp [go_sem, *]; done) | (refine Gr.at ?_ (by assumption); exact gr_auto)
                      have b6_0 : w.heap.size < W6.heap.size := World.block_lt_of_cell? _ _ k6_0
                      have k6_1 : W6.cell? ⟨m.F.b, m.F.o + yf * 4, none⟩ = some (.int .i64 f.a) := by rw [hW6]; first | (simp [go_sem, *]; done) | (refine Gr.at ?_ (by assumption); exact gr_auto)
                      have b6_1 : m.F.b < W6.heap.size := World.block_lt_of_cell? _ _ k6_1
                      have k6_2 : W6.cell? ⟨m.F.b, m.F.o + yf * 4 + 1, none⟩ = some (.int .i64 f.b) := by rw [hW6]; first | (simp [go_sem, *]; done) | (refine Gr.at ?_ (by assumption); exact gr_auto)
                      have k6_3 : W6.cell? ⟨m.F.b, m.F.o + yf * 4 + 2, none⟩ = some (.int .i64 f.c) := by rw [hW6]; first | (simp [go_sem, *]; done) | (refine Gr.at ?_ (by assumption); exact gr_auto)
                      have k6_4 : W6.cell? ⟨m.F.b, m.F.o + yf * 4 + 3, none⟩ = some (.int .i64 f.k) := by rw [hW6]; first | (simp [go_sem, *]; done) | (refine Gr.at ?_ (by assumption); exact gr_auto)
                      have k6_5 : W6.cell? ⟨m.F.b, m.F.o + uf * 4, none⟩ = some (.int .i64 h.a) := by rw [hW6]; first | (simp [go_sem, *]; done) | (refine Gr.at ?_ (by assumption); exact gr_auto)
                      have k6_6 : W6.cell? ⟨m.F.b, m.F.o + uf * 4 + 1, none⟩ = some (.int .i64 h.b) := by rw [hW6]; first | (simp [go_sem, *]; done) | (refine Gr.at ?_ (by assumption); exact gr_auto)
                      have k6_7 : W6.cell? ⟨m.F.b, m.F.o + uf * 4 + 2, none⟩ = some (.int .i64 h.c) := by rw [hW6]; first | (simp [go_sem, *]; done) | (refine Gr.at ?_ (by assumption); exact gr_auto)
                      have k6_8 : W6.cell? ⟨m.F.b, m.F.o + uf * 4 + 3, none⟩ = some (.int .i64 h.k) := by rw [hW6]; first | (simp [go_sem, *]; done) | (refine Gr.at ?_ (by assumption); exact gr_auto)
                      clear hW6
                      have s6_0 : ∀ gw : GW W6, gw.1.cell? ⟨w.heap.size, 1, none⟩ = some (.slice (some ⟨m.F.b, m.F.o, none⟩) fn fc') := fun gw => Gr.at gw.2 k6_0
                      have s6_1 : ∀ gw : GW W6, gw.1.cell? ⟨m.F.b, m.F.o + yf * 4, none⟩ = some (.int .i64 f.a) := fun gw => Gr.at gw.2 k6_1
                      have s6_2 : ∀ gw : GW W6, gw.1.cell? ⟨m.F.b, m.F.o + yf * 4 + 1, none⟩ = some (.int .i64 f.b) := fun gw => Gr.at gw.2 k6_2
                      have s6_3 : ∀ gw : GW W6, gw.1.cell? ⟨m.F.b, m.F.o + yf * 4 + 2, none⟩ = some (.int .i64 f.c) := fun gw => Gr.at gw.2 k6_3
                      have s6_4 : ∀ gw : GW W6, gw.1.cell? ⟨m.F.b, m.F.o + yf * 4 + 3, none⟩ = some (.int .i64 f.k) := fun gw => Gr.at gw.2 k6_4
                      have s6_5 : ∀ gw : GW W6, gw.1.cell? ⟨m.F.b, m.F.o + uf * 4, none⟩ = some (.int .i64 h.a) := fun gw => Gr.at gw.2 k6_5
                      have s6_6 : ∀ gw : GW W6, gw.1.cell? ⟨m.F.b, m.F.o + uf * 4 + 1, none⟩ = some (.int .i64 h.b) := fun gw => Gr.at gw.2 k6_6
                      have s6_7 : ∀ gw : GW W6, gw.1.cell? ⟨m.F.b, m.F.o + uf * 4 + 2, none⟩ = some (.int .i64 h.c) := fun gw => Gr.at gw.2 k6_7
                      have s6_8 : ∀ gw : GW W6, gw.1.cell? ⟨m.F.b, m.F.o + uf * 4 + 3, none⟩ = some (.int .i64 h.k) := fun gw => Gr.at gw.2 k6_8
                      have Q1 := Lib.hid (fun gw : GW W6 => gw_call (HS2.out gw.1))
                      have Q2 := Lib.hid (fun gw : GW W6 => gw_call (HO2.out gw.1))
                      refine wp_region_gr (by kernel_rfl) (by kernel_rfl) ?_
                      repeat (go_big_quiet_step (first | (go_at_call 58; with_reducible exact Q1.out _) | (go_at_call 71; with_reducible exact Q2.out _)))
                      refine wpQuiet_nil ?_
                      intro w7 hb7
                      clear s6_0 s6_1 s6_2 s6_3 s6_4 s6_5 s6_6 s6_7 s6_8
                      have g7 : Gr w w7 := g6.trans hb7
                      have k6_0 := Gr.at hb7 k6_0
                      have k6_1 := Gr.at hb7 k6_1
                      have k6_2 := Gr.at hb7 k6_2
                      have k6_3 := Gr.at hb7 k6_3
                      have k6_4 := Gr.at hb7 k6_4
                      have k6_5 := Gr.at hb7 k6_5
                      have k6_6 := Gr.at hb7 k6_6
                      have k6_7 := Gr.at hb7 k6_7
                      have k6_8 := Gr.at hb7 k6_8
                      -- @t
                      go_wp2_with fail
                      -- @t1
                      go_roundw
                      case rel => exact ⟨Ms.nx u, HNX.out.2.2.1, by rw [HNX.out.1], by rw [HNX.out.2.1, show (((us + 1) % 3 : Nat) : Int) = ((us : Int) + 1) % 3 from by omega], HI2, hgq.trans (gb6_W9.trans hb7)⟩
                      case measure =>
                        have e := HM2.out
                        simp only [intOf, Int.toNat_natCast]
                        rw [show (((us : Int) + 1) % 3).toNat = (us + 1) % 3 from by omega]
                        exact e
                · obtain rfl : j = p := by omega
                  rw [HPTj.out rfl] at og
                  have x3 := og.1
                  clear og
                  -- @u
                  have hbe : Ms.bS m (3 * i + (k + 1)) = (Ms.mkL d (Ms.rng (Ms.ph m) t j), L ++ [Ms.rng (Ms.ph m) t j]) := by
                    rw [show 3 * i + (k + 1) = t + 1 by have := HT3.out.1; omega]; exact HB1.out
                  have g4 : Gr W3 (W3.alloc (Obj.cells #[.slice A j c] 44)) := Gr.alloc (Gr.refl W3) _
                  have HB6 := Lib.hid (HB.out.gr g4)
                  have HR6 := Lib.hid (HR.out.gr g4)
                  have HO6 := Lib.hid HB6.out.out
                  have hg6 := hg.trans g4
                  have HBE := Lib.hid hbe
                  clear hbe HB HR hg g4 HB1 HPT HPTj HPF HPFj HPI HXS HRG HRL HMK HX HFP HFA HSD HOP HOI HEN HPH HLT HC
                  -- @v
                  go_wp2_with (at_builtin; refine wpList_append_lies _ rfl _ _ 39 rfl base 44 is (.slice none 0 0) 1 24 Tryd.underlying39 KS.out KS0.out KS1.out KS2.out rfl (by decide) u6 L.length (vs V L.length) rfl HO6.out ⟨W3.heap.size, 0, none⟩ 1 1 [.slice A j c] rfl rfl (by intro p u hp; rcases p with _ | p <;> simp at hp <;> (try subst hp) <;> first | (simp [Addr.add, go_sem]; done) | (simp [Addr.add]; done)) (by intro u hu; simp at hu; subst hu; rfl) (by decide) (by unfold maxLen; omega) (by omega) (by simp; omega) _ rfl ?_)
                  intro gg pp vv ho hr ht8 hl
                  -- @w
                  have hBl := own_below HO6.out hr (by simp; omega)
                  have HB8 := Lib.hid (HB6.out.done ho (by rw [List.length_append]; rfl) hr (by rcases ht8 with h | h; exact .inl h; exact .inr (by rw [h]; simp)))
                  have HR8 := Lib.hid (HR6.out.below hBl (fun _ => hDb))
                  have hg8 : Gr w2 vv := Gr.own hg6 (by omega) HO6.out hr
                  have hb8 : base ≤ vv.heap.size := by have := hr.size; simp at this; omega
                  have HBn := Lib.hid (show Brd m base vv (.slice (some ⟨gg, 0, none⟩) (L.length + 1) pp) (.slice none 0 0) (upd V L.length (.slice A j c)) (Ms.bS m (3 * i + (k + 1))).2 [] from by rw [HBE.out]; exact HB8.out)
                  have HRn := Lib.hid (show Row vv D (3 * fn) (bX (Ms.bS m (3 * i + (k + 1))).1) from by rw [HBE.out]; exact HR8.out)
                  clear ho hr ht8 hl hBl HB6 HR6 HO6 hg6 HB8 HR8 HBE
                  go_wp2_with fail
                  -- @x
                  go_roundw
                  case rel => exact ⟨k + 1, _, by omega, by go_num, HRn, HBn, hg8, hb8⟩
                  case measure => simp [intOf]; omega
        · obtain rfl : k = 3 := by omega
          have HRn := Lib.hid (show Row W2 D (3 * fn) (bX (Ms.bS m (3 * (i + 1))).1) from HR.out)
          have HBn := Lib.hid (show Brd m base W2 _ (.slice none 0 0) V (Ms.bS m (3 * (i + 1))).2 [] from HB.out)
          clear HR HB
          go_wp2_with fail
          -- @y
          go_roundw
          case rel => exact ⟨i + 1, V, by omega, by go_num, HRn, HBn, hg, hbs⟩
          case measure => simp [intOf]; omega
    · obtain rfl : fn = i := by omega
      go_wp2_with fail
      -- @z
      go_ret2
      exact ⟨_, rfl, V, HB.out.lower (by have := HW.out; omega), g2.trans hg⟩
end Go.Proofs.YtajhhplgcegodaaDoor
