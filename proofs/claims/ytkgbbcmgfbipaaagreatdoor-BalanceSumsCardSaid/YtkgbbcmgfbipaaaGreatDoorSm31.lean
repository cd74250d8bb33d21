/-
  Accounts: balance.of. (Printed by mkofc.py.)
-/
import Derived.Test.YtkgbbcmgfbipaaaGreatDoorSm29
import Derived.Test.YtkgbbcmgfbipaaaGreatDoorSm30

set_option linter.unusedVariables false
set_option linter.unusedSimpArgs false
namespace Go.Proofs.YtkgbbcmgfbipaaaGreatDoor
open Go.RowKit Go.Maps
namespace Ba
/-- The map of the first nodes' numbers by their names. -/
def mpF (D : Nat → Node) (i : Nat) : Value → Option Value
  | .string s => (fst (fun j => eqS (D j).nm s) i).map fun (j : Nat) => Value.int .i64 (j : Int)
  | _ => none
theorem eqS_iff (a b : ByteArray) : eqS a b = true ↔ a = b := by
  unfold eqS
  rw [Lib.toList_data, Lib.toList_data]
  constructor
  · intro h; exact WideShapes.bytes_inj (eq_of_beq h)
  · rintro rfl; simp
theorem fst_none_of {p : Nat → Bool} : ∀ {n : Nat}, (∀ j, j < n → p j = false) → fst p n = none
  | 0, _ => rfl
  | n + 1, h => by rw [fst, fst_none_of fun j hj => h j (by omega)]; simp [h n (by omega)]
theorem mpF_zero (D : Nat → Node) : mpF D 0 = fun _ => none := by
  funext v; unfold mpF; split <;> rfl
theorem mpF_self {N : SlNode} {L : SlLink} (h : netB N L = true) {i : Nat} (hi : i < N.n) : mpF N.D (i + 1) (.string (N.D i).nm) = some (.int .i64 (i : Int)) := by
  unfold netB at h
  simp only [Bool.and_eq_true] at h
  have h1 := allB_at h.2.2.1 hi
  unfold nodeB at h1
  simp only [Bool.and_eq_true] at h1
  have h2 := eq_of_beq h1.2
  have h3 : ∀ j, j < i → eqS (N.D j).nm (N.D i).nm = false := by
    rcases nix_cases N (N.D i).nm with e | ⟨j, hj, e, -, g⟩
    · omega
    · obtain rfl : j = i := by omega
      exact g
  unfold mpF
  simp only
  have h4 := fst_hit (p := fun j => eqS (N.D j).nm (N.D i).nm) (i := i) (fst_none_of h3) ((eqS_iff _ _).2 rfl) 0
  rw [show i + 1 + 0 = i + 1 by omega] at h4
  rw [h4]; rfl
theorem mpF_other (D : Nat → Node) (i : Nat) (x : Value) (hx : x ≠ .string (D i).nm) : mpF D (i + 1) x = mpF D i x := by
  unfold mpF
  split
  · rename_i s
    have : eqS (D i).nm s = false := by
      cases e : eqS (D i).nm s
      · rfl
      · exact absurd (by rw [(eqS_iff _ _).1 e]) hx
    rw [fst]
    cases e : fst (fun j => eqS (D j).nm s) i with
    | some k => rfl
    | none => simp [this]
  · rfl
theorem mpF_get {N : SlNode} {t : ByteArray} {j : Nat} (h : nix N t = (j : Int)) : mpF N.D N.n (.string t) = some (.int .i64 (j : Int)) := by
  unfold nix fstI at h
  unfold mpF
  cases e : fst (fun i => eqS (N.D i).nm t) N.n with
  | none => rw [e] at h; simp only at h; omega
  | some k =>
    rw [e] at h
    simp only at h
    obtain rfl : k = j := by omega
    simp only
    rw [e]
    rfl
end Ba
theorem Own.gry {R M : Nat} {w w' : World} {b o : Nat} {v : Value} (h : Own w b o v) (g : GrY R M w w') (hR : b ≠ R) (hM : b ≠ M) : Own w' b o v :=
  ⟨GrY.at g hR hM h.1, by
    have hlt := World.block_lt_of_cell? w ⟨b, o, none⟩ h.1
    have e := g.block b hlt hR hM
    have := h.2
    simp only [World.frozen?, e] at this ⊢
    exact this⟩
theorem made_at {P : Program} {k : TypeId} {w : World} {b : Nat} (h : b = w.heap.size) : MapIs P k (w.alloc (.map #[] 0)) b 0 (fun _ => none) := h ▸ MapIs.made P k w
theorem keyed_s : Keyed Tryz.prog 9 := string_keyed Tryz.underlying9
theorem zero_int (w : World) : (zeroValue 3).run Tryz.prog w = .ok (.int .i64 0) w := by kernel_rfl
set_option maxRecDepth 100000 in
set_option maxHeartbeats 8000000 in
theorem of_any (N : Ba.SlNode) (L : Ba.SlLink) (s1 s2 : Ba.State) (I P : Ba.SlI) (M : Ba.SlB) (w : World) (F : Ba.Fine N L s1 s2 I P) (hN : N.At w) (hL : L.At w) (hI : I.At w) (hP : P.At w) (hM : M.At w) (hm : M.n = N.n) (h1 : s1.Ok w) (h2 : s2.Ok w) : Calls Tryz.prog 41 #[Ba.netVal N L, .slice M.A M.n M.c, s1.val, s2.val, .slice I.A I.n I.c, .slice P.A P.n P.c] w fun e w' => e = .returned (.agg #[.int .i64 (Ba.resI N L M.X s1 s2 I P), .int .i64 (Ba.lostI N L M.X I P)]) ∧ Gr w w' := by
  have hn := F.nn; have hl := F.ll
  have HA := Lib.hid hN.hA; have HX := Lib.hid hN.hD; have KA := Lib.hid hL.hA; have KX := Lib.hid hL.hD
  have IA := Lib.hid hI.hA; have IX := Lib.hid hI.hX; have PA := Lib.hid hP.hA; have PX := Lib.hid hP.hX; have MA := Lib.hid hM.hA; have MX := Lib.hid hM.hX
  have HE := Lib.hid (fun (k : Nat) (hk : k < L.n) => Ba.net_ends F.net hk)
  have BI := Lib.hid F.bi; have BP := Lib.hid F.bp
  have V1 := Lib.hid h1.1.hA; have X1 := Lib.hid h1.1.hX; have Q1 := Lib.hid h1.2.1.hA; have Y1 := Lib.hid h1.2.1.hX
  have V2 := Lib.hid h2.1.hA; have X2 := Lib.hid h2.1.hX; have Q2 := Lib.hid h2.2.1.hA; have Y2 := Lib.hid h2.2.1.hX
  have i0 := F.i; have p0 := F.p; have z1 := F.v1; have z2 := F.p1; have z3 := F.v2; have z4 := F.p2
  have B1 := Lib.hid F.bv1; have B2 := Lib.hid F.bp1; have B3 := Lib.hid F.bv2; have B4 := Lib.hid F.bp2
  have LO := F.lost_le M.X
  have S1 := Lib.hid (fun (i : Nat) (hi : i ≤ N.n) => F.ndT_sum M.X hi)
  have S2 := Lib.hid (fun (k : Nat) (hk : k ≤ L.n) => F.lkT_sum M.X hk)
  have S3 := Lib.hid (fun (i : Nat) (hi : i ≤ N.n) => F.ndL_sum M.X hi)
  have S4 := Lib.hid (fun (k : Nat) (hk : k ≤ L.n) => F.lkL_sum M.X hk)
  have HM0 := Lib.hid (fun (i : Nat) (hi : i < N.n) (w5 : World) (MB0 : Nat) (h : ∀ g : Value → Option Value, g (.string (N.D i).nm) = some (.int .i64 (i : Int)) → (∀ x, x ≠ .string (N.D i).nm → g x = Ba.mpF N.D i x) → MapIs Tryz.prog 9 w5 MB0 (i + 1) g) => h (Ba.mpF N.D (i + 1)) (Ba.mpF_self F.net hi) (fun x hx => Ba.mpF_other N.D i x hx))
  have HMF := Lib.hid (fun (k : Nat) (hk : k < L.n) => Ba.mpF_get (Ba.net_ends F.net hk).1)
  have HMT := Lib.hid (fun (k : Nat) (hk : k < L.n) => Ba.mpF_get (Ba.net_ends F.net hk).2.2.1)
  have SZ := Lib.hid (fun (i : Nat) (hi : i < N.n) => (hN.hD i hi).2.2.2.2.2.2.2.1)
  have SF := Lib.hid (fun (i : Nat) (hi : i < L.n) => (hL.hD i hi).2.2.2.2.2.2.2.2.1)
  have ST := Lib.hid (fun (i : Nat) (hi : i < L.n) => (hL.hD i hi).2.2.2.2.2.2.2.2.2.1)
  clear F hN hL hI hP hM h1 h2
  unfold Ba.netVal Ba.State.val at *
  have N1 := Lib.hid (fun (i : Nat) => show Ba.sumI (Ba.ndT M.X s1 s2 I) (i + 1) = Ba.sumI (Ba.ndT M.X s1 s2 I) i + (if M.X i = true then s1.vs.X i + s1.ps.X i + I.X i - s2.vs.X i - s2.ps.X i else 0) from rfl)
  have N2 := Lib.hid (fun (k : Nat) => show Ba.sumI (Ba.lkT N L M.X P) (k + 1) = Ba.sumI (Ba.lkT N L M.X P) k + (if (M.X (Ba.tx N L k) && !M.X (Ba.fx N L k)) = true then P.X k else if (M.X (Ba.fx N L k) && !M.X (Ba.tx N L k)) = true then 0 - P.X k else 0) from rfl)
  have N3 := Lib.hid (fun (i : Nat) => show Ba.sumI (Ba.ndL N M.X I) (i + 1) = Ba.sumI (Ba.ndL N M.X I) i + (if (M.X i && ((N.D i).kd == 3)) = true then I.X i else 0) from rfl)
  have N4 := Lib.hid (fun (k : Nat) => show Ba.sumI (Ba.lkL N L M.X P) (k + 1) = Ba.sumI (Ba.lkL N L M.X P) k + (if (M.X (Ba.tx N L k) && ((N.D (Ba.tx N L k)).kd == 3)) = true then P.X k else 0) from rfl)
  have HR := Lib.hid (show Ba.resI N L M.X s1 s2 I P = 0 - Ba.lostI N L M.X I P + Ba.sumI (Ba.ndT M.X s1 s2 I) N.n + Ba.sumI (Ba.lkT N L M.X P) L.n from rfl)
  have HL := Lib.hid (show Ba.lostI N L M.X I P = Ba.sumI (Ba.ndL N M.X I) N.n + Ba.sumI (Ba.lkL N L M.X P) L.n from rfl)
  have HE2 := Lib.hid (fun (k : Nat) (hk : k < L.n) => (HE.out k hk).2.2.2)
  have HE1 := Lib.hid (fun (k : Nat) (hk : k < L.n) => (HE.out k hk).2.1)
  clear HE
  generalize Ba.resI N L M.X s1 s2 I P = r at *
  have hz1 : Ba.sumI (Ba.ndT M.X s1 s2 I) 0 = 0 := rfl
  have hz2 : Ba.sumI (Ba.lkT N L M.X P) 0 = 0 := rfl
  have hz3 : Ba.sumI (Ba.ndL N M.X I) 0 = 0 := rfl
  have hz4 : Ba.sumI (Ba.lkL N L M.X P) 0 = 0 := rfl
  generalize Ba.lostI N L M.X I P = lo at *
  generalize Ba.sumI (Ba.ndT M.X s1 s2 I) = f1 at *
  generalize Ba.sumI (Ba.lkT N L M.X P) = f2 at *
  generalize Ba.sumI (Ba.ndL N M.X I) = f3 at *
  generalize Ba.sumI (Ba.lkL N L M.X P) = f4 at *
  have zz := Lib.hid (And.intro hz1 (And.intro hz2 (And.intro hz3 hz4)))
  clear hz1 hz2 hz3 hz4
  generalize Ba.tx N L = t at *
  generalize Ba.fx N L = f at *
  obtain ⟨A, n, c, b, o, D⟩ := N
  obtain ⟨A2, l, c2, b2, o2, E⟩ := L
  obtain ⟨A3, n3, c3, b3, o3, X⟩ := I
  obtain ⟨A4, n4, c4, b4, o4, Y⟩ := P
  obtain ⟨A5, n5, c5, b5, o5, M⟩ := M
  simp only at *
  obtain ⟨⟨VA, vn, vc, bv, ov, XV⟩, ⟨QA, qn, qc, bq, oq, XQ⟩, ⟨SA, sn, sc, bs, os, XS⟩, ⟨OA, on', oc, bo, oo, XO⟩⟩ := s1
  obtain ⟨⟨VB, um, uc, bu, ou, XU⟩, ⟨QB, rm, rc, br, or', XR⟩, ⟨SB, sm, sd, bt, ot, XT⟩, ⟨OB, om, od, bp, op', XP⟩⟩ := s2
  simp only at *
  obtain rfl := i0.symm; obtain rfl := p0.symm; obtain rfl := hm.symm; obtain rfl := z1.symm; obtain rfl := z2.symm; obtain rfl := z3.symm; obtain rfl := z4.symm
  have hmm := @run_makeMap Tryz.prog
  go_enter Tryz.func41, Tryz.ntmps41
  go_wp2_with fail
  clear hmm
  refine name_world ?_; intro W0 hW0
  have g0 : Gr w W0 := by rw [hW0]; exact gr_auto
  have k0_0 : W0.cell? ⟨w.heap.size, 0, none⟩ = some (.slice A n c) := by rw [hW0]; simp [go_sem, *]
  have k0_1 : W0.cell? ⟨w.heap.size, 1, none⟩ = some (.slice A2 l c2) := by rw [hW0]; simp [go_sem, *]
  have k0_2 : W0.cell? ⟨w.heap.size + 1, 0, none⟩ = some (.slice VA n vc) := by rw [hW0]; simp [go_sem, *]
  have k0_3 : W0.cell? ⟨w.heap.size + 1, 1, none⟩ = some (.slice QA n qc) := by rw [hW0]; simp [go_sem, *]
  have k0_4 : W0.cell? ⟨w.heap.size + 2, 0, none⟩ = some (.slice VB n uc) := by rw [hW0]; simp [go_sem, *]
  have k0_5 : W0.cell? ⟨w.heap.size + 2, 1, none⟩ = some (.slice QB n rc) := by rw [hW0]; simp [go_sem, *]
  have ho0 : Own W0 (w.heap.size + 4) 0 (.int .i64 0) := by rw [hW0]; exact ⟨by simp [go_sem], by simp [go_sem]⟩
  have ho1 : Own W0 (w.heap.size + 4) 1 (.int .i64 0) := by rw [hW0]; exact ⟨by simp [go_sem], by simp [go_sem]⟩
  have ho3 : Own W0 (w.heap.size + 3) 0 (.int .i64 0) := by rw [hW0]; exact ⟨by simp [go_sem], by simp [go_sem]⟩
  have ho4 : Own W0 (w.heap.size + 3) 1 (.int .i64 0) := by rw [hW0]; exact ⟨by simp [go_sem], by simp [go_sem]⟩
  have hm : MapIs Tryz.prog 9 W0 (w.heap.size + 1 + 1 + 1 + 1 + 1) 0 (Ba.mpF D 0) := by rw [hW0, Ba.mpF_zero]; exact made_at (by simp)
  have hz0 : W0.heap.size = w.heap.size + 6 := by rw [hW0]; simp
  clear hW0
  obtain ⟨MB, hMB⟩ : ∃ MB, MB = w.heap.size + 1 + 1 + 1 + 1 + 1 := ⟨_, rfl⟩
  have hMB5 : MB = w.heap.size + 5 := by omega
  rw [← hMB] at hm
  rw [← hMB]
  have HMB := Lib.hid hMB5
  clear hMB hMB5
  have HW0 := Lib.hid hz0
  clear hz0
  go_loopw [25] (fun q wr => ∃ i : Nat, i ≤ n ∧ q = .int .i64 (i : Int) ∧ GrY (w.heap.size + 4) MB W0 wr ∧ Own wr (w.heap.size + 4) 0 (.int .i64 (f1 i)) ∧ Own wr (w.heap.size + 4) 1 (.int .i64 (f3 i)) ∧ MapIs Tryz.prog 9 wr MB i (Ba.mpF D i)) (fun q _ => n - (intOf q).toNat)
  case atStart => exact ⟨0, Nat.zero_le _, rfl, GrY.refl _ _ _, by rw [zz.out.1]; exact ho0, by rw [zz.out.2.2.1]; exact ho1, hm⟩
  case round =>
    clear ho0 ho1 hm
    obtain ⟨i, hi, rfl, hg, ho0, ho1, hm⟩ := hrel
    have hsw : w.heap.size + 6 ≤ wr.heap.size := by have := HW0.out; have := hg.size; omega
    have hmb : MB = w.heap.size + 5 := HMB.out
    have HSW := Lib.hid hsw
    have gr : Gr w wr := GrY.below g0 (by omega) (by omega) hg
    clear hmb
    by_cases hlt : i < n
    · obtain rfl := HA.out (by omega); obtain rfl := IA.out (by omega); obtain rfl := MA.out (by omega); obtain rfl := V1.out (by omega); obtain rfl := Q1.out (by omega); obtain rfl := V2.out (by omega); obtain rfl := Q2.out (by omega)
      obtain ⟨a0, a1, a2, a3, a4, a5, a6, a7, a8⟩ := (HX.out i hlt).1.gr gr
      have v0 := (IX.out i hlt).1; have v1 := (X1.out i hlt).1; have v2 := (Y1.out i hlt).1; have v3 := (X2.out i hlt).1; have v4 := (Y2.out i hlt).1
      have m0 := MX.out i hlt
      have e0 := BI.out i hlt; have e1 := B1.out i hlt; have e2 := B2.out i hlt; have e3 := B3.out i hlt; have e4 := B4.out i hlt
      have s0 := S1.out i hi; have s3 := S3.out i hi
      have HT := Lib.hid (N1.out i); have HU := Lib.hid (N3.out i)
      have HM := Lib.hid (HM0.out i hlt)
      have hsz := SZ.out i hlt
      clear BI S1 N1 IX MX HX BP S2 N2 KX PX HE1 HE2 X1 Y1 X2 Y2 B1 B2 B3 B4 HR zz S3 S4 N3 N4 HM0 HMF HMT SZ SF ST HL
      generalize f1 i = a at *
      generalize f3 i = u at *
      generalize X i = x0 at *
      generalize XV i = x1 at *
      generalize XQ i = x2 at *
      generalize XU i = x3 at *
      generalize XR i = x4 at *
      have ib0 : (0 : Int) ≤ (i : Int) := by omega
      have ib1 : (i : Int) < (n : Int) := by omega
      generalize M i = q at *
      generalize D i = d at *
      cases q
      · rw [if_neg (by simp), Int.add_zero] at HT
        rw [if_neg (by simp), Int.add_zero] at HU
        go_wp2_with (go_loud (at_mapUpdate; refine wpList_update_is _ (by rfl) _ _ _ 105 (by rfl) 9 3 keyed_s Tryz.underlying105 MB i (Ba.mpF D i) (by rfl) (hm.gr (Gr.alloc (Gr.refl _) _)) (.string d.nm) (.int .i64 (i : Int)) _ (by rfl) (by rfl) (Go.WideMaps.keyOf_string_mk Tryz.underlying9 (by unfold maxLen; exact hsz)) ?_; intro w5 hst5 hgb5 hgx5; have hmb := HMB.out; have m5 := HM.out w5 MB hst5; have gy5 : GrY (w.heap.size + 4) MB W0 w5 := (GrY.alloc hg _).grx hgx5; have g5 : Gr w w5 := GrY.below g0 (by omega) (by omega) gy5; have o0 := (ho0.gr (Gr.alloc (Gr.refl wr) (Obj.cells #[.string d.nm, .int .i64 d.kd, .int .i64 d.ax, .int .i64 d.ay, .int .i64 d.iv, .int .i64 d.gr, .slice d.sh.A d.sh.n d.sh.c, .bool d.pr, .int .i64 d.rs] 64))).grx hgx5 (by omega); have o1 := (ho1.gr (Gr.alloc (Gr.refl wr) (Obj.cells #[.string d.nm, .int .i64 d.kd, .int .i64 d.ax, .int .i64 d.ay, .int .i64 d.iv, .int .i64 d.gr, .slice d.sh.A d.sh.n d.sh.c, .bool d.pr, .int .i64 d.rs] 64))).grx hgx5 (by omega); have kd5 : w5.cell? ⟨wr.heap.size, 1, none⟩ = some (.int .i64 d.kd) := GrX.at hgx5 (by omega) (by simp [go_sem]); have k0_0 := GrY.at (w' := w5) gy5 (by omega) (by omega) k0_0; have k0_1 := GrY.at (w' := w5) gy5 (by omega) (by omega) k0_1; have k0_2 := GrY.at (w' := w5) gy5 (by omega) (by omega) k0_2; have k0_3 := GrY.at (w' := w5) gy5 (by omega) (by omega) k0_3; have k0_4 := GrY.at (w' := w5) gy5 (by omega) (by omega) k0_4; have k0_5 := GrY.at (w' := w5) gy5 (by omega) (by omega) k0_5; clear hst5 hgb5 hmb; have m1 := Gr.at g5 m0))
        go_roundw
        case rel => exact ⟨i + 1, by omega, by go_num, gy5, by rw [HT.out]; exact o0, by rw [HU.out]; exact o1, m5⟩
        case measure => simp [intOf]; omega
      have m1 := Gr.at gr m0
      have hbw : b5 < w.heap.size := World.block_lt_of_cell? _ _ m0
      rw [if_pos rfl] at HT
      cases t0 : (d.kd == 3)
      · rw [t0, if_neg (by simp), Int.add_zero] at HU
        go_wp2_with (go_loud (at_mapUpdate; refine wpList_update_is _ (by rfl) _ _ _ 105 (by rfl) 9 3 keyed_s Tryz.underlying105 MB i (Ba.mpF D i) (by rfl) (hm.gr (Gr.alloc (Gr.refl _) _)) (.string d.nm) (.int .i64 (i : Int)) _ (by rfl) (by rfl) (Go.WideMaps.keyOf_string_mk Tryz.underlying9 (by unfold maxLen; exact hsz)) ?_; intro w5 hst5 hgb5 hgx5; have hmb := HMB.out; have m5 := HM.out w5 MB hst5; have gy5 : GrY (w.heap.size + 4) MB W0 w5 := (GrY.alloc hg _).grx hgx5; have g5 : Gr w w5 := GrY.below g0 (by omega) (by omega) gy5; have o0 := (ho0.gr (Gr.alloc (Gr.refl wr) (Obj.cells #[.string d.nm, .int .i64 d.kd, .int .i64 d.ax, .int .i64 d.ay, .int .i64 d.iv, .int .i64 d.gr, .slice d.sh.A d.sh.n d.sh.c, .bool d.pr, .int .i64 d.rs] 64))).grx hgx5 (by omega); have o1 := (ho1.gr (Gr.alloc (Gr.refl wr) (Obj.cells #[.string d.nm, .int .i64 d.kd, .int .i64 d.ax, .int .i64 d.ay, .int .i64 d.iv, .int .i64 d.gr, .slice d.sh.A d.sh.n d.sh.c, .bool d.pr, .int .i64 d.rs] 64))).grx hgx5 (by omega); have kd5 : w5.cell? ⟨wr.heap.size, 1, none⟩ = some (.int .i64 d.kd) := GrX.at hgx5 (by omega) (by simp [go_sem]); have k0_0 := GrY.at (w' := w5) gy5 (by omega) (by omega) k0_0; have k0_1 := GrY.at (w' := w5) gy5 (by omega) (by omega) k0_1; have k0_2 := GrY.at (w' := w5) gy5 (by omega) (by omega) k0_2; have k0_3 := GrY.at (w' := w5) gy5 (by omega) (by omega) k0_3; have k0_4 := GrY.at (w' := w5) gy5 (by omega) (by omega) k0_4; have k0_5 := GrY.at (w' := w5) gy5 (by omega) (by omega) k0_5; clear hst5 hgb5 hmb; have m1 := Gr.at g5 m0; have e1 := Gr.at g5 v1; have e2 := Gr.at g5 v2; have e3 := Gr.at g5 v3; have e4 := Gr.at g5 v4; have e0 := Gr.at g5 v0))
        have hq1 : wr.heap.size ≠ w.heap.size + 4 := by have := HSW.out; omega
        have hq2 : w.heap.size + 4 ≠ wr.heap.size := Ne.symm hq1
        have r0 := o0.1; have r0f := o0.2
        refine wp_region_tail 32 (by kernel_rfl) (by kernel_rfl) ?_
        simp only [List.take_succ_cons, List.take_zero, List.drop_succ_cons, List.drop_zero]
        repeat (go_big_quiet_step (fail))
        refine wpQuiet_nil ?_
        go_wp2_with fail
        go_roundw
        case rel => exact ⟨i + 1, by omega, by go_num, GrY.drew (GrY.setCell gy5 rfl _), by rw [HT.out]; exact (Own.set o0).gr (Gr.drew (Gr.refl _)), by rw [HU.out]; exact (Own.other o1 (Or.inr (by omega))).gr (Gr.drew (Gr.refl _)), (m5.grx (R := w.heap.size + 4) (GrX.setCell (GrX.refl (w.heap.size + 4) _) (by rfl) _) (by have := HMB.out; omega)).gr (Gr.drew (Gr.refl _))⟩
        case measure => simp [intOf]; omega
      · rw [t0, if_pos (show (true && true) = true from rfl)] at HU
        go_wp2_with (go_loud (at_mapUpdate; refine wpList_update_is _ (by rfl) _ _ _ 105 (by rfl) 9 3 keyed_s Tryz.underlying105 MB i (Ba.mpF D i) (by rfl) (hm.gr (Gr.alloc (Gr.refl _) _)) (.string d.nm) (.int .i64 (i : Int)) _ (by rfl) (by rfl) (Go.WideMaps.keyOf_string_mk Tryz.underlying9 (by unfold maxLen; exact hsz)) ?_; intro w5 hst5 hgb5 hgx5; have hmb := HMB.out; have m5 := HM.out w5 MB hst5; have gy5 : GrY (w.heap.size + 4) MB W0 w5 := (GrY.alloc hg _).grx hgx5; have g5 : Gr w w5 := GrY.below g0 (by omega) (by omega) gy5; have o0 := (ho0.gr (Gr.alloc (Gr.refl wr) (Obj.cells #[.string d.nm, .int .i64 d.kd, .int .i64 d.ax, .int .i64 d.ay, .int .i64 d.iv, .int .i64 d.gr, .slice d.sh.A d.sh.n d.sh.c, .bool d.pr, .int .i64 d.rs] 64))).grx hgx5 (by omega); have o1 := (ho1.gr (Gr.alloc (Gr.refl wr) (Obj.cells #[.string d.nm, .int .i64 d.kd, .int .i64 d.ax, .int .i64 d.ay, .int .i64 d.iv, .int .i64 d.gr, .slice d.sh.A d.sh.n d.sh.c, .bool d.pr, .int .i64 d.rs] 64))).grx hgx5 (by omega); have kd5 : w5.cell? ⟨wr.heap.size, 1, none⟩ = some (.int .i64 d.kd) := GrX.at hgx5 (by omega) (by simp [go_sem]); have k0_0 := GrY.at (w' := w5) gy5 (by omega) (by omega) k0_0; have k0_1 := GrY.at (w' := w5) gy5 (by omega) (by omega) k0_1; have k0_2 := GrY.at (w' := w5) gy5 (by omega) (by omega) k0_2; have k0_3 := GrY.at (w' := w5) gy5 (by omega) (by omega) k0_3; have k0_4 := GrY.at (w' := w5) gy5 (by omega) (by omega) k0_4; have k0_5 := GrY.at (w' := w5) gy5 (by omega) (by omega) k0_5; clear hst5 hgb5 hmb; have m1 := Gr.at g5 m0; have e1 := Gr.at g5 v1; have e2 := Gr.at g5 v2; have e3 := Gr.at g5 v3; have e4 := Gr.at g5 v4; have e0 := Gr.at g5 v0))
        have hq1 : wr.heap.size ≠ w.heap.size + 4 := by have := HSW.out; omega
        have hq2 : w.heap.size + 4 ≠ wr.heap.size := Ne.symm hq1
        have r0 := o0.1; have r0f := o0.2
        refine wp_region_tail 32 (by kernel_rfl) (by kernel_rfl) ?_
        simp only [List.take_succ_cons, List.take_zero, List.drop_succ_cons, List.drop_zero]
        repeat (go_big_quiet_step (fail))
        refine wpQuiet_nil ?_
        go_wp2_with fail
        refine name_world ?_; intro W7 hW7
        have y7 : GrY (w.heap.size + 4) MB W0 W7 := by rw [hW7]; exact GrY.drew (GrY.setCell gy5 rfl _)
        have p0 : Own W7 (w.heap.size + 4) 0 (.int .i64 (f1 (i + 1))) := by rw [hW7, HT.out]; exact (Own.set o0).gr (Gr.drew (Gr.refl _))
        have p1 : Own W7 (w.heap.size + 4) 1 (.int .i64 u) := by rw [hW7]; exact (Own.other o1 (Or.inr (by omega))).gr (Gr.drew (Gr.refl _))
        have m7 : MapIs Tryz.prog 9 W7 MB (i + 1) (Ba.mpF D (i + 1)) := by rw [hW7]; exact (m5.grx (R := w.heap.size + 4) (GrX.setCell (GrX.refl (w.heap.size + 4) _) (by rfl) _) (by have := HMB.out; omega)).gr (Gr.drew (Gr.refl _))
        have gw7 : Gr w W7 := GrY.below g0 (by omega) (by have := HMB.out; omega) y7
        have x7 := Gr.at gw7 v0
        clear hW7 r0 r0f v0 v1 v2 v3 v4 o0 o1 m5
        have r0 := p1.1; have r0f := p1.2
        refine wp_region_tail 8 (by kernel_rfl) (by kernel_rfl) ?_
        simp only [List.take_succ_cons, List.take_zero, List.drop_succ_cons, List.drop_zero]
        repeat (go_big_quiet_step (fail))
        refine wpQuiet_nil ?_
        go_wp2_with fail
        go_roundw
        case rel => exact ⟨i + 1, by omega, by go_num, GrY.drew (GrY.setCell y7 rfl _), (Own.other p0 (Or.inr (by omega))).gr (Gr.drew (Gr.refl _)), by rw [HU.out]; exact (Own.set p1).gr (Gr.drew (Gr.refl _)), (m7.grx (R := w.heap.size + 4) (GrX.setCell (GrX.refl (w.heap.size + 4) _) (by rfl) _) (by have := HMB.out; omega)).gr (Gr.drew (Gr.refl _))⟩
        case measure => simp [intOf]; omega
    · obtain rfl : i = n := by omega
      have s1 := S1.out i (Nat.le_refl _); have s3 := S3.out i (Nat.le_refl _)
      generalize f1 i = a at *
      generalize f3 i = u at *
      clear BI S1 N1 IX hlt hi X1 Y1 X2 Y2 B1 B2 B3 B4 V1 V2 Q1 Q2 S3 N3 HM0 SZ
      have k1 : wr.cell? ⟨w.heap.size, 1, none⟩ = some (.slice A2 l c2) := GrY.at hg (by omega) (by have := HMB.out; omega) k0_1
      go_wp2_with fail
      go_loopw [86] (fun q wr => ∃ k : Nat, k ≤ l ∧ q = .int .i64 (k : Int) ∧ GrY (w.heap.size + 4) MB W0 wr ∧ Own wr (w.heap.size + 4) 0 (.int .i64 (a + f2 k)) ∧ Own wr (w.heap.size + 4) 1 (.int .i64 (u + f4 k)) ∧ MapIs Tryz.prog 9 wr MB i (Ba.mpF D i)) (fun q _ => l - (intOf q).toNat)
      case atStart => exact ⟨0, Nat.zero_le _, rfl, hg, by rw [zz.out.2.1, Int.add_zero]; exact ho0, by rw [zz.out.2.2.2, Int.add_zero]; exact ho1, hm⟩
      case round =>
        clear hg ho0 ho1 hm gr k1 HSW hsw
        rename_i wz
        obtain ⟨k, hk, rfl, hg, ho0, ho1, hm⟩ := hrel
        have hsw : w.heap.size + 6 ≤ wr.heap.size := by have := HW0.out; have := hg.size; omega
        have gr : Gr w wr := GrY.below g0 (by omega) (by have := HMB.out; omega) hg
        by_cases hlt : k < l
        · obtain rfl := KA.out (by omega); obtain rfl := PA.out (by omega)
          have et := HE2.out k hlt; have ef := HE1.out k hlt
          obtain rfl := HA.out (by omega); obtain rfl := MA.out (by omega)
          obtain ⟨a0, a1, a2, a3, a4, a5, a6, a7, a8, a9, a10⟩ := (KX.out k hlt).1.gr gr
          have n0 : wr.cell? ⟨w.heap.size, 0, none⟩ = some (.slice (some ⟨b, o, none⟩) i c) := GrY.at hg (by omega) (by have := HMB.out; omega) k0_0
          have v0 := Gr.at gr (PX.out k hlt).1
          have m0 := Gr.at gr (MX.out (t k) et); have m1 := Gr.at gr (MX.out (f k) ef)
          have q0 := ((HX.out (t k) et).1.gr gr).2.1
          have hb1 : b4 < w.heap.size := World.block_lt_of_cell? _ _ (PX.out k hlt).1
          have hb2 : b < w.heap.size := World.block_lt_of_cell? _ _ (HX.out (t k) et).1.1
          have hb3 : b5 < w.heap.size := World.block_lt_of_cell? _ _ (MX.out (t k) et)
          have e0 := BP.out k hlt
          have s0 := S2.out k hk; have s4 := S4.out k hk
          have HT := Lib.hid (N2.out k); have HU := Lib.hid (N4.out k)
          have HF := Lib.hid (HMF.out k hlt); have HG := Lib.hid (HMT.out k hlt)
          have zf := SF.out k hlt; have zt := ST.out k hlt
          clear BP S2 N2 KX PX HMF HMT HE1 HE2 HX MX HR zz IA S4 N4 SF ST HL
          generalize f2 k = x5 at *
          generalize f4 k = x6 at *
          generalize Y k = x at *
          generalize t k = j at *
          generalize f k = jf at *
          (try simp only at HF HG)
          generalize (D j).kd = kd at *
          generalize E k = d at *
          have ib0 : (0 : Int) ≤ (k : Int) := by omega
          have ib1 : (k : Int) < (l : Int) := by omega
          have ib2 : (0 : Int) ≤ (j : Int) := by omega
          have ib3 : (j : Int) < (i : Int) := by omega
          have ib4 : (0 : Int) ≤ (jf : Int) := by omega
          have ib5 : (jf : Int) < (i : Int) := by omega
          have zb1 : b4 ≠ w.heap.size + 4 := by omega
          have zb2 : b ≠ w.heap.size + 4 := by omega
          have zb3 : b5 ≠ w.heap.size + 4 := by omega
          generalize M j = q at *
          generalize M jf = qf at *
          go_wp2_with fail
          (first | refine name_world ?_ | refine (show (∀ W, W = _ → Calls _ _ _ W _) → Calls _ _ _ _ _ from fun h => h _ rfl) ?_); intro W3 hW3
          have g3 : Gr w W3 := by rw [hW3]; exact gr_auto
          have gb3_wr : Gr wr W3 := by (try clear g3); rw [hW3]; exact gr_auto
          have k3_0 : W3.cell? ⟨wr.heap.size, 1, none⟩ = some (.string d.fr) := by rw [hW3]; first | (simp [go_sem, *]; done) | (refine Gr.at ?_ (by assumption); exact gr_auto)
          have b3_0 : wr.heap.size < W3.heap.size := World.block_lt_of_cell? _ _ k3_0
          have k3_1 : W3.cell? ⟨wr.heap.size, 2, none⟩ = some (.string d.tt) := by rw [hW3]; first | (simp [go_sem, *]; done) | (refine Gr.at ?_ (by assumption); exact gr_auto)
          have k3_2 : W3.cell? ⟨b4, o4 + k, none⟩ = some (.int .i64 x) := by rw [hW3]; first | (simp [go_sem, *]; done) | (refine Gr.at ?_ (by assumption); exact gr_auto)
          have b3_2 : b4 < W3.heap.size := World.block_lt_of_cell? _ _ k3_2
          have k3_3 : W3.cell? ⟨b5, o5 + jf, none⟩ = some (.bool qf) := by rw [hW3]; first | (simp [go_sem, *]; done) | (refine Gr.at ?_ (by assumption); exact gr_auto)
          have b3_3 : b5 < W3.heap.size := World.block_lt_of_cell? _ _ k3_3
          have k3_4 : W3.cell? ⟨b5, o5 + j, none⟩ = some (.bool q) := by rw [hW3]; first | (simp [go_sem, *]; done) | (refine Gr.at ?_ (by assumption); exact gr_auto)
          have k3_5 : W3.cell? ⟨w.heap.size, 0, none⟩ = some (.slice (some ⟨b, o, none⟩) i c) := by rw [hW3]; first | (simp [go_sem, *]; done) | (refine Gr.at ?_ (by assumption); exact gr_auto)
          have b3_5 : w.heap.size < W3.heap.size := World.block_lt_of_cell? _ _ k3_5
          have k3_6 : W3.cell? ⟨b, o + j * 9 + 1, none⟩ = some (.int .i64 kd) := by rw [hW3]; first | (simp [go_sem, *]; done) | (refine Gr.at ?_ (by assumption); exact gr_auto)
          have b3_6 : b < W3.heap.size := World.block_lt_of_cell? _ _ k3_6
          clear hW3
          have s3_0 : ∀ gw : GW W3, gw.1.cell? ⟨wr.heap.size, 1, none⟩ = some (.string d.fr) := fun gw => Gr.at gw.2 k3_0
          have s3_1 : ∀ gw : GW W3, gw.1.cell? ⟨wr.heap.size, 2, none⟩ = some (.string d.tt) := fun gw => Gr.at gw.2 k3_1
          have s3_2 : ∀ gw : GW W3, gw.1.cell? ⟨b4, o4 + k, none⟩ = some (.int .i64 x) := fun gw => Gr.at gw.2 k3_2
          have s3_3 : ∀ gw : GW W3, gw.1.cell? ⟨b5, o5 + jf, none⟩ = some (.bool qf) := fun gw => Gr.at gw.2 k3_3
          have s3_4 : ∀ gw : GW W3, gw.1.cell? ⟨b5, o5 + j, none⟩ = some (.bool q) := fun gw => Gr.at gw.2 k3_4
          have s3_5 : ∀ gw : GW W3, gw.1.cell? ⟨w.heap.size, 0, none⟩ = some (.slice (some ⟨b, o, none⟩) i c) := fun gw => Gr.at gw.2 k3_5
          have s3_6 : ∀ gw : GW W3, gw.1.cell? ⟨b, o + j * 9 + 1, none⟩ = some (.int .i64 kd) := fun gw => Gr.at gw.2 k3_6
          have L1 : ∀ gw : GW W3, (Instr.lookup 105 (.map (some MB)) (.string d.fr) false).run Tryz.prog gw.1 = .ok (.int .i64 (jf : Int)) gw.1 := fun gw => by have hk := MapIs.look (z := .int .i64 0) (key := .string d.fr) false ((hm.gr gb3_wr).gr gw.2) keyed_s Tryz.underlying105 (zero_int _) (Go.WideMaps.keyOf_string_mk Tryz.underlying9 (by unfold maxLen; exact zf)); rw [HF.out] at hk; simpa using hk
          have L2 : ∀ gw : GW W3, (Instr.lookup 105 (.map (some MB)) (.string d.tt) false).run Tryz.prog gw.1 = .ok (.int .i64 (j : Int)) gw.1 := fun gw => by have hk := MapIs.look (z := .int .i64 0) (key := .string d.tt) false ((hm.gr gb3_wr).gr gw.2) keyed_s Tryz.underlying105 (zero_int _) (Go.WideMaps.keyOf_string_mk Tryz.underlying9 (by unfold maxLen; exact zt)); rw [HG.out] at hk; simpa using hk
          refine wp_region_gr (by kernel_rfl) (by kernel_rfl) ?_
          repeat (go_big_quiet_step (fail))
          refine wpQuiet_nil ?_
          intro w4 hb4
          clear s3_0 s3_1 s3_2 s3_3 s3_4 s3_5 s3_6
          have g4 : Gr w w4 := g3.trans hb4
          have k3_0 := Gr.at hb4 k3_0
          have k3_1 := Gr.at hb4 k3_1
          have k3_2 := Gr.at hb4 k3_2
          have k3_3 := Gr.at hb4 k3_3
          have k3_4 := Gr.at hb4 k3_4
          have k3_5 := Gr.at hb4 k3_5
          have k3_6 := Gr.at hb4 k3_6
          clear L1 L2 n0 v0 m0 m1 q0 a0 a1 a2 a3 a4 a5 a6 a7 a8 a9 a10
          have y4 := (hg.gr gb3_wr).gr hb4
          have o0 := (ho0.gr gb3_wr).gr hb4
          have o1 := (ho1.gr gb3_wr).gr hb4
          have m4 := (hm.gr gb3_wr).gr hb4
          clear hg ho0 ho1 hm gr
          cases q
          · simp only [Bool.false_and, Bool.false_eq_true, if_false, Int.add_zero] at HT HU
            cases qf
            · simp only [Bool.false_and, Bool.false_eq_true, if_false, Int.add_zero] at HT
              go_wp2_with fail
              go_roundw
              case rel => exact ⟨k + 1, by omega, by go_num, y4, by rw [HT.out]; exact o0, by rw [HU.out]; exact o1, m4⟩
              case measure => simp [intOf]; omega
            · simp only [Bool.not_false, Bool.and_self, if_true] at HT
              go_wp2_with fail
              have r0 := o0.1; have r0f := o0.2
              refine wp_region_tail 8 (by kernel_rfl) (by kernel_rfl) ?_
              simp only [List.take_succ_cons, List.take_zero, List.drop_succ_cons, List.drop_zero]
              repeat (go_big_quiet_step (fail))
              refine wpQuiet_nil ?_
              go_wp2_with fail
              go_roundw
              case rel => exact ⟨k + 1, by omega, by go_num, GrY.drew (GrY.setCell y4 rfl _), by rw [HT.out, show a + (x5 + (0 - x)) = a + x5 - x by omega]; exact (Own.set o0).gr (Gr.drew (Gr.refl _)), by rw [HU.out]; exact (Own.other o1 (Or.inr (by omega))).gr (Gr.drew (Gr.refl _)), (m4.grx (R := w.heap.size + 4) (GrX.setCell (GrX.refl (w.heap.size + 4) _) (by rfl) _) (by have := HMB.out; omega)).gr (Gr.drew (Gr.refl _))⟩
              case measure => simp [intOf]; omega
          cases qf
          · simp only [Bool.not_false, Bool.and_self, if_true] at HT
            cases t0 : (kd == 3)
            · rw [t0, if_neg (by simp), Int.add_zero] at HU
              go_wp2_with fail
              have r0 := o0.1; have r0f := o0.2
              refine wp_region_tail 8 (by kernel_rfl) (by kernel_rfl) ?_
              simp only [List.take_succ_cons, List.take_zero, List.drop_succ_cons, List.drop_zero]
              repeat (go_big_quiet_step (fail))
              refine wpQuiet_nil ?_
              go_wp2_with fail
              go_roundw
              case rel => exact ⟨k + 1, by omega, by go_num, GrY.drew (GrY.setCell y4 rfl _), by rw [HT.out, ← Int.add_assoc]; exact (Own.set o0).gr (Gr.drew (Gr.refl _)), by rw [HU.out]; exact (Own.other o1 (Or.inr (by omega))).gr (Gr.drew (Gr.refl _)), (m4.grx (R := w.heap.size + 4) (GrX.setCell (GrX.refl (w.heap.size + 4) _) (by rfl) _) (by have := HMB.out; omega)).gr (Gr.drew (Gr.refl _))⟩
              case measure => simp [intOf]; omega
            · rw [t0, if_pos (show (true && true) = true from rfl)] at HU
              go_wp2_with fail
              have r0 := o0.1; have r0f := o0.2
              refine wp_region_tail 8 (by kernel_rfl) (by kernel_rfl) ?_
              simp only [List.take_succ_cons, List.take_zero, List.drop_succ_cons, List.drop_zero]
              repeat (go_big_quiet_step (fail))
              refine wpQuiet_nil ?_
              go_wp2_with fail
              refine name_world ?_; intro W7 hW7
              have y7 : GrY (w.heap.size + 4) MB W0 W7 := by rw [hW7]; exact GrY.drew (GrY.setCell y4 rfl _)
              have p0 : Own W7 (w.heap.size + 4) 0 (.int .i64 (a + f2 (k + 1))) := by rw [hW7, HT.out, ← Int.add_assoc]; exact (Own.set o0).gr (Gr.drew (Gr.refl _))
              have p1 : Own W7 (w.heap.size + 4) 1 (.int .i64 (u + x6)) := by rw [hW7]; exact (Own.other o1 (Or.inr (by omega))).gr (Gr.drew (Gr.refl _))
              have m7 : MapIs Tryz.prog 9 W7 MB i (Ba.mpF D i) := by rw [hW7]; exact (m4.grx (R := w.heap.size + 4) (GrX.setCell (GrX.refl (w.heap.size + 4) _) (by rfl) _) (by have := HMB.out; omega)).gr (Gr.drew (Gr.refl _))
              have x7 : W7.cell? ⟨b4, o4 + k, none⟩ = some (.int .i64 x) := by rw [hW7]; exact Gr.at (Gr.drew (Gr.refl _)) (GrX.at (R := w.heap.size + 4) (GrX.setCell (GrX.refl (w.heap.size + 4) _) (by rfl) _) zb1 k3_2)
              clear hW7 r0 r0f o0 o1 m4 y4
              have r0 := p1.1; have r0f := p1.2
              refine wp_region_tail 8 (by kernel_rfl) (by kernel_rfl) ?_
              simp only [List.take_succ_cons, List.take_zero, List.drop_succ_cons, List.drop_zero]
              repeat (go_big_quiet_step (fail))
              refine wpQuiet_nil ?_
              go_wp2_with fail
              go_roundw
              case rel => exact ⟨k + 1, by omega, by go_num, GrY.drew (GrY.setCell y7 rfl _), (Own.other p0 (Or.inr (by omega))).gr (Gr.drew (Gr.refl _)), by rw [HU.out, ← Int.add_assoc]; exact (Own.set p1).gr (Gr.drew (Gr.refl _)), (m7.grx (R := w.heap.size + 4) (GrX.setCell (GrX.refl (w.heap.size + 4) _) (by rfl) _) (by have := HMB.out; omega)).gr (Gr.drew (Gr.refl _))⟩
              case measure => simp [intOf]; omega
          · simp only [Bool.not_true, Bool.and_false, Bool.false_eq_true, if_false, Int.add_zero] at HT
            cases t0 : (kd == 3)
            · rw [t0, if_neg (by simp), Int.add_zero] at HU
              go_wp2_with fail
              go_roundw
              case rel => exact ⟨k + 1, by omega, by go_num, y4, by rw [HT.out]; exact o0, by rw [HU.out]; exact o1, m4⟩
              case measure => simp [intOf]; omega
            · rw [t0, if_pos (show (true && true) = true from rfl)] at HU
              go_wp2_with fail
              have r0 := o1.1; have r0f := o1.2
              refine wp_region_tail 8 (by kernel_rfl) (by kernel_rfl) ?_
              simp only [List.take_succ_cons, List.take_zero, List.drop_succ_cons, List.drop_zero]
              repeat (go_big_quiet_step (fail))
              refine wpQuiet_nil ?_
              go_wp2_with fail
              go_roundw
              case rel => exact ⟨k + 1, by omega, by go_num, GrY.drew (GrY.setCell y4 rfl _), by rw [HT.out]; exact (Own.other o0 (Or.inr (by omega))).gr (Gr.drew (Gr.refl _)), by rw [HU.out, ← Int.add_assoc]; exact (Own.set o1).gr (Gr.drew (Gr.refl _)), (m4.grx (R := w.heap.size + 4) (GrX.setCell (GrX.refl (w.heap.size + 4) _) (by rfl) _) (by have := HMB.out; omega)).gr (Gr.drew (Gr.refl _))⟩
              case measure => simp [intOf]; omega
        · obtain rfl : k = l := by omega
          have r0 := ho0.1; have r0f := ho0.2; have r1 := ho1.1
          have s2 := S2.out k (Nat.le_refl _); have s4 := S4.out k (Nat.le_refl _)
          have er : r = a + f2 k - (u + f4 k) := by rw [HR.out, HL.out]; omega
          have el : lo = u + f4 k := HL.out
          subst er el
          clear HR HL S2 S4 N2 N4 HMF HMT HE1 HE2
          obtain ⟨x5, hx5⟩ : ∃ x, f2 k = x := ⟨_, rfl⟩
          obtain ⟨x6, hx6⟩ : ∃ x, f4 k = x := ⟨_, rfl⟩
          rw [hx5] at s2 ho0 r0
          rw [hx6] at s4 ho1 r1
          have HX5 := Lib.hid hx5; have HX6 := Lib.hid hx6
          clear hx5 hx6
          have o3 := Own.gry ho3 hg (by omega) (by have := HMB.out; omega)
          have o4 := Own.gry ho4 hg (by omega) (by have := HMB.out; omega)
          have r3 := o3.1; have r3f := o3.2; have r4 := o4.1; have r4f := o4.2
          go_wp2_with fail
          have F3 : (((wr.setCell ⟨w.heap.size + 1 + 1 + 1 + 1, 0, none⟩ (.int .i64 (a + x5 - (u + x6)))).setCell ⟨w.heap.size + 1 + 1 + 1, 0, none⟩ (.int .i64 (a + x5 - (u + x6)))).setCell ⟨w.heap.size + 1 + 1 + 1, 1, none⟩ (.int .i64 (u + x6))).cell? ⟨w.heap.size + 1 + 1 + 1, 0, none⟩ = some (.int .i64 (a + x5 - (u + x6))) := (Own.other (Own.set (Own.other (b := w.heap.size + 3) o3 (Or.inl (by omega)))) (Or.inr (by omega))).1
          have F4 : (((wr.setCell ⟨w.heap.size + 1 + 1 + 1 + 1, 0, none⟩ (.int .i64 (a + x5 - (u + x6)))).setCell ⟨w.heap.size + 1 + 1 + 1, 0, none⟩ (.int .i64 (a + x5 - (u + x6)))).setCell ⟨w.heap.size + 1 + 1 + 1, 1, none⟩ (.int .i64 (u + x6))).cell? ⟨w.heap.size + 1 + 1 + 1, 1, none⟩ = some (.int .i64 (u + x6)) := (Own.set (Own.other (Own.other (b := w.heap.size + 3) o4 (Or.inl (by omega))) (Or.inr (by omega)))).1
          refine bodyPost_ret (by simp [results, Tryz.results41, go_sem, F3, F4]; try rfl) rfl ?_
          exact ⟨by rw [HX5.out, HX6.out], gr_auto⟩
end Go.Proofs.YtkgbbcmgfbipaaaGreatDoor
