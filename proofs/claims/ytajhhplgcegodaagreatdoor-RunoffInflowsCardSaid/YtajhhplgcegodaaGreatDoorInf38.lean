/-
  Runoff.Inflows of what is right answers RetIn. (Printed by mkrh.py.)
-/
import Derived.Test.YtajhhplgcegodaaGreatDoorInf37
import Derived.Maps.AppendAt
set_option linter.unusedVariables false
set_option linter.unusedSimpArgs false
namespace Go.Proofs.YtajhhplgcegodaaGreatDoor
open Go.RowKit
attribute [local go_sem ↓] Go.wp_at_zero Go.wp_at_succ
set_option maxRecDepth 100000 in
set_option maxHeartbeats 8000000 in
theorem inflows_ok (m : Ms.Mesh) (C : Ba.SlClass) (P : Ba.SlI) (N : Ba.SlS) (U : Ba.SlU) (s : Ba.Ser) (w : World) (hm : m.At w) (hsm : m.S.n ≤ 61 ∧ m.F.n ≤ 61) (hC : C.At w) (hP : P.At w) (hN : N.At w) (hU : U.At w) (hS : s.Ok w) (hC1 : 1 ≤ C.n) (hC2 : C.n ≤ 16) (hds : s.ds.n ≤ 1000) (h : Ba.riE m C P N U s = 0) : Calls Tryz.prog 23 #[m.val, .slice C.A C.n C.c, .slice P.A P.n P.c, .slice N.A N.n N.c, .slice U.A U.n U.c, s.val] w (RetIn m C P N U s w) := by
  obtain ⟨z1, -, -, -, -, z6, z7, z8, -, z10, z11⟩ := Ba.riE_zero h
  have hbad : Ba.any (Ba.badA P) P.n = false := by
    cases e : Ba.any (Ba.badA P) P.n with
    | false => rfl
    | true =>
      obtain ⟨i, hi, e⟩ := (Ms.any_iff _ _).1 e
      have : Ba.badI P N.n i = false := by
        cases q : Ba.badI P N.n i with
        | false => rfl
        | true => rw [Ms.any_hit q hi] at z10; cases z10
      unfold Ba.badA at e; unfold Ba.badI at this
      simp only [Bool.or_eq_true, Bool.or_eq_false_iff, decide_eq_true_eq, decide_eq_false_iff_not] at e this
      omega
  have hk : ∀ i, i < m.F.n → (m.F.D i).k < (C.n : Int) := fun i hi => by
    have : Ba.badK m C.n i = false := by
      cases q : Ba.badK m C.n i with
      | false => rfl
      | true => rw [Ms.any_hit q hi] at z11; cases z11
    unfold Ba.badK at this
    rw [decide_eq_false_iff_not] at this; omega
  have HR := Lib.hid (fun W (hW : Gr w W) => right_any m C P N U s W ⟨hm.s.gr hW, hm.f.gr hW⟩ (Or.inr hsm) (hC.gr hW) (hP.gr hW) (hN.gr hW) (hU.gr hW) (hS.gr hW))
  rw [h] at HR
  have HA := Lib.hid (fun W (hW : Gr w W) => ar_ok m P C.n W ⟨hm.s.gr hW, hm.f.gr hW⟩ (hP.gr hW) hsm z1 z7 hC1 hC2 hbad hk)
  have HM := Lib.hid (fun r B W (hr : r < Ba.arK P.X P.n) (hw : Row W B C.n (fun c => .int .i64 (Ba.arS m P.X P.n r c))) => metres_row z1 z7 hsm.2 hC2 hr hw)
  have HO := Lib.hid (fun i A c b o W (hi : i < U.n) (hW : Gr w W) ha => of_at m C P U s i A c b o W (hC.gr hW) ha ((hU.hX i hi).2.gr hW) (hS.gr hW) hds)
  have HOX := Lib.hid (fun i c (hi : ¬ i < Ba.arK P.X P.n) => show Ba.ownX m P C.n i c = 0 from by unfold Ba.ownX; rw [if_neg hi])
  have HUX := Lib.hid (fun i (hi : i < U.n) => (hU.hX i hi).1)
  have HNX := Lib.hid (fun i (hi : i < N.n) => (hN.hX i hi).1)
  have HNA := Lib.hid hN.hA; have HUA := Lib.hid hU.hA
  have l1 := Nat.le_trans hC.hc hC.hb; have l2 := Nat.le_trans hN.hc hN.hb; have l3 := Nat.le_trans hU.hc hU.hb
  unfold RetAr at HA
  unfold RetIn
  rw [z8] at HO HUX HUA HR l3 ⊢
  clear z8
  clear hbad hk h z1 z7 z10 z11 hm hsm hC hP hN hS hds hU
  have HIV := Lib.hid (fun i (r : Ba.SlI) => show inV m C P U s i r ↔ (r.n = Ba.ofN C (Ba.ownS m P C.n i) (U.X i) s ∧ ∀ j, j < r.n → r.X j = Ba.ofX C (Ba.ownS m P C.n i) (U.X i) s j) from Iff.rfl)
  generalize Ba.arK P.X P.n = K at *
  generalize Ba.arS m P.X P.n = AS at *
  generalize Ba.ownX m P C.n = OX at *
  generalize Ba.inE m C P U s = er at *
  obtain ⟨j1, hj0, hz0, hz1, hz2⟩ := info_parts info_int
  have KI := Lib.hid hj0; have KZ0 := Lib.hid hz0; have KZ1 := Lib.hid hz1; have KZ2 := Lib.hid hz2
  clear hj0 hz0 hz1 hz2
  obtain ⟨j2, hj0, hz0, hz1, hz2⟩ := info_parts info_inflow
  have LI := Lib.hid hj0; have LZ0 := Lib.hid hz0; have LZ1 := Lib.hid hz1; have LZ2 := Lib.hid hz2
  clear hj0 hz0 hz1 hz2
  unfold Ms.Mesh.val Ba.Ser.val at *
  generalize m.S.A = sA at *; generalize m.S.n = sn at *; generalize m.S.c = sc at *; generalize m.F.A = fA at *; generalize m.F.n = fn at *; generalize m.F.c = fc at *
  generalize s.fr = fr at *; generalize s.st = st at *; generalize s.ds.A = dA at *; generalize s.ds.n = dn at *; generalize s.ds.c = dc at *
  generalize P.A = pA at *; generalize P.n = pn at *; generalize P.c = pc at *
  generalize C.A = cA at *; generalize C.n = cn at *; generalize C.c = cc at *
  generalize N.A = nA at *; generalize N.n = nn at *; generalize N.c = nc at *
  generalize U.A = uA' at *; generalize U.c = uc' at *
  generalize N.b = nb at *; generalize N.o = no_ at *; generalize U.b = ub at *; generalize U.o = uo at *
  go_enter Tryz.func23, Tryz.ntmps23
  go_wp2_with fail
  refine (HR.out _ (by exact gr_auto)).mono ?_
  rintro e w1 ⟨rfl, hb1⟩
  have g1 : Gr w w1 := Gr.trans (by exact gr_auto) hb1
  have d0 := Gr.at hb1 (b := w.heap.size) (o := 0) (v := .slice sA sn sc) (by simp [go_sem])
  have d1 := Gr.at hb1 (b := w.heap.size) (o := 1) (v := .slice fA fn fc) (by simp [go_sem])
  have d2 := Gr.at hb1 (b := w.heap.size + 1) (o := 0) (v := .int .i64 fr) (by simp [go_sem])
  have d3 := Gr.at hb1 (b := w.heap.size + 1) (o := 1) (v := .int .i64 st) (by simp [go_sem])
  have d4 := Gr.at hb1 (b := w.heap.size + 1) (o := 2) (v := .slice dA dn dc) (by simp [go_sem])
  clear HR hb1
  go_wp2_with fail
  refine (HA.out _ g1).mono ?_
  rintro e w2 ⟨v, B, rfl, h2, hb2⟩
  have g2 := g1.trans hb2
  have hal := ownsRow_at h2.out
  obtain ⟨VA, cp, bo, rfl, hVA, hc1, hc2, hcel⟩ := hal
  have HAR := Lib.hid h2
  have HCE := Lib.hid hcel; have HVA := Lib.hid hVA
  replace d2 := Gr.at hb2 d2; replace d3 := Gr.at hb2 d3; replace d4 := Gr.at hb2 d4
  have HD := Lib.hid (And.intro d2 (And.intro d3 d4))
  clear d0 d1 d2 d3 d4 h2 hb2 HA hcel hVA g1
  go_wp2_with fail
  go_loopw [17, 46] (fun v x wr => ∃ i V, i ≤ nn ∧ x = .int .i64 (i : Int) ∧ Hid (InSt wr w2.heap.size v i N.X V) ∧ Hid (∀ j, j < i → er j = 0 ∧ inV m C P U s j (V j)) ∧ Gr w2 wr) (fun _ x _ => nn - (intOf x).toNat)
  case atStart => exact ⟨0, fun _ => ⟨none, 0, 0, 0, 0, fun _ => 0⟩, Nat.zero_le _, rfl, Lib.hid (InSt.nil _ _ _ _), Lib.hid (fun j hj => absurd hj (Nat.not_lt_zero j)), Gr.refl _⟩
  case round =>
    obtain ⟨i, V, hi, rfl, HI, HE, hg⟩ := hrel
    rename World => W1
    by_cases hlt : i < nn
    · obtain rfl := HNA.out (by omega); obtain rfl := HUA.out (by omega)
      obtain ⟨OA, oc, ob, rfl, -⟩ := HI.out.opened
      have ib0 : (0 : Int) ≤ (i : Int) := by omega
      have ib1 : (i : Int) < (nn : Int) := by omega
      have gw := g2.trans hg
      have n0 := Gr.at gw (HNX.out i hlt)
      have u0 := Gr.at gw (HUX.out i hlt)
      have e2 := Gr.at hg HD.out.1; have e3 := Gr.at hg HD.out.2.1; have e4 := Gr.at hg HD.out.2.2
      have HOi := Lib.hid (fun A c b o W hW ha => HO.out i A c b o W hlt hW ha)
      have HOXi := Lib.hid (fun c hi => HOX.out i c hi)
      have hgs := Gr.size hg
      clear HO HOX HUX HNX HNA HUA
      obtain ⟨uA, huA⟩ : ∃ q, (U.X i).A = q := ⟨_, rfl⟩
      obtain ⟨un, hun⟩ : ∃ q, (U.X i).n = q := ⟨_, rfl⟩
      obtain ⟨uc, huc⟩ : ∃ q, (U.X i).c = q := ⟨_, rfl⟩
      rw [huA, hun, huc] at u0 HOi
      clear huA hun huc
      have bln := World.block_lt_of_cell? _ _ n0
      simp only at bln
      go_wp2_with (at_make; refine wpList_make_full _ rfl _ _ _ rfl W1.heap.size 3 j1 (.int .i64 0) 1 Tryz.underlying26 KI.out KZ0.out KZ1.out .i64 .i64 cn cn cn rfl rfl rfl rfl ?d1 ?d2 ?d3 ?_)
      case d1 => rw [KZ2.out]; omega
      case d2 => unfold maxLen; omega
      case d3 => exact Nat.le_refl _
      intro w4 hown hgrow
      have hrow := Lib.hid (made_row hown)
      have G14 : Gr W1 w4 := Gr.own (Gr.refl _) (Nat.le_refl _) (n := 0) (e := 3) (size := 1) (xs := []) (v := .slice none 0 0) ⟨rfl, Or.inl ⟨rfl, rfl⟩⟩ hgrow
      clear hown hgrow
      replace u0 := Gr.at G14 u0; replace e2 := Gr.at G14 e2; replace e3 := Gr.at G14 e3; replace e4 := Gr.at G14 e4
      clear n0
      by_cases hik : i < K
      · have kb1 : (i : Int) < (K : Int) := by omega
        obtain rfl := HVA.out (by omega)
        have f0 := HCE.out i hik
        rw [rv_get B cn hik] at f0
        replace f0 := Gr.at (hg.trans G14) f0
        have HMi := Lib.hid (HM.out i (B i) w4 hik ((HAR.out.row i hik).gr (hg.trans G14)))
        have blf := World.block_lt_of_cell? _ _ f0
        simp only at blf
        clear HM HCE
        go_wp2_with fail
        refine HMi.out.mono ?_
        rintro e w5 ⟨A5, c5, b5, o5, rfl, ha, hb5⟩
        have GY := Gr.refl w5
        have GX := g2.trans (hg.trans (G14.trans hb5))
        replace u0 := Gr.at hb5 u0; replace e2 := Gr.at hb5 e2; replace e3 := Gr.at hb5 e3; replace e4 := Gr.at hb5 e4
        clear f0 HMi
        go_wp2_with fail
        go_upto_region 16 with fail
        have s0 : ∀ w', Gr w5 w' → w'.cell? ⟨ub, uo + i, none⟩ = some (.slice uA un uc) := fun w' hgW => Gr.at hgW u0
        have s1 : ∀ w', Gr w5 w' → w'.cell? ⟨w.heap.size + 1, 0, none⟩ = some (.int .i64 fr) := fun w' hgW => Gr.at hgW e2
        have s2 : ∀ w', Gr w5 w' → w'.cell? ⟨w.heap.size + 1, 1, none⟩ = some (.int .i64 st) := fun w' hgW => Gr.at hgW e3
        have s3 : ∀ w', Gr w5 w' → w'.cell? ⟨w.heap.size + 1, 2, none⟩ = some (.slice dA dn dc) := fun w' hgW => Gr.at hgW e4
        clear u0 e2 e3 e4
        go_region_held3 (fun w' => Gr w5 w') (exact gr_auto) ((go_at_call 57; refine (HOi.out _ _ _ _ _ (Gr.drew GX) (ha.gr (Gr.drew (Gr.refl _)))).mono ?_; rintro e w7 ⟨r, rfl, r1, r2, r3, r5, hb7⟩))
        have hg7 : Gr w5 w7 := by assumption
        by_cases hz : er i = 0
        · have q0 : (er i != 0) = false := by rw [hz]; rfl
          have hv := Lib.hid (r2 hz)
          have HZ := Lib.hid hz
          have G17 : Gr W1 w7 := G14.trans (hb5.trans hg7)
          have HI7 := Lib.hid (HI.out.gr G17).out
          have hgs7 := Gr.size G17
          clear s0 s1 s2 s3 hz
          go_upto_region 19 with fail
          go_wp2_with (at_builtin; refine wpList_append_lies _ rfl _ _ 53 rfl w2.heap.size 92 j2 (.agg #[.string ⟨#[]⟩, .slice none 0 0]) 2 40 Tryz.underlying53 LI.out LZ0.out LZ1.out LZ2.out rfl (by decide) (.slice OA i oc) i (fl N.X V i) rfl (ownsRow_gr HI7.out (Gr.alloc (Gr.refl w7) _)) ⟨w7.heap.size, 0, none⟩ 1 1 [.string (N.X i), .slice r.A r.n r.c] rfl rfl (by intro p u hp; rcases p with _ | _ | p <;> simp at hp <;> (try subst hp) <;> first | (simp [Addr.add, go_sem]; done) | (simp [Addr.add]; done)) (by intro u hu; simp at hu; rcases hu with rfl | rfl <;> rfl) (by decide) (by unfold maxLen; omega) (by omega) (by simp; omega) _ rfl ?_)
          intro GG pp w8 ho hr ht8 hl8
          have hf : 0 < r.n → W1.heap.size ≤ r.b := fun hn => by
            have a := Gr.size (G14.trans hb5); have b := r5 hn; have c : w5.drew.heap.size = w5.heap.size := rfl
            omega
          have GA : Gr w7 (w7.alloc (Obj.cells #[.string (N.X i), .slice r.A r.n r.c] 92)) := Gr.alloc (Gr.refl w7) _
          have HI8 := Lib.hid (HI.out.push (G17.trans GA) (r1.gr GA) hf ho hr (by rcases ht8 with q | q; exact .inl q.symm; exact .inr (by show some GG = _; rw [q]; try simp)))
          have HE8 := Lib.hid (fun j (hj : j < i + 1) => show er j = 0 ∧ inV m C P U s j ((fun q => if q = i then r else V q) j) from by
            by_cases e : j = i
            · subst e; simp only [if_true]; exact ⟨HZ.out, hv.out⟩
            · simp only [if_neg e]; exact HE.out j (by omega))
          have g28 : Gr w2 w8 := Gr.own (hg.trans (G17.trans GA)) (Nat.le_refl _) (ownsRow_gr HI7.out GA) hr
          clear ho hr ht8 hl8 HI7 HI HE
          go_wp2_with fail
          go_roundw
          case rel => exact ⟨i + 1, _, by omega, by go_num, HI8, HE8, g28⟩
          case measure => simp [intOf]; omega
        · have q0 : (er i != 0) = true := bne_iff_ne.2 hz
          clear s0 s1 s2 s3
          go_wp2_with fail
          go_ret2
          exact ⟨er i, none, 0, 0, 0, fun _ => ⟨none, 0, 0, 0, 0, fun _ => 0⟩, rfl, GX.trans hg7, fun h => absurd h hz, fun _ => ⟨rfl, i, hlt, rfl, fun j hj => (HE.out j hj).1⟩⟩
      · have kb1 : ¬ (i : Int) < (K : Int) := by omega
        have ha : Ba.SlI.At w4 ⟨some ⟨W1.heap.size, 0, none⟩, cn, cn, W1.heap.size, 0, OX i⟩ := row_sl (X := OX i) (fun j hj => by
          show Own w4 W1.heap.size j (.int .i64 (OX i j)); rw [HOXi.out j hik]; exact hrow.out j hj) (by omega) (fun j _ => by rw [HOXi.out j hik]; unfold Ba.i64; omega)
        have GY := Gr.refl w4
        have GX := g2.trans (hg.trans G14)
        clear HM HCE
        go_upto_region 16 with fail
        have s0 : ∀ w', Gr w4 w' → w'.cell? ⟨ub, uo + i, none⟩ = some (.slice uA un uc) := fun w' hgW => Gr.at hgW u0
        have s1 : ∀ w', Gr w4 w' → w'.cell? ⟨w.heap.size + 1, 0, none⟩ = some (.int .i64 fr) := fun w' hgW => Gr.at hgW e2
        have s2 : ∀ w', Gr w4 w' → w'.cell? ⟨w.heap.size + 1, 1, none⟩ = some (.int .i64 st) := fun w' hgW => Gr.at hgW e3
        have s3 : ∀ w', Gr w4 w' → w'.cell? ⟨w.heap.size + 1, 2, none⟩ = some (.slice dA dn dc) := fun w' hgW => Gr.at hgW e4
        clear u0 e2 e3 e4
        go_region_held3 (fun w' => Gr w4 w') (exact gr_auto) ((go_at_call 57; refine (HOi.out _ _ _ _ _ (Gr.drew GX) (ha.gr (Gr.drew (Gr.refl _)))).mono ?_; rintro e w7 ⟨r, rfl, r1, r2, r3, r5, hb7⟩))
        have hg7 : Gr w4 w7 := by assumption
        by_cases hz : er i = 0
        · have q0 : (er i != 0) = false := by rw [hz]; rfl
          have hv := Lib.hid (r2 hz)
          have HZ := Lib.hid hz
          have G17 : Gr W1 w7 := G14.trans hg7
          have HI7 := Lib.hid (HI.out.gr G17).out
          have hgs7 := Gr.size G17
          clear s0 s1 s2 s3 hz
          go_upto_region 19 with fail
          go_wp2_with (at_builtin; refine wpList_append_lies _ rfl _ _ 53 rfl w2.heap.size 92 j2 (.agg #[.string ⟨#[]⟩, .slice none 0 0]) 2 40 Tryz.underlying53 LI.out LZ0.out LZ1.out LZ2.out rfl (by decide) (.slice OA i oc) i (fl N.X V i) rfl (ownsRow_gr HI7.out (Gr.alloc (Gr.refl w7) _)) ⟨w7.heap.size, 0, none⟩ 1 1 [.string (N.X i), .slice r.A r.n r.c] rfl rfl (by intro p u hp; rcases p with _ | _ | p <;> simp at hp <;> (try subst hp) <;> first | (simp [Addr.add, go_sem]; done) | (simp [Addr.add]; done)) (by intro u hu; simp at hu; rcases hu with rfl | rfl <;> rfl) (by decide) (by unfold maxLen; omega) (by omega) (by simp; omega) _ rfl ?_)
          intro GG pp w8 ho hr ht8 hl8
          have hf : 0 < r.n → W1.heap.size ≤ r.b := fun hn => by
            have a := Gr.size (G14); have b := r5 hn; have c : w4.drew.heap.size = w4.heap.size := rfl
            omega
          have GA : Gr w7 (w7.alloc (Obj.cells #[.string (N.X i), .slice r.A r.n r.c] 92)) := Gr.alloc (Gr.refl w7) _
          have HI8 := Lib.hid (HI.out.push (G17.trans GA) (r1.gr GA) hf ho hr (by rcases ht8 with q | q; exact .inl q.symm; exact .inr (by show some GG = _; rw [q]; try simp)))
          have HE8 := Lib.hid (fun j (hj : j < i + 1) => show er j = 0 ∧ inV m C P U s j ((fun q => if q = i then r else V q) j) from by
            by_cases e : j = i
            · subst e; simp only [if_true]; exact ⟨HZ.out, hv.out⟩
            · simp only [if_neg e]; exact HE.out j (by omega))
          have g28 : Gr w2 w8 := Gr.own (hg.trans (G17.trans GA)) (Nat.le_refl _) (ownsRow_gr HI7.out GA) hr
          clear ho hr ht8 hl8 HI7 HI HE
          go_wp2_with fail
          go_roundw
          case rel => exact ⟨i + 1, _, by omega, by go_num, HI8, HE8, g28⟩
          case measure => simp [intOf]; omega
        · have q0 : (er i != 0) = true := bne_iff_ne.2 hz
          clear s0 s1 s2 s3
          go_wp2_with fail
          go_ret2
          exact ⟨er i, none, 0, 0, 0, fun _ => ⟨none, 0, 0, 0, 0, fun _ => 0⟩, rfl, GX.trans hg7, fun h => absurd h hz, fun _ => ⟨rfl, i, hlt, rfl, fun j hj => (HE.out j hj).1⟩⟩
    · obtain rfl : nn = i := by omega
      obtain ⟨OA, oc, ob, rfl, o1, o2, o3, o4⟩ := HI.out.opened
      have HO1 := Lib.hid o1; have HO4 := Lib.hid o4
      clear o1 o4
      go_wp2_with fail
      go_ret2
      exact ⟨0, OA, nn, oc, ob, V, rfl, g2.trans hg, fun _ => ⟨rfl, HO1.out, o2, o3, fun j hj => ⟨(HE.out j hj).1, (HO4.out j hj).1, (HO4.out j hj).2, HI.out.row j hj, ((HIV.out j (V j)).1 (HE.out j hj).2).1, ((HIV.out j (V j)).1 (HE.out j hj).2).2⟩⟩, fun h => absurd rfl h⟩
end Go.Proofs.YtajhhplgcegodaaGreatDoor
