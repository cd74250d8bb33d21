/-
  Runoff, the reference: the square metres of a node (sewershedref25.Metres). Typed.
-/
import Derived.Test.YtajhhplgcegodaaGreatDoorInf42
import Derived.Test.YtajhhplgcegodaaGreatDoorInf37
import Derived.Test.YtajhhplgcegodaaGreatDoorInf29

set_option linter.unusedVariables false
set_option linter.unusedSimpArgs false
namespace Go.Proofs.YtajhhplgcegodaaGreatDoor
open Go.RowKit
attribute [local go_sem ↓] Go.wp_at_zero Go.wp_at_succ
namespace Ba
theorem own_eq (m : Ms.Mesh) (P : SlI) (C r c : Nat) : ownX m P C r c = mtI (arS m P.X P.n r) C c := by
  unfold ownX
  by_cases h : r < arK P.X P.n
  · rw [if_pos h]
  · rw [if_neg h]
    have z : ∀ n, sumI (arS m P.X P.n r) n = 0 := fun n => sumI_zero fun i _ => arS_out (by omega)
    unfold mtI mtQ
    rw [if_pos (z C), if_pos (z C)]; rfl
end Ba
set_option maxRecDepth 100000 in
set_option maxHeartbeats 8000000 in
theorem rown_any (m : Ms.Mesh) (P : Ba.SlI) (C r : Nat) (w : World) (hm : m.At w) (hsm : m.S.n ≤ 61 ∧ m.F.n ≤ 61) (hP : P.At w) (hv : Ms.vlB m = true) (hn : P.n = m.F.n) (hC1 : 1 ≤ C) (hC2 : C ≤ 16) (hk : ∀ i, i < m.F.n → (m.F.D i).k < (C : Int)) :
    Calls Tryz.prog 64 #[m.val, .int .i64 (C : Int), .slice P.A P.n P.c, .int .i64 (r : Int)] w fun e w' => ∃ (A : Option Addr) (c b o : Nat), e = .returned (.slice A C c) ∧ Ba.SlI.At w' ⟨A, C, c, b, o, Ba.ownX m P C r⟩ ∧ Gr w w' := by
  have HTW := Lib.hid (fun i (hi : i < m.F.n) W (hW : Gr w W) => rs_Twice m i W ⟨hm.s.gr hW, hm.f.gr hW⟩ hv hi)
  have HPA := Lib.hid hP.hA; have HPX := Lib.hid (fun i (hi : i < P.n) => (hP.hX i hi).1)
  have HFA := Lib.hid hm.f.hA; have HFD := Lib.hid (fun i (hi : i < m.F.n) => (hm.f.hD i hi).1)
  have HFK := Lib.hid (fun i (hi : i < m.F.n) => show 0 ≤ (m.F.D i).k ∧ (m.F.D i).k < (C : Int) from ⟨Ba.fc_class (Ms.vl_fc hv hi), hk i hi⟩)
  have HB := Lib.hid (fun c k hk => Ba.arS_bd hv (P := P.X) r c k hk)
  have HSUM := Lib.hid (Ba.arS_sum hv (P := P.X) r C)
  have H0 := Lib.hid (fun c => show Ba.arS m P.X 0 r c = 0 from rfl)
  have HS := Lib.hid (fun (k c : Nat) (h1 : P.X k = (r : Int)) (h2 : (m.F.D k).k = (c : Int)) => Ba.arS_same (m := m) h1 h2)
  have HN := Lib.hid (fun (k c t : Nat) (h2 : (m.F.D k).k = (c : Int)) (h : t ≠ c) => Ba.arS_cl (m := m) (P := P.X) (r := r) h2 h)
  have HO := Lib.hid (fun k (h1 : P.X k ≠ (r : Int)) c => show Ba.arS m P.X (k + 1) r c = Ba.arS m P.X k r c from by
    rw [Ba.arS, if_neg (fun q => h1 q.1)]; omega)
  have HM := Lib.hid (fun B W (hw : Row W B C (fun c => .int .i64 (Ba.arS m P.X m.F.n r c))) => show Calls Tryz.prog 115 #[.slice (some ⟨B, 0, none⟩) C C] W fun e w' => ∃ (A : Option Addr) (c b o : Nat), e = .returned (.tuple #[.slice A C c, .int .i64 0]) ∧ Ba.SlI.At w' ⟨A, C, c, b, o, Ba.ownX m P C r⟩ ∧ Gr W w' from by
    have bd := fun c => Ba.arS_bd hv (P := P.X) r c m.F.n (Nat.le_refl _)
    have sm := Ba.arS_sum hv (P := P.X) r C m.F.n (Nat.le_refl _)
    have hs := row_sl hw (by omega) (fun j _ => by have := bd j; unfold Ba.i64; omega)
    refine (rmetres_ok ⟨some ⟨B, 0, none⟩, C, C, B, 0, Ba.arS m P.X m.F.n r⟩ W hs hC1 (by show C ≤ 1000; omega) (fun i _ => (bd i).1) (by show Ba.sumI (Ba.arS m P.X m.F.n r) C ≤ _; omega)).mono ?_
    rintro e w' ⟨⟨A, n, c, b, o, X⟩, rfl, h1, h2, h3, h4⟩
    simp only at h2 h3
    subst h2
    refine ⟨A, c, b, o, rfl, ⟨h1.hA, h1.hc, h1.hb, fun i hi => ?_⟩, h4⟩
    have q := h1.hX i hi
    simp only at q ⊢
    rw [h3 i hi] at q
    rw [Ba.own_eq, hn]
    exact q)
  have l1 := Nat.le_trans hm.f.hc hm.f.hb; have l3 := Nat.le_trans hP.hc hP.hb; have l61 := hsm.2
  clear hm hP hv hk hsm
  obtain ⟨TN, hTN⟩ : ∃ z : Nat → Int, (fun i => Ms.tTn (Ms.tri m (m.F.D i))) = z := ⟨_, rfl⟩
  have hTN' : ∀ i, Ms.tTn (Ms.tri m (m.F.D i)) = TN i := fun i => by rw [← hTN]
  simp only [hTN'] at HTW HS
  clear hTN hTN'
  generalize Ba.ownX m P C r = OX at *
  obtain ⟨AR, hAR⟩ : ∃ z : Nat → Nat → Int, (fun k => Ba.arS m P.X k r) = z := ⟨_, rfl⟩
  have hAR' : ∀ k, Ba.arS m P.X k r = AR k := fun k => by rw [← hAR]
  simp only [hAR'] at HB HSUM H0 HS HN HO HM
  clear hAR hAR' HSUM
  obtain ⟨j1, hj0, hz0, hz1, hz2⟩ := info_parts info_int
  have KI := Lib.hid hj0; have KZ0 := Lib.hid hz0; have KZ1 := Lib.hid hz1; have KZ2 := Lib.hid hz2
  clear hj0 hz0 hz1 hz2
  unfold Ms.Mesh.val at *
  rw [hn] at *
  clear hn
  generalize m.S.A = sA at *; generalize m.S.n = sn at *; generalize m.S.c = sc at *; generalize m.F.A = fA at *; generalize m.F.n = fn at *; generalize m.F.c = fc at *; generalize m.F.D = FD at *; generalize m.F.b = fb at *; generalize m.F.o = fo at *
  generalize P.A = pA at *; generalize P.c = pc at *; generalize P.X = PX at *; generalize P.b = pb at *; generalize P.o = po at *
  go_enter Tryz.func64, Tryz.ntmps64
  go_wp2_with (at_make; refine wpList_make_full _ rfl _ _ _ rfl (w.heap.size + 1) 3 j1 (.int .i64 0) 1 Tryz.underlying26 KI.out KZ0.out KZ1.out .i64 .i64 C C C rfl rfl rfl rfl ?d1 ?d2 ?d3 ?_)
  case d1 => rw [KZ2.out]; omega
  case d2 => unfold maxLen; omega
  case d3 => exact Nat.le_of_eq (by simp [go_sem])
  intro w4 hown hgrow
  have hrow := made_row hown
  have G04 : Gr w w4 := Gr.own (show Gr w _ from by exact gr_auto) (Nat.le_succ _) (n := 0) (e := 3) (size := 1) (xs := []) (v := .slice none 0 0) ⟨rfl, Or.inl ⟨rfl, rfl⟩⟩ hgrow
  have d0 : w4.cell? ⟨w.heap.size, 0, none⟩ = some (.slice sA sn sc) := Gr.at (Gr.own (Gr.refl _) (Nat.le_refl _) (n := 0) (e := 3) (size := 1) (xs := []) (v := .slice none 0 0) ⟨rfl, Or.inl ⟨rfl, rfl⟩⟩ hgrow) (by simp [go_sem])
  have d1 : w4.cell? ⟨w.heap.size, 1, none⟩ = some (.slice fA fn fc) := Gr.at (Gr.own (Gr.refl _) (Nat.le_refl _) (n := 0) (e := 3) (size := 1) (xs := []) (v := .slice none 0 0) ⟨rfl, Or.inl ⟨rfl, rfl⟩⟩ hgrow) (by simp [go_sem])
  have HD := Lib.hid (And.intro d0 d1)
  have hR0 : (w.alloc (Obj.cells #[.slice sA sn sc, .slice fA fn fc] 25)).heap.size = w.heap.size + 1 := by simp [go_sem]
  try rw [hR0] at hrow
  try rw [hR0]
  obtain ⟨R, hR⟩ : ∃ R, w.heap.size + 1 = R := ⟨_, rfl⟩
  rw [hR] at hrow
  try rw [hR]
  have HR0 := Lib.hid (show Row w4 R C (fun c => .int .i64 (AR 0 c)) from fun j hj => by show Own w4 R j (.int .i64 (AR 0 j)); rw [H0.out]; exact hrow j hj)
  clear hown hgrow hrow d0 d1 hR0 H0
  go_wp2_with fail
  go_loopw [10] (fun x wr => ∃ i : Nat, i ≤ fn ∧ x = .int .i64 (i : Int) ∧ Hid (Row wr R C (fun c => .int .i64 (AR i c))) ∧ GrX R w4 wr) (fun x _ => fn - (intOf x).toNat)
  case atStart => exact ⟨0, Nat.zero_le _, rfl, HR0, GrX.refl _ _⟩
  case round =>
    obtain ⟨i, hi, rfl, HR, hg⟩ := hrel
    rename World => W1
    have d0 := GrX.at hg (by omega) HD.out.1; have d1 := GrX.at hg (by omega) HD.out.2
    have gw : Gr w W1 := GrX.gr G04 (by omega) hg
    by_cases hlt : i < fn
    · obtain rfl := HPA.out (by omega); obtain rfl := HFA.out (by omega)
      have ib0 : (0 : Int) ≤ (i : Int) := by omega
      have ib1 : (i : Int) < (fn : Int) := by omega
      have p0 := Gr.at gw (HPX.out i hlt)
      by_cases hp : PX i = (r : Int)
      · obtain ⟨k0, k1⟩ := HFK.out i hlt
        obtain ⟨a0, a1, a2, a3⟩ := HFD.out i hlt
        clear a0 a1 a2
        replace a3 := Gr.at gw a3
        obtain ⟨c, hc⟩ : ∃ c : Nat, (FD i).k = (c : Int) := ⟨(FD i).k.toNat, by omega⟩
        rw [hc] at a3 k1
        have hcC : c < C := by omega
        have HTi := Lib.hid (HTW.out i hlt)
        have hss := HS.out i c hp hc
        have HNi := Lib.hid (fun t q => HN.out i c t hc q)
        have b1 := HB.out c i hi; have b2 := HB.out c (i + 1) hlt
        rw [hss] at b2
        have HSS := Lib.hid hss
        have r0 := (HR.out c hcC).1; have r1 := (HR.out c hcC).2
        have bl := World.block_lt_of_cell? _ _ a3
        have blp := World.block_lt_of_cell? _ _ p0
        have blr := World.block_lt_of_cell? _ _ r0
        simp only at bl blp blr
        have cb0 : (0 : Int) ≤ (c : Int) := by omega
        have cb1 : (c : Int) < (C : Int) := by omega
        rw [hp] at p0
        have HP1 := Lib.hid hp; have HC1_ := Lib.hid hc
        have pq : ((r : Int) == (r : Int)) = true := beq_self_eq_true _
        clear HTW HS HN HB HPX HPA HO HM HFD HFK HFA hp hc hss k0 HR0
        generalize TN i = tv at *
        have bt1 : -9223372036854775808 ≤ AR i c + tv := by omega
        have bt2 : AR i c + tv ≤ 9223372036854775807 := by omega
        clear b1 b2
        go_wp2_with fail
        (first | refine name_world ?_ | refine (show (∀ W, W = _ → Calls _ _ _ W _) → Calls _ _ _ _ _ from fun h => h _ rfl) ?_); intro W6 hW6
        have g6 : Gr w W6 := by rw [hW6]; exact gr_auto
        have gb6_W1 : Gr W1 W6 := by (try clear g6); rw [hW6]; exact gr_auto
        have f6_0 : W6.frozen? ⟨R, c, none⟩ = false := by rw [hW6]; first | (simp [go_sem, *]; done) | (refine Gr.free ?_ (by assumption) (by assumption); exact gr_auto)
        have k6_0 : W6.cell? ⟨R, c, none⟩ = some (.int .i64 (AR i c)) := by rw [hW6]; first | (simp [go_sem, *]; done) | (refine Gr.at ?_ (by assumption); exact gr_auto)
        have b6_0 : R < W6.heap.size := World.block_lt_of_cell? _ _ k6_0
        have k6_1 : W6.cell? ⟨w.heap.size, 0, none⟩ = some (.slice sA sn sc) := by rw [hW6]; first | (simp [go_sem, *]; done) | (refine Gr.at ?_ (by assumption); exact gr_auto)
        have b6_1 : w.heap.size < W6.heap.size := World.block_lt_of_cell? _ _ k6_1
        have k6_2 : W6.cell? ⟨w.heap.size, 1, none⟩ = some (.slice (some ⟨fb, fo, none⟩) fn fc) := by rw [hW6]; first | (simp [go_sem, *]; done) | (refine Gr.at ?_ (by assumption); exact gr_auto)
        have k6_3 : W6.cell? ⟨fb, fo + i * 4 + 3, none⟩ = some (.int .i64 (c : Int)) := by rw [hW6]; first | (simp [go_sem, *]; done) | (refine Gr.at ?_ (by assumption); exact gr_auto)
        have b6_3 : fb < W6.heap.size := World.block_lt_of_cell? _ _ k6_3
        clear hW6
        have s6_0 : ∀ gw : GW W6, gw.1.cell? ⟨R, c, none⟩ = some (.int .i64 (AR i c)) := fun gw => Gr.at gw.2 k6_0
        have s6_1 : ∀ gw : GW W6, gw.1.cell? ⟨w.heap.size, 0, none⟩ = some (.slice sA sn sc) := fun gw => Gr.at gw.2 k6_1
        have s6_2 : ∀ gw : GW W6, gw.1.cell? ⟨w.heap.size, 1, none⟩ = some (.slice (some ⟨fb, fo, none⟩) fn fc) := fun gw => Gr.at gw.2 k6_2
        have s6_3 : ∀ gw : GW W6, gw.1.cell? ⟨fb, fo + i * 4 + 3, none⟩ = some (.int .i64 (c : Int)) := fun gw => Gr.at gw.2 k6_3
        have Q1 := Lib.hid (fun gw6 : GW W6 => gw_call (HTi.out gw6.1 (gw.trans (gb6_W1.trans gw6.2))))
        refine wp_region_gr_tail 21 (by kernel_rfl) (by kernel_rfl) ?_
        simp only [List.take_succ_cons, List.take_zero, List.drop_succ_cons, List.drop_zero]
        repeat (go_big_quiet_step ((go_at_call 39; with_reducible exact Q1.out _)))
        refine wpQuiet_nil ?_
        intro w7 hb7
        clear s6_0 s6_1 s6_2 s6_3
        have g7 : Gr w w7 := g6.trans hb7
        have f6_0 := Gr.free hb7 k6_0 f6_0
        have k6_0 := Gr.at hb7 k6_0
        have k6_1 := Gr.at hb7 k6_1
        have k6_2 := Gr.at hb7 k6_2
        have k6_3 := Gr.at hb7 k6_3
        have g17 := gb6_W1.trans hb7
        have HR8 := Lib.hid (show Row (w7.setCell ⟨R, c, none⟩ (.int .i64 (AR i c + tv))) R C (fun j => .int .i64 (AR (i + 1) j)) from Row.set (HR.out.gr g17) (by show Value.int .i64 _ = _; rw [HSS.out]) (fun j hj hne => by show Value.int .i64 _ = _; rw [HNi.out j hne]))
        have gx8 := GrX.setCell (p := ⟨R, c, none⟩) (hg.grown g17) rfl (.int .i64 (AR i c + tv))
        clear HR hg
        go_wp2_with fail
        go_roundw
        case rel => exact ⟨i + 1, by omega, by go_num, HR8, gx8⟩
        case measure => simp [intOf]; omega
      · have HOi := Lib.hid (HO.out i hp)
        have HR8 := Lib.hid (show Row W1 R C (fun j => .int .i64 (AR (i + 1) j)) from fun j hj => by show Own W1 R j (.int .i64 (AR (i + 1) j)); rw [HOi.out]; exact HR.out j hj)
        have pq : (PX i == (r : Int)) = false := beq_eq_false_iff_ne.2 hp
        clear HTW HS HN HB HPX HPA HO HM HFD HFK HFA HR HR0
        generalize PX i = x at *
        go_wp2_with fail
        go_roundw
        case rel => exact ⟨i + 1, by omega, by go_num, HR8, hg⟩
        case measure => simp [intOf]; omega
    · obtain rfl : fn = i := by omega
      have HMi := Lib.hid (HM.out R W1 HR.out)
      clear HTW HS HN HB HPX HPA HO HM HFD HFK HFA HR HR0
      go_wp2_with fail
      refine HMi.out.mono ?_
      rintro e w5 ⟨A5, c5, b5, o5, rfl, ha, hb5⟩
      clear HMi
      go_wp2_with fail
      go_ret
      exact ⟨A5, c5, b5, o5, rfl, ha, gw.trans hb5⟩
end Go.Proofs.YtajhhplgcegodaaGreatDoor
