/-
  Surfaces: the reference's Check. (Printed by mkp.py.)
-/
import Derived.Test.YtajhhplgcegodaaGreatDoorInf45
import Derived.Test.YtajhhplgcegodaaGreatDoorInf46
import Derived.Test.YtajhhplgcegodaaGreatDoorInf47
import Derived.Deep.DeepCutAuto
import Derived.Deep.RegionWith
import Derived.Deep.RegionLaw
import Derived.Laws.StructEq
set_option linter.unusedVariables false
set_option linter.unusedSimpArgs false
namespace Go.Proofs.YtajhhplgcegodaaGreatDoor
open Go.RowKit
attribute [local go_sem ↓] Go.wp_at_zero Go.wp_at_succ
theorem rinfo_fnds : (Tryz.prog.info? 82).map (fun i => (i.zero, i.size, i.bytes)) = some (some (.slice none 0 0), 1, 24) := by kernel_rfl
theorem rinfo_face : (Tryz.prog.info? 74).map (fun i => (i.zero, i.size, i.bytes)) = some (some (.agg #[.int .i64 0, .int .i64 0, .int .i64 0, .int .i64 0]), 4, 32) := by kernel_rfl
theorem rinfo_fnd : (Tryz.prog.info? 128).map (fun i => (i.zero, i.size, i.bytes)) = some (some (.agg #[.int .i64 0, .string ⟨#[]⟩]), 2, 24) := by kernel_rfl
theorem rms_eqg : Tryz.prog.eqGuardType Tryz.prog.depth 61 = false := by kernel_rfl
theorem rms_eqp (a b c d : Int) (w : World) : (binOp .eql 61 (.agg #[.int .i64 a, .int .i64 b]) (.agg #[.int .i64 c, .int .i64 d])).run Tryz.prog w = .ok (.bool (a == c && b == d)) w := by
  have hS : Tryz.prog.underlying 61 = some (.struct (Tryz.prog.fieldsOf 61)) := by kernel_rfl
  have hp : Tryz.prog.stoodInHeld 61 = false := by kernel_rfl
  rw [run_eql_struct, show (10000 : Nat) = 9999 + 1 from rfl, run_equalIn_agg w 9999 61 _ _ hS hp]
  simp only [Program.fieldsOf, Tryz.underlying61]
  go_simp
  by_cases h1 : a = c <;> by_cases h2 : b = d <;> simp [h1, h2]
theorem ff_cat : ∀ (l k : List (Nat × Nat)), Ms.ff (l ++ k) = Ms.ff l ++ Ms.ff k
  | [], k => by simp [Ms.ff]
  | a :: l, k => by rw [List.cons_append, Ms.ff, Ms.ff, ff_cat l k, List.append_assoc]
theorem ff_one : ∀ (l : List (Nat × Nat)) (u : Value), u ∈ Ms.ff l → u.oneCell' = true
  | [], u, h => by simp [Ms.ff] at h
  | a :: l, u, h => by
    rw [Ms.ff, List.mem_append] at h
    rcases h with h | h
    · simp at h; rcases h with rfl | rfl <;> rfl
    · exact ff_one l u h
def RetRChk (m : Ms.Mesh) (w : World) (e : Ending) (w' : World) : Prop := ∃ v, e = .returned v ∧ w'.ownsRow w.heap.size 128 2 v (Ms.fnd m 7).length (Ms.ff (Ms.fnd m 7)) ∧ Gr w w'
set_option maxRecDepth 100000 in
set_option maxHeartbeats 8000000 in
theorem rs_check (m : Ms.Mesh) (w : World) (h : m.At w) (hs : m.S.n ≤ 60) (hf : m.F.n ≤ 60) : Calls Tryz.prog 43 #[m.val] w (RetRChk m w) := by
  have HSP := Lib.hid (fun i (hi : i < m.S.n) => h.s.hD i hi)
  have HFP := Lib.hid (fun i (hi : i < m.F.n) => h.f.hD i hi)
  have HSA := Lib.hid h.s.hA; have HFA := Lib.hid h.f.hA
  have HCO := Lib.hid (fun f W (hW : Gr w W) => rs_corners m f W (h.s.gr hW))
  have HTU := Lib.hid (fun f W (hW : Gr w W) (hf : Ms.fcB m f = true) => rs_fturn m f W (h.s.gr hW) hf)
  have HOV := Lib.hid (fun f g W (hW : Gr w W) (hf : Ms.fcB m f = true) (hg : Ms.fcB m g = true) => rs_over m f g W (h.s.gr hW) hf hg)
  have hsc := h.s.hc; have hsb := h.s.hb; have hfc := h.f.hc; have hfb := h.f.hb
  obtain ⟨il, hi0, hz0, hz1, hz2⟩ := info_parts rinfo_fnds
  have KI := Lib.hid hi0; have KI0 := Lib.hid hz0; have KI1 := Lib.hid hz1; have KI2 := Lib.hid hz2
  clear hi0 hz0 hz1 hz2
  obtain ⟨ic, hi0, hz0, hz1, hz2⟩ := info_parts rinfo_face
  have TI := Lib.hid hi0; have TI0 := Lib.hid hz0; have TI1 := Lib.hid hz1; have TI2 := Lib.hid hz2
  clear hi0 hz0 hz1 hz2
  obtain ⟨ig, hi0, hz0, hz1, hz2⟩ := info_parts rinfo_fnd
  have GI := Lib.hid hi0; have GI0 := Lib.hid hz0; have GI1 := Lib.hid hz1; have GI2 := Lib.hid hz2
  clear hi0 hz0 hz1 hz2
  clear h
  unfold Ms.Mesh.val at *
  obtain ⟨sA, hsA⟩ : ∃ A, m.S.A = A := ⟨_, rfl⟩; obtain ⟨sn, hsn⟩ : ∃ n, m.S.n = n := ⟨_, rfl⟩; obtain ⟨sc, hsc'⟩ : ∃ c, m.S.c = c := ⟨_, rfl⟩
  obtain ⟨fA, hfA⟩ : ∃ A, m.F.A = A := ⟨_, rfl⟩; obtain ⟨fn, hfn⟩ : ∃ n, m.F.n = n := ⟨_, rfl⟩; obtain ⟨fc', hfc'⟩ : ∃ c, m.F.c = c := ⟨_, rfl⟩
  rw [hsA, hsn, hsc', hfA, hfn, hfc'] at HCO HTU HOV ⊢
  rw [hsA, hsn] at HSA
  rw [hfA, hfn] at HFA
  rw [hsn] at HSP hs hsc
  rw [hfn] at HFP hf hfc
  rw [hsc'] at hsc hsb
  rw [hfc'] at hfc hfb
  have HN := Lib.hid (And.intro hsn hfn)
  clear hsA hsn hsc' hfA hfn hfc'
  go_enter Tryz.func43, Tryz.ntmps43
  go_wp2_with (at_make; refine wpList_make_full _ rfl _ _ _ rfl w.heap.size 82 il (.slice none 0 0) 1 Tryz.underlying124 KI.out KI0.out KI1.out .i64 .i64 7 7 7 rfl rfl rfl rfl (by rw [KI2.out]; omega) (by decide) (by simp) ?_)
  intro w2 hown hgrow
  have g2 : Gr w w2 := Gr.trans (Gr.alloc (Gr.refl w) _) (grown_gr hgrow)
  have hrow := made_row hown
  have d0 : w2.cell? ⟨w.heap.size, 0, none⟩ = some (.slice sA sn sc) := Gr.at (grown_gr hgrow) (by simp [go_sem])
  have d1 : w2.cell? ⟨w.heap.size, 1, none⟩ = some (.slice fA fn fc') := Gr.at (grown_gr hgrow) (by simp [go_sem])
  have zl : w.heap.size + 1 < w2.heap.size := World.block_lt_of_cell? _ _ (hrow 0 (by omega)).1
  obtain ⟨LB, hLB⟩ : ∃ b, w.heap.size + 1 = b := ⟨_, rfl⟩
  obtain ⟨base, hbase⟩ : ∃ b, w2.heap.size = b := ⟨_, rfl⟩
  simp only [hLB] at hrow zl
  have HS := Lib.hid (show Sr w base LB (fun _ => False) w2 (fun _ => .slice none 0 0) (Ms.lst m 0 0) (.slice none 0 0) [] from ⟨⟨fun k hk => hrow k hk, Fam.nil.as (fun k _ => by show (Ms.idx _ _).length = 0; split <;> rfl) (fun k _ => by show Ms.ff ((Ms.idx _ _).map _) = []; split <;> rfl)⟩, World.ownsRow_nil _ _ _ _, fun k hk => .inl rfl, fun B hB => hB.elim, g2, by omega, by omega⟩)
  rw [hLB]
  have HZ := Lib.hid (show w.heap.size < LB ∧ LB < base from by omega)
  clear hown hgrow hrow g2 hLB hbase zl
  go_wp2_with fail
  go_loopw [4] (fun x wr => ∃ (i : Nat) (V : Nat → Value), i ≤ sn ∧ x = .int .i64 (i : Int) ∧ Hid (Sr w base LB (fun _ => False) wr V (Ms.lst m i 0) (.slice none 0 0) []) ∧ wr.cell? ⟨w.heap.size, 0, none⟩ = some (.slice sA sn sc) ∧ wr.cell? ⟨w.heap.size, 1, none⟩ = some (.slice fA fn fc')) (fun x _ => sn - (intOf x).toNat)
  case atStart => exact ⟨0, _, Nat.zero_le _, rfl, HS, d0, d1⟩
  case round =>
    clear HS d0 d1
    obtain ⟨i, V, hi, rfl, HS, d0, d1⟩ := hrel
    by_cases hlt : i < sn
    · obtain rfl := HSA.out (by omega)
      obtain ⟨⟨s0, s1, s2⟩, so⟩ := HSP.out i hlt
      have ib0 : (0 : Int) ≤ (i : Int) := by omega
      have ib1 : (i : Int) < (sn : Int) := by omega
      have gS := HS.out.g
      replace s0 := Gr.at gS s0; replace s1 := Gr.at gS s1; replace s2 := Gr.at gS s2
      have HRi := Lib.hid (fun W => rs_spot (m.S.D i) W)
      obtain ⟨q1, hq1⟩ : ∃ q, Ms.spB (m.S.D i) = q := ⟨_, rfl⟩
      rw [hq1] at HRi
      obtain ⟨s, hs_⟩ : ∃ s, m.S.D i = s := ⟨_, rfl⟩
      simp only [hs_] at HRi s0 s1 s2 so
      unfold Ba.Spot.val at HRi
      go_wp2_with fail
      refine (HRi.out _).mono ?_
      rintro e w3 ⟨rfl, hb3⟩
      clear HRi
      have ga3 : Gr wr w3 := Gr.trans (Gr.alloc (Gr.refl wr) (Obj.cells #[.int .i64 s.x, .int .i64 s.y, .int .i64 s.z] 77)) hb3
      have HS3 := Lib.hid (HS.out.gr ga3)
      have d30 := Gr.at ga3 d0; have d31 := Gr.at ga3 d1
      have bx := fun (q : Nat) (v : Value) (hc : (wr.alloc (Obj.cells #[.int .i64 s.x, .int .i64 s.y, .int .i64 s.z] 77)).cell? ⟨wr.heap.size, q, none⟩ = some v) => Gr.at hb3 hc
      have b30 := bx 0 (.int .i64 s.x) (by simp [go_sem]); have b31 := bx 1 (.int .i64 s.y) (by simp [go_sem]); have b32 := bx 2 (.int .i64 s.z) (by simp [go_sem])
      have G3 := HS3.out.g
      clear bx HS ga3 hb3 s0 s1 s2 d0 d1 gS
      obtain ⟨W3, hW3⟩ : ∃ W, W = w3 := ⟨_, rfl⟩
      subst hW3
      generalize wr.heap.size = BS at *
      cases q1
      · have hk1 : Ms.kd m 1 i = true := by show (!Ms.spB (m.S.D i)) = true; rw [hq1]; rfl
        have hk2 : Ms.kd m 2 i = false := by show (Ms.spB (m.S.D i) && _) = false; rw [hq1]; rfl
        have HL := Lib.hid (Ms.lst_push (j := 0) (by omega) hk1 (fun q h1 h2 => by rw [Ms.kd12 hk1 hk2 q h1, if_neg h2]; split <;> rfl))
        clear hk1 hk2 hq1 hs_ HSP b30 b31 b32
        go_upto_region 7 with fail
        go_cut [] (fun wx => ∃ V' : Nat → Value, Hid (Sr w base LB (fun _ => False) wx V' (Ms.lst m (i + 1) 0) (.slice none 0 0) []) ∧ wx.cell? ⟨w.heap.size, 0, none⟩ = some (.slice (some ⟨m.S.b, m.S.o, none⟩) sn sc) ∧ wx.cell? ⟨w.heap.size, 1, none⟩ = some (.slice fA fn fc'))
        case first =>
          have cca := (HS3.out.fnd.cel 1 (by omega)).1
          have ffa := (HS3.out.fnd.cel 1 (by omega)).2
          have zba := HS3.out.hb
          have cba : LB < W3.heap.size := World.block_lt_of_cell? _ _ cca
          have lla : (Ms.lst m i 0 1).length ≤ 61 := by first | (unfold Ms.lst; refine Nat.le_trans (Ms.idx_le _ _) ?_; split <;> omega) | (unfold Ms.l5 Ms.lst; split <;> (try rw [upd_ne _ _ (by omega)]) <;> (refine Nat.le_trans (Ms.idx_le _ _) ?_; split <;> omega))
          have HDa := Lib.hid (fun W => rs_decimal i W (by omega))
          go_region_law (first | (go_simp; go_at_call 86; refine (HDa.out _).mono ?_; rintro e xa ⟨rfl, hxa⟩; have gxa : Gr W3 xa := gr_auto; have cxa := Gr.at gxa cca; have fxa := Gr.free gxa cca ffa; have zxa := Gr.size gxa; have nxa : LB ≠ xa.heap.size := Nat.ne_of_lt (Nat.lt_of_lt_of_le cba zxa); have lxa : LB < xa.heap.size := Nat.lt_of_lt_of_le cba zxa) | (refine step_append_lies _ (by rfl) _ _ 82 (by rfl) base 128 ig (.agg #[.int .i64 0, .string ⟨#[]⟩]) 2 24 Tryz.underlying82 GI.out GI0.out GI1.out GI2.out rfl (by decide) (V 1) (Ms.lst m i 0 1).length (fr 1 (Ms.lst m i 0 1)) (by rfl) ((HS3.out.gr (show Gr W3 _ from gr_auto)).fnd.row (k := 1) (by omega)) _ 1 1 [.int .i64 1, .string ⟨(Lib.decDigits i).toArray⟩] (by rfl) rfl (by intro p u hp; rcases p with _ | _ | p <;> simp at hp <;> (try subst hp) <;> first | (simp [Addr.add, go_sem]; done) | (simp [Addr.add]; done)) (by intro u hu; simp at hu; rcases hu with rfl | rfl <;> rfl) (by decide) (by unfold maxLen; omega) (by omega) (by first | omega | (simp; omega)) _ rfl ?_; intro ga pa va hoa hra hta hla; obtain ⟨ooa, ssa⟩ := (HS3.out.gr (show Gr W3 _ from gr_auto)).push (k := 1) (i := i) (by omega) hoa hra hta (fun q _ => HL.out q); have oxa := ooa.1; have oya := ooa.2; replace ssa := Lib.hid ssa; clear ooa; have rd30 := (HS3.out.gr (show Gr W3 _ from gr_auto)).push_cell (k := 1) (g := ga) (cap := pa) (by omega) hra (.inr (by have := HZ.out; omega)) (Gr.at (show Gr W3 _ from gr_auto) d30); have rd31 := (HS3.out.gr (show Gr W3 _ from gr_auto)).push_cell (k := 1) (g := ga) (cap := pa) (by omega) hra (.inr (by have := HZ.out; omega)) (Gr.at (show Gr W3 _ from gr_auto) d31)))
          all_goals (go_wp2_with fail; go_meet; exact ⟨_, Lib.hid (ssa.out.gr (by exact gr_auto)), Gr.at (by exact gr_auto) rd30, Gr.at (by exact gr_auto) rd31⟩)
        case rest =>
          obtain ⟨V', HS4, d40, d41⟩ := hcut
          go_wp2_with fail
          go_roundw
          case rel => exact ⟨i + 1, V', by omega, by go_num, HS4, d40, d41⟩
          case measure => simp [intOf]; omega
      · have hk1 : Ms.kd m 1 i = false := by show (!Ms.spB (m.S.D i)) = false; rw [hq1]; rfl
        have HK2 := Lib.hid (show Ms.kd m 2 i = Ba.any (fun j => Ms.spB (m.S.D j) && ((m.S.D j).x == s.x && (m.S.D j).y == s.y)) i from by show (Ms.spB (m.S.D i) && Ba.any (fun j => Ms.spB (m.S.D j) && ((m.S.D j).x == (m.S.D i).x && (m.S.D j).y == (m.S.D i).y)) i) = _; rw [hq1, hs_]; rfl)
        have HPK := Lib.hid (fun k => show (fun j => Ms.spB (m.S.D j) && ((m.S.D j).x == s.x && (m.S.D j).y == s.y)) k = (Ms.spB (m.S.D k) && ((m.S.D k).x == s.x && (m.S.D k).y == s.y)) from rfl)
        generalize (fun j => Ms.spB (m.S.D j) && ((m.S.D j).x == s.x && (m.S.D j).y == s.y)) = P at HK2 HPK
        have HK1 := Lib.hid hk1
        have HQP := Lib.hid (fun W => rs_point s W)
        unfold Ba.Spot.val at HQP
        clear hq1 hs_ hk1
        go_wp2_with fail
        go_loopw [6] (fun x wz => ∃ k : Nat, k ≤ i ∧ x = .int .i64 (k : Int) ∧ Hid (Ba.any P k = false) ∧ Gr W3 wz) (fun x _ => i - (intOf x).toNat)
        case atStart => exact ⟨0, by omega, rfl, Lib.hid rfl, Gr.refl _⟩
        case round =>
          obtain ⟨k, hk, rfl, HQ, hgz⟩ := hrel
          rename World => W5
          have d50 := Gr.at hgz d30; have d51 := Gr.at hgz d31; have b50 := Gr.at hgz b30; have b51 := Gr.at hgz b31; have b52 := Gr.at hgz b32
          have HS5 := Lib.hid (HS3.out.gr hgz)
          clear d30 d31 b30 b31 b32 HS3
          by_cases hlk : k < i
          · obtain ⟨⟨t0, t1, t2⟩, to_⟩ := HSP.out k (by omega)
            have g5 := HS5.out.g
            replace t0 := Gr.at g5 t0; replace t1 := Gr.at g5 t1; replace t2 := Gr.at g5 t2
            have kb0 : (0 : Int) ≤ (k : Int) := by omega
            have kb1 : (k : Int) < (i : Int) := by omega
            have kb2 : (k : Int) < (sn : Int) := by omega
            have HR1 := Lib.hid (fun W => rs_spot (m.S.D k) W); have HR2 := Lib.hid (fun W => rs_point (m.S.D k) W)
            have hpk := HPK.out k
            obtain ⟨q2, hq2⟩ : ∃ q, Ms.spB (m.S.D k) = q := ⟨_, rfl⟩
            rw [hq2] at HR1 hpk
            clear hq2 HPK HSP
            unfold Ba.Spot.val at HR1 HR2
            generalize m.S.D k = t at *
            cases q2
            · have HN := Lib.hid (Ms.any_go HQ.out hpk)
              clear hpk HQ
              go_wp2_with fail
              (first | refine name_world ?_ | refine (show (∀ W, W = _ → Calls _ _ _ W _) → Calls _ _ _ _ _ from fun h => h _ rfl) ?_); intro W6 hW6
              have g6 : Gr w W6 := by rw [hW6]; exact gr_auto
              have gb6_W5 : Gr W5 W6 := by (try clear g6); rw [hW6]; exact gr_auto
              have k6_0 : W6.cell? ⟨w.heap.size, 0, none⟩ = some (.slice (some ⟨m.S.b, m.S.o, none⟩) sn sc) := by rw [hW6]; first | (simp [go_sem, *]; done) | (refine Gr.at ?_ (by assumption); exact gr_auto)
              have b6_0 : w.heap.size < W6.heap.size := World.block_lt_of_cell? _ _ k6_0
              have k6_1 : W6.cell? ⟨m.S.b, m.S.o + k * 3, none⟩ = some (.int .i64 t.x) := by rw [hW6]; first | (simp [go_sem, *]; done) | (refine Gr.at ?_ (by assumption); exact gr_auto)
              have b6_1 : m.S.b < W6.heap.size := World.block_lt_of_cell? _ _ k6_1
              have k6_2 : W6.cell? ⟨m.S.b, m.S.o + k * 3 + 1, none⟩ = some (.int .i64 t.y) := by rw [hW6]; first | (simp [go_sem, *]; done) | (refine Gr.at ?_ (by assumption); exact gr_auto)
              have k6_3 : W6.cell? ⟨m.S.b, m.S.o + k * 3 + 2, none⟩ = some (.int .i64 t.z) := by rw [hW6]; first | (simp [go_sem, *]; done) | (refine Gr.at ?_ (by assumption); exact gr_auto)
              have k6_4 : W6.cell? ⟨BS, 0, none⟩ = some (.int .i64 s.x) := by rw [hW6]; first | (simp [go_sem, *]; done) | (refine Gr.at ?_ (by assumption); exact gr_auto)
              have b6_4 : BS < W6.heap.size := World.block_lt_of_cell? _ _ k6_4
              have k6_5 : W6.cell? ⟨BS, 1, none⟩ = some (.int .i64 s.y) := by rw [hW6]; first | (simp [go_sem, *]; done) | (refine Gr.at ?_ (by assumption); exact gr_auto)
              have k6_6 : W6.cell? ⟨BS, 2, none⟩ = some (.int .i64 s.z) := by rw [hW6]; first | (simp [go_sem, *]; done) | (refine Gr.at ?_ (by assumption); exact gr_auto)
              clear hW6
              have s6_0 : ∀ gw : GW W6, gw.1.cell? ⟨w.heap.size, 0, none⟩ = some (.slice (some ⟨m.S.b, m.S.o, none⟩) sn sc) := fun gw => Gr.at gw.2 k6_0
              have s6_1 : ∀ gw : GW W6, gw.1.cell? ⟨m.S.b, m.S.o + k * 3, none⟩ = some (.int .i64 t.x) := fun gw => Gr.at gw.2 k6_1
              have s6_2 : ∀ gw : GW W6, gw.1.cell? ⟨m.S.b, m.S.o + k * 3 + 1, none⟩ = some (.int .i64 t.y) := fun gw => Gr.at gw.2 k6_2
              have s6_3 : ∀ gw : GW W6, gw.1.cell? ⟨m.S.b, m.S.o + k * 3 + 2, none⟩ = some (.int .i64 t.z) := fun gw => Gr.at gw.2 k6_3
              have s6_4 : ∀ gw : GW W6, gw.1.cell? ⟨BS, 0, none⟩ = some (.int .i64 s.x) := fun gw => Gr.at gw.2 k6_4
              have s6_5 : ∀ gw : GW W6, gw.1.cell? ⟨BS, 1, none⟩ = some (.int .i64 s.y) := fun gw => Gr.at gw.2 k6_5
              have s6_6 : ∀ gw : GW W6, gw.1.cell? ⟨BS, 2, none⟩ = some (.int .i64 s.z) := fun gw => Gr.at gw.2 k6_6
              have Q1 := Lib.hid (fun gw : GW W6 => gw_call (HR1.out gw.1))
              refine wp_region_gr (by kernel_rfl) (by kernel_rfl) ?_
              repeat (go_big_quiet_step ((go_at_call 85; with_reducible exact Q1.out _)))
              refine wpQuiet_nil ?_
              intro w7 hb7
              clear s6_0 s6_1 s6_2 s6_3 s6_4 s6_5 s6_6
              have g7 : Gr w w7 := g6.trans hb7
              have k6_0 := Gr.at hb7 k6_0
              have k6_1 := Gr.at hb7 k6_1
              have k6_2 := Gr.at hb7 k6_2
              have k6_3 := Gr.at hb7 k6_3
              have k6_4 := Gr.at hb7 k6_4
              have k6_5 := Gr.at hb7 k6_5
              have k6_6 := Gr.at hb7 k6_6
              go_wp2_with fail
              go_roundw
              case rel => exact ⟨k + 1, by omega, by go_num, HN, hgz.trans (gb6_W5.trans hb7)⟩
              case measure => simp [intOf]; omega
            · cases e1 : (t.x == s.x && t.y == s.y)
              · rw [e1] at hpk
                have HN := Lib.hid (Ms.any_go HQ.out hpk)
                clear hpk HQ
                have eg := rms_eqg
                have ep : ∀ W, (binOp .eql 61 (.agg #[.int .i64 t.x, .int .i64 t.y]) (.agg #[.int .i64 s.x, .int .i64 s.y])).run Tryz.prog W = .ok (.bool false) W := fun W => by rw [rms_eqp, e1]
                go_wp2_with fail
                (first | refine name_world ?_ | refine (show (∀ W, W = _ → Calls _ _ _ W _) → Calls _ _ _ _ _ from fun h => h _ rfl) ?_); intro W6 hW6
                have g6 : Gr w W6 := by rw [hW6]; exact gr_auto
                have gb6_W5 : Gr W5 W6 := by (try clear g6); rw [hW6]; exact gr_auto
                have k6_0 : W6.cell? ⟨w.heap.size, 0, none⟩ = some (.slice (some ⟨m.S.b, m.S.o, none⟩) sn sc) := by rw [hW6]; first | (simp [go_sem, *]; done) | (refine Gr.at ?_ (by assumption); exact gr_auto)
                have b6_0 : w.heap.size < W6.heap.size := World.block_lt_of_cell? _ _ k6_0
                have k6_1 : W6.cell? ⟨m.S.b, m.S.o + k * 3, none⟩ = some (.int .i64 t.x) := by rw [hW6]; first | (simp [go_sem, *]; done) | (refine Gr.at ?_ (by assumption); exact gr_auto)
                have b6_1 : m.S.b < W6.heap.size := World.block_lt_of_cell? _ _ k6_1
                have k6_2 : W6.cell? ⟨m.S.b, m.S.o + k * 3 + 1, none⟩ = some (.int .i64 t.y) := by rw [hW6]; first | (simp [go_sem, *]; done) | (refine Gr.at ?_ (by assumption); exact gr_auto)
                have k6_3 : W6.cell? ⟨m.S.b, m.S.o + k * 3 + 2, none⟩ = some (.int .i64 t.z) := by rw [hW6]; first | (simp [go_sem, *]; done) | (refine Gr.at ?_ (by assumption); exact gr_auto)
                have k6_4 : W6.cell? ⟨BS, 0, none⟩ = some (.int .i64 s.x) := by rw [hW6]; first | (simp [go_sem, *]; done) | (refine Gr.at ?_ (by assumption); exact gr_auto)
                have b6_4 : BS < W6.heap.size := World.block_lt_of_cell? _ _ k6_4
                have k6_5 : W6.cell? ⟨BS, 1, none⟩ = some (.int .i64 s.y) := by rw [hW6]; first | (simp [go_sem, *]; done) | (refine Gr.at ?_ (by assumption); exact gr_auto)
                have k6_6 : W6.cell? ⟨BS, 2, none⟩ = some (.int .i64 s.z) := by rw [hW6]; first | (simp [go_sem, *]; done) | (refine Gr.at ?_ (by assumption); exact gr_auto)
                clear hW6
                have s6_0 : ∀ gw : GW W6, gw.1.cell? ⟨w.heap.size, 0, none⟩ = some (.slice (some ⟨m.S.b, m.S.o, none⟩) sn sc) := fun gw => Gr.at gw.2 k6_0
                have s6_1 : ∀ gw : GW W6, gw.1.cell? ⟨m.S.b, m.S.o + k * 3, none⟩ = some (.int .i64 t.x) := fun gw => Gr.at gw.2 k6_1
                have s6_2 : ∀ gw : GW W6, gw.1.cell? ⟨m.S.b, m.S.o + k * 3 + 1, none⟩ = some (.int .i64 t.y) := fun gw => Gr.at gw.2 k6_2
                have s6_3 : ∀ gw : GW W6, gw.1.cell? ⟨m.S.b, m.S.o + k * 3 + 2, none⟩ = some (.int .i64 t.z) := fun gw => Gr.at gw.2 k6_3
                have s6_4 : ∀ gw : GW W6, gw.1.cell? ⟨BS, 0, none⟩ = some (.int .i64 s.x) := fun gw => Gr.at gw.2 k6_4
                have s6_5 : ∀ gw : GW W6, gw.1.cell? ⟨BS, 1, none⟩ = some (.int .i64 s.y) := fun gw => Gr.at gw.2 k6_5
                have s6_6 : ∀ gw : GW W6, gw.1.cell? ⟨BS, 2, none⟩ = some (.int .i64 s.z) := fun gw => Gr.at gw.2 k6_6
                have Q1 := Lib.hid (fun gw : GW W6 => gw_call (HR1.out gw.1))
                have Q2 := Lib.hid (fun gw : GW W6 => gw_call (HR2.out gw.1))
                have Q3 := Lib.hid (fun gw : GW W6 => gw_call (HQP.out gw.1))
                refine wp_region_gr (by kernel_rfl) (by kernel_rfl) ?_
                repeat (go_big_quiet_step (first | (go_at_call 85; with_reducible exact Q1.out _) | (go_at_call 87; with_reducible exact Q2.out _) | (go_at_call 87; with_reducible exact Q3.out _)))
                refine wpQuiet_nil ?_
                intro w7 hb7
                clear s6_0 s6_1 s6_2 s6_3 s6_4 s6_5 s6_6
                have g7 : Gr w w7 := g6.trans hb7
                have k6_0 := Gr.at hb7 k6_0
                have k6_1 := Gr.at hb7 k6_1
                have k6_2 := Gr.at hb7 k6_2
                have k6_3 := Gr.at hb7 k6_3
                have k6_4 := Gr.at hb7 k6_4
                have k6_5 := Gr.at hb7 k6_5
                have k6_6 := Gr.at hb7 k6_6
                clear ep eg
                go_wp2_with fail
                go_roundw
                case rel => exact ⟨k + 1, by omega, by go_num, HN, hgz.trans (gb6_W5.trans hb7)⟩
                case measure => simp [intOf]; omega
              · rw [e1] at hpk
                have hd := Ms.any_hit (p := P) hpk hlk
                rw [← HK2.out] at hd
                have HL := Lib.hid (Ms.lst_push (j := 0) (by omega) hd (fun q h1 h2 => by rw [Ms.kd12 HK1.out hd q h1, if_neg h2]; split <;> rfl))
                clear hpk HQ hd
                have eg := rms_eqg
                have ep : ∀ W, (binOp .eql 61 (.agg #[.int .i64 t.x, .int .i64 t.y]) (.agg #[.int .i64 s.x, .int .i64 s.y])).run Tryz.prog W = .ok (.bool true) W := fun W => by rw [rms_eqp, e1]
                go_wp2_with fail
                (first | refine name_world ?_ | refine (show (∀ W, W = _ → Calls _ _ _ W _) → Calls _ _ _ _ _ from fun h => h _ rfl) ?_); intro W6 hW6
                have g6 : Gr w W6 := by rw [hW6]; exact gr_auto
                have gb6_W5 : Gr W5 W6 := by (try clear g6); rw [hW6]; exact gr_auto
                have k6_0 : W6.cell? ⟨w.heap.size, 0, none⟩ = some (.slice (some ⟨m.S.b, m.S.o, none⟩) sn sc) := by rw [hW6]; first | (simp [go_sem, *]; done) | (refine Gr.at ?_ (by assumption); exact gr_auto)
                have b6_0 : w.heap.size < W6.heap.size := World.block_lt_of_cell? _ _ k6_0
                have k6_1 : W6.cell? ⟨m.S.b, m.S.o + k * 3, none⟩ = some (.int .i64 t.x) := by rw [hW6]; first | (simp [go_sem, *]; done) | (refine Gr.at ?_ (by assumption); exact gr_auto)
                have b6_1 : m.S.b < W6.heap.size := World.block_lt_of_cell? _ _ k6_1
                have k6_2 : W6.cell? ⟨m.S.b, m.S.o + k * 3 + 1, none⟩ = some (.int .i64 t.y) := by rw [hW6]; first | (simp [go_sem, *]; done) | (refine Gr.at ?_ (by assumption); exact gr_auto)
                have k6_3 : W6.cell? ⟨m.S.b, m.S.o + k * 3 + 2, none⟩ = some (.int .i64 t.z) := by rw [hW6]; first | (simp [go_sem, *]; done) | (refine Gr.at ?_ (by assumption); exact gr_auto)
                have k6_4 : W6.cell? ⟨BS, 0, none⟩ = some (.int .i64 s.x) := by rw [hW6]; first | (simp [go_sem, *]; done) | (refine Gr.at ?_ (by assumption); exact gr_auto)
                have b6_4 : BS < W6.heap.size := World.block_lt_of_cell? _ _ k6_4
                have k6_5 : W6.cell? ⟨BS, 1, none⟩ = some (.int .i64 s.y) := by rw [hW6]; first | (simp [go_sem, *]; done) | (refine Gr.at ?_ (by assumption); exact gr_auto)
                have k6_6 : W6.cell? ⟨BS, 2, none⟩ = some (.int .i64 s.z) := by rw [hW6]; first | (simp [go_sem, *]; done) | (refine Gr.at ?_ (by assumption); exact gr_auto)
                clear hW6
                have s6_0 : ∀ gw : GW W6, gw.1.cell? ⟨w.heap.size, 0, none⟩ = some (.slice (some ⟨m.S.b, m.S.o, none⟩) sn sc) := fun gw => Gr.at gw.2 k6_0
                have s6_1 : ∀ gw : GW W6, gw.1.cell? ⟨m.S.b, m.S.o + k * 3, none⟩ = some (.int .i64 t.x) := fun gw => Gr.at gw.2 k6_1
                have s6_2 : ∀ gw : GW W6, gw.1.cell? ⟨m.S.b, m.S.o + k * 3 + 1, none⟩ = some (.int .i64 t.y) := fun gw => Gr.at gw.2 k6_2
                have s6_3 : ∀ gw : GW W6, gw.1.cell? ⟨m.S.b, m.S.o + k * 3 + 2, none⟩ = some (.int .i64 t.z) := fun gw => Gr.at gw.2 k6_3
                have s6_4 : ∀ gw : GW W6, gw.1.cell? ⟨BS, 0, none⟩ = some (.int .i64 s.x) := fun gw => Gr.at gw.2 k6_4
                have s6_5 : ∀ gw : GW W6, gw.1.cell? ⟨BS, 1, none⟩ = some (.int .i64 s.y) := fun gw => Gr.at gw.2 k6_5
                have s6_6 : ∀ gw : GW W6, gw.1.cell? ⟨BS, 2, none⟩ = some (.int .i64 s.z) := fun gw => Gr.at gw.2 k6_6
                have Q1 := Lib.hid (fun gw : GW W6 => gw_call (HR1.out gw.1))
                have Q2 := Lib.hid (fun gw : GW W6 => gw_call (HR2.out gw.1))
                have Q3 := Lib.hid (fun gw : GW W6 => gw_call (HQP.out gw.1))
                refine wp_region_gr (by kernel_rfl) (by kernel_rfl) ?_
                repeat (go_big_quiet_step (first | (go_at_call 85; with_reducible exact Q1.out _) | (go_at_call 87; with_reducible exact Q2.out _) | (go_at_call 87; with_reducible exact Q3.out _)))
                refine wpQuiet_nil ?_
                intro w7 hb7
                clear s6_0 s6_1 s6_2 s6_3 s6_4 s6_5 s6_6
                have g7 : Gr w w7 := g6.trans hb7
                have k6_0 := Gr.at hb7 k6_0
                have k6_1 := Gr.at hb7 k6_1
                have k6_2 := Gr.at hb7 k6_2
                have k6_3 := Gr.at hb7 k6_3
                have k6_4 := Gr.at hb7 k6_4
                have k6_5 := Gr.at hb7 k6_5
                have k6_6 := Gr.at hb7 k6_6
                clear ep eg
                have HS7 := Lib.hid (HS5.out.gr (gb6_W5.trans hb7))
                have d70 := Gr.at (gb6_W5.trans hb7) d50; have d71 := Gr.at (gb6_W5.trans hb7) d51
                clear HS5 k6_0 k6_1 k6_2 k6_3 k6_4 k6_5 k6_6 d50 d51 b50 b51 b52 t0 t1 t2
                obtain ⟨W7, hW7⟩ : ∃ W, W = w7 := ⟨_, rfl⟩
                subst hW7
                go_upto_region 12 with fail
                go_cut [] (fun wx => ∃ V' : Nat → Value, Hid (Sr w base LB (fun _ => False) wx V' (Ms.lst m (i + 1) 0) (.slice none 0 0) []) ∧ wx.cell? ⟨w.heap.size, 0, none⟩ = some (.slice (some ⟨m.S.b, m.S.o, none⟩) sn sc) ∧ wx.cell? ⟨w.heap.size, 1, none⟩ = some (.slice fA fn fc'))
                case first =>
                  have ccb := (HS7.out.fnd.cel 2 (by omega)).1
                  have ffb := (HS7.out.fnd.cel 2 (by omega)).2
                  have zbb := HS7.out.hb
                  have cbb : LB < W7.heap.size := World.block_lt_of_cell? _ _ ccb
                  have llb : (Ms.lst m i 0 2).length ≤ 61 := by first | (unfold Ms.lst; refine Nat.le_trans (Ms.idx_le _ _) ?_; split <;> omega) | (unfold Ms.l5 Ms.lst; split <;> (try rw [upd_ne _ _ (by omega)]) <;> (refine Nat.le_trans (Ms.idx_le _ _) ?_; split <;> omega))
                  have HDb := Lib.hid (fun W => rs_decimal i W (by omega))
                  go_region_law (first | (go_simp; go_at_call 86; refine (HDb.out _).mono ?_; rintro e xb ⟨rfl, hxb⟩; have gxb : Gr W7 xb := gr_auto; have cxb := Gr.at gxb ccb; have fxb := Gr.free gxb ccb ffb; have zxb := Gr.size gxb; have nxb : LB ≠ xb.heap.size := Nat.ne_of_lt (Nat.lt_of_lt_of_le cbb zxb); have lxb : LB < xb.heap.size := Nat.lt_of_lt_of_le cbb zxb) | (refine step_append_lies _ (by rfl) _ _ 82 (by rfl) base 128 ig (.agg #[.int .i64 0, .string ⟨#[]⟩]) 2 24 Tryz.underlying82 GI.out GI0.out GI1.out GI2.out rfl (by decide) (V 2) (Ms.lst m i 0 2).length (fr 2 (Ms.lst m i 0 2)) (by rfl) ((HS7.out.gr (show Gr W7 _ from gr_auto)).fnd.row (k := 2) (by omega)) _ 1 1 [.int .i64 2, .string ⟨(Lib.decDigits i).toArray⟩] (by rfl) rfl (by intro p u hp; rcases p with _ | _ | p <;> simp at hp <;> (try subst hp) <;> first | (simp [Addr.add, go_sem]; done) | (simp [Addr.add]; done)) (by intro u hu; simp at hu; rcases hu with rfl | rfl <;> rfl) (by decide) (by unfold maxLen; omega) (by omega) (by first | omega | (simp; omega)) _ rfl ?_; intro gb pb vb hob hrb htb hlb; obtain ⟨oob, ssb⟩ := (HS7.out.gr (show Gr W7 _ from gr_auto)).push (k := 2) (i := i) (by omega) hob hrb htb (fun q _ => HL.out q); have oxb := oob.1; have oyb := oob.2; replace ssb := Lib.hid ssb; clear oob; have rd70 := (HS7.out.gr (show Gr W7 _ from gr_auto)).push_cell (k := 2) (g := gb) (cap := pb) (by omega) hrb (.inr (by have := HZ.out; omega)) (Gr.at (show Gr W7 _ from gr_auto) d70); have rd71 := (HS7.out.gr (show Gr W7 _ from gr_auto)).push_cell (k := 2) (g := gb) (cap := pb) (by omega) hrb (.inr (by have := HZ.out; omega)) (Gr.at (show Gr W7 _ from gr_auto) d71)))
                  all_goals (go_wp2_with fail; go_meet; exact ⟨_, Lib.hid (ssb.out.gr (by exact gr_auto)), Gr.at (by exact gr_auto) rd70, Gr.at (by exact gr_auto) rd71⟩)
                case rest =>
                  obtain ⟨V', HS8, d80, d81⟩ := hcut
                  go_wp2_with fail
                  go_roundw
                  case rel => exact ⟨i + 1, V', by omega, by go_num, HS8, d80, d81⟩
                  case measure => simp [intOf]; omega
          · obtain rfl : k = i := by omega
            have hd := HQ.out
            rw [← HK2.out] at hd
            have HL := Lib.hid (Ms.lst_stay (j := 0) (fun q hq => by rw [Ms.kd12 HK1.out hd q hq]; split <;> (try rfl); split <;> rfl))
            have HS8 := Lib.hid (HS5.out.as (fun q _ => HL.out q))
            clear HS5 hd HQ HK1 HK2 HPK HSP
            go_wp2_with fail
            go_roundw
            case rel => exact ⟨k + 1, V, by omega, by go_num, HS8, d50, d51⟩
            case measure => simp [intOf]; omega
    · obtain rfl : sn = i := by omega
      clear HSP HSA hlt hi
      rename World => W1
      go_wp2_with fail
      go_loopw [7, 8] (fun sv x wr => ∃ (j : Nat) (V : Nat → Value), j ≤ fn ∧ x = .int .i64 (j : Int) ∧ Hid (Sr w base LB (fun _ => False) wr V (Ms.lst m sn j) sv (Ms.rgt m j)) ∧ wr.cell? ⟨w.heap.size, 0, none⟩ = some (.slice sA sn sc) ∧ wr.cell? ⟨w.heap.size, 1, none⟩ = some (.slice fA fn fc')) (fun _ x _ => fn - (intOf x).toNat)
      case atStart => exact ⟨0, V, Nat.zero_le _, rfl, HS, d0, d1⟩
      case round =>
        clear HS d0 d1
        obtain ⟨j, V, hj, rfl, HS, d0, d1⟩ := hrel
        rename World => Wr
        by_cases hlt2 : j < fn
        · obtain rfl := HFA.out (by omega)
          obtain ⟨⟨a0, a1, a2, a3⟩, fo⟩ := HFP.out j hlt2
          have jb0 : (0 : Int) ≤ (j : Int) := by omega
          have jb1 : (j : Int) < (fn : Int) := by omega
          have gS := HS.out.g
          replace a0 := Gr.at gS a0; replace a1 := Gr.at gS a1; replace a2 := Gr.at gS a2; replace a3 := Gr.at gS a3
          obtain ⟨f, hfj⟩ : ∃ f, m.F.D j = f := ⟨_, rfl⟩
          simp only [hfj] at a0 a1 a2 a3 fo
          have HFJ := Lib.hid hfj
          have HCN := Lib.hid (fun W hW => HCO.out f W hW)
          unfold Ba.Face.val at HCN
          clear hfj
          have zW := World.block_lt_of_cell? _ _ d0
          go_wp2_with fail
          refine (HCN.out _ (Gr.trans HS.out.g (Gr.alloc (Gr.refl _) _))).mono ?_
          rintro e w3 ⟨rfl, hb3⟩
          clear HCN
          have ga3 : Gr Wr w3 := Gr.trans (Gr.alloc (Gr.refl Wr) (Obj.cells #[.int .i64 f.a, .int .i64 f.b, .int .i64 f.c, .int .i64 f.k] 74)) hb3
          have bf := fun (q : Nat) (v : Value) (hc : (Wr.alloc (Obj.cells #[.int .i64 f.a, .int .i64 f.b, .int .i64 f.c, .int .i64 f.k] 74)).cell? ⟨Wr.heap.size, q, none⟩ = some v) => Gr.at hb3 hc
          have f30 := bf 0 (.int .i64 f.a) (by simp [go_sem]); have f31 := bf 1 (.int .i64 f.b) (by simp [go_sem]); have f32 := bf 2 (.int .i64 f.c) (by simp [go_sem]); have f33 := bf 3 (.int .i64 f.k) (by simp [go_sem])
          have HS3 := Lib.hid ((HS.out.more ga3 (Nat.le_refl _) (World.block_lt_of_cell? _ _ f30)).less (BT := fun b => b = Wr.heap.size) (fun b hb => .inr hb))
          have d30 := Gr.at ga3 d0; have d31 := Gr.at ga3 d1
          clear bf HS d0 d1 zW a0 a1 a2 a3 gS ga3 hb3
          obtain ⟨W3, hW3⟩ : ∃ W, W = w3 := ⟨_, rfl⟩
          subst hW3
          generalize Wr.heap.size = BF at *
          obtain ⟨qf, hqf⟩ : ∃ q, Ms.fcB m f = q := ⟨_, rfl⟩
          rw [hqf]
          cases qf
          · have hsd : Ms.sndB m (m.F.D j) = false := by rw [HFJ.out]; unfold Ms.sndB; rw [hqf]; rfl
            have hk3 : Ms.kd m 3 j = true := by show (!Ms.fcB m (m.F.D j)) = true; rw [HFJ.out, hqf]; rfl
            have hk4 : Ms.kd m 4 j = false := by show (Ms.fcB m (m.F.D j) && _) = false; rw [HFJ.out, hqf]; rfl
            have hk5 : Ms.kd m 5 j = false := by show (Ms.sndB m (m.F.D j) && _) = false; rw [hsd]; rfl
            have hk6 : Ms.kd m 6 j = false := by show (Ms.sndB m (m.F.D j) && _) = false; rw [hsd]; rfl
            have HRN := Lib.hid (Ms.rgt_no (m := m) (j := j) hsd)
            have HL := Lib.hid (Ms.lst_one (m := m) (i := sn) (j := j) (k := 3) (by omega) hk3 (fun q h1 h2 h3 => by rcases (by omega : q = 3 ∨ q = 4 ∨ q = 5 ∨ q = 6) with rfl | rfl | rfl | rfl <;> first | assumption | (exact absurd rfl h3)))
            clear hk3 hk4 hk5 hk6 hsd
            clear hqf HTU HCO HOV HFP
            go_upto_region 19 with fail
            go_cut [] (fun wx => ∃ V' : Nat → Value, Hid (Sr w base LB (fun b => b = BF) wx V' (Ms.lst m sn (j + 1)) u7 (Ms.rgt m j)) ∧ wx.cell? ⟨w.heap.size, 0, none⟩ = some (.slice sA sn sc) ∧ wx.cell? ⟨w.heap.size, 1, none⟩ = some (.slice (some ⟨m.F.b, m.F.o, none⟩) fn fc') ∧ wx.cell? ⟨BF, 0, none⟩ = some (.int .i64 f.a) ∧ wx.cell? ⟨BF, 1, none⟩ = some (.int .i64 f.b) ∧ wx.cell? ⟨BF, 2, none⟩ = some (.int .i64 f.c) ∧ wx.cell? ⟨BF, 3, none⟩ = some (.int .i64 f.k))
            case first =>
              have ccc := (HS3.out.fnd.cel 3 (by omega)).1
              have ffc := (HS3.out.fnd.cel 3 (by omega)).2
              have zbc := HS3.out.hb
              have cbc : LB < W3.heap.size := World.block_lt_of_cell? _ _ ccc
              have llc : (Ms.lst m sn j 3).length ≤ 61 := by first | (unfold Ms.lst; refine Nat.le_trans (Ms.idx_le _ _) ?_; split <;> omega) | (unfold Ms.l5 Ms.lst; split <;> (try rw [upd_ne _ _ (by omega)]) <;> (refine Nat.le_trans (Ms.idx_le _ _) ?_; split <;> omega))
              have HDc := Lib.hid (fun W => rs_decimal j W (by omega))
              go_region_law (first | (go_simp; go_at_call 86; refine (HDc.out _).mono ?_; rintro e xc ⟨rfl, hxc⟩; have gxc : Gr W3 xc := gr_auto; have cxc := Gr.at gxc ccc; have fxc := Gr.free gxc ccc ffc; have zxc := Gr.size gxc; have nxc : LB ≠ xc.heap.size := Nat.ne_of_lt (Nat.lt_of_lt_of_le cbc zxc); have lxc : LB < xc.heap.size := Nat.lt_of_lt_of_le cbc zxc) | (refine step_append_lies _ (by rfl) _ _ 82 (by rfl) base 128 ig (.agg #[.int .i64 0, .string ⟨#[]⟩]) 2 24 Tryz.underlying82 GI.out GI0.out GI1.out GI2.out rfl (by decide) (V 3) (Ms.lst m sn j 3).length (fr 3 (Ms.lst m sn j 3)) (by rfl) ((HS3.out.gr (show Gr W3 _ from gr_auto)).fnd.row (k := 3) (by omega)) _ 1 1 [.int .i64 3, .string ⟨(Lib.decDigits j).toArray⟩] (by rfl) rfl (by intro p u hp; rcases p with _ | _ | p <;> simp at hp <;> (try subst hp) <;> first | (simp [Addr.add, go_sem]; done) | (simp [Addr.add]; done)) (by intro u hu; simp at hu; rcases hu with rfl | rfl <;> rfl) (by decide) (by unfold maxLen; omega) (by omega) (by first | omega | (simp; omega)) _ rfl ?_; intro gc pc vc hoc hrc htc hlc; obtain ⟨ooc, ssc⟩ := (HS3.out.gr (show Gr W3 _ from gr_auto)).push (k := 3) (i := j) (by omega) hoc hrc htc (HL.out); have oxc := ooc.1; have oyc := ooc.2; replace ssc := Lib.hid ssc; clear ooc; have rd30 := (HS3.out.gr (show Gr W3 _ from gr_auto)).push_cell (k := 3) (g := gc) (cap := pc) (by omega) hrc (.inr (by have := HZ.out; omega)) (Gr.at (show Gr W3 _ from gr_auto) d30); have rd31 := (HS3.out.gr (show Gr W3 _ from gr_auto)).push_cell (k := 3) (g := gc) (cap := pc) (by omega) hrc (.inr (by have := HZ.out; omega)) (Gr.at (show Gr W3 _ from gr_auto) d31); have rf30 := (HS3.out.gr (show Gr W3 _ from gr_auto)).push_cell (k := 3) (g := gc) (cap := pc) (by omega) hrc (.inl (by simp)) (Gr.at (show Gr W3 _ from gr_auto) f30); have rf31 := (HS3.out.gr (show Gr W3 _ from gr_auto)).push_cell (k := 3) (g := gc) (cap := pc) (by omega) hrc (.inl (by simp)) (Gr.at (show Gr W3 _ from gr_auto) f31); have rf32 := (HS3.out.gr (show Gr W3 _ from gr_auto)).push_cell (k := 3) (g := gc) (cap := pc) (by omega) hrc (.inl (by simp)) (Gr.at (show Gr W3 _ from gr_auto) f32); have rf33 := (HS3.out.gr (show Gr W3 _ from gr_auto)).push_cell (k := 3) (g := gc) (cap := pc) (by omega) hrc (.inl (by simp)) (Gr.at (show Gr W3 _ from gr_auto) f33)))
              all_goals (go_wp2_with fail; go_meet; exact ⟨_, Lib.hid (ssc.out.gr (by exact gr_auto)), Gr.at (by exact gr_auto) rd30, Gr.at (by exact gr_auto) rd31, Gr.at (by exact gr_auto) rf30, Gr.at (by exact gr_auto) rf31, Gr.at (by exact gr_auto) rf32, Gr.at (by exact gr_auto) rf33⟩)
            case rest =>
              obtain ⟨V', HS4, d40, d41, f40, f41, f42, f43⟩ := hcut
              go_wp2_with fail
              go_roundw
              case rel => exact ⟨j + 1, V', by omega, by go_num, Lib.hid (by rw [HRN.out]; exact HS4.out.less (fun b hb => hb.elim)), d40, d41⟩
              case measure => simp [intOf]; omega
          · have HT := Lib.hid (HTU.out f W3 HS3.out.g hqf)
            obtain ⟨tn, htn⟩ : ∃ z, Ms.tTn (Ms.tri m f) = z := ⟨_, rfl⟩
            rw [htn] at HT
            unfold Ba.Face.val at HT
            go_wp2_with fail
            refine HT.out.mono ?_
            rintro e w4 ⟨rfl, hb4⟩
            clear HT
            have HS4 := Lib.hid (HS3.out.gr hb4)
            have d40 := Gr.at hb4 d30; have d41 := Gr.at hb4 d31; have f40 := Gr.at hb4 f30; have f41 := Gr.at hb4 f31; have f42 := Gr.at hb4 f32; have f43 := Gr.at hb4 f33
            clear HS3 d30 d31 f30 f31 f32 f33
            clear hb4
            obtain ⟨W4, hW4⟩ : ∃ W, W = w4 := ⟨_, rfl⟩
            subst hW4
            cases ht0 : decide (tn ≤ 0)
            · have hsf : Ms.sndB m f = true := by unfold Ms.sndB; rw [hqf, htn, decide_eq_true (by have := of_decide_eq_false ht0; omega)]; rfl
              have hsd : Ms.sndB m (m.F.D j) = true := by rw [HFJ.out]; exact hsf
              obtain ⟨rs, rfl, hrn, rsat, hrd⟩ := own_face HS4.out.snd rfl (fun t ht => by obtain ⟨i, hi, e, _⟩ := Ms.rgt_mem ht; rw [e]; exact (HFP.out i (by omega)).2.gr HS4.out.g)
              have hrl := Ms.rgt_len m j
              have HRD := Lib.hid (fun q (hq : q < rs.n) => hrd q (by rw [← hrn]; exact hq))
              have aS := Ms.rgt_any (m := m) (j := j) (Ms.ssB f) rs.D hrd; have aO := Ms.rgt_any (m := m) (j := j) (fun g => Ms.ovB (Ms.tri m f) (Ms.tri m g)) rs.D hrd
              obtain ⟨tk, htk⟩ : ∃ b, Ba.any (fun i => Ms.sndB m (m.F.D i) && Ms.ssB f (m.F.D i)) j = b := ⟨_, rfl⟩; obtain ⟨ov, hov⟩ : ∃ b, Ba.any (fun i => Ms.sndB m (m.F.D i) && Ms.ovB (Ms.tri m f) (Ms.tri m (m.F.D i))) j = b := ⟨_, rfl⟩
              rw [htk] at aS; rw [hov] at aO
              rw [← hrn] at aS aO
              obtain ⟨PS, hPS⟩ : ∃ P : Nat → Bool, (fun q => Ms.ssB f (rs.D q)) = P := ⟨_, rfl⟩; obtain ⟨PO, hPO⟩ : ∃ P : Nat → Bool, (fun q => (fun g => Ms.ovB (Ms.tri m f) (Ms.tri m g)) (rs.D q)) = P := ⟨_, rfl⟩
              rw [hPS] at aS; rw [hPO] at aO
              have HPS := Lib.hid (fun q => show Ms.ssB f (rs.D q) = PS q from by rw [← hPS]); have HPO := Lib.hid (fun q => show Ms.ovB (Ms.tri m f) (Ms.tri m (rs.D q)) = PO q from by rw [← hPO])
              clear hPS hPO
              have HL6 := Lib.hid (fun q hq => Ms.lst_two (m := m) (i := sn) (j := j) (b5 := tk) (b6 := ov) (by show (!Ms.fcB m (m.F.D j)) = false; rw [HFJ.out, hqf]; rfl) (by show (Ms.fcB m (m.F.D j) && !decide (0 < Ms.tTn (Ms.tri m (m.F.D j)))) = false; rw [HFJ.out, hqf, htn, decide_eq_true (by have := of_decide_eq_false ht0; omega)]; rfl) (by show (Ms.sndB m (m.F.D j) && Ba.any (fun i => Ms.sndB m (m.F.D i) && Ms.ssB (m.F.D j) (m.F.D i)) j) = tk; rw [hsd, HFJ.out, htk]; rfl) (by show (Ms.sndB m (m.F.D j) && Ba.any (fun r => Ms.sndB m (m.F.D r) && Ms.ovB (Ms.tri m (m.F.D j)) (Ms.tri m (m.F.D r))) j) = ov; rw [hsd, HFJ.out, hov]; rfl) q hq)
              clear htk hov htn hsf
              replace hqf := Lib.hid hqf
              have HAS := Lib.hid aS; have HAO := Lib.hid aO; have hrnl : rs.n ≤ 60 := by omega
              replace hrn := Lib.hid hrn; replace hsd := Lib.hid hsd
              clear aS aO hrl hrd HTU HCO
              go_wp2_with fail
              go_loopw [10, 11, 12] (fun a b x wz => ∃ k : Nat, k ≤ rs.n ∧ x = .int .i64 (k : Int) ∧ a = .bool (Ba.any PS k) ∧ b = .bool (Ba.any PO k) ∧ Gr W4 wz) (fun _ _ x _ => rs.n - (intOf x).toNat)
              case atStart => exact ⟨0, by omega, rfl, rfl, rfl, Gr.refl _⟩
              case round =>
                obtain ⟨k, hk, rfl, rfl, rfl, hgz⟩ := hrel
                rename World => W5
                by_cases hlk : k < rs.n
                · have hrA := rsat.hA (by omega)
                  obtain ⟨⟨t0, t1, t2, t3⟩, to_⟩ := rsat.hD k hlk
                  have hgf : Ms.fcB m (rs.D k) = true := by obtain ⟨i, _, _, h⟩ := Ms.rgt_mem (List.mem_of_getElem? (HRD.out k hlk)); exact h
                  have kb0 : (0 : Int) ≤ (k : Int) := by omega
                  have kb1 : (k : Int) < (rs.n : Int) := by omega
                  have eS := HPS.out k; have eO := HPO.out k
                  have zS := Ms.any_succ PS k; have zO := Ms.any_succ PO k
                  replace t0 := Gr.at hgz t0; replace t1 := Gr.at hgz t1; replace t2 := Gr.at hgz t2; replace t3 := Gr.at hgz t3
                  replace d40 := Gr.at hgz d40; replace d41 := Gr.at hgz d41; replace f40 := Gr.at hgz f40; replace f41 := Gr.at hgz f41; replace f42 := Gr.at hgz f42; replace f43 := Gr.at hgz f43
                  have G5 := HS4.out.g.trans hgz
                  have HSM := Lib.hid (fun W => rs_same f (rs.D k) W)
                  have HOVk := Lib.hid (fun W (hW : Gr w W) => HOV.out f (rs.D k) W hW hqf.out hgf)
                  rw [eS] at HSM
                  rw [eO] at HOVk
                  generalize PS k = ps at zS HSM; generalize PO k = po at zO HOVk
                  generalize Ba.any PS k = pa at *; generalize Ba.any PO k = pb at *
                  unfold Ba.Face.val at HSM HOVk
                  clear eS eO hgf HOV HPS HPO HRD HS4 to_
                  rw [hrA]
                  obtain ⟨g, hg⟩ : ∃ g, rs.D k = g := ⟨_, rfl⟩
                  simp only [hg] at HSM HOVk t0 t1 t2 t3
                  clear hg rsat
                  obtain ⟨rb, hrb⟩ : ∃ b, rs.b = b := ⟨_, rfl⟩; obtain ⟨ro, hro⟩ : ∃ b, rs.o = b := ⟨_, rfl⟩
                  simp only [hrb, hro] at t0 t1 t2 t3 ⊢
                  replace zS := Lib.hid zS; replace zO := Lib.hid zO
                  go_upto_region 26 with fail
                  go_cut [10] (fun c wx => c = .bool (pa || ps) ∧ Gr W5 wx)
                  case first =>
                    cases pa
                    · (first | refine name_world ?_ | refine (show (∀ W, W = _ → Calls _ _ _ W _) → Calls _ _ _ _ _ from fun h => h _ rfl) ?_); intro W6 hW6
                      have g6 : Gr w W6 := by rw [hW6]; exact gr_auto
                      have gb6_W5 : Gr W5 W6 := by (try clear g6); rw [hW6]; exact gr_auto
                      have k6_0 : W6.cell? ⟨BF, 0, none⟩ = some (.int .i64 f.a) := by rw [hW6]; first | (simp [go_sem, *]; done) | (refine Gr.at ?_ (by assumption); exact gr_auto)
                      have b6_0 : BF < W6.heap.size := World.block_lt_of_cell? _ _ k6_0
                      have k6_1 : W6.cell? ⟨BF, 1, none⟩ = some (.int .i64 f.b) := by rw [hW6]; first | (simp [go_sem, *]; done) | (refine Gr.at ?_ (by assumption); exact gr_auto)
                      have k6_2 : W6.cell? ⟨BF, 2, none⟩ = some (.int .i64 f.c) := by rw [hW6]; first | (simp [go_sem, *]; done) | (refine Gr.at ?_ (by assumption); exact gr_auto)
                      have k6_3 : W6.cell? ⟨BF, 3, none⟩ = some (.int .i64 f.k) := by rw [hW6]; first | (simp [go_sem, *]; done) | (refine Gr.at ?_ (by assumption); exact gr_auto)
                      have k6_4 : W6.cell? ⟨w.heap.size, 0, none⟩ = some (.slice sA sn sc) := by rw [hW6]; first | (simp [go_sem, *]; done) | (refine Gr.at ?_ (by assumption); exact gr_auto)
                      have b6_4 : w.heap.size < W6.heap.size := World.block_lt_of_cell? _ _ k6_4
                      have k6_5 : W6.cell? ⟨w.heap.size, 1, none⟩ = some (.slice (some ⟨m.F.b, m.F.o, none⟩) fn fc') := by rw [hW6]; first | (simp [go_sem, *]; done) | (refine Gr.at ?_ (by assumption); exact gr_auto)
                      have k6_6 : W6.cell? ⟨rb, ro + k * 4, none⟩ = some (.int .i64 g.a) := by rw [hW6]; first | (simp [go_sem, *]; done) | (refine Gr.at ?_ (by assumption); exact gr_auto)
                      have b6_6 : rb < W6.heap.size := World.block_lt_of_cell? _ _ k6_6
                      have k6_7 : W6.cell? ⟨rb, ro + k * 4 + 1, none⟩ = some (.int .i64 g.b) := by rw [hW6]; first | (simp [go_sem, *]; done) | (refine Gr.at ?_ (by assumption); exact gr_auto)
                      have k6_8 : W6.cell? ⟨rb, ro + k * 4 + 2, none⟩ = some (.int .i64 g.c) := by rw [hW6]; first | (simp [go_sem, *]; done) | (refine Gr.at ?_ (by assumption); exact gr_auto)
                      have k6_9 : W6.cell? ⟨rb, ro + k * 4 + 3, none⟩ = some (.int .i64 g.k) := by rw [hW6]; first | (simp [go_sem, *]; done) | (refine Gr.at ?_ (by assumption); exact gr_auto)
                      clear hW6
                      have s6_0 : ∀ gw : GW W6, gw.1.cell? ⟨BF, 0, none⟩ = some (.int .i64 f.a) := fun gw => Gr.at gw.2 k6_0
                      have s6_1 : ∀ gw : GW W6, gw.1.cell? ⟨BF, 1, none⟩ = some (.int .i64 f.b) := fun gw => Gr.at gw.2 k6_1
                      have s6_2 : ∀ gw : GW W6, gw.1.cell? ⟨BF, 2, none⟩ = some (.int .i64 f.c) := fun gw => Gr.at gw.2 k6_2
                      have s6_3 : ∀ gw : GW W6, gw.1.cell? ⟨BF, 3, none⟩ = some (.int .i64 f.k) := fun gw => Gr.at gw.2 k6_3
                      have s6_4 : ∀ gw : GW W6, gw.1.cell? ⟨w.heap.size, 0, none⟩ = some (.slice sA sn sc) := fun gw => Gr.at gw.2 k6_4
                      have s6_5 : ∀ gw : GW W6, gw.1.cell? ⟨w.heap.size, 1, none⟩ = some (.slice (some ⟨m.F.b, m.F.o, none⟩) fn fc') := fun gw => Gr.at gw.2 k6_5
                      have s6_6 : ∀ gw : GW W6, gw.1.cell? ⟨rb, ro + k * 4, none⟩ = some (.int .i64 g.a) := fun gw => Gr.at gw.2 k6_6
                      have s6_7 : ∀ gw : GW W6, gw.1.cell? ⟨rb, ro + k * 4 + 1, none⟩ = some (.int .i64 g.b) := fun gw => Gr.at gw.2 k6_7
                      have s6_8 : ∀ gw : GW W6, gw.1.cell? ⟨rb, ro + k * 4 + 2, none⟩ = some (.int .i64 g.c) := fun gw => Gr.at gw.2 k6_8
                      have s6_9 : ∀ gw : GW W6, gw.1.cell? ⟨rb, ro + k * 4 + 3, none⟩ = some (.int .i64 g.k) := fun gw => Gr.at gw.2 k6_9
                      have Q1 := Lib.hid (fun gw : GW W6 => gw_call (HSM.out gw.1))
                      refine wp_region_gr (by kernel_rfl) (by kernel_rfl) ?_
                      repeat (go_big_quiet_step ((go_at_call 89; with_reducible exact Q1.out _)))
                      refine wpQuiet_nil ?_
                      intro w7 hb7
                      clear s6_0 s6_1 s6_2 s6_3 s6_4 s6_5 s6_6 s6_7 s6_8 s6_9
                      have g7 : Gr w w7 := g6.trans hb7
                      have k6_0 := Gr.at hb7 k6_0
                      have k6_1 := Gr.at hb7 k6_1
                      have k6_2 := Gr.at hb7 k6_2
                      have k6_3 := Gr.at hb7 k6_3
                      have k6_4 := Gr.at hb7 k6_4
                      have k6_5 := Gr.at hb7 k6_5
                      have k6_6 := Gr.at hb7 k6_6
                      have k6_7 := Gr.at hb7 k6_7
                      have k6_8 := Gr.at hb7 k6_8
                      have k6_9 := Gr.at hb7 k6_9
                      go_wp2_with fail
                      go_meet
                      exact ⟨rfl, gb6_W5.trans hb7⟩
                    · (first | refine name_world ?_ | refine (show (∀ W, W = _ → Calls _ _ _ W _) → Calls _ _ _ _ _ from fun h => h _ rfl) ?_); intro W6 hW6
                      have g6 : Gr w W6 := by rw [hW6]; exact gr_auto
                      have gb6_W5 : Gr W5 W6 := by (try clear g6); rw [hW6]; exact gr_auto
                      have k6_0 : W6.cell? ⟨BF, 0, none⟩ = some (.int .i64 f.a) := by rw [hW6]; first | (simp [go_sem, *]; done) | (refine Gr.at ?_ (by assumption); exact gr_auto)
                      have b6_0 : BF < W6.heap.size := World.block_lt_of_cell? _ _ k6_0
                      have k6_1 : W6.cell? ⟨BF, 1, none⟩ = some (.int .i64 f.b) := by rw [hW6]; first | (simp [go_sem, *]; done) | (refine Gr.at ?_ (by assumption); exact gr_auto)
                      have k6_2 : W6.cell? ⟨BF, 2, none⟩ = some (.int .i64 f.c) := by rw [hW6]; first | (simp [go_sem, *]; done) | (refine Gr.at ?_ (by assumption); exact gr_auto)
                      have k6_3 : W6.cell? ⟨BF, 3, none⟩ = some (.int .i64 f.k) := by rw [hW6]; first | (simp [go_sem, *]; done) | (refine Gr.at ?_ (by assumption); exact gr_auto)
                      have k6_4 : W6.cell? ⟨w.heap.size, 0, none⟩ = some (.slice sA sn sc) := by rw [hW6]; first | (simp [go_sem, *]; done) | (refine Gr.at ?_ (by assumption); exact gr_auto)
                      have b6_4 : w.heap.size < W6.heap.size := World.block_lt_of_cell? _ _ k6_4
                      have k6_5 : W6.cell? ⟨w.heap.size, 1, none⟩ = some (.slice (some ⟨m.F.b, m.F.o, none⟩) fn fc') := by rw [hW6]; first | (simp [go_sem, *]; done) | (refine Gr.at ?_ (by assumption); exact gr_auto)
                      have k6_6 : W6.cell? ⟨rb, ro + k * 4, none⟩ = some (.int .i64 g.a) := by rw [hW6]; first | (simp [go_sem, *]; done) | (refine Gr.at ?_ (by assumption); exact gr_auto)
                      have b6_6 : rb < W6.heap.size := World.block_lt_of_cell? _ _ k6_6
                      have k6_7 : W6.cell? ⟨rb, ro + k * 4 + 1, none⟩ = some (.int .i64 g.b) := by rw [hW6]; first | (simp [go_sem, *]; done) | (refine Gr.at ?_ (by assumption); exact gr_auto)
                      have k6_8 : W6.cell? ⟨rb, ro + k * 4 + 2, none⟩ = some (.int .i64 g.c) := by rw [hW6]; first | (simp [go_sem, *]; done) | (refine Gr.at ?_ (by assumption); exact gr_auto)
                      have k6_9 : W6.cell? ⟨rb, ro + k * 4 + 3, none⟩ = some (.int .i64 g.k) := by rw [hW6]; first | (simp [go_sem, *]; done) | (refine Gr.at ?_ (by assumption); exact gr_auto)
                      clear hW6
                      have s6_0 : ∀ gw : GW W6, gw.1.cell? ⟨BF, 0, none⟩ = some (.int .i64 f.a) := fun gw => Gr.at gw.2 k6_0
                      have s6_1 : ∀ gw : GW W6, gw.1.cell? ⟨BF, 1, none⟩ = some (.int .i64 f.b) := fun gw => Gr.at gw.2 k6_1
                      have s6_2 : ∀ gw : GW W6, gw.1.cell? ⟨BF, 2, none⟩ = some (.int .i64 f.c) := fun gw => Gr.at gw.2 k6_2
                      have s6_3 : ∀ gw : GW W6, gw.1.cell? ⟨BF, 3, none⟩ = some (.int .i64 f.k) := fun gw => Gr.at gw.2 k6_3
                      have s6_4 : ∀ gw : GW W6, gw.1.cell? ⟨w.heap.size, 0, none⟩ = some (.slice sA sn sc) := fun gw => Gr.at gw.2 k6_4
                      have s6_5 : ∀ gw : GW W6, gw.1.cell? ⟨w.heap.size, 1, none⟩ = some (.slice (some ⟨m.F.b, m.F.o, none⟩) fn fc') := fun gw => Gr.at gw.2 k6_5
                      have s6_6 : ∀ gw : GW W6, gw.1.cell? ⟨rb, ro + k * 4, none⟩ = some (.int .i64 g.a) := fun gw => Gr.at gw.2 k6_6
                      have s6_7 : ∀ gw : GW W6, gw.1.cell? ⟨rb, ro + k * 4 + 1, none⟩ = some (.int .i64 g.b) := fun gw => Gr.at gw.2 k6_7
                      have s6_8 : ∀ gw : GW W6, gw.1.cell? ⟨rb, ro + k * 4 + 2, none⟩ = some (.int .i64 g.c) := fun gw => Gr.at gw.2 k6_8
                      have s6_9 : ∀ gw : GW W6, gw.1.cell? ⟨rb, ro + k * 4 + 3, none⟩ = some (.int .i64 g.k) := fun gw => Gr.at gw.2 k6_9
                      have Q1 := Lib.hid (fun gw : GW W6 => gw_call (HSM.out gw.1))
                      refine wp_region_gr (by kernel_rfl) (by kernel_rfl) ?_
                      repeat (go_big_quiet_step ((go_at_call 89; with_reducible exact Q1.out _)))
                      refine wpQuiet_nil ?_
                      intro w7 hb7
                      clear s6_0 s6_1 s6_2 s6_3 s6_4 s6_5 s6_6 s6_7 s6_8 s6_9
                      have g7 : Gr w w7 := g6.trans hb7
                      have k6_0 := Gr.at hb7 k6_0
                      have k6_1 := Gr.at hb7 k6_1
                      have k6_2 := Gr.at hb7 k6_2
                      have k6_3 := Gr.at hb7 k6_3
                      have k6_4 := Gr.at hb7 k6_4
                      have k6_5 := Gr.at hb7 k6_5
                      have k6_6 := Gr.at hb7 k6_6
                      have k6_7 := Gr.at hb7 k6_7
                      have k6_8 := Gr.at hb7 k6_8
                      have k6_9 := Gr.at hb7 k6_9
                      go_wp2_with fail
                      go_meet
                      exact ⟨rfl, gb6_W5.trans hb7⟩
                  case rest =>
                    obtain ⟨rfl, hgx26⟩ := hcut
                    rename World => W8
                    replace d40 := Gr.at hgx26 d40; replace d41 := Gr.at hgx26 d41; replace f40 := Gr.at hgx26 f40; replace f41 := Gr.at hgx26 f41; replace f42 := Gr.at hgx26 f42; replace f43 := Gr.at hgx26 f43; replace t0 := Gr.at hgx26 t0; replace t1 := Gr.at hgx26 t1; replace t2 := Gr.at hgx26 t2; replace t3 := Gr.at hgx26 t3
                    go_upto_region 27 with fail
                    cases pb
                    · (first | refine name_world ?_ | refine (show (∀ W, W = _ → Calls _ _ _ W _) → Calls _ _ _ _ _ from fun h => h _ rfl) ?_); intro W9 hW9
                      have g9 : Gr w W9 := by rw [hW9]; exact gr_auto
                      have gb9_W8 : Gr W8 W9 := by (try clear g9); rw [hW9]; exact gr_auto
                      have k9_0 : W9.cell? ⟨BF, 0, none⟩ = some (.int .i64 f.a) := by rw [hW9]; first | (simp [go_sem, *]; done) | (refine Gr.at ?_ (by assumption); exact gr_auto)
                      have b9_0 : BF < W9.heap.size := World.block_lt_of_cell? _ _ k9_0
                      have k9_1 : W9.cell? ⟨BF, 1, none⟩ = some (.int .i64 f.b) := by rw [hW9]; first | (simp [go_sem, *]; done) | (refine Gr.at ?_ (by assumption); exact gr_auto)
                      have k9_2 : W9.cell? ⟨BF, 2, none⟩ = some (.int .i64 f.c) := by rw [hW9]; first | (simp [go_sem, *]; done) | (refine Gr.at ?_ (by assumption); exact gr_auto)
                      have k9_3 : W9.cell? ⟨BF, 3, none⟩ = some (.int .i64 f.k) := by rw [hW9]; first | (simp [go_sem, *]; done) | (refine Gr.at ?_ (by assumption); exact gr_auto)
                      have k9_4 : W9.cell? ⟨w.heap.size, 0, none⟩ = some (.slice sA sn sc) := by rw [hW9]; first | (simp [go_sem, *]; done) | (refine Gr.at ?_ (by assumption); exact gr_auto)
                      have b9_4 : w.heap.size < W9.heap.size := World.block_lt_of_cell? _ _ k9_4
                      have k9_5 : W9.cell? ⟨w.heap.size, 1, none⟩ = some (.slice (some ⟨m.F.b, m.F.o, none⟩) fn fc') := by rw [hW9]; first | (simp [go_sem, *]; done) | (refine Gr.at ?_ (by assumption); exact gr_auto)
                      have k9_6 : W9.cell? ⟨rb, ro + k * 4, none⟩ = some (.int .i64 g.a) := by rw [hW9]; first | (simp [go_sem, *]; done) | (refine Gr.at ?_ (by assumption); exact gr_auto)
                      have b9_6 : rb < W9.heap.size := World.block_lt_of_cell? _ _ k9_6
                      have k9_7 : W9.cell? ⟨rb, ro + k * 4 + 1, none⟩ = some (.int .i64 g.b) := by rw [hW9]; first | (simp [go_sem, *]; done) | (refine Gr.at ?_ (by assumption); exact gr_auto)
                      have k9_8 : W9.cell? ⟨rb, ro + k * 4 + 2, none⟩ = some (.int .i64 g.c) := by rw [hW9]; first | (simp [go_sem, *]; done) | (refine Gr.at ?_ (by assumption); exact gr_auto)
                      have k9_9 : W9.cell? ⟨rb, ro + k * 4 + 3, none⟩ = some (.int .i64 g.k) := by rw [hW9]; first | (simp [go_sem, *]; done) | (refine Gr.at ?_ (by assumption); exact gr_auto)
                      clear hW9
                      have s9_0 : ∀ gw : GW W9, gw.1.cell? ⟨BF, 0, none⟩ = some (.int .i64 f.a) := fun gw => Gr.at gw.2 k9_0
                      have s9_1 : ∀ gw : GW W9, gw.1.cell? ⟨BF, 1, none⟩ = some (.int .i64 f.b) := fun gw => Gr.at gw.2 k9_1
                      have s9_2 : ∀ gw : GW W9, gw.1.cell? ⟨BF, 2, none⟩ = some (.int .i64 f.c) := fun gw => Gr.at gw.2 k9_2
                      have s9_3 : ∀ gw : GW W9, gw.1.cell? ⟨BF, 3, none⟩ = some (.int .i64 f.k) := fun gw => Gr.at gw.2 k9_3
                      have s9_4 : ∀ gw : GW W9, gw.1.cell? ⟨w.heap.size, 0, none⟩ = some (.slice sA sn sc) := fun gw => Gr.at gw.2 k9_4
                      have s9_5 : ∀ gw : GW W9, gw.1.cell? ⟨w.heap.size, 1, none⟩ = some (.slice (some ⟨m.F.b, m.F.o, none⟩) fn fc') := fun gw => Gr.at gw.2 k9_5
                      have s9_6 : ∀ gw : GW W9, gw.1.cell? ⟨rb, ro + k * 4, none⟩ = some (.int .i64 g.a) := fun gw => Gr.at gw.2 k9_6
                      have s9_7 : ∀ gw : GW W9, gw.1.cell? ⟨rb, ro + k * 4 + 1, none⟩ = some (.int .i64 g.b) := fun gw => Gr.at gw.2 k9_7
                      have s9_8 : ∀ gw : GW W9, gw.1.cell? ⟨rb, ro + k * 4 + 2, none⟩ = some (.int .i64 g.c) := fun gw => Gr.at gw.2 k9_8
                      have s9_9 : ∀ gw : GW W9, gw.1.cell? ⟨rb, ro + k * 4 + 3, none⟩ = some (.int .i64 g.k) := fun gw => Gr.at gw.2 k9_9
                      have Q1 := Lib.hid (fun gw : GW W9 => gw_call (HOVk.out gw.1 (G5.trans (hgx26.trans (gb9_W8.trans gw.2)))))
                      refine wp_region_gr (by kernel_rfl) (by kernel_rfl) ?_
                      repeat (go_big_quiet_step ((go_at_call 90; with_reducible exact Q1.out _)))
                      refine wpQuiet_nil ?_
                      intro w10 hb10
                      clear s9_0 s9_1 s9_2 s9_3 s9_4 s9_5 s9_6 s9_7 s9_8 s9_9
                      have g10 : Gr w w10 := g9.trans hb10
                      have k9_0 := Gr.at hb10 k9_0
                      have k9_1 := Gr.at hb10 k9_1
                      have k9_2 := Gr.at hb10 k9_2
                      have k9_3 := Gr.at hb10 k9_3
                      have k9_4 := Gr.at hb10 k9_4
                      have k9_5 := Gr.at hb10 k9_5
                      have k9_6 := Gr.at hb10 k9_6
                      have k9_7 := Gr.at hb10 k9_7
                      have k9_8 := Gr.at hb10 k9_8
                      have k9_9 := Gr.at hb10 k9_9
                      go_wp2_with fail
                      go_roundw
                      case rel => exact ⟨k + 1, by omega, by go_num, by rw [zS.out], by rw [zO.out]; rfl, hgz.trans (hgx26.trans (gb9_W8.trans hb10))⟩
                      case measure => simp [intOf]; omega
                    · (first | refine name_world ?_ | refine (show (∀ W, W = _ → Calls _ _ _ W _) → Calls _ _ _ _ _ from fun h => h _ rfl) ?_); intro W9 hW9
                      have g9 : Gr w W9 := by rw [hW9]; exact gr_auto
                      have gb9_W8 : Gr W8 W9 := by (try clear g9); rw [hW9]; exact gr_auto
                      have k9_0 : W9.cell? ⟨BF, 0, none⟩ = some (.int .i64 f.a) := by rw [hW9]; first | (simp [go_sem, *]; done) | (refine Gr.at ?_ (by assumption); exact gr_auto)
                      have b9_0 : BF < W9.heap.size := World.block_lt_of_cell? _ _ k9_0
                      have k9_1 : W9.cell? ⟨BF, 1, none⟩ = some (.int .i64 f.b) := by rw [hW9]; first | (simp [go_sem, *]; done) | (refine Gr.at ?_ (by assumption); exact gr_auto)
                      have k9_2 : W9.cell? ⟨BF, 2, none⟩ = some (.int .i64 f.c) := by rw [hW9]; first | (simp [go_sem, *]; done) | (refine Gr.at ?_ (by assumption); exact gr_auto)
                      have k9_3 : W9.cell? ⟨BF, 3, none⟩ = some (.int .i64 f.k) := by rw [hW9]; first | (simp [go_sem, *]; done) | (refine Gr.at ?_ (by assumption); exact gr_auto)
                      have k9_4 : W9.cell? ⟨w.heap.size, 0, none⟩ = some (.slice sA sn sc) := by rw [hW9]; first | (simp [go_sem, *]; done) | (refine Gr.at ?_ (by assumption); exact gr_auto)
                      have b9_4 : w.heap.size < W9.heap.size := World.block_lt_of_cell? _ _ k9_4
                      have k9_5 : W9.cell? ⟨w.heap.size, 1, none⟩ = some (.slice (some ⟨m.F.b, m.F.o, none⟩) fn fc') := by rw [hW9]; first | (simp [go_sem, *]; done) | (refine Gr.at ?_ (by assumption); exact gr_auto)
                      have k9_6 : W9.cell? ⟨rb, ro + k * 4, none⟩ = some (.int .i64 g.a) := by rw [hW9]; first | (simp [go_sem, *]; done) | (refine Gr.at ?_ (by assumption); exact gr_auto)
                      have b9_6 : rb < W9.heap.size := World.block_lt_of_cell? _ _ k9_6
                      have k9_7 : W9.cell? ⟨rb, ro + k * 4 + 1, none⟩ = some (.int .i64 g.b) := by rw [hW9]; first | (simp [go_sem, *]; done) | (refine Gr.at ?_ (by assumption); exact gr_auto)
                      have k9_8 : W9.cell? ⟨rb, ro + k * 4 + 2, none⟩ = some (.int .i64 g.c) := by rw [hW9]; first | (simp [go_sem, *]; done) | (refine Gr.at ?_ (by assumption); exact gr_auto)
                      have k9_9 : W9.cell? ⟨rb, ro + k * 4 + 3, none⟩ = some (.int .i64 g.k) := by rw [hW9]; first | (simp [go_sem, *]; done) | (refine Gr.at ?_ (by assumption); exact gr_auto)
                      clear hW9
                      have s9_0 : ∀ gw : GW W9, gw.1.cell? ⟨BF, 0, none⟩ = some (.int .i64 f.a) := fun gw => Gr.at gw.2 k9_0
                      have s9_1 : ∀ gw : GW W9, gw.1.cell? ⟨BF, 1, none⟩ = some (.int .i64 f.b) := fun gw => Gr.at gw.2 k9_1
                      have s9_2 : ∀ gw : GW W9, gw.1.cell? ⟨BF, 2, none⟩ = some (.int .i64 f.c) := fun gw => Gr.at gw.2 k9_2
                      have s9_3 : ∀ gw : GW W9, gw.1.cell? ⟨BF, 3, none⟩ = some (.int .i64 f.k) := fun gw => Gr.at gw.2 k9_3
                      have s9_4 : ∀ gw : GW W9, gw.1.cell? ⟨w.heap.size, 0, none⟩ = some (.slice sA sn sc) := fun gw => Gr.at gw.2 k9_4
                      have s9_5 : ∀ gw : GW W9, gw.1.cell? ⟨w.heap.size, 1, none⟩ = some (.slice (some ⟨m.F.b, m.F.o, none⟩) fn fc') := fun gw => Gr.at gw.2 k9_5
                      have s9_6 : ∀ gw : GW W9, gw.1.cell? ⟨rb, ro + k * 4, none⟩ = some (.int .i64 g.a) := fun gw => Gr.at gw.2 k9_6
                      have s9_7 : ∀ gw : GW W9, gw.1.cell? ⟨rb, ro + k * 4 + 1, none⟩ = some (.int .i64 g.b) := fun gw => Gr.at gw.2 k9_7
                      have s9_8 : ∀ gw : GW W9, gw.1.cell? ⟨rb, ro + k * 4 + 2, none⟩ = some (.int .i64 g.c) := fun gw => Gr.at gw.2 k9_8
                      have s9_9 : ∀ gw : GW W9, gw.1.cell? ⟨rb, ro + k * 4 + 3, none⟩ = some (.int .i64 g.k) := fun gw => Gr.at gw.2 k9_9
                      have Q1 := Lib.hid (fun gw : GW W9 => gw_call (HOVk.out gw.1 (G5.trans (hgx26.trans (gb9_W8.trans gw.2)))))
                      refine wp_region_gr (by kernel_rfl) (by kernel_rfl) ?_
                      repeat (go_big_quiet_step ((go_at_call 90; with_reducible exact Q1.out _)))
                      refine wpQuiet_nil ?_
                      intro w10 hb10
                      clear s9_0 s9_1 s9_2 s9_3 s9_4 s9_5 s9_6 s9_7 s9_8 s9_9
                      have g10 : Gr w w10 := g9.trans hb10
                      have k9_0 := Gr.at hb10 k9_0
                      have k9_1 := Gr.at hb10 k9_1
                      have k9_2 := Gr.at hb10 k9_2
                      have k9_3 := Gr.at hb10 k9_3
                      have k9_4 := Gr.at hb10 k9_4
                      have k9_5 := Gr.at hb10 k9_5
                      have k9_6 := Gr.at hb10 k9_6
                      have k9_7 := Gr.at hb10 k9_7
                      have k9_8 := Gr.at hb10 k9_8
                      have k9_9 := Gr.at hb10 k9_9
                      go_wp2_with fail
                      go_roundw
                      case rel => exact ⟨k + 1, by omega, by go_num, by rw [zS.out], by rw [zO.out]; rfl, hgz.trans (hgx26.trans (gb9_W8.trans hb10))⟩
                      case measure => simp [intOf]; omega
                · obtain rfl : k = rs.n := by omega
                  rw [HAS.out, HAO.out]
                  have HS5 := Lib.hid (HS4.out.gr hgz)
                  have d50 := Gr.at hgz d40; have d51 := Gr.at hgz d41; have f50 := Gr.at hgz f40; have f51 := Gr.at hgz f41; have f52 := Gr.at hgz f42; have f53 := Gr.at hgz f43
                  clear HS4 d40 d41 f40 f41 f42 f43
                  clear hgz HPS HPO HAS HAO HRD rsat hk hlk
                  replace hsd := hsd.out
                  go_upto_if 138 with fail
                  go_cut [] (fun wx => ∃ V' : Nat → Value, Hid (Sr w base LB (fun b => b = BF) wx V' (Ms.l5 (Ms.lst m sn j) j tk) (.slice rs.A rs.n rs.c) (Ms.rgt m j)) ∧ wx.cell? ⟨w.heap.size, 0, none⟩ = some (.slice sA sn sc) ∧ wx.cell? ⟨w.heap.size, 1, none⟩ = some (.slice (some ⟨m.F.b, m.F.o, none⟩) fn fc') ∧ wx.cell? ⟨BF, 0, none⟩ = some (.int .i64 f.a) ∧ wx.cell? ⟨BF, 1, none⟩ = some (.int .i64 f.b) ∧ wx.cell? ⟨BF, 2, none⟩ = some (.int .i64 f.c) ∧ wx.cell? ⟨BF, 3, none⟩ = some (.int .i64 f.k))
                  case first =>
                    cases tk
                    · go_wp2_with fail
                      go_meet
                      exact ⟨V, HS5, d50, d51, f50, f51, f52, f53⟩
                    · go_upto_region 29 with fail
                      have cce := (HS5.out.fnd.cel 5 (by omega)).1
                      have ffe := (HS5.out.fnd.cel 5 (by omega)).2
                      have zbe := HS5.out.hb
                      have cbe : LB < W5.heap.size := World.block_lt_of_cell? _ _ cce
                      have lle : (Ms.lst m sn j 5).length ≤ 61 := by first | (unfold Ms.lst; refine Nat.le_trans (Ms.idx_le _ _) ?_; split <;> omega) | (unfold Ms.l5 Ms.lst; split <;> (try rw [upd_ne _ _ (by omega)]) <;> (refine Nat.le_trans (Ms.idx_le _ _) ?_; split <;> omega))
                      have HDe := Lib.hid (fun W => rs_decimal j W (by omega))
                      go_region_law (first | (go_simp; go_at_call 86; refine (HDe.out _).mono ?_; rintro e xe ⟨rfl, hxe⟩; have gxe : Gr W5 xe := gr_auto; have cxe := Gr.at gxe cce; have fxe := Gr.free gxe cce ffe; have zxe := Gr.size gxe; have nxe : LB ≠ xe.heap.size := Nat.ne_of_lt (Nat.lt_of_lt_of_le cbe zxe); have lxe : LB < xe.heap.size := Nat.lt_of_lt_of_le cbe zxe) | (refine step_append_lies _ (by rfl) _ _ 82 (by rfl) base 128 ig (.agg #[.int .i64 0, .string ⟨#[]⟩]) 2 24 Tryz.underlying82 GI.out GI0.out GI1.out GI2.out rfl (by decide) (V 5) (Ms.lst m sn j 5).length (fr 5 (Ms.lst m sn j 5)) (by rfl) ((HS5.out.gr (show Gr W5 _ from gr_auto)).fnd.row (k := 5) (by omega)) _ 1 1 [.int .i64 5, .string ⟨(Lib.decDigits j).toArray⟩] (by rfl) rfl (by intro p u hp; rcases p with _ | _ | p <;> simp at hp <;> (try subst hp) <;> first | (simp [Addr.add, go_sem]; done) | (simp [Addr.add]; done)) (by intro u hu; simp at hu; rcases hu with rfl | rfl <;> rfl) (by decide) (by unfold maxLen; omega) (by omega) (by first | omega | (simp; omega)) _ rfl ?_; intro ge pe ve hoe hre hte hle; obtain ⟨ooe, sse⟩ := (HS5.out.gr (show Gr W5 _ from gr_auto)).push (k := 5) (i := j) (by omega) hoe hre hte (fun _ _ => rfl); have oxe := ooe.1; have oye := ooe.2; replace sse := Lib.hid sse; clear ooe; have rd50 := (HS5.out.gr (show Gr W5 _ from gr_auto)).push_cell (k := 5) (g := ge) (cap := pe) (by omega) hre (.inr (by have := HZ.out; omega)) (Gr.at (show Gr W5 _ from gr_auto) d50); have rd51 := (HS5.out.gr (show Gr W5 _ from gr_auto)).push_cell (k := 5) (g := ge) (cap := pe) (by omega) hre (.inr (by have := HZ.out; omega)) (Gr.at (show Gr W5 _ from gr_auto) d51); have rf50 := (HS5.out.gr (show Gr W5 _ from gr_auto)).push_cell (k := 5) (g := ge) (cap := pe) (by omega) hre (.inl (by simp)) (Gr.at (show Gr W5 _ from gr_auto) f50); have rf51 := (HS5.out.gr (show Gr W5 _ from gr_auto)).push_cell (k := 5) (g := ge) (cap := pe) (by omega) hre (.inl (by simp)) (Gr.at (show Gr W5 _ from gr_auto) f51); have rf52 := (HS5.out.gr (show Gr W5 _ from gr_auto)).push_cell (k := 5) (g := ge) (cap := pe) (by omega) hre (.inl (by simp)) (Gr.at (show Gr W5 _ from gr_auto) f52); have rf53 := (HS5.out.gr (show Gr W5 _ from gr_auto)).push_cell (k := 5) (g := ge) (cap := pe) (by omega) hre (.inl (by simp)) (Gr.at (show Gr W5 _ from gr_auto) f53)))
                      all_goals (go_wp2_with fail; go_meet; exact ⟨_, Lib.hid (sse.out.gr (by exact gr_auto)), Gr.at (by exact gr_auto) rd50, Gr.at (by exact gr_auto) rd51, Gr.at (by exact gr_auto) rf50, Gr.at (by exact gr_auto) rf51, Gr.at (by exact gr_auto) rf52, Gr.at (by exact gr_auto) rf53⟩)
                  case rest =>
                    obtain ⟨V, HS6, d60, d61, f60, f61, f62, f63⟩ := hcut
                    rename World => W6
                    clear HS5 d50 d51 f50 f51 f52 f53
                    go_upto_if 149 with fail
                    go_cut [] (fun wx => ∃ V' : Nat → Value, Hid (Sr w base LB (fun b => b = BF) wx V' (Ms.l6 (Ms.l5 (Ms.lst m sn j) j tk) j ov) (.slice rs.A rs.n rs.c) (Ms.rgt m j)) ∧ wx.cell? ⟨w.heap.size, 0, none⟩ = some (.slice sA sn sc) ∧ wx.cell? ⟨w.heap.size, 1, none⟩ = some (.slice (some ⟨m.F.b, m.F.o, none⟩) fn fc') ∧ wx.cell? ⟨BF, 0, none⟩ = some (.int .i64 f.a) ∧ wx.cell? ⟨BF, 1, none⟩ = some (.int .i64 f.b) ∧ wx.cell? ⟨BF, 2, none⟩ = some (.int .i64 f.c) ∧ wx.cell? ⟨BF, 3, none⟩ = some (.int .i64 f.k))
                    case first =>
                      cases ov
                      · go_wp2_with fail
                        go_meet
                        exact ⟨V, HS6, d60, d61, f60, f61, f62, f63⟩
                      · go_upto_region 31 with fail
                        have ccf := (HS6.out.fnd.cel 6 (by omega)).1
                        have fff := (HS6.out.fnd.cel 6 (by omega)).2
                        have zbf := HS6.out.hb
                        have cbf : LB < W6.heap.size := World.block_lt_of_cell? _ _ ccf
                        have llf : (Ms.l5 (Ms.lst m sn j) j tk 6).length ≤ 61 := by first | (unfold Ms.lst; refine Nat.le_trans (Ms.idx_le _ _) ?_; split <;> omega) | (unfold Ms.l5 Ms.lst; split <;> (try rw [upd_ne _ _ (by omega)]) <;> (refine Nat.le_trans (Ms.idx_le _ _) ?_; split <;> omega))
                        have HDf := Lib.hid (fun W => rs_decimal j W (by omega))
                        go_region_law (first | (go_simp; go_at_call 86; refine (HDf.out _).mono ?_; rintro e xf ⟨rfl, hxf⟩; have gxf : Gr W6 xf := gr_auto; have cxf := Gr.at gxf ccf; have fxf := Gr.free gxf ccf fff; have zxf := Gr.size gxf; have nxf : LB ≠ xf.heap.size := Nat.ne_of_lt (Nat.lt_of_lt_of_le cbf zxf); have lxf : LB < xf.heap.size := Nat.lt_of_lt_of_le cbf zxf) | (refine step_append_lies _ (by rfl) _ _ 82 (by rfl) base 128 ig (.agg #[.int .i64 0, .string ⟨#[]⟩]) 2 24 Tryz.underlying82 GI.out GI0.out GI1.out GI2.out rfl (by decide) (V 6) (Ms.l5 (Ms.lst m sn j) j tk 6).length (fr 6 (Ms.l5 (Ms.lst m sn j) j tk 6)) (by rfl) ((HS6.out.gr (show Gr W6 _ from gr_auto)).fnd.row (k := 6) (by omega)) _ 1 1 [.int .i64 6, .string ⟨(Lib.decDigits j).toArray⟩] (by rfl) rfl (by intro p u hp; rcases p with _ | _ | p <;> simp at hp <;> (try subst hp) <;> first | (simp [Addr.add, go_sem]; done) | (simp [Addr.add]; done)) (by intro u hu; simp at hu; rcases hu with rfl | rfl <;> rfl) (by decide) (by unfold maxLen; omega) (by omega) (by first | omega | (simp; omega)) _ rfl ?_; intro gf pf vf hof hrf htf hlf; obtain ⟨oof, ssf⟩ := (HS6.out.gr (show Gr W6 _ from gr_auto)).push (k := 6) (i := j) (by omega) hof hrf htf (fun _ _ => rfl); have oxf := oof.1; have oyf := oof.2; replace ssf := Lib.hid ssf; clear oof; have rd60 := (HS6.out.gr (show Gr W6 _ from gr_auto)).push_cell (k := 6) (g := gf) (cap := pf) (by omega) hrf (.inr (by have := HZ.out; omega)) (Gr.at (show Gr W6 _ from gr_auto) d60); have rd61 := (HS6.out.gr (show Gr W6 _ from gr_auto)).push_cell (k := 6) (g := gf) (cap := pf) (by omega) hrf (.inr (by have := HZ.out; omega)) (Gr.at (show Gr W6 _ from gr_auto) d61); have rf60 := (HS6.out.gr (show Gr W6 _ from gr_auto)).push_cell (k := 6) (g := gf) (cap := pf) (by omega) hrf (.inl (by simp)) (Gr.at (show Gr W6 _ from gr_auto) f60); have rf61 := (HS6.out.gr (show Gr W6 _ from gr_auto)).push_cell (k := 6) (g := gf) (cap := pf) (by omega) hrf (.inl (by simp)) (Gr.at (show Gr W6 _ from gr_auto) f61); have rf62 := (HS6.out.gr (show Gr W6 _ from gr_auto)).push_cell (k := 6) (g := gf) (cap := pf) (by omega) hrf (.inl (by simp)) (Gr.at (show Gr W6 _ from gr_auto) f62); have rf63 := (HS6.out.gr (show Gr W6 _ from gr_auto)).push_cell (k := 6) (g := gf) (cap := pf) (by omega) hrf (.inl (by simp)) (Gr.at (show Gr W6 _ from gr_auto) f63)))
                        all_goals (go_wp2_with fail; go_meet; exact ⟨_, Lib.hid (ssf.out.gr (by exact gr_auto)), Gr.at (by exact gr_auto) rd60, Gr.at (by exact gr_auto) rd61, Gr.at (by exact gr_auto) rf60, Gr.at (by exact gr_auto) rf61, Gr.at (by exact gr_auto) rf62, Gr.at (by exact gr_auto) rf63⟩)
                    case rest =>
                      obtain ⟨V, HS7, d70, d71, f70, f71, f72, f73⟩ := hcut
                      rename World => W7
                      clear HS6 d60 d61 f60 f61 f62 f63
                      have aaz := Lib.hid (HS7.out.gr (Gr.alloc (Gr.refl W7) (Obj.cells #[.int .i64 f.a, .int .i64 f.b, .int .i64 f.c, .int .i64 f.k] 74)))
                      have zbz := HS7.out.hb
                      have zf7 := World.block_lt_of_cell? _ _ f70
                      have llz := Ms.rgt_len m j
                      go_wp2_with (at_builtin; refine wpList_append_lies _ rfl _ _ 23 rfl base 74 ic (.agg #[.int .i64 0, .int .i64 0, .int .i64 0, .int .i64 0]) 4 32 Tryz.underlying23 TI.out TI0.out TI1.out TI2.out rfl (by decide) (.slice rs.A rs.n rs.c) (Ms.rgt m j).length (fc (Ms.rgt m j)) rfl aaz.out.snd ⟨W7.heap.size, 0, none⟩ 1 1 [.int .i64 f.a, .int .i64 f.b, .int .i64 f.c, .int .i64 f.k] rfl rfl (by intro p u hp; rcases p with _ | _ | _ | _ | p <;> simp at hp <;> (try subst hp) <;> first | (simp [Addr.add, go_sem]; done) | (simp [Addr.add]; done)) (by intro u hu; simp at hu; rcases hu with rfl | rfl | rfl | rfl <;> rfl) (by decide) (by unfold maxLen; omega) (by omega) (by simp; omega) _ rfl ?_)
                      intro ggz ppz vz hoz hrz htz hlz
                      have ssz := aaz.out.face hoz hrz (by rcases htz with h | h; exact .inl h; exact .inr (by rw [h]; simp))
                      have d80 := aaz.out.face_cell hrz (.inr (by have := HZ.out; omega)) (Gr.at (Gr.alloc (Gr.refl _) _) d70)
                      have d81 := aaz.out.face_cell hrz (.inr (by have := HZ.out; omega)) (Gr.at (Gr.alloc (Gr.refl _) _) d71)
                      have HS8 := Lib.hid (show Sr w base LB (fun _ => False) vz V (Ms.lst m sn (j + 1)) _ (Ms.rgt m (j + 1)) from by rw [Ms.rgt_yes hsd, HFJ.out]; exact (ssz.as (fun q hq => HL6.out q hq)).less (fun b hb => hb.elim))
                      clear aaz zbz llz hoz hrz htz hlz ssz HS7 d70 d71
                      go_wp2_with fail
                      go_roundw
                      case rel => exact ⟨j + 1, V, by omega, by go_num, HS8, d80, d81⟩
                      case measure => simp [intOf]; omega
            · have hsd : Ms.sndB m (m.F.D j) = false := by rw [HFJ.out]; unfold Ms.sndB; rw [hqf, htn, decide_eq_false (by have := of_decide_eq_true ht0; omega)]; rfl
              have hk3 : Ms.kd m 3 j = false := by show (!Ms.fcB m (m.F.D j)) = false; rw [HFJ.out, hqf]; rfl
              have hk4 : Ms.kd m 4 j = true := by show (Ms.fcB m (m.F.D j) && !decide (0 < Ms.tTn (Ms.tri m (m.F.D j)))) = true; rw [HFJ.out, hqf, htn, decide_eq_false (by have := of_decide_eq_true ht0; omega)]; rfl
              have hk5 : Ms.kd m 5 j = false := by show (Ms.sndB m (m.F.D j) && _) = false; rw [hsd]; rfl
              have hk6 : Ms.kd m 6 j = false := by show (Ms.sndB m (m.F.D j) && _) = false; rw [hsd]; rfl
              have HRN := Lib.hid (Ms.rgt_no (m := m) (j := j) hsd)
              have HL := Lib.hid (Ms.lst_one (m := m) (i := sn) (j := j) (k := 4) (by omega) hk4 (fun q h1 h2 h3 => by rcases (by omega : q = 3 ∨ q = 4 ∨ q = 5 ∨ q = 6) with rfl | rfl | rfl | rfl <;> first | assumption | (exact absurd rfl h3)))
              clear hk3 hk4 hk5 hk6 hsd
              clear hqf htn HTU HCO HOV HFP
              go_upto_region 21 with fail
              go_cut [] (fun wx => ∃ V' : Nat → Value, Hid (Sr w base LB (fun b => b = BF) wx V' (Ms.lst m sn (j + 1)) u7 (Ms.rgt m j)) ∧ wx.cell? ⟨w.heap.size, 0, none⟩ = some (.slice sA sn sc) ∧ wx.cell? ⟨w.heap.size, 1, none⟩ = some (.slice (some ⟨m.F.b, m.F.o, none⟩) fn fc') ∧ wx.cell? ⟨BF, 0, none⟩ = some (.int .i64 f.a) ∧ wx.cell? ⟨BF, 1, none⟩ = some (.int .i64 f.b) ∧ wx.cell? ⟨BF, 2, none⟩ = some (.int .i64 f.c) ∧ wx.cell? ⟨BF, 3, none⟩ = some (.int .i64 f.k))
              case first =>
                have ccd := (HS4.out.fnd.cel 4 (by omega)).1
                have ffd := (HS4.out.fnd.cel 4 (by omega)).2
                have zbd := HS4.out.hb
                have cbd : LB < W4.heap.size := World.block_lt_of_cell? _ _ ccd
                have lld : (Ms.lst m sn j 4).length ≤ 61 := by first | (unfold Ms.lst; refine Nat.le_trans (Ms.idx_le _ _) ?_; split <;> omega) | (unfold Ms.l5 Ms.lst; split <;> (try rw [upd_ne _ _ (by omega)]) <;> (refine Nat.le_trans (Ms.idx_le _ _) ?_; split <;> omega))
                have HDd := Lib.hid (fun W => rs_decimal j W (by omega))
                go_region_law (first | (go_simp; go_at_call 86; refine (HDd.out _).mono ?_; rintro e xd ⟨rfl, hxd⟩; have gxd : Gr W4 xd := gr_auto; have cxd := Gr.at gxd ccd; have fxd := Gr.free gxd ccd ffd; have zxd := Gr.size gxd; have nxd : LB ≠ xd.heap.size := Nat.ne_of_lt (Nat.lt_of_lt_of_le cbd zxd); have lxd : LB < xd.heap.size := Nat.lt_of_lt_of_le cbd zxd) | (refine step_append_lies _ (by rfl) _ _ 82 (by rfl) base 128 ig (.agg #[.int .i64 0, .string ⟨#[]⟩]) 2 24 Tryz.underlying82 GI.out GI0.out GI1.out GI2.out rfl (by decide) (V 4) (Ms.lst m sn j 4).length (fr 4 (Ms.lst m sn j 4)) (by rfl) ((HS4.out.gr (show Gr W4 _ from gr_auto)).fnd.row (k := 4) (by omega)) _ 1 1 [.int .i64 4, .string ⟨(Lib.decDigits j).toArray⟩] (by rfl) rfl (by intro p u hp; rcases p with _ | _ | p <;> simp at hp <;> (try subst hp) <;> first | (simp [Addr.add, go_sem]; done) | (simp [Addr.add]; done)) (by intro u hu; simp at hu; rcases hu with rfl | rfl <;> rfl) (by decide) (by unfold maxLen; omega) (by omega) (by first | omega | (simp; omega)) _ rfl ?_; intro gd pd vd hod hrd htd hld; obtain ⟨ood, ssd⟩ := (HS4.out.gr (show Gr W4 _ from gr_auto)).push (k := 4) (i := j) (by omega) hod hrd htd (HL.out); have oxd := ood.1; have oyd := ood.2; replace ssd := Lib.hid ssd; clear ood; have rd40 := (HS4.out.gr (show Gr W4 _ from gr_auto)).push_cell (k := 4) (g := gd) (cap := pd) (by omega) hrd (.inr (by have := HZ.out; omega)) (Gr.at (show Gr W4 _ from gr_auto) d40); have rd41 := (HS4.out.gr (show Gr W4 _ from gr_auto)).push_cell (k := 4) (g := gd) (cap := pd) (by omega) hrd (.inr (by have := HZ.out; omega)) (Gr.at (show Gr W4 _ from gr_auto) d41); have rf40 := (HS4.out.gr (show Gr W4 _ from gr_auto)).push_cell (k := 4) (g := gd) (cap := pd) (by omega) hrd (.inl (by simp)) (Gr.at (show Gr W4 _ from gr_auto) f40); have rf41 := (HS4.out.gr (show Gr W4 _ from gr_auto)).push_cell (k := 4) (g := gd) (cap := pd) (by omega) hrd (.inl (by simp)) (Gr.at (show Gr W4 _ from gr_auto) f41); have rf42 := (HS4.out.gr (show Gr W4 _ from gr_auto)).push_cell (k := 4) (g := gd) (cap := pd) (by omega) hrd (.inl (by simp)) (Gr.at (show Gr W4 _ from gr_auto) f42); have rf43 := (HS4.out.gr (show Gr W4 _ from gr_auto)).push_cell (k := 4) (g := gd) (cap := pd) (by omega) hrd (.inl (by simp)) (Gr.at (show Gr W4 _ from gr_auto) f43)))
                all_goals (go_wp2_with fail; go_meet; exact ⟨_, Lib.hid (ssd.out.gr (by exact gr_auto)), Gr.at (by exact gr_auto) rd40, Gr.at (by exact gr_auto) rd41, Gr.at (by exact gr_auto) rf40, Gr.at (by exact gr_auto) rf41, Gr.at (by exact gr_auto) rf42, Gr.at (by exact gr_auto) rf43⟩)
              case rest =>
                obtain ⟨V', HS5, d50, d51, f50, f51, f52, f53⟩ := hcut
                go_wp2_with fail
                go_roundw
                case rel => exact ⟨j + 1, V', by omega, by go_num, Lib.hid (by rw [HRN.out]; exact HS5.out.less (fun b hb => hb.elim)), d50, d51⟩
                case measure => simp [intOf]; omega
        · obtain rfl : fn = j := by omega
          rename World => W0
          have HR := Lib.hid (fun k (hk : k < 7) => HS.out.fnd.row hk)
          have HCL := Lib.hid (fun k (hk : k < 7) => (HS.out.fnd.cel k hk).1)
          have G0 := HS.out.g
          have HLS := Lib.hid (fun k => show Ms.lst m sn fn k = Ms.idx (Ms.kd m k) (Ms.num m k) from by unfold Ms.lst Ms.num; rw [HN.out.1, HN.out.2])
          have HNN := Lib.hid (show m.S.n ≤ 60 ∧ m.F.n ≤ 60 from ⟨by rw [HN.out.1]; exact hs, by rw [HN.out.2]; exact hf⟩)
          clear HS hlt2 hj HFP HFA HTU HCO HOV
          go_wp2_with fail
          clear d0 d1
          go_loopw [13, 14] (fun v x wr => ∃ k : Nat, k ≤ 7 ∧ x = .int .i64 (k : Int) ∧ Hid (wr.ownsRow W0.heap.size 128 2 v (Ms.fnd m k).length (Ms.ff (Ms.fnd m k))) ∧ Gr W0 wr) (fun _ x _ => 7 - (intOf x).toNat)
          case atStart => exact ⟨0, by omega, rfl, Lib.hid (World.ownsRow_nil _ _ _ _), Gr.refl _⟩
          case round =>
            obtain ⟨k, hk, rfl, HO, hg⟩ := hrel
            rename World => W1
            by_cases hlk : k < 7
            · have kb0 : (0 : Int) ≤ (k : Int) := by omega
              have kb1 : (k : Int) < 7 := by omega
              have cv := Gr.at hg (HCL.out k hlk)
              have row := ownsRow_gr (HR.out k hlk) hg
              rw [HLS.out] at row
              have hmn := Ms.idx_le (Ms.kd m k) (Ms.num m k)
              have hnm : Ms.num m k ≤ 60 := by have := HNN.out; unfold Ms.num; split <;> omega
              have hfl := Ms.fnd_le m (Nat.le_trans HNN.out.1 (by decide)) (Nat.le_trans HNN.out.2 (by decide)) k
              have hfe : Ms.ff (Ms.fnd m (k + 1)) = Ms.ff (Ms.fnd m k) ++ fr k (Ms.idx (Ms.kd m k) (Ms.num m k)) := by show Ms.ff (Ms.fnd m k ++ _) = _; rw [ff_cat]; rfl
              have hfn : (Ms.fnd m (k + 1)).length = (Ms.fnd m k).length + (Ms.idx (Ms.kd m k) (Ms.num m k)).length := by show (Ms.fnd m k ++ _).length = _; rw [List.length_append, List.length_map]
              have hz := Gr.size hg
              obtain ⟨L, hL⟩ : ∃ L, Ms.idx (Ms.kd m k) (Ms.num m k) = L := ⟨_, rfl⟩
              simp only [hL] at row hfe hfn hmn
              have hL60 : L.length ≤ 60 := by omega
              clear hL hmn hnm
              have hfr : (fr k L).length = L.length * 2 := by unfold fr; rw [Ms.ff_len, List.length_map]
              have HE := Lib.hid (And.intro hfe hfn)
              have hone : ∀ u ∈ fr k L, u.oneCell' = true := fun u hu => ff_one _ u hu
              have row2 := row
              obtain ⟨hl, ⟨hv, h0⟩ | ⟨g, cap, cur, hv, h2⟩⟩ := row
              · rw [hv] at cv
                obtain rfl : L = [] := List.length_eq_zero_iff.1 h0
                have HO2 := Lib.hid (show W1.ownsRow W0.heap.size 128 2 _ (Ms.fnd m (k + 1)).length (Ms.ff (Ms.fnd m (k + 1))) from by rw [HE.out.1, HE.out.2]; simpa [fr, Ms.ff] using HO.out)
                clear hv row2 hfe hfn h0 hl HR HCL HLS hone hfr HE
                go_wp2_with (at_builtin; refine wpList_append_own_none rfl _ _ 82 rfl W0.heap.size 128 ig 2 Tryz.underlying82 GI.out _ (Ms.fnd m k).length (Ms.ff (Ms.fnd m k)) rfl HO.out rfl ?_)
                go_roundw
                case rel => exact ⟨k + 1, by omega, by go_num, HO2, hg⟩
                case measure => simp [intOf]; omega
              · rw [hv] at cv row2
                by_cases h0 : L.length = 0
                · obtain rfl : L = [] := List.length_eq_zero_iff.1 h0
                  have HO2 := Lib.hid (show W1.ownsRow W0.heap.size 128 2 _ (Ms.fnd m (k + 1)).length (Ms.ff (Ms.fnd m (k + 1))) from by rw [HE.out.1, HE.out.2]; simpa [fr, Ms.ff] using HO.out)
                  simp only [List.length_nil] at cv
                  clear hv row2 hfe hfn h0 hl HR HCL HLS hone hfr HE h2
                  go_wp2_with (at_builtin; refine wpList_append_zero rfl _ _ 82 rfl W0.heap.size 128 ig 2 Tryz.underlying82 GI.out _ (Ms.fnd m k).length (Ms.ff (Ms.fnd m k)) rfl HO.out ⟨g, 0, none⟩ cap rfl ?_)
                  go_roundw
                  case rel => exact ⟨k + 1, by omega, by go_num, HO2, hg⟩
                  case measure => simp [intOf]; omega
                · have HNW := Lib.hid (fun (q : Nat) (u : Value) (hu : (fr k L)[q]? = some u) => show W1.cell? (Addr.add ⟨g, 0, none⟩ q) = some u from by
                    have hq : q < L.length * 2 := by rw [← hfr]; exact (List.getElem?_eq_some_iff.1 hu).1
                    have e := row2.cellAt q hq
                    rw [hu] at e
                    have ea : Addr.add ⟨g, 0, none⟩ q = ⟨g, q, none⟩ := by rcases q with _ | q <;> simp [Addr.add]
                    rw [ea]; exact e)
                  have hm0 : 0 < L.length := by omega
                  clear hv row2 hl HR HCL HLS h2 h0 hfe hfn
                  go_wp2_with (at_builtin; refine wpList_append_lies _ rfl _ _ 82 rfl W0.heap.size 128 ig (.agg #[.int .i64 0, .string ⟨#[]⟩]) 2 24 Tryz.underlying82 GI.out GI0.out GI1.out GI2.out rfl (by decide) _ (Ms.fnd m k).length (Ms.ff (Ms.fnd m k)) rfl HO.out ⟨g, 0, none⟩ L.length cap (fr k L) rfl hfr HNW.out hone hm0 (by unfold maxLen; omega) (by omega) hz _ rfl ?_)
                  intro gg pp vv ho hr ht hl
                  have HO2 := Lib.hid (show vv.ownsRow W0.heap.size 128 2 _ (Ms.fnd m (k + 1)).length (Ms.ff (Ms.fnd m (k + 1))) from by rw [HE.out.1, HE.out.2]; exact ho)
                  have hgv : Gr W0 vv := Gr.own hg (Nat.le_refl _) HO.out hr
                  clear ho hr ht hl HNW hone HO
                  go_wp2_with fail
                  go_roundw
                  case rel => exact ⟨k + 1, by omega, by go_num, HO2, hgv⟩
                  case measure => simp [intOf]; omega
            · obtain rfl : k = 7 := by omega
              clear HR HCL HLS
              go_wp2_with fail
              go_ret
              exact ⟨_, rfl, ownsRow_base HO.out (Gr.size G0), G0.trans hg⟩
end Go.Proofs.YtajhhplgcegodaaGreatDoor
