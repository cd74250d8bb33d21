/-
  Surfaces: the reference's Same of equal surfaces, none, Twice, Total. (Printed by mksm.py.)
-/
import Derived.Test.YtajhhplgcegodaaDoorMsTa
set_option linter.unusedVariables false
set_option linter.unusedSimpArgs false
namespace Go.Proofs.YtajhhplgcegodaaDoor
open Go.RowKit
theorem sp_eqg : Tryd.prog.eqGuardType Tryd.prog.depth 74 = false := by kernel_rfl
theorem sp_neq (a b c : Int) (w : World) : (binOp .neq 74 (.agg #[.int .i64 a, .int .i64 b, .int .i64 c]) (.agg #[.int .i64 a, .int .i64 b, .int .i64 c])).run Tryd.prog w = .ok (.bool false) w := by
  have hS : Tryd.prog.underlying 74 = some (.struct (Tryd.prog.fieldsOf 74)) := by kernel_rfl
  have hp : Tryd.prog.stoodInHeld 74 = false := by kernel_rfl
  rw [run_neq_struct, show (10000 : Nat) = 9999 + 1 from rfl, run_equalIn_agg w 9999 74 _ _ hS hp]
  simp only [Program.fieldsOf, Tryd.underlying74]
  go_simp
theorem fa_eqg : Tryd.prog.eqGuardType Tryd.prog.depth 43 = false := by kernel_rfl
theorem fa_neq (a b c d : Int) (w : World) : (binOp .neq 43 (.agg #[.int .i64 a, .int .i64 b, .int .i64 c, .int .i64 d]) (.agg #[.int .i64 a, .int .i64 b, .int .i64 c, .int .i64 d])).run Tryd.prog w = .ok (.bool false) w := by
  have hS : Tryd.prog.underlying 43 = some (.struct (Tryd.prog.fieldsOf 43)) := by kernel_rfl
  have hp : Tryd.prog.stoodInHeld 43 = false := by kernel_rfl
  rw [run_neq_struct, show (10000 : Nat) = 9999 + 1 from rfl, run_equalIn_agg w 9999 43 _ _ hS hp]
  simp only [Program.fieldsOf, Tryd.underlying43]
  go_simp
set_option maxRecDepth 100000 in
set_option maxHeartbeats 4000000 in
theorem rs_same_eq (m k : Ms.Mesh) (w : World) (h1 : m.At w) (h2 : k.At w) (e1 : k.S.n = m.S.n) (e2 : ∀ i, i < m.S.n → k.S.D i = m.S.D i) (e3 : k.F.n = m.F.n) (e4 : ∀ i, i < m.F.n → k.F.D i = m.F.D i) : Calls Tryd.prog 40 #[m.val, k.val] w fun e w' => e = .returned (.bool true) ∧ Gr w w' := by
  have HS1 := Lib.hid (fun i (hi : i < m.S.n) => (h1.s.hD i hi).1)
  have HS2 := Lib.hid (fun i (hi : i < m.S.n) => (e2 i hi) ▸ (h2.s.hD i (by omega)).1)
  have HF1 := Lib.hid (fun i (hi : i < m.F.n) => (h1.f.hD i hi).1)
  have HF2 := Lib.hid (fun i (hi : i < m.F.n) => (e4 i hi) ▸ (h2.f.hD i (by omega)).1)
  have A1 := Lib.hid h1.s.hA; have A2 := Lib.hid h2.s.hA; have A3 := Lib.hid h1.f.hA; have A4 := Lib.hid h2.f.hA
  have c1 := h1.s.hc; have c2 := h2.s.hc; have c3 := h1.f.hc; have c4 := h2.f.hc
  have b1 := h1.s.hb; have b2 := h2.s.hb; have b3 := h1.f.hb; have b4 := h2.f.hb
  clear h1 h2 e2 e4
  unfold Ms.Mesh.val
  obtain ⟨⟨sA, sn, sc, sb, so, sD⟩, ⟨fA, fn, fc, fb, fo, fD⟩⟩ := m
  obtain ⟨⟨tA, tn, tc, tb, too, tD⟩, ⟨gA, gn, gc, gb, go, gD⟩⟩ := k
  simp only at *
  subst e1; subst e3
  go_enter Tryd.func40, Tryd.ntmps40
  go_wp2_with fail
  obtain ⟨W0, hW0⟩ : ∃ W, ((w.alloc (Obj.cells #[.slice sA tn sc, .slice fA gn fc] 25)).alloc (Obj.cells #[.slice tA tn tc, .slice gA gn gc] 25)) = W := ⟨_, rfl⟩
  have g0 : Gr w W0 := hW0 ▸ (Gr.trans (Gr.alloc (Gr.refl w) _) (Gr.alloc (Gr.refl _) _))
  have d0 : W0.cell? ⟨w.heap.size, 0, none⟩ = some (.slice sA tn sc) := by rw [← hW0]; simp [go_sem]
  have d1 : W0.cell? ⟨w.heap.size, 1, none⟩ = some (.slice fA gn fc) := by rw [← hW0]; simp [go_sem]
  have d2 : W0.cell? ⟨w.heap.size + 1, 0, none⟩ = some (.slice tA tn tc) := by rw [← hW0]; simp [go_sem]
  have d3 : W0.cell? ⟨w.heap.size + 1, 1, none⟩ = some (.slice gA gn gc) := by rw [← hW0]; simp [go_sem]
  try rw [hW0]
  clear hW0
  -- @a
  go_loopw [5] (fun x wr => ∃ i : Nat, i ≤ tn ∧ x = .int .i64 (i : Int) ∧ Gr W0 wr) (fun x _ => tn - (intOf x).toNat)
  case atStart => exact ⟨0, Nat.zero_le _, rfl, Gr.refl _⟩
  case round =>
    obtain ⟨i, hi, rfl, hg⟩ := hrel
    rename World => W1
    replace d0 := Gr.at hg d0; replace d1 := Gr.at hg d1; replace d2 := Gr.at hg d2; replace d3 := Gr.at hg d3
    have gw := g0.trans hg
    by_cases hlt : i < tn
    · obtain rfl := A1.out (by omega); obtain rfl := A2.out (by omega)
      have ib0 : (0 : Int) ≤ (i : Int) := by omega
      have ib1 : (i : Int) < (tn : Int) := by omega
      obtain ⟨p0, p1, p2⟩ := HS1.out i hlt
      obtain ⟨q0, q1, q2⟩ := HS2.out i hlt
      replace p0 := Gr.at gw p0; replace p1 := Gr.at gw p1; replace p2 := Gr.at gw p2
      replace q0 := Gr.at gw q0; replace q1 := Gr.at gw q1; replace q2 := Gr.at gw q2
      obtain ⟨s, hs⟩ : ∃ s, sD i = s := ⟨_, rfl⟩
      simp only [hs] at p0 p1 p2 q0 q1 q2
      have eg := sp_eqg
      have en : ∀ W, (binOp .neq 74 (.agg #[.int .i64 s.x, .int .i64 s.y, .int .i64 s.z]) (.agg #[.int .i64 s.x, .int .i64 s.y, .int .i64 s.z])).run Tryd.prog W = .ok (.bool false) W := fun W => sp_neq s.x s.y s.z W
      clear hs HS1 HS2 HF1 HF2 A1 A2 A3 A4
      go_wp2_with fail
      -- @b
      go_quiet (fail)
      go_wp2_with fail
      go_roundw
      case rel => exact ⟨i + 1, by omega, by go_num, gr_auto⟩
      case measure => simp [intOf]; omega
    · obtain rfl : tn = i := by omega
      clear HS1 HS2 A1 A2
      go_wp2_with fail
      -- @c
      go_loopw [6] (fun x wr => ∃ i : Nat, i ≤ gn ∧ x = .int .i64 (i : Int) ∧ Gr W1 wr) (fun x _ => gn - (intOf x).toNat)
      case atStart => exact ⟨0, Nat.zero_le _, rfl, Gr.refl _⟩
      case round =>
        obtain ⟨i, hi, rfl, hg⟩ := hrel
        rename World => W2
        replace d0 := Gr.at hg d0; replace d1 := Gr.at hg d1; replace d2 := Gr.at hg d2; replace d3 := Gr.at hg d3
        have gw2 := gw.trans hg
        by_cases hlt : i < gn
        · obtain rfl := A3.out (by omega); obtain rfl := A4.out (by omega)
          have ib0 : (0 : Int) ≤ (i : Int) := by omega
          have ib1 : (i : Int) < (gn : Int) := by omega
          obtain ⟨p0, p1, p2, p3⟩ := HF1.out i hlt
          obtain ⟨q0, q1, q2, q3⟩ := HF2.out i hlt
          replace p0 := Gr.at gw2 p0; replace p1 := Gr.at gw2 p1; replace p2 := Gr.at gw2 p2; replace p3 := Gr.at gw2 p3
          replace q0 := Gr.at gw2 q0; replace q1 := Gr.at gw2 q1; replace q2 := Gr.at gw2 q2; replace q3 := Gr.at gw2 q3
          obtain ⟨s, hs⟩ : ∃ s, fD i = s := ⟨_, rfl⟩
          simp only [hs] at p0 p1 p2 p3 q0 q1 q2 q3
          have eg := fa_eqg
          have en : ∀ W, (binOp .neq 43 (.agg #[.int .i64 s.a, .int .i64 s.b, .int .i64 s.c, .int .i64 s.k]) (.agg #[.int .i64 s.a, .int .i64 s.b, .int .i64 s.c, .int .i64 s.k])).run Tryd.prog W = .ok (.bool false) W := fun W => fa_neq s.a s.b s.c s.k W
          clear hs HF1 HF2 A3 A4
          go_wp2_with fail
          go_quiet (fail)
          go_wp2_with fail
          go_roundw
          case rel => exact ⟨i + 1, by omega, by go_num, gr_auto⟩
          case measure => simp [intOf]; omega
        · go_wp2_with fail
          go_ret
          exact ⟨rfl, gw2⟩
set_option maxRecDepth 100000 in
set_option maxHeartbeats 4000000 in
theorem none_any (w : World) : Calls Tryd.prog 36 #[.agg #[.slice none 0 0, .slice none 0 0]] w fun e w' => e = .returned (.bool true) ∧ Gr w w' := by
  have HE := Lib.hid (fun W => rs_same_eq ⟨⟨none, 0, 0, 0, 0, fun _ => ⟨0, 0, 0⟩⟩, ⟨none, 0, 0, 0, 0, fun _ => ⟨0, 0, 0, 0⟩⟩⟩ ⟨⟨none, 0, 0, 0, 0, fun _ => ⟨0, 0, 0⟩⟩, ⟨none, 0, 0, 0, 0, fun _ => ⟨0, 0, 0, 0⟩⟩⟩ W ⟨⟨fun h => absurd h (by show ¬ 0 < 0; omega), Nat.le_refl _, by show 0 ≤ 9223372036854775807; omega, fun i hi => absurd hi (by show ¬ i < 0; omega)⟩, ⟨fun h => absurd h (by show ¬ 0 < 0; omega), Nat.le_refl _, by show 0 ≤ 9223372036854775807; omega, fun i hi => absurd hi (by show ¬ i < 0; omega)⟩⟩ ⟨⟨fun h => absurd h (by show ¬ 0 < 0; omega), Nat.le_refl _, by show 0 ≤ 9223372036854775807; omega, fun i hi => absurd hi (by show ¬ i < 0; omega)⟩, ⟨fun h => absurd h (by show ¬ 0 < 0; omega), Nat.le_refl _, by show 0 ≤ 9223372036854775807; omega, fun i hi => absurd hi (by show ¬ i < 0; omega)⟩⟩ rfl (fun _ _ => rfl) rfl (fun _ _ => rfl))
  unfold Ms.Mesh.val at HE
  go_enter Tryd.func36, Tryd.ntmps36
  go_wp2_with fail
  refine (HE.out _).mono ?_
  rintro e w2 ⟨rfl, hb2⟩
  clear HE
  have g2 : Gr w w2 := Gr.trans (by exact gr_auto) hb2
  go_wp2_with fail
  go_ret
  exact ⟨rfl, g2⟩
set_option maxRecDepth 100000 in
set_option maxHeartbeats 4000000 in
theorem rs_Twice (m : Ms.Mesh) (i : Nat) (w : World) (h : m.At w) (hv : Ms.vlB m = true) (hi : i < m.F.n) : Calls Tryd.prog 37 #[m.val, .int .i64 (i : Int)] w fun e w' => e = .returned (.int .i64 (Ms.tTn (Ms.tri m (m.F.D i)))) ∧ Gr w w' := by
  have HT := Lib.hid (fun W (hW : Gr w W) => rs_fturn m (m.F.D i) W (h.s.gr hW) (Ms.vl_fc hv hi))
  obtain ⟨⟨a0, a1, a2, a3⟩, -⟩ := h.f.hD i hi
  have HFA := h.f.hA (by omega)
  have hfc := h.f.hc; have hfb := h.f.hb
  have hbb := World.block_lt_of_cell? _ _ a0
  have ib0 : (0 : Int) ≤ (i : Int) := by omega
  have ib1 : (i : Int) < (m.F.n : Int) := by omega
  clear h hv
  generalize Ms.tTn (Ms.tri m (m.F.D i)) = TV at *
  unfold Ba.Face.val at HT
  generalize m.F.D i = f at *
  unfold Ms.Mesh.val at *
  rw [HFA] at HT ⊢
  generalize m.S.A = sA at *; generalize m.S.n = sn at *; generalize m.S.c = sc at *; generalize m.F.n = fn at *; generalize m.F.c = fc at *
  generalize m.F.b = fb at *; generalize m.F.o = fo at *
  clear HFA
  go_enter Tryd.func37, Tryd.ntmps37
  go_wp2_with fail
  obtain ⟨W1, hW1⟩ : ∃ W, w.alloc (Obj.cells #[.slice sA sn sc, .slice (some ⟨fb, fo, none⟩) fn fc] 25) = W := ⟨_, rfl⟩
  have g1 : Gr w W1 := hW1 ▸ Gr.alloc (Gr.refl w) _
  have d0 : W1.cell? ⟨w.heap.size, 0, none⟩ = some (.slice sA sn sc) := by rw [← hW1]; simp [go_sem]
  have d1 : W1.cell? ⟨w.heap.size, 1, none⟩ = some (.slice (some ⟨fb, fo, none⟩) fn fc) := by rw [← hW1]; simp [go_sem]
  replace a0 := Gr.at g1 a0; replace a1 := Gr.at g1 a1; replace a2 := Gr.at g1 a2; replace a3 := Gr.at g1 a3
  try rw [hW1]
  clear hW1
  -- @d
  (first | refine name_world ?_ | refine (show (∀ W, W = _ → Calls _ _ _ W _) → Calls _ _ _ _ _ from fun h => h _ rfl) ?_); intro W6 hW6
  have g6 : Gr w W6 := by rw [hW6]; exact gr_auto
  have gb6_W1 : Gr W1 W6 := by (try clear g6); rw [hW6]; exact gr_auto
  have k6_0 : W6.cell? ⟨w.heap.size, 0, none⟩ = some (.slice sA sn sc) := by rw [hW6]; first | (simp [go_sem, *]; done) | (refine Gr.at ?_ (by assumption); exact gr_auto)
  have b6_0 : w.heap.size < W6.heap.size := World.block_lt_of_cell? _ _ k6_0
  have k6_1 : W6.cell? ⟨w.heap.size, 1, none⟩ = some (.slice (some ⟨fb, fo, none⟩) fn fc) := by rw [hW6]; first | (simp [go_sem, *]; done) | (refine Gr.at ?_ (by assumption); exact gr_auto)
  have k6_2 : W6.cell? ⟨fb, fo + i * 4, none⟩ = some (.int .i64 f.a) := by rw [hW6]; first | (simp [go_sem, *]; done) | (refine Gr.at ?_ (by assumption); exact gr_auto)
  have b6_2 : fb < W6.heap.size := World.block_lt_of_cell? _ _ k6_2
  have k6_3 : W6.cell? ⟨fb, fo + i * 4 + 1, none⟩ = some (.int .i64 f.b) := by rw [hW6]; first | (simp [go_sem, *]; done) | (refine Gr.at ?_ (by assumption); exact gr_auto)
  have k6_4 : W6.cell? ⟨fb, fo + i * 4 + 2, none⟩ = some (.int .i64 f.c) := by rw [hW6]; first | (simp [go_sem, *]; done) | (refine Gr.at ?_ (by assumption); exact gr_auto)
  have k6_5 : W6.cell? ⟨fb, fo + i * 4 + 3, none⟩ = some (.int .i64 f.k) := by rw [hW6]; first | (simp [go_sem, *]; done) | (refine Gr.at ?_ (by assumption); exact gr_auto)
  clear hW6
  have s6_0 : ∀ gw : GW W6, gw.1.cell? ⟨w.heap.size, 0, none⟩ = some (.slice sA sn sc) := fun gw => Gr.at gw.2 k6_0
  have s6_1 : ∀ gw : GW W6, gw.1.cell? ⟨w.heap.size, 1, none⟩ = some (.slice (some ⟨fb, fo, none⟩) fn fc) := fun gw => Gr.at gw.2 k6_1
  have s6_2 : ∀ gw : GW W6, gw.1.cell? ⟨fb, fo + i * 4, none⟩ = some (.int .i64 f.a) := fun gw => Gr.at gw.2 k6_2
  have s6_3 : ∀ gw : GW W6, gw.1.cell? ⟨fb, fo + i * 4 + 1, none⟩ = some (.int .i64 f.b) := fun gw => Gr.at gw.2 k6_3
  have s6_4 : ∀ gw : GW W6, gw.1.cell? ⟨fb, fo + i * 4 + 2, none⟩ = some (.int .i64 f.c) := fun gw => Gr.at gw.2 k6_4
  have s6_5 : ∀ gw : GW W6, gw.1.cell? ⟨fb, fo + i * 4 + 3, none⟩ = some (.int .i64 f.k) := fun gw => Gr.at gw.2 k6_5
  have Q1 := Lib.hid (fun gw : GW W6 => gw_call (HT.out gw.1 (g1.trans (gb6_W1.trans gw.2))))
  refine wp_region_gr (by kernel_rfl) (by kernel_rfl) ?_
  repeat (go_big_quiet_step ((go_at_call 67; with_reducible exact Q1.out _)))
  refine wpQuiet_nil ?_
  intro w7 hb7
  clear s6_0 s6_1 s6_2 s6_3 s6_4 s6_5
  have g7 : Gr w w7 := g6.trans hb7
  have k6_0 := Gr.at hb7 k6_0
  have k6_1 := Gr.at hb7 k6_1
  have k6_2 := Gr.at hb7 k6_2
  have k6_3 := Gr.at hb7 k6_3
  have k6_4 := Gr.at hb7 k6_4
  have k6_5 := Gr.at hb7 k6_5
  go_wp2_with fail
  go_ret
  exact ⟨rfl, g1.trans (gb6_W1.trans hb7)⟩
set_option maxRecDepth 100000 in
set_option maxHeartbeats 4000000 in
theorem rs_total (m : Ms.Mesh) (w : World) (h : m.At w) (hn : m.F.n ≤ 61) (hv : Ms.vlB m = true) : Calls Tryd.prog 39 #[m.val] w fun e w' => e = .returned (.int .i64 (Ms.totI m m.F.n)) ∧ Gr w w' := by
  have HT := Lib.hid (fun i (hi : i < m.F.n) W (hW : Gr w W) => rs_Twice m i W ⟨h.s.gr hW, h.f.gr hW⟩ hv hi)
  have HBD := Lib.hid (fun i hi => Ms.totI_bd hv i hi)
  have HST := Lib.hid (fun i => show Ms.totI m (i + 1) = Ms.totI m i + Ms.tTn (Ms.tri m (m.F.D i)) from rfl)
  have hfc := h.f.hc; have hfb := h.f.hb
  clear h hv
  unfold Ms.Mesh.val at *
  generalize m.S.A = sA at *; generalize m.S.n = sn at *; generalize m.S.c = sc at *
  obtain ⟨fA, hfA⟩ : ∃ A, m.F.A = A := ⟨_, rfl⟩; obtain ⟨fn, hfn⟩ : ∃ n, m.F.n = n := ⟨_, rfl⟩; obtain ⟨fc', hfc'⟩ : ∃ c, m.F.c = c := ⟨_, rfl⟩
  rw [hfA, hfn, hfc'] at HT ⊢
  rw [hfn] at hfc hn HBD
  rw [hfc'] at hfc hfb
  clear hfA hfn hfc'
  go_enter Tryd.func39, Tryd.ntmps39
  go_wp2_with fail
  obtain ⟨W0, hW0⟩ : ∃ W, w.alloc (Obj.cells #[.slice sA sn sc, .slice fA fn fc'] 25) = W := ⟨_, rfl⟩
  have g1 : Gr w W0 := hW0 ▸ Gr.alloc (Gr.refl w) _
  have d0 : W0.cell? ⟨w.heap.size, 0, none⟩ = some (.slice sA sn sc) := by rw [← hW0]; simp [go_sem]
  have d1 : W0.cell? ⟨w.heap.size, 1, none⟩ = some (.slice fA fn fc') := by rw [← hW0]; simp [go_sem]
  try rw [hW0]
  clear hW0
  go_loopw [3, 4] (fun v x wr => ∃ i : Nat, i ≤ fn ∧ x = .int .i64 (i : Int) ∧ v = .int .i64 (Ms.totI m i) ∧ Gr W0 wr) (fun _ x _ => fn - (intOf x).toNat)
  case atStart => exact ⟨0, Nat.zero_le _, rfl, rfl, Gr.refl _⟩
  case round =>
    obtain ⟨i, hi, rfl, rfl, hg⟩ := hrel
    rename World => W1
    replace d0 := Gr.at hg d0; replace d1 := Gr.at hg d1
    have gw := g1.trans hg
    by_cases hlt : i < fn
    · have ib0 : (0 : Int) ≤ (i : Int) := by omega
      have ib1 : (i : Int) < (fn : Int) := by omega
      have HTi := Lib.hid (HT.out i hlt)
      have HSi := HST.out i
      have b1 := HBD.out i hi; have b2 := HBD.out (i + 1) hlt
      rw [HSi] at b2
      have HS2 := Lib.hid HSi
      clear HT HST HBD HSi
      generalize Ms.tTn (Ms.tri m (m.F.D i)) = tv at *
      have bt1 : -9223372036854775808 ≤ Ms.totI m i + tv := by omega
      have bt2 : Ms.totI m i + tv ≤ 9223372036854775807 := by omega
      clear b1 b2
      -- @e
      go_wp2_with fail
      refine (HTi.out _ (by exact gr_auto)).mono ?_
      rintro e w3 ⟨rfl, hb3⟩
      clear HTi
      have hg3 : Gr W0 w3 := hg.trans (Gr.trans (by exact gr_auto) hb3)
      go_wp2_with fail
      -- @f
      go_roundw
      case rel => exact ⟨i + 1, by omega, by go_num, by rw [HS2.out], hg3⟩
      case measure => simp [intOf]; omega
    · obtain rfl : fn = i := by omega
      go_wp2_with fail
      go_ret
      exact ⟨rfl, g1.trans hg⟩
end Go.Proofs.YtajhhplgcegodaaDoor
