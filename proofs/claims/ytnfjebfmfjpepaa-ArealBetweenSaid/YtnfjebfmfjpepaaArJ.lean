/-
  Areal: the reference's Reduced; long; Same. (Printed by mkj.py.)
-/
import Derived.Test.YtnfjebfmfjpepaaArH
set_option linter.unusedVariables false
set_option linter.unusedSimpArgs false
namespace Go.Proofs.Ytnfjebfmfjpepaa
open Go.RowKit
attribute [local go_sem ↓] Go.wp_at_zero Go.wp_at_succ

theorem red_any (s : Ba.Ser) (ar : Int) (w : World) (hs : s.Ok w) : Calls Try.prog 19 #[s.val, .int .i64 ar] w (RetRd s ar w) := by
  cases hv : Ba.serB s
  · have e : Ba.rdE s ar = 1 := by unfold Ba.rdE; rw [hv]; rfl
    exact (red_no1 s ar w hs hv).mono fun e' w' ⟨h1, h2⟩ => ⟨⟨0, 0, ⟨none, 0, 0, 0, 0, fun _ => 0⟩⟩, by rw [h1, e]; rfl, nil_ser, fun h => by rw [e] at h; omega, fun _ => ⟨rfl, rfl, rfl⟩, h2⟩
  by_cases ha : 0 ≤ ar ∧ ar ≤ 1073741824
  · have e : Ba.rdE s ar = 0 := by unfold Ba.rdE; rw [hv, if_pos rfl, if_pos ha]
    refine (red_ok s ar w hs hv ha).mono fun e' w' ⟨r, h1, h2, h3, h4, h5⟩ => ⟨⟨s.fr, s.st, r⟩, by rw [h1, e]; rfl, ⟨hs.1, hs.2.1, h2⟩, fun _ => ⟨rfl, rfl, h3, h4⟩, fun h => absurd e h, h5⟩
  · have e : Ba.rdE s ar = 2 := by unfold Ba.rdE; rw [hv, if_pos rfl, if_neg ha]
    exact (red_no2 s ar w hs hv (by omega)).mono fun e' w' ⟨h1, h2⟩ => ⟨⟨0, 0, ⟨none, 0, 0, 0, 0, fun _ => 0⟩⟩, by rw [h1, e]; rfl, nil_ser, fun h => by rw [e] at h; omega, fun _ => ⟨rfl, rfl, rfl⟩, h2⟩

set_option maxRecDepth 100000 in
set_option maxHeartbeats 4000000 in
theorem rred_no1 (s : Ba.Ser) (ar : Int) (w : World) (hs : s.Ok w) (hv : Ba.serB s = false) : Calls Try.prog 20 #[s.val, .int .i64 ar] w (fun e w' => e = .returned (.tuple #[.agg #[.int .i64 0, .int .i64 0, .slice none 0 0], .int .i64 1]) ∧ Gr w w') := by
  have HV := Lib.hid (fun W (hh : Gr w W) => rser_any s W (hs.gr hh))
  rw [hv] at HV
  have hm := Nat.le_trans hs.2.2.hc hs.2.2.hb
  clear hs hv
  unfold Ba.Ser.val at HV ⊢
  obtain ⟨fr, st, ⟨A, n, c, b, o, X⟩⟩ := s
  simp only at *
  go_enter Try.func20, Try.ntmps20
  go_wp2_with fail
  refine (show (∀ W, W = _ → Calls _ _ _ W _) → Calls _ _ _ _ _ from fun h => h _ rfl) ?_
  intro W1 hW1
  have g1 : Gr w W1 := by rw [hW1]; exact gr_auto
  have k0 : Own W1 (w.heap.size) 0 (.int .i64 fr) := by rw [hW1]; exact ⟨by simp [go_sem], by simp [go_sem]⟩
  have k1 : Own W1 (w.heap.size) 1 (.int .i64 st) := by rw [hW1]; exact ⟨by simp [go_sem], by simp [go_sem]⟩
  have k2 : Own W1 (w.heap.size) 2 (.slice A n c) := by rw [hW1]; exact ⟨by simp [go_sem], by simp [go_sem]⟩
  have k3 : Own W1 (w.heap.size + 1) 0 (.int .i64 0) := by rw [hW1]; exact ⟨by simp [go_sem], by simp [go_sem]⟩
  have k4 : Own W1 (w.heap.size + 1) 1 (.int .i64 0) := by rw [hW1]; exact ⟨by simp [go_sem], by simp [go_sem]⟩
  have k5 : Own W1 (w.heap.size + 1) 2 (.slice none 0 0) := by rw [hW1]; exact ⟨by simp [go_sem], by simp [go_sem]⟩
  clear hW1
  refine (HV.out _ g1).mono ?_
  rintro e w2 ⟨rfl, hb2⟩
  have g2 := g1.trans hb2
  replace k0 := k0.gr hb2; replace k1 := k1.gr hb2; replace k2 := k2.gr hb2; replace k3 := k3.gr hb2; replace k4 := k4.gr hb2; replace k5 := k5.gr hb2
  clear HV
  obtain ⟨x0, f0⟩ := k0; obtain ⟨x1, f1⟩ := k1; obtain ⟨x2, f2⟩ := k2; obtain ⟨x3, f3⟩ := k3; obtain ⟨x4, f4⟩ := k4; obtain ⟨x5, f5⟩ := k5
  go_wp2_with fail
  refine bodyPost_ret (by simp [results, Try.results20, go_sem, x3, x4, x5, f3, f4, f5]; try rfl) rfl ?_
  exact ⟨rfl, gr_auto⟩

set_option maxRecDepth 100000 in
set_option maxHeartbeats 4000000 in
theorem rred_no2 (s : Ba.Ser) (ar : Int) (w : World) (hs : s.Ok w) (hv : Ba.serB s = true) (ha : ar < 0 ∨ (0 ≤ ar ∧ 1073741824 < ar)) : Calls Try.prog 20 #[s.val, .int .i64 ar] w (fun e w' => e = .returned (.tuple #[.agg #[.int .i64 0, .int .i64 0, .slice none 0 0], .int .i64 2]) ∧ Gr w w') := by
  have HV := Lib.hid (fun W (hh : Gr w W) => rser_any s W (hs.gr hh))
  rw [hv] at HV
  have hm := Nat.le_trans hs.2.2.hc hs.2.2.hb
  clear hs hv
  unfold Ba.Ser.val at HV ⊢
  obtain ⟨fr, st, ⟨A, n, c, b, o, X⟩⟩ := s
  simp only at *
  go_enter Try.func20, Try.ntmps20
  go_wp2_with fail
  refine (show (∀ W, W = _ → Calls _ _ _ W _) → Calls _ _ _ _ _ from fun h => h _ rfl) ?_
  intro W1 hW1
  have g1 : Gr w W1 := by rw [hW1]; exact gr_auto
  have k0 : Own W1 (w.heap.size) 0 (.int .i64 fr) := by rw [hW1]; exact ⟨by simp [go_sem], by simp [go_sem]⟩
  have k1 : Own W1 (w.heap.size) 1 (.int .i64 st) := by rw [hW1]; exact ⟨by simp [go_sem], by simp [go_sem]⟩
  have k2 : Own W1 (w.heap.size) 2 (.slice A n c) := by rw [hW1]; exact ⟨by simp [go_sem], by simp [go_sem]⟩
  have k3 : Own W1 (w.heap.size + 1) 0 (.int .i64 0) := by rw [hW1]; exact ⟨by simp [go_sem], by simp [go_sem]⟩
  have k4 : Own W1 (w.heap.size + 1) 1 (.int .i64 0) := by rw [hW1]; exact ⟨by simp [go_sem], by simp [go_sem]⟩
  have k5 : Own W1 (w.heap.size + 1) 2 (.slice none 0 0) := by rw [hW1]; exact ⟨by simp [go_sem], by simp [go_sem]⟩
  clear hW1
  refine (HV.out _ g1).mono ?_
  rintro e w2 ⟨rfl, hb2⟩
  have g2 := g1.trans hb2
  replace k0 := k0.gr hb2; replace k1 := k1.gr hb2; replace k2 := k2.gr hb2; replace k3 := k3.gr hb2; replace k4 := k4.gr hb2; replace k5 := k5.gr hb2
  clear HV
  obtain ⟨x0, f0⟩ := k0; obtain ⟨x1, f1⟩ := k1; obtain ⟨x2, f2⟩ := k2; obtain ⟨x3, f3⟩ := k3; obtain ⟨x4, f4⟩ := k4; obtain ⟨x5, f5⟩ := k5
  rcases ha with h | h
  all_goals
    go_wp2_with fail
    refine bodyPost_ret (by simp [results, Try.results20, go_sem, x3, x4, x5, f3, f4, f5]; try rfl) rfl ?_
    exact ⟨rfl, gr_auto⟩

set_option maxRecDepth 100000 in
set_option maxHeartbeats 4000000 in
theorem rred_ok (s : Ba.Ser) (ar : Int) (w : World) (hs : s.Ok w) (hv : Ba.serB s = true) (ha : 0 ≤ ar ∧ ar ≤ 1073741824) : Calls Try.prog 20 #[s.val, .int .i64 ar] w (fun e w' => ∃ r : Ba.SlI, e = .returned (.tuple #[.agg #[.int .i64 s.fr, .int .i64 s.st, .slice r.A r.n r.c], .int .i64 0]) ∧ r.At w' ∧ r.n = s.ds.n ∧ (∀ i, i < s.ds.n → r.X i = Ba.rdX (Ba.rdF ar) (s.ds.X i)) ∧ Gr w w') := by
  have HV := Lib.hid (fun W (hh : Gr w W) => rser_any s W (hs.gr hh))
  rw [hv] at HV
  obtain ⟨v1, v2, vn, v4, vX⟩ := Ba.ser_nums hv
  have HVX := Lib.hid vX
  have hm := Nat.le_trans hs.2.2.hc hs.2.2.hb
  have hfb := Ba.rdF_bd ha
  have hAA := Lib.hid hs.2.2.hA
  have HSX := Lib.hid (fun i hi => (hs.2.2.hX i hi).1)
  have HRB := Lib.hid (fun x hx => Ba.rdX_bd (x := x) hfb hx)
  have HFX := Lib.hid (show Ba.rdF ar = 1000 - 300 * ar / (ar + 10000000) from rfl)
  have HRX := Lib.hid (fun x => show Ba.rdX (Ba.rdF ar) x = if 0 < x then x * Ba.rdF ar / 1000 else x from rfl)
  clear hs hv vX v4
  generalize Ba.rdX (Ba.rdF ar) = rx at *
  obtain ⟨i1, hi0, hz0, hz1, hz2⟩ := info_parts info_intz
  have KI := Lib.hid hi0; have KZ0 := Lib.hid hz0; have KZ1 := Lib.hid hz1; have KZ2 := Lib.hid hz2
  clear hi0 hz0 hz1 hz2
  unfold Ba.Ser.val at HV ⊢
  obtain ⟨fr, st, ⟨A, n, c, b, o, X⟩⟩ := s
  simp only at *
  go_enter Try.func20, Try.ntmps20
  go_wp2_with fail
  refine (show (∀ W, W = _ → Calls _ _ _ W _) → Calls _ _ _ _ _ from fun h => h _ rfl) ?_
  intro W1 hW1
  have g1 : Gr w W1 := by rw [hW1]; exact gr_auto
  have k0 : Own W1 (w.heap.size) 0 (.int .i64 fr) := by rw [hW1]; exact ⟨by simp [go_sem], by simp [go_sem]⟩
  have k1 : Own W1 (w.heap.size) 1 (.int .i64 st) := by rw [hW1]; exact ⟨by simp [go_sem], by simp [go_sem]⟩
  have k2 : Own W1 (w.heap.size) 2 (.slice A n c) := by rw [hW1]; exact ⟨by simp [go_sem], by simp [go_sem]⟩
  have k3 : Own W1 (w.heap.size + 1) 0 (.int .i64 0) := by rw [hW1]; exact ⟨by simp [go_sem], by simp [go_sem]⟩
  have k4 : Own W1 (w.heap.size + 1) 1 (.int .i64 0) := by rw [hW1]; exact ⟨by simp [go_sem], by simp [go_sem]⟩
  have k5 : Own W1 (w.heap.size + 1) 2 (.slice none 0 0) := by rw [hW1]; exact ⟨by simp [go_sem], by simp [go_sem]⟩
  clear hW1
  refine (HV.out _ g1).mono ?_
  rintro e w2 ⟨rfl, hb2⟩
  have g2 := g1.trans hb2
  replace k0 := k0.gr hb2; replace k1 := k1.gr hb2; replace k2 := k2.gr hb2; replace k3 := k3.gr hb2; replace k4 := k4.gr hb2; replace k5 := k5.gr hb2
  clear HV
  have db : 0 ≤ 300 * ar / (ar + 10000000) ∧ 300 * ar / (ar + 10000000) ≤ 300 := by have := HFX.out; omega
  have dnz : ((ar + 10000000) == 0) = false := beq_eq_false_iff_ne.2 (by omega)
  have hB1 : w.heap.size + 1 < w2.heap.size := World.block_lt_of_cell? _ _ k3.1
  have x0 := k0.1; have x1 := k1.1; have x2 := k2.1
  -- @a
  go_wp2_with fail
  -- @b
  clear x0 x1 x2
  refine name_world ?_
  intro W6 hW6
  have gs6 : Gr w2 W6 := by rw [hW6]; exact gr_auto
  have P0 : Own W6 w2.heap.size 0 (.int .i64 fr) := by rw [hW6]; exact ⟨by simp [go_sem], by simp [go_sem]⟩
  have P1 : Own W6 w2.heap.size 1 (.int .i64 st) := by rw [hW6]; exact ⟨by simp [go_sem], by simp [go_sem]⟩
  have P2 : Own W6 w2.heap.size 2 (.slice none 0 0) := by rw [hW6]; exact ⟨by simp [go_sem], by simp [go_sem]⟩
  clear hW6
  have g6 := g2.trans gs6
  replace k0 := Lib.hid (k0.gr gs6); replace k1 := Lib.hid (k1.gr gs6); replace k2 := Lib.hid (k2.gr gs6); replace k3 := Lib.hid (k3.gr gs6); replace k4 := Lib.hid (k4.gr gs6); replace k5 := Lib.hid (k5.gr gs6)
  have nB : w2.heap.size < W6.heap.size := World.block_lt_of_cell? _ _ P0.1
  generalize w2.heap.size = BO at *
  replace P0 := Lib.hid P0; replace P1 := Lib.hid P1; replace P2 := Lib.hid P2
  obtain ⟨mv, hmv⟩ : ∃ f : Nat → Int, (fun k : Nat => rx (X k)) = f := ⟨_, rfl⟩
  have HMV := Lib.hid (fun k : Nat => show rx (X k) = mv k from by rw [← hmv])
  clear hmv
  go_loopw [8] (fun x wr => ∃ k : Nat, k ≤ n ∧ x = .int .i64 (k : Int) ∧ (∃ va, Hid (Own wr BO 2 va) ∧ Hid (wr.ownsRow W6.heap.size 3 1 va k ((List.range k).map fun k => .int .i64 (mv k)))) ∧ Hid (Own wr BO 0 (.int .i64 fr)) ∧ Hid (Own wr BO 1 (.int .i64 st)) ∧ GrY BO BO W6 wr) (fun x _ => n - (intOf x).toNat)
  case atStart => exact ⟨0, Nat.zero_le _, rfl, ⟨_, P2, Lib.hid ⟨rfl, Or.inl ⟨rfl, rfl⟩⟩⟩, P0, P1, GrY.refl _ _ _⟩
  case round =>
    clear P0 P1 P2
    obtain ⟨k, hk, rfl, ⟨va, HC, HO⟩, HD0, HD1, hg⟩ := hrel
    have gw : Gr w wr := GrY.below g6 (by omega) (by omega) hg
    have y2 := (hg.keep (by omega) (by omega) k2.out).1
    by_cases hlt : k < n
    · obtain rfl := hAA.out (by omega)
      have a0 := Gr.at gw (HSX.out k hlt)
      have ib0 : (0 : Int) ≤ (k : Int) := by omega
      have ib1 : (k : Int) < (n : Int) := by omega
      have xb := HVX.out k hlt
      have rb := HRB.out (X k) xb
      have RX := Lib.hid (HRX.out (X k))
      have MK := Lib.hid (HMV.out k)
      have hfar : some BO ≠ va.ownBlock := own_far HO.out nB
      have bw := hg.size
      have c2 := HC.out.1
      have bBr : BO < wr.heap.size := World.block_lt_of_cell? _ _ c2
      have Ff := Lib.hid HFX.out
      have hfv : 700 ≤ 1000 - 300 * ar / (ar + 10000000) ∧ 1000 - 300 * ar / (ar + 10000000) ≤ 1000 := by have := Ff.out; omega
      clear HVX HRB HRX HMV HSX k0 k1 k2 k3 k4 k5
      obtain ⟨x, hx⟩ : ∃ z, X k = z := ⟨_, rfl⟩
      rw [hx] at a0 xb rb RX MK
      clear hx
      obtain ⟨mk, hmk⟩ : ∃ z, mv k = z := ⟨_, rfl⟩
      rw [hmk] at MK
      replace hmk := Lib.hid hmk
      by_cases hp : 0 ≤ x
      · have mb : 0 ≤ x * (1000 - 300 * ar / (ar + 10000000)) ∧ x * (1000 - 300 * ar / (ar + 10000000)) ≤ 4194304000 := by
          rw [← Ff.out]
          by_cases hp0 : 0 < x
          · exact rb.2.2 hp0
          · rw [show x = 0 by omega]; simp
        have e : x * (1000 - 300 * ar / (ar + 10000000)) / 1000 = mk := by
          rw [← Ff.out, ← MK.out, RX.out]
          by_cases hp0 : 0 < x
          · rw [if_pos hp0]
          · rw [if_neg hp0, show x = 0 by omega]; simp
        clear RX rb MK
        -- @c
        go_wp2_with (at_builtin; refine wpList_append_own _ rfl _ _ 30 rfl W6.heap.size 3 i1 (.int .i64 0) 1 8 Try.underlying30 KI.out KZ0.out KZ1.out KZ2.out rfl (by decide) _ k ((List.range k).map fun k => .int .i64 (mv k)) rfl (ownsRow_gr HO.out (by exact gr_auto)) ⟨wr.heap.size, 0, none⟩ 1 1 [.int .i64 mk] rfl rfl (by intro p u hp; rcases p with _ | p <;> simp at hp <;> (try subst hp) <;> first | (simp [Addr.add, go_sem, e]; done) | (simp [Addr.add]; done)) (by intro u hu; simp at hu; subst hu; rfl) (by unfold maxLen; omega) (by omega) (by simp; omega) ?_)
        intro v' w9 hown' hgrow hnil
        obtain ⟨A9, cc9, g9, hv9, -⟩ := ownsRow_atn hown'
        subst hv9
        have gx8 : Gr wr (wr.alloc (Obj.cells #[.int .i64 mk] 3)) := Gr.alloc (Gr.refl _) _
        have C9 := own_grow (HC.out.gr gx8) hgrow hfar; have D9 := own_grow (HD0.out.gr gx8) hgrow hfar; have E9 := own_grow (HD1.out.gr gx8) hgrow hfar
        have HCn := Lib.hid (show Own (w9.setCell ⟨BO, 2, none⟩ (.slice A9 (k + 1) cc9)) BO 2 (.slice A9 (k + 1) cc9) from C9.set); have HDn := Lib.hid (D9.other (b' := BO) (o' := 2) (u := .slice A9 (k + 1) cc9) (Or.inr (by decide))); have HEn := Lib.hid (E9.other (b' := BO) (o' := 2) (u := .slice A9 (k + 1) cc9) (Or.inr (by decide)))
        have HOn := Lib.hid (show (w9.setCell ⟨BO, 2, none⟩ (.slice A9 (k + 1) cc9)).ownsRow W6.heap.size 3 1 (.slice A9 (k + 1) cc9) (k + 1) ((List.range (k + 1)).map fun k => .int .i64 (mv k)) from ownsRow_set (by rw [List.range_succ, List.map_append, List.map_cons, List.map_nil, hmk.out]; exact hown') nB)
        have HGn := Lib.hid (GrY.setCell (p := ⟨BO, 2, none⟩) (GrY.grow (hg.gr gx8) (Nat.le_refl _) (ownsRow_gr HO.out (Gr.alloc (Gr.refl _) _)) hgrow) rfl (.slice A9 (k + 1) cc9))
        have c9 := C9.1; have f9 := C9.2
        clear C9 D9 E9 hown' hgrow hnil HO HC HD0 HD1 c2 y2 a0
        go_wp2_with fail
        go_roundw
        case rel => exact ⟨k + 1, by omega, by go_num, ⟨_, HCn, HOn⟩, HDn, HEn, HGn.out⟩
        case measure => simp [intOf]; omega
      · have e : mk = x := by rw [← MK.out, RX.out, if_neg (by omega)]
        subst e
        clear RX rb MK
        go_wp2_with (at_builtin; refine wpList_append_own _ rfl _ _ 30 rfl W6.heap.size 3 i1 (.int .i64 0) 1 8 Try.underlying30 KI.out KZ0.out KZ1.out KZ2.out rfl (by decide) _ k ((List.range k).map fun k => .int .i64 (mv k)) rfl (ownsRow_gr HO.out (by exact gr_auto)) ⟨wr.heap.size, 0, none⟩ 1 1 [.int .i64 mk] rfl rfl (by intro p u hp; rcases p with _ | p <;> simp at hp <;> (try subst hp) <;> first | (simp [Addr.add, go_sem]; done) | (simp [Addr.add]; done)) (by intro u hu; simp at hu; subst hu; rfl) (by unfold maxLen; omega) (by omega) (by simp; omega) ?_)
        intro v' w9 hown' hgrow hnil
        obtain ⟨A9, cc9, g9, hv9, -⟩ := ownsRow_atn hown'
        subst hv9
        have gx8 : Gr wr (wr.alloc (Obj.cells #[.int .i64 mk] 3)) := Gr.alloc (Gr.refl _) _
        have C9 := own_grow (HC.out.gr gx8) hgrow hfar; have D9 := own_grow (HD0.out.gr gx8) hgrow hfar; have E9 := own_grow (HD1.out.gr gx8) hgrow hfar
        have HCn := Lib.hid (show Own (w9.setCell ⟨BO, 2, none⟩ (.slice A9 (k + 1) cc9)) BO 2 (.slice A9 (k + 1) cc9) from C9.set); have HDn := Lib.hid (D9.other (b' := BO) (o' := 2) (u := .slice A9 (k + 1) cc9) (Or.inr (by decide))); have HEn := Lib.hid (E9.other (b' := BO) (o' := 2) (u := .slice A9 (k + 1) cc9) (Or.inr (by decide)))
        have HOn := Lib.hid (show (w9.setCell ⟨BO, 2, none⟩ (.slice A9 (k + 1) cc9)).ownsRow W6.heap.size 3 1 (.slice A9 (k + 1) cc9) (k + 1) ((List.range (k + 1)).map fun k => .int .i64 (mv k)) from ownsRow_set (by rw [List.range_succ, List.map_append, List.map_cons, List.map_nil, hmk.out]; exact hown') nB)
        have HGn := Lib.hid (GrY.setCell (p := ⟨BO, 2, none⟩) (GrY.grow (hg.gr gx8) (Nat.le_refl _) (ownsRow_gr HO.out (Gr.alloc (Gr.refl _) _)) hgrow) rfl (.slice A9 (k + 1) cc9))
        have c9 := C9.1; have f9 := C9.2
        clear C9 D9 E9 hown' hgrow hnil HO HC HD0 HD1 c2 y2 a0
        go_wp2_with fail
        go_roundw
        case rel => exact ⟨k + 1, by omega, by go_num, ⟨_, HCn, HOn⟩, HDn, HEn, HGn.out⟩
        case measure => simp [intOf]; omega
    · obtain rfl : n = k := by omega
      have K3 := hg.keep (by omega) (by omega) k3.out; have K4 := hg.keep (by omega) (by omega) k4.out; have K5 := hg.keep (by omega) (by omega) k5.out
      obtain ⟨x3, f3⟩ := K3; obtain ⟨x4, f4⟩ := K4; obtain ⟨x5, f5⟩ := K5
      have d0 := HD0.out.1; have d1 := HD1.out.1; have d2 := HC.out.1
      have HRow := Lib.hid HO.out
      have hmb : ∀ i, i < n → Ba.i64 (mv i) := fun i hi => by have := HRB.out (X i) (HVX.out i hi); rw [HMV.out i] at this; unfold Ba.i64; omega
      have HPo := Lib.hid (fun k => (HMV.out k).symm)
      clear k0 k1 k2 k3 k4 k5 HO HC HD0 HD1 HRB HVX HRX HMV
      obtain ⟨r, rfl, r1, r2, r3, r4⟩ := own_slin HRow.out hmb
      replace r1 := Lib.hid r1; replace r2 := Lib.hid r2; replace r3 := Lib.hid r3
      have hrb : w.heap.size + 1 ≠ r.b := by omega
      clear hmb HRow
      go_wp2_with fail
      refine bodyPost_ret (by simp [results, Try.results20, go_sem, x3, x4, x5, f3, f4, f5]; try rfl) rfl ?_
      exact ⟨r, rfl, ⟨r1.out.hA, r1.out.hc, r1.out.hb, fun i hi => ⟨GrX.at (R := w.heap.size + 1) (show GrX (w.heap.size + 1) wr _ from (by repeat' (first | (with_reducible assumption) | (with_reducible exact GrX.refl _ _) | (with_reducible refine GrX.drew ?_) | (with_reducible refine GrX.drewN ?_ _) | (with_reducible refine GrX.setCell ?_ ?_ _) | (rfl; done) | (with_reducible refine GrX.alloc ?_ _) | (with_reducible refine GrX.grown ?_ (by with_reducible assumption))))) (by omega) (r1.out.hX i hi).1, (r1.out.hX i hi).2⟩⟩, by rw [r2.out], fun k hk => (r3.out k (by rw [r2.out]; exact hk)).trans (HPo.out k), GrX.gr gw (by omega) (show GrX (w.heap.size + 1) wr _ from (by repeat' (first | (with_reducible assumption) | (with_reducible exact GrX.refl _ _) | (with_reducible refine GrX.drew ?_) | (with_reducible refine GrX.drewN ?_ _) | (with_reducible refine GrX.setCell ?_ ?_ _) | (rfl; done) | (with_reducible refine GrX.alloc ?_ _) | (with_reducible refine GrX.grown ?_ (by with_reducible assumption)))))⟩

theorem rred_any (s : Ba.Ser) (ar : Int) (w : World) (hs : s.Ok w) : Calls Try.prog 20 #[s.val, .int .i64 ar] w (RetRd s ar w) := by
  cases hv : Ba.serB s
  · have e : Ba.rdE s ar = 1 := by unfold Ba.rdE; rw [hv]; rfl
    exact (rred_no1 s ar w hs hv).mono fun e' w' ⟨h1, h2⟩ => ⟨⟨0, 0, ⟨none, 0, 0, 0, 0, fun _ => 0⟩⟩, by rw [h1, e]; rfl, nil_ser, fun h => by rw [e] at h; omega, fun _ => ⟨rfl, rfl, rfl⟩, h2⟩
  by_cases ha : 0 ≤ ar ∧ ar ≤ 1073741824
  · have e : Ba.rdE s ar = 0 := by unfold Ba.rdE; rw [hv, if_pos rfl, if_pos ha]
    refine (rred_ok s ar w hs hv ha).mono fun e' w' ⟨r, h1, h2, h3, h4, h5⟩ => ⟨⟨s.fr, s.st, r⟩, by rw [h1, e]; rfl, ⟨hs.1, hs.2.1, h2⟩, fun _ => ⟨rfl, rfl, h3, h4⟩, fun h => absurd e h, h5⟩
  · have e : Ba.rdE s ar = 2 := by unfold Ba.rdE; rw [hv, if_pos rfl, if_neg ha]
    exact (rred_no2 s ar w hs hv (by omega)).mono fun e' w' ⟨h1, h2⟩ => ⟨⟨0, 0, ⟨none, 0, 0, 0, 0, fun _ => 0⟩⟩, by rw [h1, e]; rfl, nil_ser, fun h => by rw [e] at h; omega, fun _ => ⟨rfl, rfl, rfl⟩, h2⟩

set_option maxRecDepth 100000 in
set_option maxHeartbeats 4000000 in
theorem same_eq (a b : Ba.Ser) (w : World) (ha : a.Ok w) (hb : b.Ok w) (e1 : a.fr = b.fr) (e2 : a.st = b.st) (e3 : a.ds.n = b.ds.n) (e4 : ∀ i, i < a.ds.n → a.ds.X i = b.ds.X i) : Calls Try.prog 21 #[a.val, b.val] w fun e w' => e = .returned (.bool true) ∧ Gr w w' := by
  have HA := Lib.hid ha.2.2.hA; have KA := Lib.hid hb.2.2.hA
  have HX := Lib.hid (fun i hi => (ha.2.2.hX i hi).1); have KX := Lib.hid (fun i hi => (hb.2.2.hX i hi).1)
  have hm := Nat.le_trans ha.2.2.hc ha.2.2.hb; have ac := ha.2.2.hc; have bc := hb.2.2.hc
  clear ha hb
  unfold Ba.Ser.val
  obtain ⟨fr, st, ⟨A, n, c, b1, o1, X⟩⟩ := a
  obtain ⟨fr2, st2, ⟨A2, n2, c2, b2, o2, Y⟩⟩ := b
  simp only at *
  subst e1 e2 e3
  have HE := Lib.hid e4
  clear e4
  go_enter Try.func21, Try.ntmps21
  go_wp2_with fail
  refine name_world ?_; intro W0 hW0
  have g0 : Gr w W0 := by rw [hW0]; exact gr_auto
  have p2 : W0.cell? ⟨w.heap.size, 2, none⟩ = some (.slice A n c) := by rw [hW0]; simp [go_sem]
  have q2 : W0.cell? ⟨w.heap.size + 1, 2, none⟩ = some (.slice A2 n c2) := by rw [hW0]; simp [go_sem]
  clear hW0
  go_loopw [5] (fun x wr => ∃ i : Nat, i ≤ n ∧ x = .int .i64 (i : Int) ∧ Gr W0 wr) (fun x _ => n - (intOf x).toNat)
  case atStart => exact ⟨0, Nat.zero_le _, rfl, Gr.refl _⟩
  case round =>
    obtain ⟨i, hi, rfl, hg⟩ := hrel
    have gr := g0.trans hg
    replace p2 := Gr.at hg p2; replace q2 := Gr.at hg q2
    by_cases hlt : i < n
    · obtain rfl := HA.out (by omega)
      obtain rfl := KA.out (by omega)
      have a0 := Gr.at gr (HX.out i hlt); have c0 := Gr.at gr (KX.out i hlt)
      have ex := HE.out i hlt
      rw [← ex] at c0
      have ib0 : (0 : Int) ≤ (i : Int) := by omega
      have ib1 : (i : Int) < (n : Int) := by omega
      clear HX KX HE HA KA ex
      generalize X i = x at *
      go_wp2_with fail
      (first | refine name_world ?_ | refine (show (∀ W, W = _ → Calls _ _ _ W _) → Calls _ _ _ _ _ from fun h => h _ rfl) ?_); intro W3 hW3
      have g3 : Gr w W3 := by rw [hW3]; exact gr_auto
      have gb3_wr : Gr wr W3 := by (try clear g3); rw [hW3]; exact gr_auto
      have k3_0 : W3.cell? ⟨w.heap.size, 2, none⟩ = some (.slice (some ⟨b1, o1, none⟩) n c) := by rw [hW3]; first | (simp [go_sem, *]; done) | (refine Gr.at ?_ (by assumption); exact gr_auto)
      have b3_0 : w.heap.size < W3.heap.size := World.block_lt_of_cell? _ _ k3_0
      have k3_1 : W3.cell? ⟨w.heap.size + 1, 2, none⟩ = some (.slice (some ⟨b2, o2, none⟩) n c2) := by rw [hW3]; first | (simp [go_sem, *]; done) | (refine Gr.at ?_ (by assumption); exact gr_auto)
      have b3_1 : w.heap.size + 1 < W3.heap.size := World.block_lt_of_cell? _ _ k3_1
      have k3_2 : W3.cell? ⟨b1, o1 + i, none⟩ = some (.int .i64 x) := by rw [hW3]; first | (simp [go_sem, *]; done) | (refine Gr.at ?_ (by assumption); exact gr_auto)
      have b3_2 : b1 < W3.heap.size := World.block_lt_of_cell? _ _ k3_2
      have k3_3 : W3.cell? ⟨b2, o2 + i, none⟩ = some (.int .i64 x) := by rw [hW3]; first | (simp [go_sem, *]; done) | (refine Gr.at ?_ (by assumption); exact gr_auto)
      have b3_3 : b2 < W3.heap.size := World.block_lt_of_cell? _ _ k3_3
      clear hW3
      have s3_0 : ∀ gw : GW W3, gw.1.cell? ⟨w.heap.size, 2, none⟩ = some (.slice (some ⟨b1, o1, none⟩) n c) := fun gw => Gr.at gw.2 k3_0
      have s3_1 : ∀ gw : GW W3, gw.1.cell? ⟨w.heap.size + 1, 2, none⟩ = some (.slice (some ⟨b2, o2, none⟩) n c2) := fun gw => Gr.at gw.2 k3_1
      have s3_2 : ∀ gw : GW W3, gw.1.cell? ⟨b1, o1 + i, none⟩ = some (.int .i64 x) := fun gw => Gr.at gw.2 k3_2
      have s3_3 : ∀ gw : GW W3, gw.1.cell? ⟨b2, o2 + i, none⟩ = some (.int .i64 x) := fun gw => Gr.at gw.2 k3_3
      have hnn := Nat.le_refl 0
      refine wp_region_gr (by kernel_rfl) (by kernel_rfl) ?_
      repeat (go_big_quiet_step (skip))
      refine wpQuiet_nil ?_
      intro w4 hb4
      clear s3_0 s3_1 s3_2 s3_3
      have g4 : Gr w w4 := g3.trans hb4
      have k3_0 := Gr.at hb4 k3_0
      have k3_1 := Gr.at hb4 k3_1
      have k3_2 := Gr.at hb4 k3_2
      have k3_3 := Gr.at hb4 k3_3
      go_wp2_with fail
      go_roundw
      case rel => exact ⟨i + 1, by omega, by go_num, hg.trans (gb3_wr.trans hb4)⟩
      case measure => simp [intOf]; omega
    · obtain rfl : n = i := by omega
      clear HX KX HE HA KA
      go_wp2_with fail
      go_ret
      exact ⟨rfl, gr⟩
namespace Ba
/-- A record is long, but not too long, or far too long. -/
def loB (s : Ser) : Bool := decide ((100 : Int) < (s.ds.n : Int)) && decide ((s.ds.n : Int) ≤ 10000) || decide ((10010 : Int) < (s.ds.n : Int))
end Ba

set_option maxRecDepth 100000 in
set_option maxHeartbeats 4000000 in
theorem lof_any (s : Ba.Ser) (w : World) (h : s.Ok w) : Calls Try.prog 47 #[s.val] w fun e w' => e = .returned (.bool (Ba.loB s)) ∧ Gr w w' := by
  have hm := Nat.le_trans h.2.2.hc h.2.2.hb
  clear h
  unfold Ba.loB Ba.Ser.val
  obtain ⟨fr, st, ⟨A, n, c, b, o, X⟩⟩ := s
  simp only at *
  by_cases h1 : (100 : Int) < (n : Int)
  · by_cases h2 : (n : Int) ≤ 10000
    · have h3 : ¬ (10010 : Int) < (n : Int) := by omega
      rw [decide_eq_true h1, decide_eq_true h2]
      go_enter Try.func47, Try.ntmps47
      go_wp2_with fail
      go_ret
      exact ⟨rfl, gr_auto⟩
    · rw [decide_eq_true h1, decide_eq_false h2]
      by_cases h3 : (10010 : Int) < (n : Int)
      · rw [decide_eq_true h3]
        go_enter Try.func47, Try.ntmps47
        go_wp2_with fail
        go_ret
        exact ⟨rfl, gr_auto⟩
      · rw [decide_eq_false h3]
        go_enter Try.func47, Try.ntmps47
        go_wp2_with fail
        go_ret
        exact ⟨rfl, gr_auto⟩
  · have h3 : ¬ (10010 : Int) < (n : Int) := by omega
    rw [decide_eq_false h1, decide_eq_false h3]
    go_enter Try.func47, Try.ntmps47
    go_wp2_with fail
    go_ret
    exact ⟨rfl, gr_auto⟩

set_option maxRecDepth 100000 in
set_option maxHeartbeats 4000000 in
theorem long_one (s : Ba.Ser) (B : Nat) (w : World) (h : s.Ok w) (c0 : w.cell? ⟨B, 0, none⟩ = some (.int .i64 s.fr)) (c1 : w.cell? ⟨B, 1, none⟩ = some (.int .i64 s.st)) (c2 : w.cell? ⟨B, 2, none⟩ = some (.slice s.ds.A s.ds.n s.ds.c)) : Calls Try.prog 18 #[.slice (some ⟨B, 0, none⟩) 1 1] w fun e w' => e = .returned (.bool (Ba.loB s)) ∧ Gr w w' := by
  have HC := Lib.hid (has_ser 47 #[] ⟨some ⟨B, 0, none⟩, 1, 1, B, 0, fun _ => s⟩ (fun _ => Ba.loB s) w ⟨fun _ => rfl, Nat.le_refl _, by simp only; omega, fun i hi => by
    obtain rfl : i = 0 := by simp only at hi; omega
    exact ⟨⟨c0, c1, c2⟩, h⟩⟩ (enter_of Try.func47 (by kernel_rfl) (by kernel_rfl)) fun i hi W' hW => lof_any s W' (h.gr hW))
  rw [Ba.any_one] at HC
  clear h c0 c1 c2
  generalize Ba.loB s = q at *
  go_enter Try.func18, Try.ntmps18
  go_wp2_with fail
  refine HC.out.mono ?_
  rintro e w1 ⟨rfl, hb1⟩
  clear HC
  go_wp2_with fail
  go_ret
  exact ⟨rfl, hb1⟩
end Go.Proofs.Ytnfjebfmfjpepaa
