/-
  Surfaces: slices.Clone of spots and faces; mesh.copied. (Printed by mkcl.py.)
-/
import Derived.Test.YtajhhplgcegodaaDoorMsCp
import Derived.Test.YtajhhplgcegodaaDoorMsR
import Derived.Lib.SliceRun
set_option linter.unusedVariables false
set_option linter.unusedSimpArgs false
namespace Go.Proofs.YtajhhplgcegodaaDoor
open Go.RowKit
attribute [local go_sem ↓] Go.wp_at_zero Go.wp_at_succ
set_option maxRecDepth 100000 in
set_option maxHeartbeats 4000000 in
theorem clone_s (s : Ba.SlSpot) (w : World) (h : s.At w) (hn : s.n ≤ 1000) : Calls Tryd.prog 100 #[.slice s.A s.n s.c] w fun e w' => ∃ v, e = .returned v ∧ Gr w w' ∧ OwnL w.heap.size 74 3 s.n (fsp s.D s.n) v w' := by
  obtain ⟨i0, hi0, hz0, hz1, hz2⟩ := info_parts info_spot
  have HI := Lib.hid hi0; have HZ0 := Lib.hid hz0; have HZ1 := Lib.hid hz1; have HZ2 := Lib.hid hz2
  clear hi0 hz0 hz1 hz2
  have hA := h.hA
  have HX := Lib.hid (fsp_at (n := s.n) (D := s.D) (fun j hj => (h.hD j hj).1))
  have HL := Lib.hid (fsp_len s.D s.n); have HO := Lib.hid (fsp_one s.D s.n)
  have hnc := h.hc; have hcb := h.hb
  clear h
  generalize fsp s.D s.n = xs at *
  obtain ⟨A, n, c, b, o, D⟩ := s
  simp only at *
  have qe : ∀ (w : World) (a : Option Addr) (n c n' c' : Nat), (binOp .eql 22 (.slice a n c) (.slice none n' c')).run Tryd.prog w = .ok (.bool a.isNone) w := fun w a n c n' c' => Lib.run_eql_slice_nil w _ _ a n c n' c' Tryd.underlying22
  by_cases h0 : n = 0
  · subst h0
    cases A with
    | none =>
      go_enter Tryd.func100, Tryd.ntmps100
      go_wp2_with fail
      go_ret
      exact ⟨_, rfl, Gr.refl _, none, 0, rfl, Nat.le_refl _, by omega, fun h => absurd h (by omega)⟩
    | some ad =>
      go_enter Tryd.func100, Tryd.ntmps100
      go_wp2_with (at_builtin; refine wpList_append_zero rfl _ _ 22 rfl w.heap.size 74 i0 3 Tryd.underlying22 HI.out _ 0 [] rfl (World.ownsRow_made w #[] 0 (Nat.le_refl _) (Nat.zero_le _) rfl) ad c rfl ?_)
      -- @a
      go_wp2_with fail
      go_ret
      exact ⟨_, rfl, by exact gr_auto, some ⟨w.heap.size, 0, none⟩, 0, rfl, Nat.le_refl _, by omega, fun h => absurd h (by omega)⟩
  · obtain rfl := hA (by omega)
    go_enter Tryd.func100, Tryd.ntmps100
    go_wp2_with (at_builtin; refine wpList_append_own _ rfl _ _ 22 rfl w.heap.size 74 i0 (.agg #[.int .i64 0, .int .i64 0, .int .i64 0]) 3 24 Tryd.underlying22 HI.out HZ0.out HZ1.out HZ2.out rfl (by decide) _ 0 [] rfl (World.ownsRow_made w #[] 0 (Nat.le_refl _) (Nat.zero_le _) rfl) ⟨b, o, none⟩ n c xs rfl HL.out ?c1 ?c2 ?c3 ?c4 ?c5 ?_)
    case c1 => exact fun j u hj => by have z := HX.out j u hj; rw [Addr.add_lit] at z; exact cell_later (Gr.alloc (Gr.refl _) _) z
    case c2 => exact HO.out
    case c3 => unfold maxLen; omega
    case c4 => omega
    intro v' w1 hown hgrow hnil'
    have hg1 : Gr w w1 := by
      refine Below.grown (Below.alloc (Below.refl _ w) (Nat.le_refl _) _) hgrow (by simp) ?_
      intro k hk; simp [Value.ownBlock] at hk; omega
    replace hown := (show w1.ownsRow w.heap.size 74 3 v' n xs from by simpa using hown)
    have HR := Lib.hid (ownl_own hown)
    clear hown hgrow hnil'
    go_wp2_with fail
    go_ret
    exact ⟨_, rfl, hg1, HR.out⟩
set_option maxRecDepth 100000 in
set_option maxHeartbeats 4000000 in
theorem clone_f (s : Ba.SlFace) (w : World) (h : s.At w) (hn : s.n ≤ 1000) : Calls Tryd.prog 101 #[.slice s.A s.n s.c] w fun e w' => ∃ v, e = .returned v ∧ Gr w w' ∧ OwnL w.heap.size 43 4 s.n (ffc s.D s.n) v w' := by
  obtain ⟨i0, hi0, hz0, hz1, hz2⟩ := info_parts info_face4
  have HI := Lib.hid hi0; have HZ0 := Lib.hid hz0; have HZ1 := Lib.hid hz1; have HZ2 := Lib.hid hz2
  clear hi0 hz0 hz1 hz2
  have hA := h.hA
  have HX := Lib.hid (ffc_at (n := s.n) (D := s.D) (fun j hj => (h.hD j hj).1))
  have HL := Lib.hid (ffc_len s.D s.n); have HO := Lib.hid (ffc_one s.D s.n)
  have hnc := h.hc; have hcb := h.hb
  clear h
  generalize ffc s.D s.n = xs at *
  obtain ⟨A, n, c, b, o, D⟩ := s
  simp only at *
  have qe : ∀ (w : World) (a : Option Addr) (n c n' c' : Nat), (binOp .eql 23 (.slice a n c) (.slice none n' c')).run Tryd.prog w = .ok (.bool a.isNone) w := fun w a n c n' c' => Lib.run_eql_slice_nil w _ _ a n c n' c' Tryd.underlying23
  by_cases h0 : n = 0
  · subst h0
    cases A with
    | none =>
      go_enter Tryd.func101, Tryd.ntmps101
      go_wp2_with fail
      go_ret
      exact ⟨_, rfl, Gr.refl _, none, 0, rfl, Nat.le_refl _, by omega, fun h => absurd h (by omega)⟩
    | some ad =>
      go_enter Tryd.func101, Tryd.ntmps101
      go_wp2_with (at_builtin; refine wpList_append_zero rfl _ _ 23 rfl w.heap.size 43 i0 4 Tryd.underlying23 HI.out _ 0 [] rfl (World.ownsRow_made w #[] 0 (Nat.le_refl _) (Nat.zero_le _) rfl) ad c rfl ?_)
      -- @a
      go_wp2_with fail
      go_ret
      exact ⟨_, rfl, by exact gr_auto, some ⟨w.heap.size, 0, none⟩, 0, rfl, Nat.le_refl _, by omega, fun h => absurd h (by omega)⟩
  · obtain rfl := hA (by omega)
    go_enter Tryd.func101, Tryd.ntmps101
    go_wp2_with (at_builtin; refine wpList_append_own _ rfl _ _ 23 rfl w.heap.size 43 i0 (.agg #[.int .i64 0, .int .i64 0, .int .i64 0, .int .i64 0]) 4 32 Tryd.underlying23 HI.out HZ0.out HZ1.out HZ2.out rfl (by decide) _ 0 [] rfl (World.ownsRow_made w #[] 0 (Nat.le_refl _) (Nat.zero_le _) rfl) ⟨b, o, none⟩ n c xs rfl HL.out ?c1 ?c2 ?c3 ?c4 ?c5 ?_)
    case c1 => exact fun j u hj => by have z := HX.out j u hj; rw [Addr.add_lit] at z; exact cell_later (Gr.alloc (Gr.refl _) _) z
    case c2 => exact HO.out
    case c3 => unfold maxLen; omega
    case c4 => omega
    intro v' w1 hown hgrow hnil'
    have hg1 : Gr w w1 := by
      refine Below.grown (Below.alloc (Below.refl _ w) (Nat.le_refl _) _) hgrow (by simp) ?_
      intro k hk; simp [Value.ownBlock] at hk; omega
    replace hown := (show w1.ownsRow w.heap.size 43 4 v' n xs from by simpa using hown)
    have HR := Lib.hid (ownl_own hown)
    clear hown hgrow hnil'
    go_wp2_with fail
    go_ret
    exact ⟨_, rfl, hg1, HR.out⟩
set_option maxRecDepth 100000 in
set_option maxHeartbeats 4000000 in
theorem ms_copied (m : Ms.Mesh) (w : World) (h : m.At w) (hs : m.S.n ≤ 1000 ∧ m.F.n ≤ 1000) : Calls Tryd.prog 79 #[m.val] w fun e w' => ∃ v, e = .returned v ∧ RetCp m w w' v := by
  have H1 := Lib.hid (fun W (hW : Gr w W) => clone_s m.S W (h.s.gr hW) hs.1)
  have H2 := Lib.hid (fun W (hW : Gr w W) => clone_f m.F W (h.f.gr hW) hs.2)
  clear h hs
  unfold RetCp
  unfold Ms.Mesh.val at *
  generalize fsp m.S.D m.S.n = x0 at *; generalize ffc m.F.D m.F.n = x1 at *
  generalize m.S.A = sA at *; generalize m.S.n = sn at *; generalize m.S.c = sc at *; generalize m.F.A = fA at *; generalize m.F.n = fn at *; generalize m.F.c = fc at *
  go_enter Tryd.func79, Tryd.ntmps79
  go_wp2_with fail
  obtain ⟨W1, hW1⟩ : ∃ W, ((w.alloc (Obj.cells #[.slice sA sn sc, .slice fA fn fc] 25)).alloc (Obj.cells #[.slice none 0 0, .slice none 0 0] 25)) = W := ⟨_, rfl⟩
  have g1 : Gr w W1 := hW1 ▸ (Gr.trans (Gr.alloc (Gr.refl w) _) (Gr.alloc (Gr.refl _) _))
  have m0 : W1.cell? ⟨w.heap.size, 0, none⟩ = some (.slice sA sn sc) := by rw [← hW1]; simp [go_sem]
  have m1 : W1.cell? ⟨w.heap.size, 1, none⟩ = some (.slice fA fn fc) := by rw [← hW1]; simp [go_sem]
  have o0 : Own W1 (w.heap.size + 1) 0 (.slice none 0 0) := by rw [← hW1]; exact ⟨by simp [go_sem], by simp [go_sem]⟩
  have o1 : Own W1 (w.heap.size + 1) 1 (.slice none 0 0) := by rw [← hW1]; exact ⟨by simp [go_sem], by simp [go_sem]⟩
  rw [hW1]
  have z1 : W1.heap.size = w.heap.size + 2 := by rw [← hW1]; simp
  clear hW1
  -- @c
  go_region_law (first | (go_simp; go_at_call_of 100 (Value.slice sA sn sc); refine (H1.out _ (by exact gr_auto)).mono ?_; rintro e wa ⟨va, rfl, ga, ⟨Aa, ca, rfl, ua1, ua2, ua3⟩⟩; have gWa : Gr W1 wa := Gr.trans (by exact gr_auto) ga; have gwa : Gr w wa := g1.trans gWa; have ma0 := Gr.at gWa m0; have ma1 := Gr.at gWa m1; have pa0 := o0.gr gWa; have pa1 := o1.gr gWa; have qa0 := pa0.1; have qa1 := pa0.2; have qa2 := pa1.1; have qa3 := pa1.2) | (go_simp; go_at_call_of 101 (Value.slice fA fn fc); refine (H2.out _ (by exact gr_auto)).mono ?_; rintro e wb ⟨vb, rfl, gb, ⟨Ab, cb, rfl, ub1, ub2, ub3⟩⟩; have gWb : Gr W1 wb := Gr.trans (by exact gr_auto) gb; have gwb : Gr w wb := g1.trans gWb; have mb0 := Gr.at gWb m0; have mb1 := Gr.at gWb m1; have pb0 := o0.gr gWb; have pb1 := o1.gr gWb; have qb0 := pb0.1; have qb1 := pb0.2; have qb2 := pb1.1; have qb3 := pb1.2))
  -- @d
  all_goals (
    have La : OwnL (w.heap.size + 2) 74 3 sn x0 (.slice Aa sn ca) wa := ⟨Aa, ca, rfl, ua1, ua2, fun h => ownsRow_base (ua3 h) (by have q : w.heap.size + 2 ≤ W1.heap.size := (by omega); exact q)⟩
    have Lb : OwnL (w.heap.size + 2) 43 4 fn x1 (.slice Ab fn cb) wb := ⟨Ab, cb, rfl, ub1, ub2, fun h => ownsRow_base (ub3 h) (by have q : w.heap.size + 2 ≤ wa.heap.size := (by have := Gr.size gWa; omega); exact q)⟩
    have gab : Gr wa wb := Gr.trans (by exact gr_auto) gb
    have gx : GrX (w.heap.size + 1) wb ((wb.setCell ⟨w.heap.size + 1, 0, none⟩ (.slice Aa sn ca)).setCell ⟨w.heap.size + 1, 1, none⟩ (.slice Ab fn cb)) := GrX.setCell (p := ⟨w.heap.size + 1, 1, none⟩) (GrX.setCell (p := ⟨w.heap.size + 1, 0, none⟩) (GrX.refl (w.heap.size + 1) wb) rfl _) rfl _
    have r0 := Own.other (v := .slice Aa sn ca) (u := .slice Ab fn cb) (b' := w.heap.size + 1) (o' := 1) (Own.set (u := .slice Aa sn ca) pb0) (Or.inr (by omega))
    have r1 := Own.set (u := .slice Ab fn cb) (Own.other (b' := w.heap.size + 1) (o' := 0) (u := .slice Aa sn ca) pb1 (Or.inr (by omega)))
    have f0 := r0.1; have f1 := r1.1
    have ma := (La.gr gab).grx gx (by omega)
    have mb := Lb.grx gx (by omega)
    have gg := GrX.gr gwb (by omega) gx
    clear ma0 ma1 mb0 mb1 pa0 pa1 pb0 pb1 qa0 qa1 qa2 qa3 qb0 qb1 qb2 qb3 r0 r1 gx La Lb ua3 ub3 gab
    go_wp2_with fail
    refine bodyPost_ret (by simp [results, Tryd.results79, go_sem, f0, f1]; try rfl) rfl ?_
    exact ⟨_, rfl, _, _, rfl, gg, ma.lo (by omega), mb.lo (by omega)⟩)
end Go.Proofs.YtajhhplgcegodaaDoor
