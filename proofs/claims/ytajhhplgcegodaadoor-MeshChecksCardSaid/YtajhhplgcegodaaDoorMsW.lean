/-
  Surfaces: mesh.opposite and mesh.neighbours.
-/
import Derived.Test.YtajhhplgcegodaaDoorMsX
import Derived.Test.YtajhhplgcegodaaDoorMsEq
import Derived.Test.YtajhhplgcegodaaDoorMsBr
set_option linter.unusedVariables false
set_option linter.unusedSimpArgs false
namespace Go.Proofs.YtajhhplgcegodaaDoor
open Go.RowKit
namespace Ms
def opB (f : Ba.Face) (a b : Int) (k : Nat) : Bool := cor f k == b && cor f (k + 1) == a
/-- The first side of a face that goes from b to a; -1 if there is none. -/
def opI (f : Ba.Face) (a b : Int) : Int := Ba.fstI (opB f a b) 3
end Ms
set_option maxRecDepth 100000 in
set_option maxHeartbeats 4000000 in
theorem ms_opp (f : Ba.Face) (a b : Int) (w : World) : Calls Tryd.prog 71 #[f.val, .agg #[.int .i64 a, .int .i64 b]] w fun e w' => e = .returned (.int .i64 (Ms.opI f a b)) ∧ Gr w w' := by
  have HHIT := Lib.hid (fun k (h : Ba.fst (Ms.opB f a b) k = none) hp (hk : k < 3) => show Ms.opI f a b = (k : Int) from Ba.fstI_hit h hp hk)
  have HMISS := Lib.hid (fun k (h : Ba.fst (Ms.opB f a b) k = none) hp => Ba.fst_miss (i := k) h hp)
  have HNO := Lib.hid (fun (h : Ba.fst (Ms.opB f a b) 3 = none) => show Ms.opI f a b = -1 from Ba.fstI_none h)
  have HS := Lib.hid (fun k hk W => ms_side f k hk W)
  have HP := Lib.hid (fun k => show Ms.opB f a b k = (Ms.cor f k == b && Ms.cor f (k + 1) == a) from rfl)
  have EP := Lib.hid (fun x y W => ms_eq2 x y b a W)
  unfold Ba.Face.val at *
  generalize Ms.opI f a b = RV at *
  generalize Ms.opB f a b = P at *
  go_enter Tryd.func71, Tryd.ntmps71
  go_wp2_with fail
  -- @a
  obtain ⟨W0, hW0⟩ : ∃ W, ((w.alloc (Obj.cells #[.int .i64 f.a, .int .i64 f.b, .int .i64 f.c, .int .i64 f.k] 43)).alloc (Obj.cells #[.int .i64 a, .int .i64 b] 48)) = W := ⟨_, rfl⟩
  have g0 : Gr w W0 := hW0 ▸ (Gr.trans (Gr.alloc (Gr.refl w) _) (Gr.alloc (Gr.refl _) _))
  have f0 : W0.cell? ⟨w.heap.size, 0, none⟩ = some (.int .i64 f.a) := by rw [← hW0]; simp [go_sem]
  have f1 : W0.cell? ⟨w.heap.size, 1, none⟩ = some (.int .i64 f.b) := by rw [← hW0]; simp [go_sem]
  have f2 : W0.cell? ⟨w.heap.size, 2, none⟩ = some (.int .i64 f.c) := by rw [← hW0]; simp [go_sem]
  have f3 : W0.cell? ⟨w.heap.size, 3, none⟩ = some (.int .i64 f.k) := by rw [← hW0]; simp [go_sem]
  have s0 : W0.cell? ⟨w.heap.size + 1, 0, none⟩ = some (.int .i64 a) := by rw [← hW0]; simp [go_sem]
  have s1 : W0.cell? ⟨w.heap.size + 1, 1, none⟩ = some (.int .i64 b) := by rw [← hW0]; simp [go_sem]
  rw [hW0]
  clear hW0
  -- @b
  go_loopw [6] (fun x wr => ∃ k : Nat, k ≤ 3 ∧ x = .int .i64 (k : Int) ∧ Hid (Ba.fst P k = none) ∧ Gr W0 wr) (fun x _ => 3 - (intOf x).toNat)
  case atStart => exact ⟨0, by omega, rfl, Lib.hid rfl, Gr.refl _⟩
  case round =>
    obtain ⟨k, hk, rfl, HQ, hg⟩ := hrel
    rename World => W1
    by_cases hlk : k < 3
    · have kb0 : (0 : Int) ≤ (k : Int) := by omega
      have kb1 : (k : Int) < 3 := by omega
      replace f0 := Gr.at hg f0; replace f1 := Gr.at hg f1; replace f2 := Gr.at hg f2; replace f3 := Gr.at hg f3; replace s0 := Gr.at hg s0; replace s1 := Gr.at hg s1
      have HC1 := Lib.hid (HS.out k hlk)
      have HPk := HP.out k
      generalize Ms.cor f k = x at *; generalize Ms.cor f (k + 1) = y at *
      have EPk := EP.out x y
      clear HS HP EP
      cases e1 : (x == b && y == a)
      · rw [e1] at HPk EPk
        have HN := Lib.hid (HMISS.out k HQ.out HPk)
        clear HPk HMISS HHIT HNO HQ e1
        have eg := ms_eq2g
        -- @c
        go_wp2_with fail
        -- @d
        (first | refine name_world ?_ | refine (show (∀ W, W = _ → Calls _ _ _ W _) → Calls _ _ _ _ _ from fun h => h _ rfl) ?_); intro W6 hW6
        have g6 : Gr w W6 := by rw [hW6]; exact gr_auto
        have gb6_W1 : Gr W1 W6 := by (try clear g6); rw [hW6]; exact gr_auto
        have k6_0 : W6.cell? ⟨w.heap.size, 0, none⟩ = some (.int .i64 f.a) := by rw [hW6]; first | (simp [go_sem, *]; done) | (refine Gr.at ?_ (by assumption); exact gr_auto)
        have b6_0 : w.heap.size < W6.heap.size := World.block_lt_of_cell? _ _ k6_0
        have k6_1 : W6.cell? ⟨w.heap.size, 1, none⟩ = some (.int .i64 f.b) := by rw [hW6]; first | (simp [go_sem, *]; done) | (refine Gr.at ?_ (by assumption); exact gr_auto)
        have k6_2 : W6.cell? ⟨w.heap.size, 2, none⟩ = some (.int .i64 f.c) := by rw [hW6]; first | (simp [go_sem, *]; done) | (refine Gr.at ?_ (by assumption); exact gr_auto)
        have k6_3 : W6.cell? ⟨w.heap.size, 3, none⟩ = some (.int .i64 f.k) := by rw [hW6]; first | (simp [go_sem, *]; done) | (refine Gr.at ?_ (by assumption); exact gr_auto)
        have k6_4 : W6.cell? ⟨w.heap.size + 1, 0, none⟩ = some (.int .i64 a) := by rw [hW6]; first | (simp [go_sem, *]; done) | (refine Gr.at ?_ (by assumption); exact gr_auto)
        have b6_4 : w.heap.size + 1 < W6.heap.size := World.block_lt_of_cell? _ _ k6_4
        have k6_5 : W6.cell? ⟨w.heap.size + 1, 1, none⟩ = some (.int .i64 b) := by rw [hW6]; first | (simp [go_sem, *]; done) | (refine Gr.at ?_ (by assumption); exact gr_auto)
        clear hW6
        have s6_0 : ∀ gw : GW W6, gw.1.cell? ⟨w.heap.size, 0, none⟩ = some (.int .i64 f.a) := fun gw => Gr.at gw.2 k6_0
        have s6_1 : ∀ gw : GW W6, gw.1.cell? ⟨w.heap.size, 1, none⟩ = some (.int .i64 f.b) := fun gw => Gr.at gw.2 k6_1
        have s6_2 : ∀ gw : GW W6, gw.1.cell? ⟨w.heap.size, 2, none⟩ = some (.int .i64 f.c) := fun gw => Gr.at gw.2 k6_2
        have s6_3 : ∀ gw : GW W6, gw.1.cell? ⟨w.heap.size, 3, none⟩ = some (.int .i64 f.k) := fun gw => Gr.at gw.2 k6_3
        have s6_4 : ∀ gw : GW W6, gw.1.cell? ⟨w.heap.size + 1, 0, none⟩ = some (.int .i64 a) := fun gw => Gr.at gw.2 k6_4
        have s6_5 : ∀ gw : GW W6, gw.1.cell? ⟨w.heap.size + 1, 1, none⟩ = some (.int .i64 b) := fun gw => Gr.at gw.2 k6_5
        have Q1 := Lib.hid (fun gw : GW W6 => gw_call (HC1.out gw.1))
        refine wp_region_gr (by kernel_rfl) (by kernel_rfl) ?_
        repeat (go_big_quiet_step ((go_at_call 58; with_reducible exact Q1.out _)))
        refine wpQuiet_nil ?_
        intro w7 hb7
        clear s6_0 s6_1 s6_2 s6_3 s6_4 s6_5
        have g7 : Gr w w7 := g6.trans hb7
        have k6_0 := Gr.at hb7 k6_0
        have k6_1 := Gr.at hb7 k6_1
        have k6_2 := Gr.at hb7 k6_2
        have k6_3 := Gr.at hb7 k6_3
        have k6_4 := Gr.at hb7 k6_4
        have k6_5 := Gr.at hb7 k6_5
        -- @e
        clear EPk eg
        go_wp2_with fail
        go_roundw
        case rel => exact ⟨k + 1, by omega, by go_num, HN, hg.trans (gb6_W1.trans hb7)⟩
        case measure => simp [intOf]; omega
      · rw [e1] at HPk EPk
        have HN := Lib.hid (HHIT.out k HQ.out HPk hlk)
        clear HPk HMISS HHIT HNO HQ e1
        have eg := ms_eq2g
        go_wp2_with fail
        (first | refine name_world ?_ | refine (show (∀ W, W = _ → Calls _ _ _ W _) → Calls _ _ _ _ _ from fun h => h _ rfl) ?_); intro W6 hW6
        have g6 : Gr w W6 := by rw [hW6]; exact gr_auto
        have gb6_W1 : Gr W1 W6 := by (try clear g6); rw [hW6]; exact gr_auto
        have k6_0 : W6.cell? ⟨w.heap.size, 0, none⟩ = some (.int .i64 f.a) := by rw [hW6]; first | (simp [go_sem, *]; done) | (refine Gr.at ?_ (by assumption); exact gr_auto)
        have b6_0 : w.heap.size < W6.heap.size := World.block_lt_of_cell? _ _ k6_0
        have k6_1 : W6.cell? ⟨w.heap.size, 1, none⟩ = some (.int .i64 f.b) := by rw [hW6]; first | (simp [go_sem, *]; done) | (refine Gr.at ?_ (by assumption); exact gr_auto)
        have k6_2 : W6.cell? ⟨w.heap.size, 2, none⟩ = some (.int .i64 f.c) := by rw [hW6]; first | (simp [go_sem, *]; done) | (refine Gr.at ?_ (by assumption); exact gr_auto)
        have k6_3 : W6.cell? ⟨w.heap.size, 3, none⟩ = some (.int .i64 f.k) := by rw [hW6]; first | (simp [go_sem, *]; done) | (refine Gr.at ?_ (by assumption); exact gr_auto)
        have k6_4 : W6.cell? ⟨w.heap.size + 1, 0, none⟩ = some (.int .i64 a) := by rw [hW6]; first | (simp [go_sem, *]; done) | (refine Gr.at ?_ (by assumption); exact gr_auto)
        have b6_4 : w.heap.size + 1 < W6.heap.size := World.block_lt_of_cell? _ _ k6_4
        have k6_5 : W6.cell? ⟨w.heap.size + 1, 1, none⟩ = some (.int .i64 b) := by rw [hW6]; first | (simp [go_sem, *]; done) | (refine Gr.at ?_ (by assumption); exact gr_auto)
        clear hW6
        have s6_0 : ∀ gw : GW W6, gw.1.cell? ⟨w.heap.size, 0, none⟩ = some (.int .i64 f.a) := fun gw => Gr.at gw.2 k6_0
        have s6_1 : ∀ gw : GW W6, gw.1.cell? ⟨w.heap.size, 1, none⟩ = some (.int .i64 f.b) := fun gw => Gr.at gw.2 k6_1
        have s6_2 : ∀ gw : GW W6, gw.1.cell? ⟨w.heap.size, 2, none⟩ = some (.int .i64 f.c) := fun gw => Gr.at gw.2 k6_2
        have s6_3 : ∀ gw : GW W6, gw.1.cell? ⟨w.heap.size, 3, none⟩ = some (.int .i64 f.k) := fun gw => Gr.at gw.2 k6_3
        have s6_4 : ∀ gw : GW W6, gw.1.cell? ⟨w.heap.size + 1, 0, none⟩ = some (.int .i64 a) := fun gw => Gr.at gw.2 k6_4
        have s6_5 : ∀ gw : GW W6, gw.1.cell? ⟨w.heap.size + 1, 1, none⟩ = some (.int .i64 b) := fun gw => Gr.at gw.2 k6_5
        have Q1 := Lib.hid (fun gw : GW W6 => gw_call (HC1.out gw.1))
        refine wp_region_gr (by kernel_rfl) (by kernel_rfl) ?_
        repeat (go_big_quiet_step ((go_at_call 58; with_reducible exact Q1.out _)))
        refine wpQuiet_nil ?_
        intro w7 hb7
        clear s6_0 s6_1 s6_2 s6_3 s6_4 s6_5
        have g7 : Gr w w7 := g6.trans hb7
        have k6_0 := Gr.at hb7 k6_0
        have k6_1 := Gr.at hb7 k6_1
        have k6_2 := Gr.at hb7 k6_2
        have k6_3 := Gr.at hb7 k6_3
        have k6_4 := Gr.at hb7 k6_4
        have k6_5 := Gr.at hb7 k6_5
        clear EPk eg
        go_wp2_with fail
        -- @f
        go_ret
        exact ⟨by rw [HN.out]; rfl, g0.trans (hg.trans (gb6_W1.trans hb7))⟩
    · obtain rfl : k = 3 := by omega
      have HN := Lib.hid (HNO.out HQ.out)
      go_wp2_with fail
      -- @g
      go_ret
      exact ⟨by rw [HN.out]; rfl, g0.trans hg⟩
end Go.Proofs.YtajhhplgcegodaaDoor
