/-
  Alarms: the example's network and what it answers. Typed.
-/
import Derived.Test.YtllkiadedaghoaaGreatDoorEx39
import Derived.Test.YtllkiadedaghoaaGreatDoorEx40

set_option linter.unusedVariables false
set_option linter.unusedSimpArgs false
namespace Go.Proofs.YtllkiadedaghoaaGreatDoor
open Go.RowKit Go.Shelf Go.Sort
attribute [local go_sem ↓] Go.wp_at_zero Go.wp_at_succ
theorem Al.heap3 (w : World) (A B C : Obj) : (((w.alloc A).alloc B).alloc C).heap[w.heap.size + 2]? = some C ∧ (((w.alloc A).alloc B).alloc C).heap[w.heap.size + 1]? = some B := by
  have e1 : (w.alloc A).heap.size = w.heap.size + 1 := by simp
  constructor
  · have h := heap_alloc2_new (w.alloc A) B C
    rwa [e1] at h
  · rw [← e1]; exact heap_alloc2_old (w.alloc A) B C
theorem Al.ex_vL : vL exMs := by
  refine ⟨by decide, ?_, ex_dist⟩
  intro m hm
  obtain ⟨i, hi, rfl⟩ := List.mem_map.1 hm
  rw [List.mem_range] at hi
  rcases (by omega : i = 0 ∨ i = 1 ∨ i = 2 ∨ i = 3) with rfl | rfl | rfl | rfl <;> kernel_rfl
theorem Al.ex_ok : ∀ m ∈ exMs, m.Ok := by
  intro m hm
  obtain ⟨i, hi, rfl⟩ := List.mem_map.1 hm
  rw [List.mem_range] at hi
  refine ⟨by show (1 : Nat) ≤ _; decide, ?_, ?_, ?_, ?_⟩
  · show Ba.i64 ((i : Int) + 1); unfold Ba.i64; omega
  · show Ba.i64 (10 * ((i : Int) + 1)); unfold Ba.i64; omega
  · show Ba.i64 (10 * ((i : Int) + 1)); unfold Ba.i64; omega
  · show Ba.i64 (if i = 3 then 1200 else 500); unfold Ba.i64; split <;> omega
theorem Al.ex_i64 {x : Int} (h : x = 0 ∨ x = 1 ∨ x = 1000) : Ba.i64 x := by
  unfold Ba.i64; omega
theorem Al.exT_at {w : World} {b : Nat} {U : TypeId} (h2 : w.heap[b]? = some (.cells #[.int .i64 0, .int .i64 0, .int .i64 1000, .int .i64 1000] U (0, 0))) : (Al.exT b).At w := by
  refine ⟨fun _ => rfl, Nat.le_refl _, by show (2 : Nat) ≤ _; decide, fun j hj => ?_⟩
  have hj' : j < 2 := hj
  rcases (by omega : j = 0 ∨ j = 1) with rfl | rfl
  · exact ⟨⟨by simp [Al.exT, World.cell?, h2], by simp [Al.exT, World.cell?, h2]⟩, Al.ex_i64 (.inl rfl), Al.ex_i64 (.inl rfl)⟩
  · exact ⟨⟨by simp [Al.exT, World.cell?, h2], by simp [Al.exT, World.cell?, h2]⟩, Al.ex_i64 (.inr (.inr rfl)), Al.ex_i64 (.inr (.inr rfl))⟩
theorem Al.exN_at {w : World} {a b : Nat} {T U : TypeId} (h1 : w.heap[a]? = some (.cells #[.string Al.mN, .int .i64 1, .int .i64 0, .int .i64 0, .int .i64 0, .int .i64 1000, .slice (some ⟨b, 0, none⟩) 2 2, .bool false, .int .i64 0] T (0, 0))) (h2 : w.heap[b]? = some (.cells #[.int .i64 0, .int .i64 0, .int .i64 1000, .int .i64 1000] U (0, 0))) : (Al.exN a b).At w := by
  refine ⟨fun _ => rfl, Nat.le_refl _, by show (1 : Nat) ≤ _; decide, fun i hi => ?_⟩
  obtain rfl : i = 0 := by simp [Al.exN] at hi; exact hi
  refine ⟨⟨?_, ?_, ?_, ?_, ?_, ?_, ?_, ?_, ?_⟩, Al.ex_i64 (.inr (.inl rfl)), Al.ex_i64 (.inl rfl), Al.ex_i64 (.inl rfl), Al.ex_i64 (.inl rfl), Al.ex_i64 (.inr (.inr rfl)), Al.ex_i64 (.inl rfl), by show (1 : Nat) ≤ _; decide, Al.exT_at h2⟩
  all_goals (simp [Al.exN, Al.exD, Al.exT, World.cell?, h1])
/-- The alarms of the example as they are written down. -/
def Al.exS (B : Nat) : SlA := ⟨some ⟨B + 1 + 1 + 1, 0, none⟩, 3, 3, B + 1 + 1 + 1, 0, fun i => if i = 0 then ⟨4, mN, 30, some ⟨B, 0, none⟩, B, 0, 3, 3, fun q => q + 1⟩ else if i = 1 then ⟨2, mN, 40, some ⟨B + 1, 0, none⟩, B + 1, 0, 1, 1, fun _ => 4⟩ else ⟨3, mN, 40, some ⟨B + 1 + 1, 0, none⟩, B + 1 + 1, 0, 2, 2, fun q => q + 3⟩⟩
theorem Al.exS_con (B : Nat) : (exS B).con = exA := by kernel_rfl
def Al.exW (w : World) : World := ((((w.alloc (Obj.cells #[Value.int IntKind.i64 1, Value.int IntKind.i64 2, Value.int IntKind.i64 3] 3)).alloc (Obj.cells #[Value.int IntKind.i64 4] 3)).alloc (Obj.cells #[Value.int IntKind.i64 3, Value.int IntKind.i64 4] 3)).alloc (Obj.cells #[Value.int IntKind.i64 4, Value.string { data := #[109] }, Value.int IntKind.i64 30, Value.slice (some { block := w.heap.size, off := 0 }) 3 3, Value.int IntKind.i64 2, Value.string { data := #[109] }, Value.int IntKind.i64 40, Value.slice (some { block := w.heap.size + 1, off := 0 }) 1 1, Value.int IntKind.i64 3, Value.string { data := #[109] }, Value.int IntKind.i64 40, Value.slice (some { block := w.heap.size + 1 + 1, off := 0 }) 2 2] 31))
theorem Al.exS_rd (w : World) : (exS w.heap.size).Rd (exW w) := by
  refine ⟨fun _ => rfl, Nat.le_refl _, by show (3 : Nat) ≤ _; decide, fun i hi => ?_⟩
  have hi' : i < 3 := hi
  unfold exW
  rcases (by omega : i = 0 ∨ i = 1 ∨ i = 2) with rfl | rfl | rfl
  · refine ⟨⟨?_, ?_, ?_, ?_⟩, ⟨by show (3 : Nat) ≤ _; decide, fun _ => rfl, fun j hj => ?_⟩⟩
    any_goals (simp [Al.exS, Al.mN, go_sem]; done)
    have hj' : j < 3 := hj
    rcases (by omega : j = 0 ∨ j = 1 ∨ j = 2) with rfl | rfl | rfl <;> simp [Al.exS, go_sem]
  · refine ⟨⟨?_, ?_, ?_, ?_⟩, ⟨by show (1 : Nat) ≤ _; decide, fun _ => rfl, fun j hj => ?_⟩⟩
    any_goals (simp [Al.exS, Al.mN, go_sem]; done)
    have hj' : j < 1 := hj
    obtain rfl : j = 0 := by omega
    simp [Al.exS, go_sem]
  · refine ⟨⟨?_, ?_, ?_, ?_⟩, ⟨by show (2 : Nat) ≤ _; decide, fun _ => rfl, fun j hj => ?_⟩⟩
    any_goals (simp [Al.exS, Al.mN, go_sem]; done)
    have hj' : j < 2 := hj
    rcases (by omega : j = 0 ∨ j = 1) with rfl | rfl <;> simp [Al.exS, go_sem]
set_option maxRecDepth 100000 in
set_option maxHeartbeats 4000000 in
theorem net_any (w : World) : Calls Tryz.prog 22 #[] w fun e w' => ∃ a b, e = .returned (Ba.netVal (Al.exN a b) Al.exL) ∧ (Al.exN a b).At w' ∧ Gr w w' := by
  go_enter Tryz.func22, Tryz.ntmps22
  go_wp2_with fail
  refine bodyPost_ret (v := Ba.netVal (Al.exN (w.heap.size + 2) (w.heap.size + 1)) Al.exL) ?_ rfl ?_
  · simp [results, Tryz.results22, go_sem]
    rfl
  · refine ⟨_, _, rfl, Al.exN_at (T := 82) (U := 93) ?_ ?_, gr_auto⟩
    · exact (Al.heap3 w _ _ _).1
    · exact (Al.heap3 w _ _ _).2
set_option maxRecDepth 100000 in
set_option maxHeartbeats 4000000 in
theorem awake_any (w : World) : Calls Tryz.prog 5 #[] w fun e w' => e = .returned (.bool true) ∧ Gr w w' := by
  obtain ⟨i1, k0, k1, k2, k3⟩ := info_parts infoM
  have KI := Lib.hid k0; have KZ0 := Lib.hid k1; have KZ1 := Lib.hid k2; have KZ2 := Lib.hid k3
  clear k0 k1 k2 k3
  have HN := Lib.hid (fun W => net_any W)
  have HA := Lib.hid (fun a b (s : Al.SlM) W (hN : (Al.exN a b).At W) (hs : s.At W) (hl : s.lst = Al.exMs) => show Calls Tryz.prog 15 #[Ba.netVal (Al.exN a b) Al.exL, .slice s.A s.n s.c, .agg #[.int .i64 300, .int .i64 3, .int .i64 0]] W (Al.RetAe Al.exA 0 W) from by
    have h := All_ok (Al.exN a b) Al.exL s 300 3 0 W hN (Al.exL_at W) hs (by
      rw [Al.ex_netB, show s.vB = true from (Al.vB_iff s).2 (by rw [hl]; exact Al.ex_vL)]; rfl)
    rw [hl, Al.ex_all] at h
    exact h)
  go_enter Tryz.func5, Tryz.ntmps5
  go_wp2_with fail
  refine name_world ?_
  intro W0 hW0
  have g0 : Gr w W0 := by rw [hW0]; exact gr_auto
  have HC := Lib.hid (fun i (hi : i < 4) => show W0.cell? ⟨w.heap.size, i, none⟩ = some (.int .i64 (Al.exM i).lv) from by
    rw [hW0]
    rcases (by omega : i = 0 ∨ i = 1 ∨ i = 2 ∨ i = 3) with rfl | rfl | rfl | rfl <;> simp [go_sem, Al.exM])
  clear hW0
  go_loopw [1, 8] (fun v x wr => ∃ i : Nat, i ≤ 4 ∧ x = .int .i64 (i : Int) ∧ Hid (wr.ownsRow W0.heap.size 53 5 v i (Al.flat ((List.range i).map Al.exM))) ∧ Gr W0 wr) (fun _ x _ => 4 - (intOf x).toNat)
  case atStart => exact ⟨0, Nat.zero_le _, rfl, Lib.hid (World.ownsRow_nil _ _ _ _), Gr.refl _⟩
  case round =>
    obtain ⟨i, hi, rfl, HO, hg⟩ := hrel
    by_cases hlt : i < 4
    · have a0 := Gr.at hg (HC.out i hlt)
      have ib0 : (0 : Int) ≤ (i : Int) := by omega
      have ib1 : (i : Int) < 4 := by omega
      have hz := Gr.size hg
      have HE := Lib.hid (show Al.flat ((List.range (i + 1)).map Al.exM) = Al.flat ((List.range i).map Al.exM) ++ (Al.exM i).enc from by
        rw [List.range_succ, List.map_append, List.map_cons, List.map_nil, Al.flat_snoc])
      have HEe := Lib.hid (show (Al.exM i).enc = [.string ⟨#[109]⟩, .int .i64 ((i : Int) + 1), .int .i64 (10 * ((i : Int) + 1)), .int .i64 (10 * ((i : Int) + 1)), .int .i64 (Al.exM i).lv] from rfl)
      generalize (Al.exM i).lv = lv at *
      clear HC HN HA
      go_wp2_with (at_builtin; refine wpList_append_own _ rfl _ _ 26 rfl W0.heap.size 53 i1 (.agg #[.string ⟨#[]⟩, .int .i64 0, .int .i64 0, .int .i64 0, .int .i64 0]) 5 48 Tryz.underlying26 KI.out KZ0.out KZ1.out KZ2.out rfl (by decide) _ _ _ rfl (ownsRow_gr HO.out (by exact gr_auto)) ⟨wr.heap.size, 0, none⟩ 1 1 [.string ⟨#[109]⟩, .int .i64 ((i : Int) + 1), .int .i64 (10 * ((i : Int) + 1)), .int .i64 (10 * ((i : Int) + 1)), .int .i64 lv] rfl rfl (by intro p u hp; rcases p with _ | _ | _ | _ | _ | p <;> simp at hp <;> (try subst hp) <;> first | (simp [Addr.add, go_sem]; done) | (simp [Addr.add]; done)) (by intro u hu; simp at hu; rcases hu with rfl | rfl | rfl | rfl | rfl <;> rfl) (by unfold maxLen; omega) (by omega) (by simp; omega) ?_)
      intro v' w9 hown' hgrow hnil
      have HP := Lib.hid (show w9.ownsRow W0.heap.size 53 5 v' (i + 1) (Al.flat ((List.range (i + 1)).map Al.exM)) from by rw [HE.out, HEe.out]; exact hown')
      have g9 : Gr W0 w9 := Gr.own (hg.alloc (Obj.cells #[.string ⟨#[109]⟩, .int .i64 ((i : Int) + 1), .int .i64 (10 * ((i : Int) + 1)), .int .i64 (10 * ((i : Int) + 1)), .int .i64 lv] 53)) (Nat.le_refl _) (ownsRow_gr HO.out (Gr.alloc (Gr.refl wr) _)) hgrow
      clear HO hown' hgrow hnil HE HEe
      go_wp2_with fail
      go_roundw
      case rel => exact ⟨i + 1, by omega, by go_num, HP, g9⟩
      case measure => simp [intOf]; omega
    · obtain rfl : i = 4 := by omega
      obtain ⟨s, rfl, hs1, hs2, -, -⟩ := Al.ownM_sl (l := Al.exMs) HO.out Al.ex_ok
      go_wp2_with fail
      refine (HN.out _).mono ?_
      rintro e w5 ⟨a, b, rfl, hN5, hb5⟩
      have HA5 := Lib.hid (HA.out a b s w5 hN5 (hs1.gr hb5) hs2)
      have g5 := g0.trans (hg.trans hb5)
      clear HA HN HO hN5 hb5 hs1 hs2 HC
      unfold Ba.netVal at *
      go_wp2_with fail
      refine HA5.out.mono ?_
      rintro e w6 ⟨r, rfl, hr1, hr2, hr3⟩
      have g6 := g5.trans hr3
      have HS6 := Lib.hid (show Calls Tryz.prog 18 #[.slice r.A r.n r.c, .slice (some ⟨w6.heap.size + 1 + 1 + 1, 0, none⟩) 3 3] (Al.exW w6) fun e w' => e = .returned (.bool true) ∧ Gr (Al.exW w6) w' from by
        have h := rsameA_any r (Al.exS w6.heap.size) (Al.exW w6) ((hr1.gr (show Gr w6 (Al.exW w6) from by unfold Al.exW; exact gr_auto)).rd) (Al.exS_rd w6)
        rw [hr2, Al.exS_con, Al.samB_iff.2 rfl] at h
        exact h)
      have g7 : Gr w (Al.exW w6) := g6.trans (show Gr w6 (Al.exW w6) from by unfold Al.exW; exact gr_auto)
      clear HA5 hr3 hr1 hr2
      unfold Al.SlA.val
      go_wp2_with fail
      refine HS6.out.mono ?_
      rintro e w8 ⟨rfl, hb8⟩
      have g8 := g7.trans hb8
      clear HS6 hb8 g7
      go_wp2_with fail
      go_ret
      exact ⟨rfl, g8⟩
end Go.Proofs.YtllkiadedaghoaaGreatDoor
