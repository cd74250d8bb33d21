/-
  Alarms: the example's network and what it answers. Typed.
  Alarms: the law AlarmsKinds. (Printed by mkams.py.)
  Alarms: closures that ask for an alarm. (Printed by mkamu.py.)
  Alarms: slices.Clone at alarms. Typed.
  Alarms, plain: the alarms of the messages of other nodes. Typed.
  Alarms, plain: the messages of the core alone have the alarm. Typed.
-/
import Derived.Test.YtllkiadedaghoaaGreatDoorOr43
import Derived.Test.YtllkiadedaghoaaGreatDoorOr44
import Derived.Test.YtllkiadedaghoaaGreatDoorOr30
import Derived.Test.YtllkiadedaghoaaGreatDoorOr36
import Derived.Test.YtllkiadedaghoaaGreatDoorOr10
import Derived.Test.YtllkiadedaghoaaGreatDoorOr26
import Derived.Test.YtllkiadedaghoaaGreatDoorOr42
import Derived.Test.YtllkiadedaghoaaGreatDoorOr25
import Derived.Test.YtllkiadedaghoaaGreatDoorOr39
import Derived.Test.YtllkiadedaghoaaGreatDoorOr14
import Derived.Test.YtllkiadedaghoaaGreatDoorOr41
import Derived.Test.YtllkiadedaghoaaGreatDoorOr23
import Derived.Deep.CutBlock
import Derived.Shelf.SlicesE.Clone
import Derived.Lib.SliceRun
set_option linter.unusedVariables false
set_option linter.unusedSimpArgs false
namespace Go.Proofs.YtllkiadedaghoaaGreatDoor
open Go.RowKit Go.Shelf Go.Sort
attribute [local go_sem ↓] Go.wp_at_zero Go.wp_at_succ
theorem Al.heap3 (w : World) (A B C : Obj) : (((w.alloc A).alloc B).alloc C).heap[w.heap.size + 2]? = some C ∧ (((w.alloc A).alloc B).alloc C).heap[w.heap.size + 1]? = some B := by
  have e1 : (w.alloc A).heap.size = w.heap.size + 1 := by simp
  constructor
  · have h := heap_alloc2_new (w.alloc A) B C
    rwa [e1] at h
  · rw [← e1]; exact heap_alloc2_old (w.alloc A) B C
theorem Al.ex_vL : vL exMs := by
  refine ⟨by decide, ?_, ex_dist⟩
  intro m hm
  obtain ⟨i, hi, rfl⟩ := List.mem_map.1 hm
  rw [List.mem_range] at hi
  rcases (by omega : i = 0 ∨ i = 1 ∨ i = 2 ∨ i = 3) with rfl | rfl | rfl | rfl <;> kernel_rfl
theorem Al.ex_ok : ∀ m ∈ exMs, m.Ok := by
  intro m hm
  obtain ⟨i, hi, rfl⟩ := List.mem_map.1 hm
  rw [List.mem_range] at hi
  refine ⟨by show (1 : Nat) ≤ _; decide, ?_, ?_, ?_, ?_⟩
  · show Ba.i64 ((i : Int) + 1); unfold Ba.i64; omega
  · show Ba.i64 (10 * ((i : Int) + 1)); unfold Ba.i64; omega
  · show Ba.i64 (10 * ((i : Int) + 1)); unfold Ba.i64; omega
  · show Ba.i64 (if i = 3 then 1200 else 500); unfold Ba.i64; split <;> omega
theorem Al.ex_i64 {x : Int} (h : x = 0 ∨ x = 1 ∨ x = 1000) : Ba.i64 x := by
  unfold Ba.i64; omega
theorem Al.exT_at {w : World} {b : Nat} {U : TypeId} (h2 : w.heap[b]? = some (.cells #[.int .i64 0, .int .i64 0, .int .i64 1000, .int .i64 1000] U (0, 0))) : (Al.exT b).At w := by
  refine ⟨fun _ => rfl, Nat.le_refl _, by show (2 : Nat) ≤ _; decide, fun j hj => ?_⟩
  have hj' : j < 2 := hj
  rcases (by omega : j = 0 ∨ j = 1) with rfl | rfl
  · exact ⟨⟨by simp [Al.exT, World.cell?, h2], by simp [Al.exT, World.cell?, h2]⟩, Al.ex_i64 (.inl rfl), Al.ex_i64 (.inl rfl)⟩
  · exact ⟨⟨by simp [Al.exT, World.cell?, h2], by simp [Al.exT, World.cell?, h2]⟩, Al.ex_i64 (.inr (.inr rfl)), Al.ex_i64 (.inr (.inr rfl))⟩
theorem Al.exN_at {w : World} {a b : Nat} {T U : TypeId} (h1 : w.heap[a]? = some (.cells #[.string Al.mN, .int .i64 1, .int .i64 0, .int .i64 0, .int .i64 0, .int .i64 1000, .slice (some ⟨b, 0, none⟩) 2 2, .bool false, .int .i64 0] T (0, 0))) (h2 : w.heap[b]? = some (.cells #[.int .i64 0, .int .i64 0, .int .i64 1000, .int .i64 1000] U (0, 0))) : (Al.exN a b).At w := by
  refine ⟨fun _ => rfl, Nat.le_refl _, by show (1 : Nat) ≤ _; decide, fun i hi => ?_⟩
  obtain rfl : i = 0 := by simp [Al.exN] at hi; exact hi
  refine ⟨⟨?_, ?_, ?_, ?_, ?_, ?_, ?_, ?_, ?_⟩, Al.ex_i64 (.inr (.inl rfl)), Al.ex_i64 (.inl rfl), Al.ex_i64 (.inl rfl), Al.ex_i64 (.inl rfl), Al.ex_i64 (.inr (.inr rfl)), Al.ex_i64 (.inl rfl), by show (1 : Nat) ≤ _; decide, Al.exT_at h2⟩
  all_goals (simp [Al.exN, Al.exD, Al.exT, World.cell?, h1])
/-- The alarms of the example as they are written down. -/
def Al.exS (B : Nat) : SlA := ⟨some ⟨B + 1 + 1 + 1, 0, none⟩, 3, 3, B + 1 + 1 + 1, 0, fun i => if i = 0 then ⟨4, mN, 30, some ⟨B, 0, none⟩, B, 0, 3, 3, fun q => q + 1⟩ else if i = 1 then ⟨2, mN, 40, some ⟨B + 1, 0, none⟩, B + 1, 0, 1, 1, fun _ => 4⟩ else ⟨3, mN, 40, some ⟨B + 1 + 1, 0, none⟩, B + 1 + 1, 0, 2, 2, fun q => q + 3⟩⟩
theorem Al.exS_con (B : Nat) : (exS B).con = exA := by kernel_rfl
def Al.exW (w : World) : World := ((((w.alloc (Obj.cells #[Value.int IntKind.i64 1, Value.int IntKind.i64 2, Value.int IntKind.i64 3] 3)).alloc (Obj.cells #[Value.int IntKind.i64 4] 3)).alloc (Obj.cells #[Value.int IntKind.i64 3, Value.int IntKind.i64 4] 3)).alloc (Obj.cells #[Value.int IntKind.i64 4, Value.string { data := #[109] }, Value.int IntKind.i64 30, Value.slice (some { block := w.heap.size, off := 0 }) 3 3, Value.int IntKind.i64 2, Value.string { data := #[109] }, Value.int IntKind.i64 40, Value.slice (some { block := w.heap.size + 1, off := 0 }) 1 1, Value.int IntKind.i64 3, Value.string { data := #[109] }, Value.int IntKind.i64 40, Value.slice (some { block := w.heap.size + 1 + 1, off := 0 }) 2 2] 31))
theorem Al.exS_rd (w : World) : (exS w.heap.size).Rd (exW w) := by
  refine ⟨fun _ => rfl, Nat.le_refl _, by show (3 : Nat) ≤ _; decide, fun i hi => ?_⟩
  have hi' : i < 3 := hi
  unfold exW
  rcases (by omega : i = 0 ∨ i = 1 ∨ i = 2) with rfl | rfl | rfl
  · refine ⟨⟨?_, ?_, ?_, ?_⟩, ⟨by show (3 : Nat) ≤ _; decide, fun _ => rfl, fun j hj => ?_⟩⟩
    any_goals (simp [Al.exS, Al.mN, go_sem]; done)
    have hj' : j < 3 := hj
    rcases (by omega : j = 0 ∨ j = 1 ∨ j = 2) with rfl | rfl | rfl <;> simp [Al.exS, go_sem]
  · refine ⟨⟨?_, ?_, ?_, ?_⟩, ⟨by show (1 : Nat) ≤ _; decide, fun _ => rfl, fun j hj => ?_⟩⟩
    any_goals (simp [Al.exS, Al.mN, go_sem]; done)
    have hj' : j < 1 := hj
    obtain rfl : j = 0 := by omega
    simp [Al.exS, go_sem]
  · refine ⟨⟨?_, ?_, ?_, ?_⟩, ⟨by show (2 : Nat) ≤ _; decide, fun _ => rfl, fun j hj => ?_⟩⟩
    any_goals (simp [Al.exS, Al.mN, go_sem]; done)
    have hj' : j < 2 := hj
    rcases (by omega : j = 0 ∨ j = 1) with rfl | rfl <;> simp [Al.exS, go_sem]
set_option maxRecDepth 100000 in
set_option maxHeartbeats 4000000 in
theorem net_any (w : World) : Calls Tryz.prog 22 #[] w fun e w' => ∃ a b, e = .returned (Ba.netVal (Al.exN a b) Al.exL) ∧ (Al.exN a b).At w' ∧ Gr w w' := by
  go_enter Tryz.func22, Tryz.ntmps22
  go_wp2_with fail
  refine bodyPost_ret (v := Ba.netVal (Al.exN (w.heap.size + 2) (w.heap.size + 1)) Al.exL) ?_ rfl ?_
  · simp [results, Tryz.results22, go_sem]
    rfl
  · refine ⟨_, _, rfl, Al.exN_at (T := 82) (U := 93) ?_ ?_, gr_auto⟩
    · exact (Al.heap3 w _ _ _).1
    · exact (Al.heap3 w _ _ _).2
set_option maxRecDepth 100000 in
set_option maxHeartbeats 4000000 in
theorem awake_any (w : World) : Calls Tryz.prog 5 #[] w fun e w' => e = .returned (.bool true) ∧ Gr w w' := by
  obtain ⟨i1, k0, k1, k2, k3⟩ := info_parts infoM
  have KI := Lib.hid k0; have KZ0 := Lib.hid k1; have KZ1 := Lib.hid k2; have KZ2 := Lib.hid k3
  clear k0 k1 k2 k3
  have HN := Lib.hid (fun W => net_any W)
  have HA := Lib.hid (fun a b (s : Al.SlM) W (hN : (Al.exN a b).At W) (hs : s.At W) (hl : s.lst = Al.exMs) => show Calls Tryz.prog 15 #[Ba.netVal (Al.exN a b) Al.exL, .slice s.A s.n s.c, .agg #[.int .i64 300, .int .i64 3, .int .i64 0]] W (Al.RetAe Al.exA 0 W) from by
    have h := All_ok (Al.exN a b) Al.exL s 300 3 0 W hN (Al.exL_at W) hs (by
      rw [Al.ex_netB, show s.vB = true from (Al.vB_iff s).2 (by rw [hl]; exact Al.ex_vL)]; rfl)
    rw [hl, Al.ex_all] at h
    exact h)
  go_enter Tryz.func5, Tryz.ntmps5
  go_wp2_with fail
  refine name_world ?_
  intro W0 hW0
  have g0 : Gr w W0 := by rw [hW0]; exact gr_auto
  have HC := Lib.hid (fun i (hi : i < 4) => show W0.cell? ⟨w.heap.size, i, none⟩ = some (.int .i64 (Al.exM i).lv) from by
    rw [hW0]
    rcases (by omega : i = 0 ∨ i = 1 ∨ i = 2 ∨ i = 3) with rfl | rfl | rfl | rfl <;> simp [go_sem, Al.exM])
  clear hW0
  go_loopw [1, 8] (fun v x wr => ∃ i : Nat, i ≤ 4 ∧ x = .int .i64 (i : Int) ∧ Hid (wr.ownsRow W0.heap.size 53 5 v i (Al.flat ((List.range i).map Al.exM))) ∧ Gr W0 wr) (fun _ x _ => 4 - (intOf x).toNat)
  case atStart => exact ⟨0, Nat.zero_le _, rfl, Lib.hid (World.ownsRow_nil _ _ _ _), Gr.refl _⟩
  case round =>
    obtain ⟨i, hi, rfl, HO, hg⟩ := hrel
    by_cases hlt : i < 4
    · have a0 := Gr.at hg (HC.out i hlt)
      have ib0 : (0 : Int) ≤ (i : Int) := by omega
      have ib1 : (i : Int) < 4 := by omega
      have hz := Gr.size hg
      have HE := Lib.hid (show Al.flat ((List.range (i + 1)).map Al.exM) = Al.flat ((List.range i).map Al.exM) ++ (Al.exM i).enc from by
        rw [List.range_succ, List.map_append, List.map_cons, List.map_nil, Al.flat_snoc])
      have HEe := Lib.hid (show (Al.exM i).enc = [.string ⟨#[109]⟩, .int .i64 ((i : Int) + 1), .int .i64 (10 * ((i : Int) + 1)), .int .i64 (10 * ((i : Int) + 1)), .int .i64 (Al.exM i).lv] from rfl)
      generalize (Al.exM i).lv = lv at *
      clear HC HN HA
      go_wp2_with (at_builtin; refine wpList_append_own _ rfl _ _ 26 rfl W0.heap.size 53 i1 (.agg #[.string ⟨#[]⟩, .int .i64 0, .int .i64 0, .int .i64 0, .int .i64 0]) 5 48 Tryz.underlying26 KI.out KZ0.out KZ1.out KZ2.out rfl (by decide) _ _ _ rfl (ownsRow_gr HO.out (by exact gr_auto)) ⟨wr.heap.size, 0, none⟩ 1 1 [.string ⟨#[109]⟩, .int .i64 ((i : Int) + 1), .int .i64 (10 * ((i : Int) + 1)), .int .i64 (10 * ((i : Int) + 1)), .int .i64 lv] rfl rfl (by intro p u hp; rcases p with _ | _ | _ | _ | _ | p <;> simp at hp <;> (try subst hp) <;> first | (simp [Addr.add, go_sem]; done) | (simp [Addr.add]; done)) (by intro u hu; simp at hu; rcases hu with rfl | rfl | rfl | rfl | rfl <;> rfl) (by unfold maxLen; omega) (by omega) (by simp; omega) ?_)
      intro v' w9 hown' hgrow hnil
      have HP := Lib.hid (show w9.ownsRow W0.heap.size 53 5 v' (i + 1) (Al.flat ((List.range (i + 1)).map Al.exM)) from by rw [HE.out, HEe.out]; exact hown')
      have g9 : Gr W0 w9 := Gr.own (hg.alloc (Obj.cells #[.string ⟨#[109]⟩, .int .i64 ((i : Int) + 1), .int .i64 (10 * ((i : Int) + 1)), .int .i64 (10 * ((i : Int) + 1)), .int .i64 lv] 53)) (Nat.le_refl _) (ownsRow_gr HO.out (Gr.alloc (Gr.refl wr) _)) hgrow
      clear HO hown' hgrow hnil HE HEe
      go_wp2_with fail
      go_roundw
      case rel => exact ⟨i + 1, by omega, by go_num, HP, g9⟩
      case measure => simp [intOf]; omega
    · obtain rfl : i = 4 := by omega
      obtain ⟨s, rfl, hs1, hs2, -, -⟩ := Al.ownM_sl (l := Al.exMs) HO.out Al.ex_ok
      go_wp2_with fail
      refine (HN.out _).mono ?_
      rintro e w5 ⟨a, b, rfl, hN5, hb5⟩
      have HA5 := Lib.hid (HA.out a b s w5 hN5 (hs1.gr hb5) hs2)
      have g5 := g0.trans (hg.trans hb5)
      clear HA HN HO hN5 hb5 hs1 hs2 HC
      unfold Ba.netVal at *
      go_wp2_with fail
      refine HA5.out.mono ?_
      rintro e w6 ⟨r, rfl, hr1, hr2, hr3⟩
      have g6 := g5.trans hr3
      have HS6 := Lib.hid (show Calls Tryz.prog 18 #[.slice r.A r.n r.c, .slice (some ⟨w6.heap.size + 1 + 1 + 1, 0, none⟩) 3 3] (Al.exW w6) fun e w' => e = .returned (.bool true) ∧ Gr (Al.exW w6) w' from by
        have h := rsameA_any r (Al.exS w6.heap.size) (Al.exW w6) ((hr1.gr (show Gr w6 (Al.exW w6) from by unfold Al.exW; exact gr_auto)).rd) (Al.exS_rd w6)
        rw [hr2, Al.exS_con, Al.samB_iff.2 rfl] at h
        exact h)
      have g7 : Gr w (Al.exW w6) := g6.trans (show Gr w6 (Al.exW w6) from by unfold Al.exW; exact gr_auto)
      clear HA5 hr3 hr1 hr2
      unfold Al.SlA.val
      go_wp2_with fail
      refine HS6.out.mono ?_
      rintro e w8 ⟨rfl, hb8⟩
      have g8 := g7.trans hb8
      clear HS6 hb8 g7
      go_wp2_with fail
      go_ret
      exact ⟨rfl, g8⟩
end Go.Proofs.YtllkiadedaghoaaGreatDoor
set_option linter.unusedVariables false
set_option linter.unusedSimpArgs false
namespace Go.Proofs.YtllkiadedaghoaaGreatDoor
open Go.RowKit Go.Shelf Go.Sort
attribute [local go_sem ↓] Go.wp_at_zero Go.wp_at_succ
namespace Al
theorem RetAe.nil {k : Int} {w w' : World} {e : Ending} (h : RetAe [] k w e w') : ∃ A c, e = .returned (.tuple #[.slice A 0 c, .int .i64 k]) ∧ Gr w w' := by
  obtain ⟨r, rfl, -, hc, hg⟩ := h
  have : r.n = 0 := by rw [← r.con_len, hc]; rfl
  exact ⟨r.A, r.c, by unfold SlA.val; rw [this], hg⟩
theorem RetAe.at {X : List C} {k : Int} {w w' : World} {e : Ending} (h : RetAe X k w e w') : ∃ r : SlA, e = .returned (.tuple #[.slice r.A r.n r.c, .int .i64 k]) ∧ r.At w' ∧ r.con = X ∧ Gr w w' := h
theorem RetAl.at {X : List C} {w w' : World} {e : Ending} (h : RetAl X w e w') : ∃ r : SlA, e = .returned (.slice r.A r.n r.c) ∧ r.At w' ∧ r.con = X ∧ Gr w w' := h
theorem RetAl.own {X : List C} {w w' : World} {b : Nat} {e : Ending} (h : ∃ v d, e = .returned v ∧ OwnA w' b v d ∧ d.map A.con = X ∧ Gr w w') : RetAl X w e w' := by
  obtain ⟨v, d, rfl, ho, hc, hg⟩ := h
  obtain ⟨r, hr, hr1, hr2⟩ := ho.sl
  exact ⟨r, by rw [hr]; try rfl, hr1, hr2.trans hc, hg⟩
end Al
theorem same_yes (r t : Al.SlA) (w : World) (hr : r.At w) (ht : t.At w) (h : r.con = t.con) : Calls Tryz.prog 18 #[.slice r.A r.n r.c, .slice t.A t.n t.c] w fun e w' => e = .returned (.bool true) ∧ Gr w w' := by
  have := rsameA_any r t w hr.rd ht.rd
  rw [Al.samB_iff.2 h] at this
  exact this
end Go.Proofs.YtllkiadedaghoaaGreatDoor
set_option linter.unusedVariables false
set_option linter.unusedSimpArgs false
namespace Go.Proofs.YtllkiadedaghoaaGreatDoor
open Go.RowKit Go.Shelf Go.Sort
attribute [local go_sem ↓] Go.wp_at_zero Go.wp_at_succ
namespace Al
/-- One alarm as a slice. -/
def one (B : Nat) (a : A) : SlA := ⟨some ⟨B, 0, none⟩, 1, 1, B, 0, fun _ => a⟩
end Al
end Go.Proofs.YtllkiadedaghoaaGreatDoor
set_option linter.unusedVariables false
set_option linter.unusedSimpArgs false
namespace Go.Proofs.YtllkiadedaghoaaGreatDoor
open Go.RowKit Go.Shelf Go.Sort
attribute [local go_sem ↓] Go.wp_at_zero Go.wp_at_succ
def Al.SlA.lst (s : SlA) : List Al.A := (List.range s.n).map s.D
theorem Al.SlA.lst_len (s : SlA) : s.lst.length = s.n := by simp [SlA.lst]
end Go.Proofs.YtllkiadedaghoaaGreatDoor
set_option linter.unusedVariables false
set_option linter.unusedSimpArgs false
namespace Go.Proofs.YtllkiadedaghoaaGreatDoor
namespace Al
theorem alm_nd {kd : Int} {ms : List M} {s : ByteArray} (hne : ms ≠ []) (h : ∀ m ∈ ms, m.nd = s) : (alm kd ms).nd = s := by
  unfold alm
  simp only []
  rw [List.getLast?_eq_some_getLast hne]
  exact h _ (List.getLast_mem hne)
theorem jmp_nd {most : Int} {s : ByteArray} : ∀ l : List M, (∀ m ∈ l, m.nd = s) → ∀ c ∈ jmp most l, c.nd = s
  | [], _, c, hc => by simp [jmp] at hc
  | [x], _, c, hc => by simp [jmp] at hc
  | x :: y :: r, h, c, hc => by
    rw [jmp, List.mem_append] at hc
    rcases hc with hc | hc
    · split at hc
      · rw [List.mem_singleton] at hc
        subst hc
        exact alm_nd (by simp) fun m hm => h m (by simp only [List.mem_cons, List.not_mem_nil, or_false] at hm; rcases hm with rfl | rfl <;> simp)
      · cases hc
    · exact jmp_nd (y :: r) (fun m hm => h m (List.mem_cons_of_mem _ hm)) c hc
theorem run_nd {k : Int} {s : ByteArray} : ∀ (n : Nat) (l : List M), l.length ≤ n → (∀ m ∈ l, m.nd = s) → ∀ c ∈ run k l, c.nd = s
  | _, [], _, _, c, hc => by simp [run] at hc
  | 0, x :: r, hl, _, c, hc => by simp at hl
  | n + 1, x :: r, hl, h, c, hc => by
    rw [run, List.mem_append] at hc
    rcases hc with hc | hc
    · split at hc
      · rw [List.mem_singleton] at hc
        subst hc
        refine alm_nd (by simp) fun m hm => ?_
        rcases List.mem_cons.1 hm with rfl | hm
        · exact h _ (by simp)
        · exact h m (List.mem_cons_of_mem _ ((List.takeWhile_sublist _).subset hm))
      · cases hc
    · have hle := (List.dropWhile_sublist (fun m : M => m.lv == x.lv) (l := r)).length_le
      exact run_nd n _ (by rw [List.length_cons] at hl; omega) (fun m hm => h m (List.mem_cons_of_mem _ ((List.dropWhile_sublist _).subset hm))) c hc
theorem ofN_all {l : List M} {s : ByteArray} : ∀ m ∈ ofN l s, m.nd = s := fun m hm => (eqS_iff' _ _).1 (List.mem_filter.1 hm).2
theorem limI_nd {N : Ba.SlNode} {m : M} : ∀ c ∈ limI N m, c.nd = m.nd := by
  intro c hc
  have key : ∀ k, c ∈ [alm k [m]] → c.nd = m.nd := fun k h => by rw [List.mem_singleton] at h; subst h; rfl
  unfold limI at hc
  split at hc
  · exact key _ hc
  · split at hc
    · exact key _ hc
    · split at hc
      · exact key _ hc
      · cases hc
end Al
end Go.Proofs.YtllkiadedaghoaaGreatDoor
set_option linter.unusedVariables false
set_option linter.unusedSimpArgs false
namespace Go.Proofs.YtllkiadedaghoaaGreatDoor
namespace Al
/-- The messages that explain an alarm. -/
def inC (a : C) (m : M) : Bool := Ba.eqS m.nd a.nd && a.bc.contains m.nu
def aloC (a : C) (l : List M) : List M := l.filter (inC a)
theorem jmp_core {most : Int} : ∀ l : List M, ∀ c ∈ jmp most l, ∃ x y, [x, y].Sublist l ∧ c = alm 3 [x, y] ∧ c ∈ jmp most [x, y]
  | [], c, hc => by simp [jmp] at hc
  | [x], c, hc => by simp [jmp] at hc
  | x :: y :: r, c, hc => by
    rw [jmp, List.mem_append] at hc
    rcases hc with hc | hc
    · refine ⟨x, y, ((List.nil_sublist r).cons_cons y).cons_cons x, ?_, ?_⟩
      · split at hc
        · exact List.mem_singleton.1 hc
        · cases hc
      · rw [jmp, List.mem_append]; exact .inl hc
    · obtain ⟨u, v, h1, h2, h3⟩ := jmp_core (y :: r) c hc
      exact ⟨u, v, h1.cons x, h2, h3⟩
theorem tw_self {α : Type} (p : α → Bool) : ∀ r : List α, (r.takeWhile p).takeWhile p = r.takeWhile p
  | [] => rfl
  | a :: r => by
    rw [List.takeWhile_cons]
    split
    · rw [List.takeWhile_cons, if_pos (by assumption), tw_self p r]
    · rfl
theorem run_core {k : Int} : ∀ (n : Nat) (l : List M), l.length ≤ n → ∀ c ∈ run k l, ∃ ms, ms ≠ [] ∧ ms.Sublist l ∧ c = alm 4 ms ∧ c ∈ run k ms
  | _, [], _, c, hc => by simp [run] at hc
  | 0, x :: r, hl, c, hc => by simp at hl
  | n + 1, x :: r, hl, c, hc => by
    rw [run, List.mem_append] at hc
    rcases hc with hc | hc
    · refine ⟨x :: r.takeWhile fun m => m.lv == x.lv, by simp, (List.takeWhile_sublist _).cons_cons x, ?_, ?_⟩
      · split at hc
        · exact List.mem_singleton.1 hc
        · cases hc
      · rw [run, List.mem_append, tw_self]; exact .inl hc
    · have hle := (List.dropWhile_sublist (fun m : M => m.lv == x.lv) (l := r)).length_le
      obtain ⟨ms, h1, h2, h3, h4⟩ := run_core n _ (by rw [List.length_cons] at hl; omega) c hc
      exact ⟨ms, h1, (h2.trans (List.dropWhile_sublist _)).cons x, h3, h4⟩
theorem limI_bc {N : Ba.SlNode} {m : M} : ∀ c ∈ limI N m, c.bc = [m.nu] := by
  intro c hc
  have key : ∀ k, c ∈ [alm k [m]] → c.bc = [m.nu] := fun k h => by rw [List.mem_singleton] at h; subst h; rfl
  unfold limI at hc
  split at hc
  · exact key _ hc
  · split at hc
    · exact key _ hc
    · split at hc
      · exact key _ hc
      · cases hc
theorem alm_bc (k : Int) (ms : List M) : (alm k ms).bc = ms.map M.nu := rfl
/-- The messages of an alarm. -/
theorem allC_core {N : Ba.SlNode} {L : List M} {most k : Int} {a : C} (ha : a ∈ allC N L most k) : ∃ ms, ms ≠ [] ∧ ms.Sublist (ofN L a.nd) ∧ a.bc = ms.map M.nu ∧ ((∃ m, ms = [m] ∧ a ∈ limI N m) ∨ a ∈ jmp most ms ∨ a ∈ run k ms) := by
  unfold allC at ha
  rw [(srt_perm _).mem_iff, List.mem_append, List.mem_append] at ha
  rcases ha with ha | ha | ha
  · unfold limC at ha
    obtain ⟨m, hm, h⟩ := List.mem_flatMap.1 ha
    refine ⟨[m], by simp, ?_, limI_bc a h, .inl ⟨m, rfl, h⟩⟩
    rw [limI_nd a h, List.singleton_sublist]
    exact List.mem_filter.2 ⟨(srtM_perm L).mem_iff.2 hm, (eqS_iff' _ _).2 rfl⟩
  · unfold jmpC at ha
    obtain ⟨s, hs, h⟩ := List.mem_flatMap.1 ha
    obtain ⟨x, y, h1, h2, h3⟩ := jmp_core _ a h
    refine ⟨[x, y], by simp, ?_, by rw [h2, alm_bc], .inr (.inl h3)⟩
    rw [jmp_nd _ ofN_all a h]; exact h1
  · unfold runC at ha
    obtain ⟨s, hs, h⟩ := List.mem_flatMap.1 ha
    obtain ⟨ms, h1, h2, h3, h4⟩ := run_core _ _ (Nat.le_refl _) a h
    refine ⟨ms, h1, ?_, by rw [h3, alm_bc], .inr (.inr h4)⟩
    rw [run_nd _ _ (Nat.le_refl _) ofN_all a h]; exact h2
theorem Dist.nodup {l : List M} (h : Dist l) : l.Nodup := List.Pairwise.imp (fun h e => h (by rw [e])) h
theorem ofN_sub {L : List M} {s : ByteArray} {m : M} (h : m ∈ ofN L s) : m ∈ L := (srtM_perm L).mem_iff.1 (List.mem_filter.1 h).1
theorem Dist.same {l : List M} (h : Dist l) {a b : M} (ha : a ∈ l) (hb : b ∈ l) (hk : kM a.nd a.nu = kM b.nd b.nu) : a = b := by
  obtain ⟨i, hi, rfl⟩ := List.getElem_of_mem ha
  obtain ⟨j, hj, rfl⟩ := List.getElem_of_mem hb
  rcases Nat.lt_trichotomy i j with q | q | q
  · exact absurd hk (List.pairwise_iff_getElem.1 h i j hi hj q)
  · subst q; rfl
  · exact absurd hk.symm (List.pairwise_iff_getElem.1 h j i hj hi q)
theorem core_perm {L : List M} (hd : Dist L) {a : C} {ms : List M} (h1 : ms.Sublist (ofN L a.nd)) (h2 : a.bc = ms.map M.nu) : (aloC a L).Perm ms := by
  have hs : Dist ms := (hd.perm (srtM_perm L).symm).sub (h1.trans List.filter_sublist)
  refine perm_of_mem (hd.sub List.filter_sublist).nodup hs.nodup fun m => ?_
  unfold aloC inC
  rw [List.mem_filter, Bool.and_eq_true, List.contains_iff_mem, h2, eqS_iff']
  constructor
  · rintro ⟨hm, he, hn⟩
    obtain ⟨x, hx, hxn⟩ := List.mem_map.1 hn
    have hx' := h1.subset hx
    have hnd := ofN_all x hx'
    have : x = m := hd.same (ofN_sub hx') hm (by rw [hnd, he, hxn])
    rw [← this]; exact hx
  · intro hm
    have hm' := h1.subset hm
    exact ⟨ofN_sub hm', ofN_all m hm', List.mem_map.2 ⟨m, hm, rfl⟩⟩
theorem core_len {N : Ba.SlNode} {L : List M} {most k : Int} (hd : Dist L) {a : C} (ha : a ∈ allC N L most k) : (aloC a L).length = a.bc.length ∧ a.bc ≠ [] := by
  obtain ⟨ms, h0, h1, h2, -⟩ := allC_core ha
  rw [(core_perm hd h1 h2).length_eq, h2, List.length_map]
  exact ⟨rfl, by simpa using h0⟩
end Al
end Go.Proofs.YtllkiadedaghoaaGreatDoor
