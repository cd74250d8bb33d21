/-
  Runoff: law 25's sum and few; the reference's Right, Find, and Valid of classes; slices.Clone and slices.Equal of ints. (Printed by mkf.py.)
-/
import Derived.Test.YtajhhplgcegodaaGreatDoorInf14
import Derived.Lib.SliceRun
set_option linter.unusedVariables false
set_option linter.unusedSimpArgs false
namespace Go.Proofs.YtajhhplgcegodaaGreatDoor
open Go.RowKit
attribute [local go_sem ↓] Go.wp_at_zero Go.wp_at_succ
set_option maxRecDepth 100000 in
set_option maxHeartbeats 4000000 in
theorem fewf_any (d : Ba.Class) (w : World) (hd : d.Ok w) : Calls Tryz.prog 52 #[d.val] w fun e w' => e = .returned (.bool (decide ((100 : Int) < (d.nm.size : Int)))) ∧ Gr w w' := by
  have hm := hd.2.2.2.2
  clear hd
  unfold Ba.Class.val
  cases t0 : decide ((100 : Int) < (d.nm.size : Int))
  · go_enter Tryz.func52, Tryz.ntmps52
    go_wp2_with fail
    go_ret
    exact ⟨rfl, gr_auto⟩
  · go_enter Tryz.func52, Tryz.ntmps52
    go_wp2_with fail
    go_ret
    exact ⟨rfl, gr_auto⟩
namespace Ba
/-- Are the sizes small? -/
def fewB (C : SlClass) (a : SlI) (s : Ser) : Bool := decide ((C.n : Int) ≤ 20) && (decide ((a.n : Int) ≤ 30) && (decide ((s.ds.n : Int) ≤ 100) && !any (fun i => decide ((100 : Int) < ((C.D i).nm.size : Int))) C.n))
end Ba
set_option maxRecDepth 100000 in
set_option maxHeartbeats 4000000 in
theorem few_any (C : Ba.SlClass) (a : Ba.SlI) (s : Ba.Ser) (w : World) (hC : C.At w) (ha : a.At w) (hs : s.Ok w) : Calls Tryz.prog 18 #[.slice C.A C.n C.c, .slice a.A a.n a.c, s.val] w fun e w' => e = .returned (.bool (Ba.fewB C a s)) ∧ Gr w w' := by
  have HC := Lib.hid (fun W (hh : Gr w W) => has_class 52 #[] C (fun i => decide ((100 : Int) < ((C.D i).nm.size : Int))) W (hC.gr hh) (enter_of Tryz.func52 (by kernel_rfl) (by kernel_rfl)) fun i hi W' hW => fewf_any (C.D i) W' (((hC.gr hh).hD i hi).2.gr hW))
  have m1 := Nat.le_trans hC.hc hC.hb; have m2 := Nat.le_trans ha.hc ha.hb; have m3 := Nat.le_trans hs.2.2.hc hs.2.2.hb
  clear hC ha hs
  unfold Ba.fewB Ba.Ser.val
  generalize Ba.any (fun i => decide ((100 : Int) < ((C.D i).nm.size : Int))) C.n = q at *
  generalize C.A = A at *; generalize C.n = n at *; generalize C.c = c at *
  generalize a.A = A2 at *; generalize a.n = n2 at *; generalize a.c = c2 at *
  obtain ⟨fr, st, ⟨A3, n3, c3, b3, o3, X3⟩⟩ := s
  simp only at *
  cases t0 : decide ((n : Int) ≤ 20)
  · clear HC
    go_enter Tryz.func18, Tryz.ntmps18
    go_wp2_with fail
    go_ret
    exact ⟨rfl, gr_auto⟩
  cases t1 : decide ((n2 : Int) ≤ 30)
  · clear HC
    go_enter Tryz.func18, Tryz.ntmps18
    go_wp2_with fail
    go_ret
    exact ⟨rfl, gr_auto⟩
  cases t2 : decide ((n3 : Int) ≤ 100)
  · clear HC
    go_enter Tryz.func18, Tryz.ntmps18
    go_wp2_with fail
    go_ret
    exact ⟨rfl, gr_auto⟩
  cases q
  · go_enter Tryz.func18, Tryz.ntmps18
    go_wp2_with fail
    refine (HC.out _ gr_auto).mono ?_
    rintro e w1 ⟨rfl, hb1⟩
    go_wp2_with fail
    go_ret
    exact ⟨rfl, gr_auto⟩
  · go_enter Tryz.func18, Tryz.ntmps18
    go_wp2_with fail
    refine (HC.out _ gr_auto).mono ?_
    rintro e w1 ⟨rfl, hb1⟩
    go_wp2_with fail
    go_ret
    exact ⟨rfl, gr_auto⟩
set_option maxRecDepth 100000 in
set_option maxHeartbeats 4000000 in
theorem rright_any (d : Ba.Class) (w : World) (hd : d.Ok w) : Calls Tryz.prog 109 #[d.val] w fun e w' => e = .returned (.bool (Ba.cl1 d)) ∧ Gr w w' := by
  have hm := hd.2.2.2.2
  have HN := Lib.hid (fun W => risname_all d.nm W hm)
  clear hd
  unfold Ba.cl1 Ba.clN Ba.bet Ba.Class.val
  obtain ⟨nm, se, we, ro, dr⟩ := d
  simp only at *
  generalize Dc.isName nm.data.toList = q at *
  cases q
  · go_enter Tryz.func109, Tryz.ntmps109
    go_wp2_with fail
    (first | refine name_world ?_ | refine (show (∀ W, W = _ → Calls _ _ _ W _) → Calls _ _ _ _ _ from fun h => h _ rfl) ?_); intro W1 hW1
    have g1 : Gr w W1 := by rw [hW1]; exact gr_auto
    have k1_0 : W1.cell? ⟨w.heap.size, 1, none⟩ = some (.int .i64 se) := by rw [hW1]; first | (simp [go_sem, *]; done) | (refine Gr.at ?_ (by assumption); exact gr_auto)
    have b1_0 : w.heap.size < W1.heap.size := World.block_lt_of_cell? _ _ k1_0
    have k1_1 : W1.cell? ⟨w.heap.size, 2, none⟩ = some (.int .i64 we) := by rw [hW1]; first | (simp [go_sem, *]; done) | (refine Gr.at ?_ (by assumption); exact gr_auto)
    have k1_2 : W1.cell? ⟨w.heap.size, 3, none⟩ = some (.int .i64 ro) := by rw [hW1]; first | (simp [go_sem, *]; done) | (refine Gr.at ?_ (by assumption); exact gr_auto)
    have k1_3 : W1.cell? ⟨w.heap.size, 4, none⟩ = some (.int .i64 dr) := by rw [hW1]; first | (simp [go_sem, *]; done) | (refine Gr.at ?_ (by assumption); exact gr_auto)
    clear hW1
    refine (HN.out _).mono ?_
    rintro e w2 ⟨rfl, rfl⟩
    go_wp2_with fail
    go_ret
    exact ⟨rfl, gr_auto⟩
  cases t0 : decide (0 ≤ se)
  · go_enter Tryz.func109, Tryz.ntmps109
    go_wp2_with fail
    (first | refine name_world ?_ | refine (show (∀ W, W = _ → Calls _ _ _ W _) → Calls _ _ _ _ _ from fun h => h _ rfl) ?_); intro W1 hW1
    have g1 : Gr w W1 := by rw [hW1]; exact gr_auto
    have k1_0 : W1.cell? ⟨w.heap.size, 1, none⟩ = some (.int .i64 se) := by rw [hW1]; first | (simp [go_sem, *]; done) | (refine Gr.at ?_ (by assumption); exact gr_auto)
    have b1_0 : w.heap.size < W1.heap.size := World.block_lt_of_cell? _ _ k1_0
    have k1_1 : W1.cell? ⟨w.heap.size, 2, none⟩ = some (.int .i64 we) := by rw [hW1]; first | (simp [go_sem, *]; done) | (refine Gr.at ?_ (by assumption); exact gr_auto)
    have k1_2 : W1.cell? ⟨w.heap.size, 3, none⟩ = some (.int .i64 ro) := by rw [hW1]; first | (simp [go_sem, *]; done) | (refine Gr.at ?_ (by assumption); exact gr_auto)
    have k1_3 : W1.cell? ⟨w.heap.size, 4, none⟩ = some (.int .i64 dr) := by rw [hW1]; first | (simp [go_sem, *]; done) | (refine Gr.at ?_ (by assumption); exact gr_auto)
    clear hW1
    refine (HN.out _).mono ?_
    rintro e w2 ⟨rfl, rfl⟩
    go_wp2_with fail
    go_ret
    exact ⟨rfl, gr_auto⟩
  cases t1 : decide (se ≤ 1000)
  · go_enter Tryz.func109, Tryz.ntmps109
    go_wp2_with fail
    (first | refine name_world ?_ | refine (show (∀ W, W = _ → Calls _ _ _ W _) → Calls _ _ _ _ _ from fun h => h _ rfl) ?_); intro W1 hW1
    have g1 : Gr w W1 := by rw [hW1]; exact gr_auto
    have k1_0 : W1.cell? ⟨w.heap.size, 1, none⟩ = some (.int .i64 se) := by rw [hW1]; first | (simp [go_sem, *]; done) | (refine Gr.at ?_ (by assumption); exact gr_auto)
    have b1_0 : w.heap.size < W1.heap.size := World.block_lt_of_cell? _ _ k1_0
    have k1_1 : W1.cell? ⟨w.heap.size, 2, none⟩ = some (.int .i64 we) := by rw [hW1]; first | (simp [go_sem, *]; done) | (refine Gr.at ?_ (by assumption); exact gr_auto)
    have k1_2 : W1.cell? ⟨w.heap.size, 3, none⟩ = some (.int .i64 ro) := by rw [hW1]; first | (simp [go_sem, *]; done) | (refine Gr.at ?_ (by assumption); exact gr_auto)
    have k1_3 : W1.cell? ⟨w.heap.size, 4, none⟩ = some (.int .i64 dr) := by rw [hW1]; first | (simp [go_sem, *]; done) | (refine Gr.at ?_ (by assumption); exact gr_auto)
    clear hW1
    refine (HN.out _).mono ?_
    rintro e w2 ⟨rfl, rfl⟩
    go_wp2_with fail
    go_ret
    exact ⟨rfl, gr_auto⟩
  cases t2 : decide (0 ≤ we)
  · go_enter Tryz.func109, Tryz.ntmps109
    go_wp2_with fail
    (first | refine name_world ?_ | refine (show (∀ W, W = _ → Calls _ _ _ W _) → Calls _ _ _ _ _ from fun h => h _ rfl) ?_); intro W1 hW1
    have g1 : Gr w W1 := by rw [hW1]; exact gr_auto
    have k1_0 : W1.cell? ⟨w.heap.size, 1, none⟩ = some (.int .i64 se) := by rw [hW1]; first | (simp [go_sem, *]; done) | (refine Gr.at ?_ (by assumption); exact gr_auto)
    have b1_0 : w.heap.size < W1.heap.size := World.block_lt_of_cell? _ _ k1_0
    have k1_1 : W1.cell? ⟨w.heap.size, 2, none⟩ = some (.int .i64 we) := by rw [hW1]; first | (simp [go_sem, *]; done) | (refine Gr.at ?_ (by assumption); exact gr_auto)
    have k1_2 : W1.cell? ⟨w.heap.size, 3, none⟩ = some (.int .i64 ro) := by rw [hW1]; first | (simp [go_sem, *]; done) | (refine Gr.at ?_ (by assumption); exact gr_auto)
    have k1_3 : W1.cell? ⟨w.heap.size, 4, none⟩ = some (.int .i64 dr) := by rw [hW1]; first | (simp [go_sem, *]; done) | (refine Gr.at ?_ (by assumption); exact gr_auto)
    clear hW1
    refine (HN.out _).mono ?_
    rintro e w2 ⟨rfl, rfl⟩
    go_wp2_with fail
    go_ret
    exact ⟨rfl, gr_auto⟩
  cases t3 : decide (we ≤ 100000)
  · go_enter Tryz.func109, Tryz.ntmps109
    go_wp2_with fail
    (first | refine name_world ?_ | refine (show (∀ W, W = _ → Calls _ _ _ W _) → Calls _ _ _ _ _ from fun h => h _ rfl) ?_); intro W1 hW1
    have g1 : Gr w W1 := by rw [hW1]; exact gr_auto
    have k1_0 : W1.cell? ⟨w.heap.size, 1, none⟩ = some (.int .i64 se) := by rw [hW1]; first | (simp [go_sem, *]; done) | (refine Gr.at ?_ (by assumption); exact gr_auto)
    have b1_0 : w.heap.size < W1.heap.size := World.block_lt_of_cell? _ _ k1_0
    have k1_1 : W1.cell? ⟨w.heap.size, 2, none⟩ = some (.int .i64 we) := by rw [hW1]; first | (simp [go_sem, *]; done) | (refine Gr.at ?_ (by assumption); exact gr_auto)
    have k1_2 : W1.cell? ⟨w.heap.size, 3, none⟩ = some (.int .i64 ro) := by rw [hW1]; first | (simp [go_sem, *]; done) | (refine Gr.at ?_ (by assumption); exact gr_auto)
    have k1_3 : W1.cell? ⟨w.heap.size, 4, none⟩ = some (.int .i64 dr) := by rw [hW1]; first | (simp [go_sem, *]; done) | (refine Gr.at ?_ (by assumption); exact gr_auto)
    clear hW1
    refine (HN.out _).mono ?_
    rintro e w2 ⟨rfl, rfl⟩
    go_wp2_with fail
    go_ret
    exact ⟨rfl, gr_auto⟩
  cases t4 : decide (0 ≤ ro)
  · go_enter Tryz.func109, Tryz.ntmps109
    go_wp2_with fail
    (first | refine name_world ?_ | refine (show (∀ W, W = _ → Calls _ _ _ W _) → Calls _ _ _ _ _ from fun h => h _ rfl) ?_); intro W1 hW1
    have g1 : Gr w W1 := by rw [hW1]; exact gr_auto
    have k1_0 : W1.cell? ⟨w.heap.size, 1, none⟩ = some (.int .i64 se) := by rw [hW1]; first | (simp [go_sem, *]; done) | (refine Gr.at ?_ (by assumption); exact gr_auto)
    have b1_0 : w.heap.size < W1.heap.size := World.block_lt_of_cell? _ _ k1_0
    have k1_1 : W1.cell? ⟨w.heap.size, 2, none⟩ = some (.int .i64 we) := by rw [hW1]; first | (simp [go_sem, *]; done) | (refine Gr.at ?_ (by assumption); exact gr_auto)
    have k1_2 : W1.cell? ⟨w.heap.size, 3, none⟩ = some (.int .i64 ro) := by rw [hW1]; first | (simp [go_sem, *]; done) | (refine Gr.at ?_ (by assumption); exact gr_auto)
    have k1_3 : W1.cell? ⟨w.heap.size, 4, none⟩ = some (.int .i64 dr) := by rw [hW1]; first | (simp [go_sem, *]; done) | (refine Gr.at ?_ (by assumption); exact gr_auto)
    clear hW1
    refine (HN.out _).mono ?_
    rintro e w2 ⟨rfl, rfl⟩
    go_wp2_with fail
    go_ret
    exact ⟨rfl, gr_auto⟩
  cases t5 : decide (ro ≤ 1000000)
  · go_enter Tryz.func109, Tryz.ntmps109
    go_wp2_with fail
    (first | refine name_world ?_ | refine (show (∀ W, W = _ → Calls _ _ _ W _) → Calls _ _ _ _ _ from fun h => h _ rfl) ?_); intro W1 hW1
    have g1 : Gr w W1 := by rw [hW1]; exact gr_auto
    have k1_0 : W1.cell? ⟨w.heap.size, 1, none⟩ = some (.int .i64 se) := by rw [hW1]; first | (simp [go_sem, *]; done) | (refine Gr.at ?_ (by assumption); exact gr_auto)
    have b1_0 : w.heap.size < W1.heap.size := World.block_lt_of_cell? _ _ k1_0
    have k1_1 : W1.cell? ⟨w.heap.size, 2, none⟩ = some (.int .i64 we) := by rw [hW1]; first | (simp [go_sem, *]; done) | (refine Gr.at ?_ (by assumption); exact gr_auto)
    have k1_2 : W1.cell? ⟨w.heap.size, 3, none⟩ = some (.int .i64 ro) := by rw [hW1]; first | (simp [go_sem, *]; done) | (refine Gr.at ?_ (by assumption); exact gr_auto)
    have k1_3 : W1.cell? ⟨w.heap.size, 4, none⟩ = some (.int .i64 dr) := by rw [hW1]; first | (simp [go_sem, *]; done) | (refine Gr.at ?_ (by assumption); exact gr_auto)
    clear hW1
    refine (HN.out _).mono ?_
    rintro e w2 ⟨rfl, rfl⟩
    go_wp2_with fail
    go_ret
    exact ⟨rfl, gr_auto⟩
  cases t6 : decide (0 ≤ dr)
  · go_enter Tryz.func109, Tryz.ntmps109
    go_wp2_with fail
    (first | refine name_world ?_ | refine (show (∀ W, W = _ → Calls _ _ _ W _) → Calls _ _ _ _ _ from fun h => h _ rfl) ?_); intro W1 hW1
    have g1 : Gr w W1 := by rw [hW1]; exact gr_auto
    have k1_0 : W1.cell? ⟨w.heap.size, 1, none⟩ = some (.int .i64 se) := by rw [hW1]; first | (simp [go_sem, *]; done) | (refine Gr.at ?_ (by assumption); exact gr_auto)
    have b1_0 : w.heap.size < W1.heap.size := World.block_lt_of_cell? _ _ k1_0
    have k1_1 : W1.cell? ⟨w.heap.size, 2, none⟩ = some (.int .i64 we) := by rw [hW1]; first | (simp [go_sem, *]; done) | (refine Gr.at ?_ (by assumption); exact gr_auto)
    have k1_2 : W1.cell? ⟨w.heap.size, 3, none⟩ = some (.int .i64 ro) := by rw [hW1]; first | (simp [go_sem, *]; done) | (refine Gr.at ?_ (by assumption); exact gr_auto)
    have k1_3 : W1.cell? ⟨w.heap.size, 4, none⟩ = some (.int .i64 dr) := by rw [hW1]; first | (simp [go_sem, *]; done) | (refine Gr.at ?_ (by assumption); exact gr_auto)
    clear hW1
    refine (HN.out _).mono ?_
    rintro e w2 ⟨rfl, rfl⟩
    go_wp2_with fail
    go_ret
    exact ⟨rfl, gr_auto⟩
  cases t7 : decide (dr ≤ 1000)
  · go_enter Tryz.func109, Tryz.ntmps109
    go_wp2_with fail
    (first | refine name_world ?_ | refine (show (∀ W, W = _ → Calls _ _ _ W _) → Calls _ _ _ _ _ from fun h => h _ rfl) ?_); intro W1 hW1
    have g1 : Gr w W1 := by rw [hW1]; exact gr_auto
    have k1_0 : W1.cell? ⟨w.heap.size, 1, none⟩ = some (.int .i64 se) := by rw [hW1]; first | (simp [go_sem, *]; done) | (refine Gr.at ?_ (by assumption); exact gr_auto)
    have b1_0 : w.heap.size < W1.heap.size := World.block_lt_of_cell? _ _ k1_0
    have k1_1 : W1.cell? ⟨w.heap.size, 2, none⟩ = some (.int .i64 we) := by rw [hW1]; first | (simp [go_sem, *]; done) | (refine Gr.at ?_ (by assumption); exact gr_auto)
    have k1_2 : W1.cell? ⟨w.heap.size, 3, none⟩ = some (.int .i64 ro) := by rw [hW1]; first | (simp [go_sem, *]; done) | (refine Gr.at ?_ (by assumption); exact gr_auto)
    have k1_3 : W1.cell? ⟨w.heap.size, 4, none⟩ = some (.int .i64 dr) := by rw [hW1]; first | (simp [go_sem, *]; done) | (refine Gr.at ?_ (by assumption); exact gr_auto)
    clear hW1
    refine (HN.out _).mono ?_
    rintro e w2 ⟨rfl, rfl⟩
    go_wp2_with fail
    go_ret
    exact ⟨rfl, gr_auto⟩
  go_enter Tryz.func109, Tryz.ntmps109
  go_wp2_with fail
  (first | refine name_world ?_ | refine (show (∀ W, W = _ → Calls _ _ _ W _) → Calls _ _ _ _ _ from fun h => h _ rfl) ?_); intro W1 hW1
  have g1 : Gr w W1 := by rw [hW1]; exact gr_auto
  have k1_0 : W1.cell? ⟨w.heap.size, 1, none⟩ = some (.int .i64 se) := by rw [hW1]; first | (simp [go_sem, *]; done) | (refine Gr.at ?_ (by assumption); exact gr_auto)
  have b1_0 : w.heap.size < W1.heap.size := World.block_lt_of_cell? _ _ k1_0
  have k1_1 : W1.cell? ⟨w.heap.size, 2, none⟩ = some (.int .i64 we) := by rw [hW1]; first | (simp [go_sem, *]; done) | (refine Gr.at ?_ (by assumption); exact gr_auto)
  have k1_2 : W1.cell? ⟨w.heap.size, 3, none⟩ = some (.int .i64 ro) := by rw [hW1]; first | (simp [go_sem, *]; done) | (refine Gr.at ?_ (by assumption); exact gr_auto)
  have k1_3 : W1.cell? ⟨w.heap.size, 4, none⟩ = some (.int .i64 dr) := by rw [hW1]; first | (simp [go_sem, *]; done) | (refine Gr.at ?_ (by assumption); exact gr_auto)
  clear hW1
  refine (HN.out _).mono ?_
  rintro e w2 ⟨rfl, rfl⟩
  go_wp2_with fail
  go_ret
  exact ⟨rfl, gr_auto⟩
set_option maxRecDepth 100000 in
set_option maxHeartbeats 4000000 in
theorem rfind_any (s : Ba.SlClass) (t : ByteArray) (w : World) (h : s.At w) : Calls Tryz.prog 110 #[.slice s.A s.n s.c, .string t] w fun e w' => e = .returned (.int .i64 (Ba.cix s t)) ∧ Gr w w' := by
  have HA := Lib.hid h.hA; have HX := Lib.hid (fun i hi => (h.hD i hi).1.1)
  have hn : s.n ≤ 9223372036854775807 := Nat.le_trans h.hc h.hb
  clear h
  unfold Ba.cix
  obtain ⟨A', n', c', b, o, D⟩ := s
  simp only at *
  go_enter Tryz.func110, Tryz.ntmps110
  go_wp2_with fail
  go_loopw [5] (fun q wr => ∃ i : Nat, i ≤ n' ∧ q = .int .i64 (i : Int) ∧ Gr w wr ∧ Hid (Ba.fst (fun i => Ba.eqS (D i).nm t) i = none)) (fun q _ => n' - (intOf q).toNat)
  case atStart => exact ⟨0, Nat.zero_le _, rfl, Gr.refl _, Lib.hid rfl⟩
  case round =>
    obtain ⟨i, hi, rfl, hg, hf⟩ := hrel
    by_cases hlt : i < n'
    · obtain rfl := HA.out (by omega)
      have a0 := Gr.at hg (HX.out i hlt)
      have ib0 : (0 : Int) ≤ (i : Int) := by omega
      have ib1 : (i : Int) < (n' : Int) := by omega
      cases hp : Ba.eqS (D i).nm t
      · have HF := Lib.hid (Ba.fst_miss (p := fun i => Ba.eqS (D i).nm t) hf.out hp)
        unfold Ba.eqS at hp
        clear hf HX
        go_wp2_with fail
        go_roundw
        case rel => exact ⟨i + 1, by omega, by go_num, gr_auto, HF⟩
        case measure => simp [intOf]; omega
      · have HF := Lib.hid (Ba.fstI_hit (p := fun i => Ba.eqS (D i).nm t) hf.out hp hlt)
        unfold Ba.eqS at hp
        clear hf HX
        go_wp2_with fail
        go_ret
        exact ⟨ret_int HF.out.symm, gr_auto⟩
    · obtain rfl : n' = i := by omega
      have HF := Lib.hid (Ba.fstI_none hf.out)
      clear hf HX
      go_wp2_with fail
      go_ret
      exact ⟨ret_int HF.out.symm, gr_auto⟩
set_option maxRecDepth 100000 in
set_option maxHeartbeats 4000000 in
theorem rvalid_any (C : Ba.SlClass) (w : World) (h : C.At w) : Calls Tryz.prog 58 #[.slice C.A C.n C.c] w fun e w' => e = .returned (.bool (Ba.clsB C)) ∧ Gr w w' := by
  have hm := Nat.le_trans h.hc h.hb
  have HA := Lib.hid h.hA; have HD := Lib.hid h.hD; have HH := Lib.hid h
  clear h
  by_cases h0 : C.n = 0
  · have t0 : decide ((C.n : Int) < 1) = true := decide_eq_true (by omega)
    have e : Ba.clsB C = false := by unfold Ba.clsB; rw [h0]; rfl
    rw [e]
    clear h0 e
    generalize C.A = A at *; generalize C.n = n at *; generalize C.c = c at *
    go_enter Tryz.func58, Tryz.ntmps58
    go_wp2_with fail
    go_ret
    exact ⟨rfl, gr_auto⟩
  have t0 : decide ((C.n : Int) < 1) = false := decide_eq_false (by omega)
  by_cases h1 : 16 < C.n
  · have t1 : decide ((16 : Int) < (C.n : Int)) = true := decide_eq_true (by omega)
    have e : Ba.clsB C = false := by unfold Ba.clsB; rw [decide_eq_false (by omega : ¬ C.n ≤ 16)]; simp
    rw [e]
    clear h0 h1 e
    generalize C.A = A at *; generalize C.n = n at *; generalize C.c = c at *
    go_enter Tryz.func58, Tryz.ntmps58
    go_wp2_with fail
    go_ret
    exact ⟨rfl, gr_auto⟩
  have t1 : decide ((16 : Int) < (C.n : Int)) = false := decide_eq_false (by omega)
  have e : Ba.clsB C = Ba.allB (Ba.clB C) C.n := by unfold Ba.clsB; rw [decide_eq_true (by omega : 1 ≤ C.n), decide_eq_true (by omega : C.n ≤ 16)]; rfl
  rw [e]
  clear e
  obtain ⟨A, hA⟩ : ∃ A, C.A = A := ⟨_, rfl⟩; obtain ⟨n, hn⟩ : ∃ n, C.n = n := ⟨_, rfl⟩; obtain ⟨c, hc⟩ : ∃ c, C.c = c := ⟨_, rfl⟩
  have HXI := Lib.hid (fun (t : ByteArray) (W : World) (hW : Gr w W) => rfind_any C t W (HH.out.gr hW))
  rw [hA, hn, hc] at HXI
  rw [hA, hn, hc]
  rw [hn] at t0 t1 hm h0 h1
  rw [hA, hn] at HA
  rw [hn] at HD
  clear HH
  go_enter Tryz.func58, Tryz.ntmps58
  go_wp2_with fail
  go_loopw [3] (fun x wr => ∃ i : Nat, i ≤ n ∧ x = .int .i64 (i : Int) ∧ Hid (Ba.allB (Ba.clB C) i = true) ∧ Gr w wr) (fun x _ => n - (intOf x).toNat)
  case atStart => exact ⟨0, Nat.zero_le _, rfl, Lib.hid rfl, Gr.refl _⟩
  case round =>
    obtain ⟨i, hi, rfl, HQ, hg⟩ := hrel
    by_cases hlt : i < n
    · obtain rfl := HA.out (by omega)
      obtain ⟨a0, a1, a2, a3, a4⟩ := (HD.out i hlt).1.gr hg
      have ib0 : (0 : Int) ≤ (i : Int) := by omega
      have ib1 : (i : Int) < (n : Int) := by omega
      have HR := Lib.hid (fun W (hW : Gr wr W) => rright_any (C.D i) W ((HD.out i hlt).2.gr (hg.trans hW)))
      have HX := Lib.hid (fun W (hW : Gr wr W) => HXI.out (C.D i).nm W (hg.trans hW))
      have hcl : Ba.clB C i = (Ba.cl1 (C.D i) && (Ba.cix C (C.D i).nm == (i : Int))) := by
        unfold Ba.clB Ba.cl1
        cases Dc.isName (C.D i).nm.data.toList <;> cases (Ba.cix C (C.D i).nm == (i : Int)) <;> cases Ba.clN (C.D i) <;> rfl
      generalize Ba.cix C (C.D i).nm = cx at *
      generalize Ba.cl1 (C.D i) = q1 at *
      clear HD HXI
      generalize C.D i = d at *
      unfold Ba.Class.val at HR
      cases q1
      · have HZ := Lib.hid (Ba.allB_stop (p := Ba.clB C) hlt (by rw [hcl]; rfl))
        clear hcl HQ HX
        go_wp2_with fail
        refine (HR.out _ (Gr.refl _)).mono ?_
        rintro e w1 ⟨rfl, hb1⟩
        go_wp2_with fail
        go_ret
        exact ⟨by rw [HZ.out]; rfl, hg.trans hb1⟩
      · cases q2 : (cx == (i : Int))
        · have HZ := Lib.hid (Ba.allB_stop (p := Ba.clB C) hlt (by rw [hcl, q2]; rfl))
          have q2b : (cx != (i : Int)) = true := by simp only [bne, q2, Bool.not_false]
          clear hcl HQ
          go_wp2_with fail
          refine (HR.out _ (Gr.refl _)).mono ?_
          rintro e w1 ⟨rfl, hb1⟩
          replace a0 := Gr.at hb1 a0
          go_wp2_with fail
          refine (HX.out _ hb1).mono ?_
          rintro e w2 ⟨rfl, hb2⟩
          go_wp2_with fail
          go_ret
          exact ⟨by rw [HZ.out]; rfl, hg.trans (hb1.trans hb2)⟩
        · have HZ := Lib.hid (Ba.allB_go HQ.out (show Ba.clB C i = true by rw [hcl, q2]; rfl))
          have q2b : (cx != (i : Int)) = false := by simp only [bne, q2, Bool.not_true]
          clear hcl HQ
          go_wp2_with fail
          refine (HR.out _ (Gr.refl _)).mono ?_
          rintro e w1 ⟨rfl, hb1⟩
          replace a0 := Gr.at hb1 a0
          go_wp2_with fail
          refine (HX.out _ hb1).mono ?_
          rintro e w2 ⟨rfl, hb2⟩
          go_wp2_with fail
          go_roundw
          case rel => exact ⟨i + 1, by omega, by go_num, HZ, hg.trans (hb1.trans hb2)⟩
          case measure => simp [intOf]; omega
    · obtain rfl : n = i := by omega
      have HR := Lib.hid HQ.out
      go_wp2_with fail
      go_ret
      exact ⟨by rw [HR.out]; rfl, hg⟩
namespace Ba
/-- Are the numbers the same? -/
def eqI (a b : SlI) : Bool := decide (a.n = b.n) && allB (fun i => a.X i == b.X i) a.n
end Ba
set_option maxRecDepth 100000 in
set_option maxHeartbeats 4000000 in
theorem equal_any (a b : Ba.SlI) (w : World) (ha : a.At w) (hb : b.At w) : Calls Tryz.prog 11 #[.slice a.A a.n a.c, .slice b.A b.n b.c] w fun e w' => e = .returned (.bool (Ba.eqI a b)) ∧ Gr w w' := by
  have m1 := Nat.le_trans ha.hc ha.hb; have m2 := Nat.le_trans hb.hc hb.hb
  have HA := Lib.hid ha.hA; have HX := Lib.hid ha.hX; have KA := Lib.hid hb.hA; have KX := Lib.hid hb.hX
  clear ha hb
  unfold Ba.eqI
  obtain ⟨A, n, c, b1, o1, X⟩ := a
  obtain ⟨A2, n2, c2, b2, o2, Y⟩ := b
  simp only at *
  by_cases hn : n = n2
  rotate_left
  · rw [decide_eq_false hn]
    have t0 : ((n : Int) != (n2 : Int)) = true := by rw [bne_iff_ne]; omega
    clear hn
    go_enter Tryz.func11, Tryz.ntmps11
    go_wp2_with fail
    go_ret
    exact ⟨rfl, gr_auto⟩
  subst hn
  rw [decide_eq_true rfl, Bool.true_and]
  go_enter Tryz.func11, Tryz.ntmps11
  go_wp2_with fail
  go_loopw [13] (fun x wr => ∃ i : Nat, i ≤ n ∧ x = .int .i64 (i : Int) ∧ Hid (Ba.allB (fun i => X i == Y i) i = true) ∧ Gr w wr) (fun x _ => n - (intOf x).toNat)
  case atStart => exact ⟨0, Nat.zero_le _, rfl, Lib.hid rfl, Gr.refl _⟩
  case round =>
    obtain ⟨i, hi, rfl, HQ, hg⟩ := hrel
    by_cases hlt : i < n
    · obtain rfl := HA.out (by omega); obtain rfl := KA.out (by omega)
      have a0 := Gr.at hg (HX.out i hlt).1; have a1 := Gr.at hg (KX.out i hlt).1
      have ib0 : (0 : Int) ≤ (i : Int) := by omega
      have ib1 : (i : Int) < (n : Int) := by omega
      cases hq : (X i == Y i)
      · have HZ := Lib.hid (Ba.allB_stop (p := fun i => X i == Y i) hlt hq)
        have hq2 : (X i != Y i) = true := by simp only [bne, hq, Bool.not_false]
        clear HX KX HQ
        generalize X i = x at *
        generalize Y i = y at *
        go_wp2_with fail
        go_quiet (fail)
        go_wp2_with fail
        go_ret
        exact ⟨by rw [HZ.out]; rfl, gr_auto⟩
      · have HZ := Lib.hid (Ba.allB_go (p := fun i => X i == Y i) HQ.out hq)
        have hq2 : (X i != Y i) = false := by simp only [bne, hq, Bool.not_true]
        clear HX KX HQ
        generalize X i = x at *
        generalize Y i = y at *
        go_wp2_with fail
        go_quiet (fail)
        go_wp2_with fail
        go_roundw
        case rel => exact ⟨i + 1, by omega, by go_num, HZ, gr_auto⟩
        case measure => simp [intOf]; omega
    · obtain rfl : n = i := by omega
      have HR := Lib.hid HQ.out
      clear HX KX HQ
      go_wp2_with fail
      go_ret
      exact ⟨by rw [HR.out]; rfl, hg⟩
end Go.Proofs.YtajhhplgcegodaaGreatDoor
