import Derived.Test.YtlcbjkkcfenlmaaDoorCkWalkJ
set_option linter.unusedVariables false
set_option linter.unusedSimpArgs false
namespace Go.Proofs.YtlcbjkkcfenlmaaDoor
open Go.RowKit
theorem Ck.imin_le (a b : Int) : True := trivial
set_option maxHeartbeats 1000000 in
theorem whole_out (f s a l : Int) (w : World) (h : decide (s < 1) = true ∨ decide (s < 1) = false ∧ (decide (86400 < s) = true ∨ decide (86400 < s) = false ∧ (decide (f < -34359738368) = true ∨ decide (f < -34359738368) = false ∧ (decide (34359738368 < f) = true ∨ decide (34359738368 < f) = false ∧ (decide (a < -34359738368) = true ∨ decide (a < -34359738368) = false ∧ (decide (34359738368 < a) = true ∨ decide (34359738368 < a) = false ∧ (decide (l < 0) = true ∨ decide (l < 0) = false ∧ (1 ≤ s ∧ s ≤ 86400 ∧ decide (300 * s < l) = true)))))))) :
    Calls Tryd.prog 4 #[.int .i64 f, .int .i64 s, .int .i64 a, .int .i64 l] w fun e w' => e = .returned (.bool true) ∧ Gr w w' := by
  rcases h with h | ⟨h1, h | ⟨h2, h | ⟨h3, h | ⟨h4, h | ⟨h5, h | ⟨h6, h | ⟨h7, h8, h9, h⟩⟩⟩⟩⟩⟩⟩
  all_goals
    go_enter Tryd.func4, Tryd.ntmps4
    go_wp2_with fail; refine (awake_any _).mono ?_; rintro e w1 ⟨rfl, hb1⟩; obtain ⟨hc1, hf1⟩ := Gr.cells hb1; have hz1 := Gr.size hb1; (try simp at hz1); (try have hy1_0 : w.heap.size < w1.heap.size := by omega); (try have hy1_1 : w.heap.size + 1 < w1.heap.size := by omega); (try have hy1_2 : w.heap.size + 1 + 1 < w1.heap.size := by omega); (try have hy1_3 : w.heap.size + 1 + 1 + 1 < w1.heap.size := by omega); (try have hy1_4 : w.heap.size + 1 + 1 + 1 + 1 < w1.heap.size := by omega); (try have hy1_5 : w.heap.size + 1 + 1 + 1 + 1 + 1 < w1.heap.size := by omega)
    go_wp2
    go_ret
    exact ⟨rfl, (by repeat' (first | (with_reducible exact Gr.refl _) | (with_reducible assumption) | (with_reducible refine Gr.alloc ?_ _) | (with_reducible refine Gr.drew ?_) | (with_reducible refine Gr.drewN ?_ _) | (with_reducible refine Gr.setCell ?_ ?_ _) | (with_reducible refine Gr.trans ?_ (by with_reducible assumption)) | go_size))⟩
set_option maxRecDepth 100000 in
set_option maxHeartbeats 4000000 in
theorem whole_in (f s a l : Int) (w : World) (s1 : 1 ≤ s) (s2 : s ≤ 86400) (f1 : -34359738368 ≤ f) (f2 : f ≤ 34359738368) (a1 : -34359738368 ≤ a) (a2 : a ≤ 34359738368) (l1 : 0 ≤ l) (l2 : l ≤ 300 * s) :
    Calls Tryd.prog 4 #[.int .i64 f, .int .i64 s, .int .i64 a, .int .i64 l] w fun e w' => e = .returned (.bool true) ∧ Gr w w' := by
  have hif : Ck.inst f = true := (Ck.inst_iff f).2 (by omega)
  have hia : Ck.inst a = true := (Ck.inst_iff a).2 (by omega)
  have hib : Ck.inst (a + l) = true := (Ck.inst_iff _).2 (by omega)
  have hic : Ck.inst (a + 1) = true := (Ck.inst_iff _).2 (by omega)
  have hls : Ck.len s = true := (Ck.len_iff s).2 (by omega)
  have hlast := Ck.last_le (a - f) l s s1 l1 l2
  have hse : a + l - f = a - f + l := by omega
  obtain ⟨u1, u2⟩ := Ck.step_of f s a s1
  obtain ⟨u3, u4⟩ := Ck.step_of f s (a + l) s1
  rw [hse] at u3 u4
  obtain ⟨q0, q1⟩ := Ck.div_bd (n := a - f) (B := 68719476736) s1 (by omega) (by omega)
  have HS := Lib.hid (fun W => step_any f s a W hif hia hls)
  have ht := fun W => step_any f s (a + l) W hif hib hls
  rw [hse] at ht
  have HT := Lib.hid ht; clear ht hse
  have ho := fun W => over_any f s ((a - f) / s) a (a + 1) W hif hia hic hls (by omega) (by omega) (by omega)
  rw [Ck.lap_one u1 u2] at ho
  have HO := Lib.hid ho; clear ho
  have HL := Lib.hid (fun k W (k0 : -1099511627776 ≤ k) (k1 : k ≤ 1099511627776) => over_any f s k a (a + l) W hif hia hib hls k0 k1 (by omega))
  obtain ⟨r0, r1⟩ := hlast
  clear hif hia hib hic hls
  generalize (a - f) / s = p at *
  generalize (a - f + l) / s = q at *
  have t1 : decide (s < 1) = false := decide_eq_false (by omega)
  have t2 : decide (86400 < s) = false := decide_eq_false (by omega)
  have t3 : decide (f < -34359738368) = false := decide_eq_false (by omega)
  have t4 : decide (34359738368 < f) = false := decide_eq_false (by omega)
  have t5 : decide (a < -34359738368) = false := decide_eq_false (by omega)
  have t6 : decide (34359738368 < a) = false := decide_eq_false (by omega)
  have t7 : decide (l < 0) = false := decide_eq_false (by omega)
  have t8 : decide (300 * s < l) = false := decide_eq_false (by omega)
  have t9 : decide (q < p) = false := decide_eq_false (by omega)
  have t10 : decide (301 < q - p) = false := decide_eq_false (by omega)
  go_enter Tryd.func4, Tryd.ntmps4
  go_wp2_with fail; refine (awake_any _).mono ?_; rintro e w1 ⟨rfl, hb1⟩; obtain ⟨hc1, hf1⟩ := Gr.cells hb1; have hz1 := Gr.size hb1; (try simp at hz1); (try have hy1_0 : w.heap.size < w1.heap.size := by omega); (try have hy1_1 : w.heap.size + 1 < w1.heap.size := by omega); (try have hy1_2 : w.heap.size + 1 + 1 < w1.heap.size := by omega); (try have hy1_3 : w.heap.size + 1 + 1 + 1 < w1.heap.size := by omega); (try have hy1_4 : w.heap.size + 1 + 1 + 1 + 1 < w1.heap.size := by omega); (try have hy1_5 : w.heap.size + 1 + 1 + 1 + 1 + 1 < w1.heap.size := by omega)
  go_wp2_with fail
  refine (HS.out _).mono ?_
  rintro e w2 ⟨rfl, rfl⟩
  go_wp2_with fail
  refine (HT.out _).mono ?_
  rintro e w2 ⟨rfl, rfl⟩
  go_wp2_with fail
  refine (HO.out _).mono ?_
  rintro e w2 ⟨rfl, rfl⟩
  clear t1 t2 t3 t4 t5 t6 t7 t8
  go_wp2_with fail
  have HU := Lib.hid (show f + p * s ≤ a from u1)
  have HV := Lib.hid (show a + l < f + q * s + s from u4)
  have HW := Lib.hid (show a < f + p * s + s from u2)
  have HX := Lib.hid (show f + q * s ≤ a + l from u3)
  clear u1 u2 u3 u4
  go_loop [15, 16] (fun c k => ∃ i : Int, p - 1 ≤ i ∧ i ≤ q + 2 ∧ k = .int .i64 i ∧ c = .int .i64 (Ck.clamp a (a + l) (f + i * s) - a)) (fun _ k => (q + 2 - intOf k).toNat)
  case atStart => exact ⟨p - 1, by omega, by omega, rfl, by rw [Ck.clamp_lo (by omega) (by have := HU.out; rw [Int.sub_mul]; omega)]; exact congrArg (Value.int IntKind.i64) (by omega)⟩
  case round =>
    obtain ⟨i, i0, i1, rfl, rfl⟩ := hrel
    by_cases hi : i ≤ q + 1
    · have hlc := Ck.lap_clamp (x := f + i * s) (s := s) (a := a) (b := a + l) (by omega) (by omega)
      have hnx : f + (i + 1) * s = f + i * s + s := by rw [Int.add_mul]; omega
      have hbd := Ck.lap_bd (x := f + i * s) (s := s) (a := a) (b := a + l) (by omega)
      have hno : i < p ∨ q < i → Ck.lap (f + i * s) s a (a + l) = 0 := fun h => Ck.lap_none (by
        rcases h with h | h
        · right
          have := Int.mul_le_mul_of_nonneg_right (show i + 1 ≤ p by omega) (show 0 ≤ s by omega)
          have := HU.out; omega
        · left
          have := Int.mul_le_mul_of_nonneg_right (show q + 1 ≤ i by omega) (show 0 ≤ s by omega)
          rw [Int.add_mul] at this
          have := HV.out; omega)
      have hc0 : 0 ≤ Ck.clamp a (a + l) (f + i * s) - a ∧ Ck.clamp a (a + l) (f + i * s) - a ≤ l := by unfold Ck.clamp; omega
      have HN := Lib.hid (show Ck.clamp a (a + l) (f + (i + 1) * s) - a = (Ck.clamp a (a + l) (f + i * s) - a) + Ck.lap (f + i * s) s a (a + l) by rw [hlc, hnx]; omega)
      have HC := Lib.hid (fun W => HL.out i W (by omega) (by omega))
      clear hlc hnx
      generalize Ck.clamp a (a + l) (f + i * s) - a = c0 at *
      generalize Ck.lap (f + i * s) s a (a + l) = n at *
      obtain ⟨n0, n1⟩ := hbd
      obtain ⟨c2, c3⟩ := hc0
      have t1 : decide (n < 0) = false := decide_eq_false (by omega)
      have t2 : decide (s < n) = false := decide_eq_false (by omega)
      by_cases hip : i < p
      · have t3 : decide (i < p) = true := decide_eq_true hip
        obtain rfl : n = 0 := hno (Or.inl hip)
        clear hno hip
        go_wp2_with fail
        refine (HC.out _).mono ?_
        rintro e w2 ⟨rfl, rfl⟩
        go_wp2
        go_round
        case rel => exact ⟨i + 1, by omega, by omega, by go_num, by rw [HN.out]; exact congrArg (Value.int IntKind.i64) (by omega)⟩
        case measure => simp [intOf]; omega
      · have t3 : decide (i < p) = false := decide_eq_false hip
        by_cases hiq : q < i
        · have t4 : decide (q < i) = true := decide_eq_true hiq
          obtain rfl : n = 0 := hno (Or.inr hiq)
          clear hno hip hiq
          go_wp2_with fail
          refine (HC.out _).mono ?_
          rintro e w2 ⟨rfl, rfl⟩
          go_wp2
          go_round
          case rel => exact ⟨i + 1, by omega, by omega, by go_num, by rw [HN.out]; exact congrArg (Value.int IntKind.i64) (by omega)⟩
          case measure => simp [intOf]; omega
        · have t4 : decide (q < i) = false := decide_eq_false hiq
          clear hno hip hiq
          go_wp2_with fail
          refine (HC.out _).mono ?_
          rintro e w2 ⟨rfl, rfl⟩
          go_wp2
          go_round
          case rel => exact ⟨i + 1, by omega, by omega, by go_num, by rw [HN.out]⟩
          case measure => simp [intOf]; omega
    · obtain rfl : i = q + 2 := by omega
      have hC : Ck.clamp a (a + l) (f + (q + 2) * s) - a = l := by
        rw [Ck.clamp_hi (by omega) (by have := HV.out; rw [Int.add_mul]; omega)]; omega
      rw [hC]
      have hll : (l == l) = true := by simp
      clear hC
      go_wp2
      go_ret
      exact ⟨rfl, (by repeat' (first | (with_reducible exact Gr.refl _) | (with_reducible assumption) | (with_reducible refine Gr.alloc ?_ _) | (with_reducible refine Gr.drew ?_) | (with_reducible refine Gr.drewN ?_ _) | (with_reducible refine Gr.setCell ?_ ?_ _) | (with_reducible refine Gr.trans ?_ (by with_reducible assumption)) | go_size))⟩
theorem whole_any (f s a l : Int) (w : World) :
    Calls Tryd.prog 4 #[.int .i64 f, .int .i64 s, .int .i64 a, .int .i64 l] w fun e w' => e = .returned (.bool true) ∧ Gr w w' := by
  by_cases h : 1 ≤ s ∧ s ≤ 86400 ∧ -34359738368 ≤ f ∧ f ≤ 34359738368 ∧ -34359738368 ≤ a ∧ a ≤ 34359738368 ∧ 0 ≤ l ∧ l ≤ 300 * s
  · obtain ⟨s1, s2, f1, f2, a1, a2, l1, l2⟩ := h
    exact whole_in f s a l w s1 s2 f1 f2 a1 a2 l1 l2
  · refine whole_out f s a l w ?_
    simp only [decide_eq_true_eq, decide_eq_false_iff_not]
    omega
end Go.Proofs.YtlcbjkkcfenlmaaDoor
