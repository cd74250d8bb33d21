/-
  Law 25: slices.Min of numbers that are not negative; RunoffDays, the short ways.
-/
import Derived.Test.YtjighhphadfoiaaRoZa
set_option linter.unusedVariables false
set_option linter.unusedSimpArgs false
namespace Go.Proofs.Ytjighhphadfoiaa
open Go.RowKit
attribute [local go_sem ↓] Go.wp_at_zero Go.wp_at_succ

set_option maxRecDepth 100000 in
set_option maxHeartbeats 4000000 in
theorem min_any (s : Ba.SlI) (w : World) (h : s.At w) (h1 : 1 ≤ s.n) (hx : ∀ i, i < s.n → 0 ≤ s.X i) : Calls Try.prog 28 #[.slice s.A s.n s.c] w fun e w' => (∃ v : Int, e = .returned (.int .i64 v) ∧ 0 ≤ v) ∧ Gr w w' := by
  have HX := Lib.hid (fun i (hi : i < s.n) => (h.hX i hi).1)
  have HZ := Lib.hid hx
  have hA := h.hA (by omega)
  have hm := Nat.le_trans h.hc h.hb
  clear h hx
  obtain ⟨A, n, c, b, o, X⟩ := s
  simp only at *
  subst hA
  have q0 := HX.out 0 (by omega)
  have z0 := HZ.out 0 (by omega)
  have n0 : ¬ (n : Int) < 1 := by omega
  have n1 : (0 : Int) < (n : Int) := by omega
  rw [Nat.add_zero] at q0
  obtain ⟨x0, hx0⟩ : ∃ z, X 0 = z := ⟨_, rfl⟩
  rw [hx0] at q0 z0
  clear hx0
  go_enter Try.func28, Try.ntmps28
  go_wp2_with fail
  go_loopw [3, 4] (fun m x wr => ∃ i : Nat, 1 ≤ i ∧ i ≤ n ∧ x = .int .i64 (i : Int) ∧ (∃ v : Int, m = .int .i64 v ∧ Hid (0 ≤ v)) ∧ Gr w wr) (fun _ x _ => n - (intOf x).toNat)
  case atStart => exact ⟨1, by omega, by omega, rfl, ⟨x0, rfl, Lib.hid z0⟩, gr_auto⟩
  case round =>
    clear q0 z0
    obtain ⟨i, hi0, hi, rfl, ⟨v, rfl, HV⟩, hg⟩ := hrel
    by_cases hlt : i < n
    · have b0 := Gr.at hg (HX.out i hlt)
      have HY := Lib.hid (HZ.out i hlt)
      generalize X i = xi at *
      obtain ⟨m, hm'⟩ : ∃ m, min v xi = m := ⟨_, rfl⟩
      have HM := Lib.hid (show 0 ≤ m by rw [← hm']; have := HV.out; have := HY.out; omega)
      go_wp2_with fail
      go_roundw
      case rel => exact ⟨i + 1, by omega, by omega, by go_num, ⟨m, by first | rfl | rw [hm'], HM⟩, gr_auto⟩
      case measure => simp [intOf]; omega
    · obtain rfl : n = i := by omega
      go_wp2_with fail
      go_ret
      exact ⟨⟨v, rfl, HV.out⟩, hg⟩

def DaysK (pt : Int) (K : Nat) : Prop := [Value.int .i64 1, .int .i64 2, .int .i64 3, .int .i64 4, .int .i64 6, .int .i64 8, .int .i64 12, .int .i64 24][(pt % 8).toNat]? = some (.int .i64 (K : Int))

set_option maxRecDepth 100000 in
set_option maxHeartbeats 4000000 in
theorem days_no (nd : ByteArray) (daily : Int) (s : Ba.SlI) (pt : Int) (d : Ba.Inflow) (K : Nat) (st : Int) (E : Int) (w : World) (hs : s.At w) (hm : nd.size ≤ 9223372036854775807) (hd : d.Ok w) (a1 : (nd.size : Int) ≤ 100) (a2 : (s.n : Int) ≤ 96) (a3 : (d.vs.n : Int) ≤ 100) (a4 : (d.nm.size : Int) ≤ 100) (hp : 0 ≤ pt ∧ pt ≤ 255) (hK : DaysK pt K) (hK1 : 1 ≤ K ∧ K ≤ 24) (hst : Hid (86400 / (K : Int) = st)) (hE : E ≠ 0)
    (HD : Hid (∀ W, Gr w W → Calls Try.prog 24 #[.string nd, .int .i64 daily, .slice s.A s.n s.c, .int .i64 st, .int .i64 (2 * (K : Int))] W fun e w' => e = .returned (.tuple #[.agg #[.string ⟨#[]⟩, .slice none 0 0], .int .i64 E]) ∧ Gr W w')) : Calls Try.prog 6 #[.string nd, .int .i64 daily, .slice s.A s.n s.c, .int .u8 pt, d.val] w fun e w' => e = .returned (.bool true) ∧ Gr w w' := by
  have ms := Nat.le_trans hs.hc hs.hb
  have md := hd.1; have mv := Nat.le_trans hd.2.hc hd.2.hb
  have t0 : (E != 0) = true := bne_iff_ne.2 hE
  rw [← hst.out] at HD
  clear hs hE hst hd
  unfold Ba.Inflow.val
  unfold DaysK at hK
  obtain ⟨dn, ⟨dA, dl, dc, db, do', dX⟩⟩ := d
  simp only at *
  generalize s.A = sA at *
  generalize s.n = sn at *
  generalize s.c = sc at *
  have k0 : (K : Int) ≠ 0 := by omega
  go_enter Try.func6, Try.ntmps6
  go_wp2_with fail
  (first | refine name_world ?_ | refine (show (∀ W, W = _ → Calls _ _ _ W _) → Calls _ _ _ _ _ from fun h => h _ rfl) ?_); intro W1 hW1
  have g1 : Gr w W1 := by rw [hW1]; exact gr_auto
  have k1_0 : W1.cell? ⟨w.heap.size, 0, none⟩ = some (.string dn) := by rw [hW1]; first | (simp [go_sem, *]; done) | (refine Gr.at ?_ (by assumption); exact gr_auto)
  have b1_0 : w.heap.size < W1.heap.size := World.block_lt_of_cell? _ _ k1_0
  have k1_1 : W1.cell? ⟨w.heap.size, 1, none⟩ = some (.slice dA dl dc) := by rw [hW1]; first | (simp [go_sem, *]; done) | (refine Gr.at ?_ (by assumption); exact gr_auto)
  clear hW1
  refine (awake_any _).mono ?_
  rintro e w2 ⟨rfl, hb2⟩
  have g2 := g1.trans hb2
  have d0 := Gr.at hb2 k1_0; have d1 := Gr.at hb2 k1_1
  clear k1_0 k1_1
  go_wp2_with fail
  (first | refine name_world ?_ | refine (show (∀ W, W = _ → Calls _ _ _ W _) → Calls _ _ _ _ _ from fun h => h _ rfl) ?_); intro W3 hW3
  have g3 : Gr w W3 := by rw [hW3]; exact gr_auto
  have gb3_w2 : Gr w2 W3 := by (try clear g3); rw [hW3]; exact gr_auto
  have k3_0 : W3.cell? ⟨w.heap.size, 0, none⟩ = some (.string dn) := by rw [hW3]; first | (simp [go_sem, *]; done) | (refine Gr.at ?_ (by assumption); exact gr_auto)
  have b3_0 : w.heap.size < W3.heap.size := World.block_lt_of_cell? _ _ k3_0
  have k3_1 : W3.cell? ⟨w.heap.size, 1, none⟩ = some (.slice dA dl dc) := by rw [hW3]; first | (simp [go_sem, *]; done) | (refine Gr.at ?_ (by assumption); exact gr_auto)
  clear hW3
  refine (HD.out _ (by exact g3)).mono ?_
  rintro e w4 ⟨rfl, hb4⟩
  have g4 := g3.trans hb4
  clear HD
  go_wp2_with fail
  go_ret
  exact ⟨rfl, gr_auto⟩
end Go.Proofs.Ytjighhphadfoiaa
