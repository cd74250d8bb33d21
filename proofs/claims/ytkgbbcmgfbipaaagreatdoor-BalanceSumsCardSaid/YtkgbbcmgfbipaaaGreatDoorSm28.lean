/-
  Sums: balance.sum, the reference's Sums and Held; network.found, Node, Link.
-/
import Derived.Test.YtkgbbcmgfbipaaaGreatDoorSm25

set_option linter.unusedVariables false
set_option linter.unusedSimpArgs false
namespace Go.Proofs.YtkgbbcmgfbipaaaGreatDoor
open Go.RowKit
namespace Ba
/-- Numbers whose sums fit: at most 1000 of them, from 0 to 2^50. -/
def few (s : SlI) : Prop := s.n ≤ 1000 ∧ ∀ i, i < s.n → 0 ≤ s.X i ∧ s.X i ≤ 1125899906842624
theorem few_sum {s : SlI} (h : few s) {i : Nat} (hi : i ≤ s.n) : 0 ≤ sumI s.X i ∧ sumI s.X i ≤ 1125899906842624 * 1000 := by
  have := sumI_le (X := s.X) (n := i) fun j hj => h.2 j (by omega)
  have := h.1
  omega
end Ba
set_option maxRecDepth 100000 in
theorem sum_any (s : Ba.SlI) (w : World) (h : s.At w) (hf : Ba.few s) : Calls Tryz.prog 43 #[.slice s.A s.n s.c] w fun e w' => e = .returned (.int .i64 (Ba.sumI s.X s.n)) ∧ w = w' := by
  have hn := hf.1
  have HF := Lib.hid (fun (i : Nat) (hi : i ≤ s.n) => Ba.few_sum hf hi)
  have HE := Lib.hid hf.2
  have HA := Lib.hid h.hA; have HX := Lib.hid h.hX
  clear h hf
  obtain ⟨A, n, c, b, o, X⟩ := s
  simp only at *
  have HS := Lib.hid (fun (i : Nat) => show Ba.sumI X (i + 1) = Ba.sumI X i + X i from rfl)
  go_enter Tryz.func43, Tryz.ntmps43
  go_wp2_with fail
  go_loop [3, 8] (fun a q => ∃ i : Nat, i ≤ n ∧ q = .int .i64 (i : Int) ∧ a = .int .i64 (Ba.sumI X i)) (fun _ q => n - (intOf q).toNat)
  case atStart => exact ⟨0, Nat.zero_le _, rfl, rfl⟩
  case round =>
    obtain ⟨i, hi, rfl, rfl⟩ := hrel
    by_cases hlt : i < n
    · obtain rfl := HA.out (by omega)
      have v0 := (HX.out i hlt).1
      have e0 := HE.out i hlt
      have f0 := HF.out i hi
      have HT := Lib.hid (HS.out i)
      generalize Ba.sumI X i = a at *
      generalize X i = x at *
      clear HF HE HX HS
      go_wp2_with fail
      go_round
      case rel => exact ⟨i + 1, by omega, by go_num, by rw [HT.out]⟩
      case measure => simp [intOf]; omega
    · obtain rfl : i = n := by omega
      go_wp2_with fail
      go_ret
      exact ⟨rfl, rfl⟩
/-- What a state holds. -/
def Ba.heldI (s : Ba.State) : Int := Ba.sumI (fun i => s.vs.X i + s.ps.X i) s.vs.n
namespace Ba
/-- What a look-up of a number answers: the number, and the error. -/
def fnd (i : Int) : Int := if i < 0 then 0 else i
def fndE (i : Int) : Int := if i < 0 then 9 else 0
end Ba
set_option maxRecDepth 100000 in
theorem found_any (N : Ba.SlNode) (L : Ba.SlLink) (i : Int) (w : World) : Calls Tryz.prog 49 #[Ba.netVal N L, .int .i64 i] w fun e w' => e = .returned (.tuple #[.int .i64 (Ba.fnd i), .int .i64 (Ba.fndE i)]) ∧ Gr w w' := by
  unfold Ba.fnd Ba.fndE Ba.netVal
  by_cases h : i < 0
  · rw [if_pos h, if_pos h]
    have t0 : decide (i < 0) = true := decide_eq_true h
    clear h
    go_enter Tryz.func49, Tryz.ntmps49
    go_wp2_with fail
    go_ret2
    exact ⟨rfl, gr_auto⟩
  · rw [if_neg h, if_neg h]
    have t0 : decide (i < 0) = false := decide_eq_false h
    clear h
    go_enter Tryz.func49, Tryz.ntmps49
    go_wp2_with fail
    go_ret2
    exact ⟨rfl, gr_auto⟩
set_option maxRecDepth 100000 in
set_option maxHeartbeats 1000000 in
theorem nodeno_any (N : Ba.SlNode) (L : Ba.SlLink) (t : ByteArray) (w : World) (hN : N.At w) (hL : L.At w) : Calls Tryz.prog 44 #[Ba.netVal N L, .string t] w fun e w' => e = .returned (.tuple #[.int .i64 (if Ba.netB N L = true then Ba.fnd (Ba.nix N t) else 0), .int .i64 (if Ba.netB N L = true then Ba.fndE (Ba.nix N t) else 1)]) ∧ Gr w w' := by
  have HV := Lib.hid (fun W (hg : Gr w W) => netvalid_any N L W (hN.gr hg) (hL.gr hg))
  have HI := Lib.hid (fun W (hg : Gr w W) => node_any N L.A L.n L.c t W (hN.gr hg))
  have HF := Lib.hid (fun W => found_any N L (Ba.nix N t) W)
  clear hN hL
  change Hid (∀ W, Gr w W → Calls _ _ _ W fun e w' => e = .returned (.int .i64 (Ba.nix N t)) ∧ Gr W w') at HI
  generalize Ba.nix N t = q at *
  cases h : Ba.netB N L
  · rw [if_neg (by decide), if_neg (by decide)]
    rw [h] at HV
    clear h HI HF
    unfold Ba.netVal at *
    go_enter Tryz.func44, Tryz.ntmps44
    go_wp2_with fail
    refine (HV.out _ gr_auto).mono ?_
    rintro e w1 ⟨rfl, hb1⟩
    go_wp2_with fail
    go_ret2
    exact ⟨rfl, gr_auto⟩
  · rw [if_pos rfl, if_pos rfl]
    rw [h] at HV
    clear h
    generalize Ba.fnd q = q1 at *; generalize Ba.fndE q = q2 at *
    unfold Ba.netVal at *
    generalize N.A = A at *; generalize N.n = n at *; generalize N.c = c at *
    generalize L.A = A2 at *; generalize L.n = n2 at *; generalize L.c = c2 at *
    go_enter Tryz.func44, Tryz.ntmps44
    go_wp2_with fail
    (first | refine name_world ?_ | refine (show (∀ W, W = _ → Calls _ _ _ W _) → Calls _ _ _ _ _ from fun h => h _ rfl) ?_); intro W1 hW1
    have g1 : Gr w W1 := by rw [hW1]; exact gr_auto
    have k1_0 : W1.cell? ⟨w.heap.size, 0, none⟩ = some (.slice A n c) := by rw [hW1]; first | (simp [go_sem, *]; done) | (refine Gr.at ?_ (by assumption); exact gr_auto)
    have b1_0 : w.heap.size < W1.heap.size := World.block_lt_of_cell? _ _ k1_0
    have k1_1 : W1.cell? ⟨w.heap.size, 1, none⟩ = some (.slice A2 n2 c2) := by rw [hW1]; first | (simp [go_sem, *]; done) | (refine Gr.at ?_ (by assumption); exact gr_auto)
    clear hW1
    refine (HV.out _ g1).mono ?_
    rintro e w2 ⟨rfl, hb2⟩
    have g2 := g1.trans hb2
    have k1_0 := Gr.at (w1 := w2) gr_auto k1_0; have k1_1 := Gr.at (w1 := w2) gr_auto k1_1
    go_wp2_with fail
    (first | refine name_world ?_ | refine (show (∀ W, W = _ → Calls _ _ _ W _) → Calls _ _ _ _ _ from fun h => h _ rfl) ?_); intro W3 hW3
    have g3 : Gr w W3 := by rw [hW3]; exact gr_auto
    have k3_0 : W3.cell? ⟨w.heap.size, 0, none⟩ = some (.slice A n c) := by rw [hW3]; first | (simp [go_sem, *]; done) | (refine Gr.at ?_ (by assumption); exact gr_auto)
    have b3_0 : w.heap.size < W3.heap.size := World.block_lt_of_cell? _ _ k3_0
    have k3_1 : W3.cell? ⟨w.heap.size, 1, none⟩ = some (.slice A2 n2 c2) := by rw [hW3]; first | (simp [go_sem, *]; done) | (refine Gr.at ?_ (by assumption); exact gr_auto)
    clear hW3
    have s3_0 : ∀ gw : GW W3, gw.1.cell? ⟨w.heap.size, 0, none⟩ = some (.slice A n c) := fun gw => Gr.at gw.2 k3_0
    have s3_1 : ∀ gw : GW W3, gw.1.cell? ⟨w.heap.size, 1, none⟩ = some (.slice A2 n2 c2) := fun gw => Gr.at gw.2 k3_1
    have HI4 := Lib.hid (fun gw : GW W3 => gw_call (HI.out gw.1 (g3.trans gw.2)))
    have HF4 := Lib.hid (fun gw : GW W3 => gw_call (HF.out gw.1))
    refine wp_region_gr (by kernel_rfl) (by kernel_rfl) ?_
    repeat (go_big_quiet_step ((first | (go_at_call 52; exact HI4.out _) | (go_at_call 49; exact HF4.out _))))
    refine wpQuiet_nil ?_
    intro w4 hb4
    clear s3_0 s3_1
    have g4 : Gr w w4 := g3.trans hb4
    have k3_0 := Gr.at hb4 k3_0
    have k3_1 := Gr.at hb4 k3_1
    go_wp2_with fail
    go_ret2
    exact ⟨rfl, gr_auto⟩
set_option maxRecDepth 100000 in
set_option maxHeartbeats 1000000 in
theorem linkno_any (N : Ba.SlNode) (L : Ba.SlLink) (t : ByteArray) (w : World) (hN : N.At w) (hL : L.At w) : Calls Tryz.prog 28 #[Ba.netVal N L, .string t] w fun e w' => e = .returned (.tuple #[.int .i64 (if Ba.netB N L = true then Ba.fnd (Ba.lix L t) else 0), .int .i64 (if Ba.netB N L = true then Ba.fndE (Ba.lix L t) else 1)]) ∧ Gr w w' := by
  have HV := Lib.hid (fun W (hg : Gr w W) => netvalid_any N L W (hN.gr hg) (hL.gr hg))
  have HI := Lib.hid (fun W (hg : Gr w W) => link_any L N.A N.n N.c t W (hL.gr hg))
  have HF := Lib.hid (fun W => found_any N L (Ba.lix L t) W)
  clear hN hL
  change Hid (∀ W, Gr w W → Calls _ _ _ W fun e w' => e = .returned (.int .i64 (Ba.lix L t)) ∧ Gr W w') at HI
  generalize Ba.lix L t = q at *
  cases h : Ba.netB N L
  · rw [if_neg (by decide), if_neg (by decide)]
    rw [h] at HV
    clear h HI HF
    unfold Ba.netVal at *
    go_enter Tryz.func28, Tryz.ntmps28
    go_wp2_with fail
    refine (HV.out _ gr_auto).mono ?_
    rintro e w1 ⟨rfl, hb1⟩
    go_wp2_with fail
    go_ret2
    exact ⟨rfl, gr_auto⟩
  · rw [if_pos rfl, if_pos rfl]
    rw [h] at HV
    clear h
    generalize Ba.fnd q = q1 at *; generalize Ba.fndE q = q2 at *
    unfold Ba.netVal at *
    generalize N.A = A at *; generalize N.n = n at *; generalize N.c = c at *
    generalize L.A = A2 at *; generalize L.n = n2 at *; generalize L.c = c2 at *
    go_enter Tryz.func28, Tryz.ntmps28
    go_wp2_with fail
    (first | refine name_world ?_ | refine (show (∀ W, W = _ → Calls _ _ _ W _) → Calls _ _ _ _ _ from fun h => h _ rfl) ?_); intro W1 hW1
    have g1 : Gr w W1 := by rw [hW1]; exact gr_auto
    have k1_0 : W1.cell? ⟨w.heap.size, 0, none⟩ = some (.slice A n c) := by rw [hW1]; first | (simp [go_sem, *]; done) | (refine Gr.at ?_ (by assumption); exact gr_auto)
    have b1_0 : w.heap.size < W1.heap.size := World.block_lt_of_cell? _ _ k1_0
    have k1_1 : W1.cell? ⟨w.heap.size, 1, none⟩ = some (.slice A2 n2 c2) := by rw [hW1]; first | (simp [go_sem, *]; done) | (refine Gr.at ?_ (by assumption); exact gr_auto)
    clear hW1
    refine (HV.out _ g1).mono ?_
    rintro e w2 ⟨rfl, hb2⟩
    have g2 := g1.trans hb2
    have k1_0 := Gr.at (w1 := w2) gr_auto k1_0; have k1_1 := Gr.at (w1 := w2) gr_auto k1_1
    go_wp2_with fail
    (first | refine name_world ?_ | refine (show (∀ W, W = _ → Calls _ _ _ W _) → Calls _ _ _ _ _ from fun h => h _ rfl) ?_); intro W3 hW3
    have g3 : Gr w W3 := by rw [hW3]; exact gr_auto
    have k3_0 : W3.cell? ⟨w.heap.size, 0, none⟩ = some (.slice A n c) := by rw [hW3]; first | (simp [go_sem, *]; done) | (refine Gr.at ?_ (by assumption); exact gr_auto)
    have b3_0 : w.heap.size < W3.heap.size := World.block_lt_of_cell? _ _ k3_0
    have k3_1 : W3.cell? ⟨w.heap.size, 1, none⟩ = some (.slice A2 n2 c2) := by rw [hW3]; first | (simp [go_sem, *]; done) | (refine Gr.at ?_ (by assumption); exact gr_auto)
    clear hW3
    have s3_0 : ∀ gw : GW W3, gw.1.cell? ⟨w.heap.size, 0, none⟩ = some (.slice A n c) := fun gw => Gr.at gw.2 k3_0
    have s3_1 : ∀ gw : GW W3, gw.1.cell? ⟨w.heap.size, 1, none⟩ = some (.slice A2 n2 c2) := fun gw => Gr.at gw.2 k3_1
    have HI4 := Lib.hid (fun gw : GW W3 => gw_call (HI.out gw.1 (g3.trans gw.2)))
    have HF4 := Lib.hid (fun gw : GW W3 => gw_call (HF.out gw.1))
    refine wp_region_gr (by kernel_rfl) (by kernel_rfl) ?_
    repeat (go_big_quiet_step ((first | (go_at_call 50; exact HI4.out _) | (go_at_call 49; exact HF4.out _))))
    refine wpQuiet_nil ?_
    intro w4 hb4
    clear s3_0 s3_1
    have g4 : Gr w w4 := g3.trans hb4
    have k3_0 := Gr.at hb4 k3_0
    have k3_1 := Gr.at hb4 k3_1
    go_wp2_with fail
    go_ret2
    exact ⟨rfl, gr_auto⟩
end Go.Proofs.YtkgbbcmgfbipaaaGreatDoor
