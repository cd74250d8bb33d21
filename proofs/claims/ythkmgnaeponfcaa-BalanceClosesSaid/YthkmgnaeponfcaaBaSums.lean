/-
  Sums: balance.sum, the reference's Sums and Held; network.found, Node, Link.
  Accounts: the plain words; the reference's Lost and Of. (Printed by mkof.py.)
  Accounts: the reference's Of. (Printed by mkofb.py.)
-/
import Derived.Test.YthkmgnaeponfcaaBaNetR
import Derived.Test.YthkmgnaeponfcaaBaKit
set_option linter.unusedVariables false
set_option linter.unusedSimpArgs false
namespace Go.Proofs.Ythkmgnaeponfcaa
open Go.RowKit
namespace Ba
/-- Numbers whose sums fit: at most 1000 of them, from 0 to 2^50. -/
def few (s : SlI) : Prop := s.n ≤ 1000 ∧ ∀ i, i < s.n → 0 ≤ s.X i ∧ s.X i ≤ 1125899906842624
theorem few_sum {s : SlI} (h : few s) {i : Nat} (hi : i ≤ s.n) : 0 ≤ sumI s.X i ∧ sumI s.X i ≤ 1125899906842624 * 1000 := by
  have := sumI_le (X := s.X) (n := i) fun j hj => h.2 j (by omega)
  have := h.1
  omega
end Ba
set_option maxRecDepth 100000 in
theorem sum_any (s : Ba.SlI) (w : World) (h : s.At w) (hf : Ba.few s) : Calls Try.prog 36 #[.slice s.A s.n s.c] w fun e w' => e = .returned (.int .i64 (Ba.sumI s.X s.n)) ∧ w = w' := by
  have hn := hf.1
  have HF := Lib.hid (fun (i : Nat) (hi : i ≤ s.n) => Ba.few_sum hf hi)
  have HE := Lib.hid hf.2
  have HA := Lib.hid h.hA; have HX := Lib.hid h.hX
  clear h hf
  obtain ⟨A, n, c, b, o, X⟩ := s
  simp only at *
  have HS := Lib.hid (fun (i : Nat) => show Ba.sumI X (i + 1) = Ba.sumI X i + X i from rfl)
  go_enter Try.func36, Try.ntmps36
  go_wp2_with fail
  go_loop [3, 8] (fun a q => ∃ i : Nat, i ≤ n ∧ q = .int .i64 (i : Int) ∧ a = .int .i64 (Ba.sumI X i)) (fun _ q => n - (intOf q).toNat)
  case atStart => exact ⟨0, Nat.zero_le _, rfl, rfl⟩
  case round =>
    obtain ⟨i, hi, rfl, rfl⟩ := hrel
    by_cases hlt : i < n
    · obtain rfl := HA.out (by omega)
      have v0 := (HX.out i hlt).1
      have e0 := HE.out i hlt
      have f0 := HF.out i hi
      have HT := Lib.hid (HS.out i)
      generalize Ba.sumI X i = a at *
      generalize X i = x at *
      clear HF HE HX HS
      go_wp2_with fail
      go_round
      case rel => exact ⟨i + 1, by omega, by go_num, by rw [HT.out]⟩
      case measure => simp [intOf]; omega
    · obtain rfl : i = n := by omega
      go_wp2_with fail
      go_ret
      exact ⟨rfl, rfl⟩
set_option maxRecDepth 100000 in
theorem rsum_any (s : Ba.SlI) (w : World) (h : s.At w) (hf : Ba.few s) : Calls Try.prog 38 #[.slice s.A s.n s.c] w fun e w' => e = .returned (.int .i64 (Ba.sumI s.X s.n)) ∧ w = w' := by
  have hn := hf.1
  have HF := Lib.hid (fun (i : Nat) (hi : i ≤ s.n) => Ba.few_sum hf hi)
  have HE := Lib.hid hf.2
  have HA := Lib.hid h.hA; have HX := Lib.hid h.hX
  clear h hf
  obtain ⟨A, n, c, b, o, X⟩ := s
  simp only at *
  have HS := Lib.hid (fun (i : Nat) => show Ba.sumI X (i + 1) = Ba.sumI X i + X i from rfl)
  go_enter Try.func38, Try.ntmps38
  go_wp2_with fail
  go_loop [3, 4] (fun a q => ∃ i : Nat, i ≤ n ∧ q = .int .i64 (i : Int) ∧ a = .int .i64 (Ba.sumI X i)) (fun _ q => n - (intOf q).toNat)
  case atStart => exact ⟨0, Nat.zero_le _, rfl, rfl⟩
  case round =>
    obtain ⟨i, hi, rfl, rfl⟩ := hrel
    by_cases hlt : i < n
    · obtain rfl := HA.out (by omega)
      have v0 := (HX.out i hlt).1
      have e0 := HE.out i hlt
      have f0 := HF.out i hi
      have HT := Lib.hid (HS.out i)
      generalize Ba.sumI X i = a at *
      generalize X i = x at *
      clear HF HE HX HS
      go_wp2_with fail
      go_round
      case rel => exact ⟨i + 1, by omega, by go_num, by rw [HT.out]⟩
      case measure => simp [intOf]; omega
    · obtain rfl : i = n := by omega
      go_wp2_with fail
      go_ret
      exact ⟨rfl, rfl⟩
/-- What a state holds. -/
def Ba.heldI (s : Ba.State) : Int := Ba.sumI (fun i => s.vs.X i + s.ps.X i) s.vs.n
set_option maxRecDepth 100000 in
set_option maxHeartbeats 1000000 in
theorem held_any (s : Ba.State) (w : World) (h : s.Ok w) (h1 : Ba.few s.vs) (h2 : Ba.few s.ps) (hz : s.ps.n = s.vs.n) : Calls Try.prog 37 #[s.val] w fun e w' => e = .returned (.int .i64 (Ba.heldI s)) ∧ Gr w w' := by
  have hn := h1.1
  have HF := Lib.hid (fun (i : Nat) (hi : i ≤ s.vs.n) => show 0 ≤ Ba.sumI (fun i => s.vs.X i + s.ps.X i) i ∧ Ba.sumI (fun i => s.vs.X i + s.ps.X i) i ≤ 2251799813685248 * 1000 by
    have := Ba.sumI_le (X := fun i => s.vs.X i + s.ps.X i) (lo := 0) (hi := 2251799813685248) (n := i) fun j hj => by have := h1.2 j (by omega); have := h2.2 j (by omega); omega
    omega)
  have HE := Lib.hid h1.2; have HD := Lib.hid h2.2
  have HA := Lib.hid h.1.hA; have HX := Lib.hid h.1.hX; have PA := Lib.hid h.2.1.hA; have PX := Lib.hid h.2.1.hX
  unfold Ba.heldI Ba.State.val
  clear h h1 h2
  obtain ⟨⟨A, n, c, b, o, X⟩, ⟨A2, n2, c2, b2, o2, Y⟩, ⟨A5, n5, c5, b5, o5, X5⟩, ⟨A6, n6, c6, b6, o6, X6⟩⟩ := s
  simp only at *
  obtain rfl := hz.symm
  have HS := Lib.hid (fun (i : Nat) => show Ba.sumI (fun i => X i + Y i) (i + 1) = Ba.sumI (fun i => X i + Y i) i + (X i + Y i) from rfl)
  go_enter Try.func37, Try.ntmps37
  go_wp2_with fail
  (first | refine name_world ?_ | refine (show (∀ W, W = _ → Calls _ _ _ W _) → Calls _ _ _ _ _ from fun h => h _ rfl) ?_); intro W0 hW0
  have g0 : Gr w W0 := by rw [hW0]; exact gr_auto
  have k0_0 : W0.cell? ⟨w.heap.size, 0, none⟩ = some (.slice A n c) := by rw [hW0]; first | (simp [go_sem, *]; done) | (refine Gr.at ?_ (by assumption); exact gr_auto)
  have b0_0 : w.heap.size < W0.heap.size := World.block_lt_of_cell? _ _ k0_0
  have k0_1 : W0.cell? ⟨w.heap.size, 1, none⟩ = some (.slice A2 n c2) := by rw [hW0]; first | (simp [go_sem, *]; done) | (refine Gr.at ?_ (by assumption); exact gr_auto)
  clear hW0
  go_loopw [3, 4] (fun a q wr => ∃ i : Nat, i ≤ n ∧ q = .int .i64 (i : Int) ∧ a = .int .i64 (Ba.sumI (fun i => X i + Y i) i) ∧ Gr W0 wr) (fun _ q _ => n - (intOf q).toNat)
  case atStart => exact ⟨0, Nat.zero_le _, rfl, rfl, Gr.refl _⟩
  case round =>
    obtain ⟨i, hi, rfl, rfl, hg⟩ := hrel
    have k0_0 := Gr.at (w1 := wr) gr_auto k0_0; have k0_1 := Gr.at (w1 := wr) gr_auto k0_1
    by_cases hlt : i < n
    · obtain rfl := HA.out (by omega); obtain rfl := PA.out (by omega)
      have v0 := Gr.at hg (Gr.at g0 (HX.out i hlt).1); have p0 := Gr.at hg (Gr.at g0 (PX.out i hlt).1)
      have e0 := HE.out i hlt; have d0 := HD.out i hlt
      have f0 := HF.out i hi
      have HT := Lib.hid (HS.out i)
      generalize Ba.sumI (fun i => X i + Y i) i = a at *
      generalize X i = x at *
      generalize Y i = y at *
      have ib0 : (0 : Int) ≤ (i : Int) := by omega
      have ib1 : (i : Int) < (n : Int) := by omega
      clear HF HE HD HX PX HS
      go_wp2_with fail
      go_quiet (fail)
      go_wp2_with fail
      go_roundw
      case rel => exact ⟨i + 1, by omega, by go_num, by rw [HT.out, ← Int.add_assoc], gr_auto⟩
      case measure => simp [intOf]; omega
    · obtain rfl : i = n := by omega
      go_wp2_with fail
      go_ret
      exact ⟨rfl, gr_auto⟩
namespace Ba
/-- What a look-up of a number answers: the number, and the error. -/
def fnd (i : Int) : Int := if i < 0 then 0 else i
def fndE (i : Int) : Int := if i < 0 then 9 else 0
end Ba
set_option maxRecDepth 100000 in
theorem found_any (N : Ba.SlNode) (L : Ba.SlLink) (i : Int) (w : World) : Calls Try.prog 62 #[Ba.netVal N L, .int .i64 i] w fun e w' => e = .returned (.tuple #[.int .i64 (Ba.fnd i), .int .i64 (Ba.fndE i)]) ∧ Gr w w' := by
  unfold Ba.fnd Ba.fndE Ba.netVal
  by_cases h : i < 0
  · rw [if_pos h, if_pos h]
    have t0 : decide (i < 0) = true := decide_eq_true h
    clear h
    go_enter Try.func62, Try.ntmps62
    go_wp2_with fail
    go_ret2
    exact ⟨rfl, gr_auto⟩
  · rw [if_neg h, if_neg h]
    have t0 : decide (i < 0) = false := decide_eq_false h
    clear h
    go_enter Try.func62, Try.ntmps62
    go_wp2_with fail
    go_ret2
    exact ⟨rfl, gr_auto⟩
set_option maxRecDepth 100000 in
set_option maxHeartbeats 1000000 in
theorem nodeno_any (N : Ba.SlNode) (L : Ba.SlLink) (t : ByteArray) (w : World) (hN : N.At w) (hL : L.At w) : Calls Try.prog 41 #[Ba.netVal N L, .string t] w fun e w' => e = .returned (.tuple #[.int .i64 (if Ba.netB N L = true then Ba.fnd (Ba.nix N t) else 0), .int .i64 (if Ba.netB N L = true then Ba.fndE (Ba.nix N t) else 1)]) ∧ Gr w w' := by
  have HV := Lib.hid (fun W (hg : Gr w W) => netvalid_any N L W (hN.gr hg) (hL.gr hg))
  have HI := Lib.hid (fun W (hg : Gr w W) => node_any N L.A L.n L.c t W (hN.gr hg))
  have HF := Lib.hid (fun W => found_any N L (Ba.nix N t) W)
  clear hN hL
  change Hid (∀ W, Gr w W → Calls _ _ _ W fun e w' => e = .returned (.int .i64 (Ba.nix N t)) ∧ Gr W w') at HI
  generalize Ba.nix N t = q at *
  cases h : Ba.netB N L
  · rw [if_neg (by decide), if_neg (by decide)]
    rw [h] at HV
    clear h HI HF
    unfold Ba.netVal at *
    go_enter Try.func41, Try.ntmps41
    go_wp2_with fail
    refine (HV.out _ gr_auto).mono ?_
    rintro e w1 ⟨rfl, hb1⟩
    go_wp2_with fail
    go_ret2
    exact ⟨rfl, gr_auto⟩
  · rw [if_pos rfl, if_pos rfl]
    rw [h] at HV
    clear h
    generalize Ba.fnd q = q1 at *; generalize Ba.fndE q = q2 at *
    unfold Ba.netVal at *
    generalize N.A = A at *; generalize N.n = n at *; generalize N.c = c at *
    generalize L.A = A2 at *; generalize L.n = n2 at *; generalize L.c = c2 at *
    go_enter Try.func41, Try.ntmps41
    go_wp2_with fail
    (first | refine name_world ?_ | refine (show (∀ W, W = _ → Calls _ _ _ W _) → Calls _ _ _ _ _ from fun h => h _ rfl) ?_); intro W1 hW1
    have g1 : Gr w W1 := by rw [hW1]; exact gr_auto
    have k1_0 : W1.cell? ⟨w.heap.size, 0, none⟩ = some (.slice A n c) := by rw [hW1]; first | (simp [go_sem, *]; done) | (refine Gr.at ?_ (by assumption); exact gr_auto)
    have b1_0 : w.heap.size < W1.heap.size := World.block_lt_of_cell? _ _ k1_0
    have k1_1 : W1.cell? ⟨w.heap.size, 1, none⟩ = some (.slice A2 n2 c2) := by rw [hW1]; first | (simp [go_sem, *]; done) | (refine Gr.at ?_ (by assumption); exact gr_auto)
    clear hW1
    refine (HV.out _ g1).mono ?_
    rintro e w2 ⟨rfl, hb2⟩
    have g2 := g1.trans hb2
    have k1_0 := Gr.at (w1 := w2) gr_auto k1_0; have k1_1 := Gr.at (w1 := w2) gr_auto k1_1
    go_wp2_with fail
    (first | refine name_world ?_ | refine (show (∀ W, W = _ → Calls _ _ _ W _) → Calls _ _ _ _ _ from fun h => h _ rfl) ?_); intro W3 hW3
    have g3 : Gr w W3 := by rw [hW3]; exact gr_auto
    have k3_0 : W3.cell? ⟨w.heap.size, 0, none⟩ = some (.slice A n c) := by rw [hW3]; first | (simp [go_sem, *]; done) | (refine Gr.at ?_ (by assumption); exact gr_auto)
    have b3_0 : w.heap.size < W3.heap.size := World.block_lt_of_cell? _ _ k3_0
    have k3_1 : W3.cell? ⟨w.heap.size, 1, none⟩ = some (.slice A2 n2 c2) := by rw [hW3]; first | (simp [go_sem, *]; done) | (refine Gr.at ?_ (by assumption); exact gr_auto)
    clear hW3
    have s3_0 : ∀ gw : GW W3, gw.1.cell? ⟨w.heap.size, 0, none⟩ = some (.slice A n c) := fun gw => Gr.at gw.2 k3_0
    have s3_1 : ∀ gw : GW W3, gw.1.cell? ⟨w.heap.size, 1, none⟩ = some (.slice A2 n2 c2) := fun gw => Gr.at gw.2 k3_1
    have HI4 := Lib.hid (fun gw : GW W3 => gw_call (HI.out gw.1 (g3.trans gw.2)))
    have HF4 := Lib.hid (fun gw : GW W3 => gw_call (HF.out gw.1))
    refine wp_region_gr (by kernel_rfl) (by kernel_rfl) ?_
    repeat (go_big_quiet_step ((first | (go_at_call 63; exact HI4.out _) | (go_at_call 62; exact HF4.out _))))
    refine wpQuiet_nil ?_
    intro w4 hb4
    clear s3_0 s3_1
    have g4 : Gr w w4 := g3.trans hb4
    have k3_0 := Gr.at hb4 k3_0
    have k3_1 := Gr.at hb4 k3_1
    go_wp2_with fail
    go_ret2
    exact ⟨rfl, gr_auto⟩
set_option maxRecDepth 100000 in
set_option maxHeartbeats 1000000 in
theorem linkno_any (N : Ba.SlNode) (L : Ba.SlLink) (t : ByteArray) (w : World) (hN : N.At w) (hL : L.At w) : Calls Try.prog 56 #[Ba.netVal N L, .string t] w fun e w' => e = .returned (.tuple #[.int .i64 (if Ba.netB N L = true then Ba.fnd (Ba.lix L t) else 0), .int .i64 (if Ba.netB N L = true then Ba.fndE (Ba.lix L t) else 1)]) ∧ Gr w w' := by
  have HV := Lib.hid (fun W (hg : Gr w W) => netvalid_any N L W (hN.gr hg) (hL.gr hg))
  have HI := Lib.hid (fun W (hg : Gr w W) => link_any L N.A N.n N.c t W (hL.gr hg))
  have HF := Lib.hid (fun W => found_any N L (Ba.lix L t) W)
  clear hN hL
  change Hid (∀ W, Gr w W → Calls _ _ _ W fun e w' => e = .returned (.int .i64 (Ba.lix L t)) ∧ Gr W w') at HI
  generalize Ba.lix L t = q at *
  cases h : Ba.netB N L
  · rw [if_neg (by decide), if_neg (by decide)]
    rw [h] at HV
    clear h HI HF
    unfold Ba.netVal at *
    go_enter Try.func56, Try.ntmps56
    go_wp2_with fail
    refine (HV.out _ gr_auto).mono ?_
    rintro e w1 ⟨rfl, hb1⟩
    go_wp2_with fail
    go_ret2
    exact ⟨rfl, gr_auto⟩
  · rw [if_pos rfl, if_pos rfl]
    rw [h] at HV
    clear h
    generalize Ba.fnd q = q1 at *; generalize Ba.fndE q = q2 at *
    unfold Ba.netVal at *
    generalize N.A = A at *; generalize N.n = n at *; generalize N.c = c at *
    generalize L.A = A2 at *; generalize L.n = n2 at *; generalize L.c = c2 at *
    go_enter Try.func56, Try.ntmps56
    go_wp2_with fail
    (first | refine name_world ?_ | refine (show (∀ W, W = _ → Calls _ _ _ W _) → Calls _ _ _ _ _ from fun h => h _ rfl) ?_); intro W1 hW1
    have g1 : Gr w W1 := by rw [hW1]; exact gr_auto
    have k1_0 : W1.cell? ⟨w.heap.size, 0, none⟩ = some (.slice A n c) := by rw [hW1]; first | (simp [go_sem, *]; done) | (refine Gr.at ?_ (by assumption); exact gr_auto)
    have b1_0 : w.heap.size < W1.heap.size := World.block_lt_of_cell? _ _ k1_0
    have k1_1 : W1.cell? ⟨w.heap.size, 1, none⟩ = some (.slice A2 n2 c2) := by rw [hW1]; first | (simp [go_sem, *]; done) | (refine Gr.at ?_ (by assumption); exact gr_auto)
    clear hW1
    refine (HV.out _ g1).mono ?_
    rintro e w2 ⟨rfl, hb2⟩
    have g2 := g1.trans hb2
    have k1_0 := Gr.at (w1 := w2) gr_auto k1_0; have k1_1 := Gr.at (w1 := w2) gr_auto k1_1
    go_wp2_with fail
    (first | refine name_world ?_ | refine (show (∀ W, W = _ → Calls _ _ _ W _) → Calls _ _ _ _ _ from fun h => h _ rfl) ?_); intro W3 hW3
    have g3 : Gr w W3 := by rw [hW3]; exact gr_auto
    have k3_0 : W3.cell? ⟨w.heap.size, 0, none⟩ = some (.slice A n c) := by rw [hW3]; first | (simp [go_sem, *]; done) | (refine Gr.at ?_ (by assumption); exact gr_auto)
    have b3_0 : w.heap.size < W3.heap.size := World.block_lt_of_cell? _ _ k3_0
    have k3_1 : W3.cell? ⟨w.heap.size, 1, none⟩ = some (.slice A2 n2 c2) := by rw [hW3]; first | (simp [go_sem, *]; done) | (refine Gr.at ?_ (by assumption); exact gr_auto)
    clear hW3
    have s3_0 : ∀ gw : GW W3, gw.1.cell? ⟨w.heap.size, 0, none⟩ = some (.slice A n c) := fun gw => Gr.at gw.2 k3_0
    have s3_1 : ∀ gw : GW W3, gw.1.cell? ⟨w.heap.size, 1, none⟩ = some (.slice A2 n2 c2) := fun gw => Gr.at gw.2 k3_1
    have HI4 := Lib.hid (fun gw : GW W3 => gw_call (HI.out gw.1 (g3.trans gw.2)))
    have HF4 := Lib.hid (fun gw : GW W3 => gw_call (HF.out gw.1))
    refine wp_region_gr (by kernel_rfl) (by kernel_rfl) ?_
    repeat (go_big_quiet_step ((first | (go_at_call 74; exact HI4.out _) | (go_at_call 62; exact HF4.out _))))
    refine wpQuiet_nil ?_
    intro w4 hb4
    clear s3_0 s3_1
    have g4 : Gr w w4 := g3.trans hb4
    have k3_0 := Gr.at hb4 k3_0
    have k3_1 := Gr.at hb4 k3_1
    go_wp2_with fail
    go_ret2
    exact ⟨rfl, gr_auto⟩
end Go.Proofs.Ythkmgnaeponfcaa
namespace Go.Proofs.Ythkmgnaeponfcaa
open Go.RowKit
namespace Ba
/-- The ends of a link. -/
def fx (N : SlNode) (L : SlLink) (k : Nat) : Nat := (nix N (L.D k).fr).toNat
def tx (N : SlNode) (L : SlLink) (k : Nat) : Nat := (nix N (L.D k).tt).toNat
/-- Is a node an outfall? -/
def isO (N : SlNode) (i : Nat) : Bool := (N.D i).kd == 3
/-- What a set loses: at its nodes, by links. -/
def ndL (N : SlNode) (m : Nat → Bool) (I : SlI) (i : Nat) : Int := if (m i && isO N i) = true then I.X i else 0
def lkL (N : SlNode) (L : SlLink) (m : Nat → Bool) (P : SlI) (k : Nat) : Int := if (m (tx N L k) && isO N (tx N L k)) = true then P.X k else 0
def lostI (N : SlNode) (L : SlLink) (m : Nat → Bool) (I P : SlI) : Int := sumI (ndL N m I) N.n + sumI (lkL N L m P) L.n
/-- What a node loses without its links; what a set does. -/
def hol (s1 s2 : State) (I : SlI) (i : Nat) : Int := s1.vs.X i + s1.ps.X i + I.X i - s2.vs.X i - s2.ps.X i
def ndT (m : Nat → Bool) (s1 s2 : State) (I : SlI) (i : Nat) : Int := if m i = true then hol s1 s2 I i else 0
/-- What comes over a link into a set, less what goes. -/
def lkT (N : SlNode) (L : SlLink) (m : Nat → Bool) (P : SlI) (k : Nat) : Int := if (m (tx N L k) && !m (fx N L k)) = true then P.X k else if (m (fx N L k) && !m (tx N L k)) = true then 0 - P.X k else 0
def resI (N : SlNode) (L : SlLink) (m : Nat → Bool) (s1 s2 : State) (I P : SlI) : Int := 0 - lostI N L m I P + sumI (ndT m s1 s2 I) N.n + sumI (lkT N L m P) L.n
theorem net_ends {N : SlNode} {L : SlLink} (h : netB N L = true) {k : Nat} (hk : k < L.n) : nix N (L.D k).fr = (fx N L k : Int) ∧ fx N L k < N.n ∧ nix N (L.D k).tt = (tx N L k : Int) ∧ tx N L k < N.n := by
  unfold netB at h
  simp only [Bool.and_eq_true] at h
  have h1 := allB_at h.2.2.2 hk
  unfold linkB at h1
  simp only [Bool.and_eq_true, decide_eq_true_eq] at h1
  obtain ⟨-, -, a, b, -⟩ := h1
  unfold fx tx
  rcases nix_cases N (L.D k).fr with e | ⟨i, hi, e, -⟩
  · omega
  rcases nix_cases N (L.D k).tt with f | ⟨j, hj, f, -⟩
  · omega
  rw [e, f]
  exact ⟨by simp, by simpa using hi, by simp, by simpa using hj⟩
/-- Numbers of a step: not many, and not too great. -/
structure Fine (N : SlNode) (L : SlLink) (s1 s2 : State) (I P : SlI) : Prop where
  net : netB N L = true
  nn : N.n ≤ 12
  ll : L.n ≤ 20
  i : I.n = N.n
  p : P.n = L.n
  v1 : s1.vs.n = N.n
  p1 : s1.ps.n = N.n
  v2 : s2.vs.n = N.n
  p2 : s2.ps.n = N.n
  bi : ∀ i, i < N.n → 0 ≤ I.X i ∧ I.X i ≤ 1125899906842624
  bp : ∀ i, i < L.n → 0 ≤ P.X i ∧ P.X i ≤ 9007199254740992
  bv1 : ∀ i, i < N.n → 0 ≤ s1.vs.X i ∧ s1.vs.X i ≤ 1125899906842624
  bp1 : ∀ i, i < N.n → 0 ≤ s1.ps.X i ∧ s1.ps.X i ≤ 1125899906842624
  bv2 : ∀ i, i < N.n → 0 ≤ s2.vs.X i ∧ s2.vs.X i ≤ 1125899906842624
  bp2 : ∀ i, i < N.n → 0 ≤ s2.ps.X i ∧ s2.ps.X i ≤ 1125899906842624
variable {N : SlNode} {L : SlLink} {s1 s2 : State} {I P : SlI} (F : Fine N L s1 s2 I P) (m : Nat → Bool)
include F
theorem Fine.ndL_le {i : Nat} (hi : i < N.n) : 0 ≤ ndL N m I i ∧ ndL N m I i ≤ 1125899906842624 := by
  have := F.bi i hi; unfold ndL; split <;> omega
theorem Fine.lkL_le {k : Nat} (hk : k < L.n) : 0 ≤ lkL N L m P k ∧ lkL N L m P k ≤ 9007199254740992 := by
  have := F.bp k hk; unfold lkL; split <;> omega
theorem Fine.ndL_sum {i : Nat} (hi : i ≤ N.n) : 0 ≤ sumI (ndL N m I) i ∧ sumI (ndL N m I) i ≤ 13510798882111488 := by
  have := sumI_le (X := ndL N m I) (n := i) fun j hj => F.ndL_le m (by omega)
  have := F.nn; omega
theorem Fine.lkL_sum {k : Nat} (hk : k ≤ L.n) : 0 ≤ sumI (lkL N L m P) k ∧ sumI (lkL N L m P) k ≤ 180143985094819840 := by
  have := sumI_le (X := lkL N L m P) (n := k) fun j hj => F.lkL_le m (by omega)
  have := F.ll; omega
theorem Fine.lost_le : 0 ≤ lostI N L m I P ∧ lostI N L m I P ≤ 193654783976931328 := by
  have := F.ndL_sum m (Nat.le_refl N.n); have := F.lkL_sum m (Nat.le_refl L.n); unfold lostI; omega
theorem Fine.hol_le {i : Nat} (hi : i < N.n) : -2251799813685248 ≤ hol s1 s2 I i ∧ hol s1 s2 I i ≤ 3377699720527872 := by
  have := F.bi i hi; have := F.bv1 i hi; have := F.bp1 i hi; have := F.bv2 i hi; have := F.bp2 i hi
  unfold hol; omega
theorem Fine.ndT_le {i : Nat} (hi : i < N.n) : -2251799813685248 ≤ ndT m s1 s2 I i ∧ ndT m s1 s2 I i ≤ 3377699720527872 := by
  have := F.hol_le hi; unfold ndT; split <;> omega
theorem Fine.ndT_sum {i : Nat} (hi : i ≤ N.n) : -27021597764222976 ≤ sumI (ndT m s1 s2 I) i ∧ sumI (ndT m s1 s2 I) i ≤ 40532396646334464 := by
  have := sumI_le (X := ndT m s1 s2 I) (n := i) fun j hj => F.ndT_le m (by omega)
  have := F.nn; omega
theorem Fine.lkT_le {k : Nat} (hk : k < L.n) : -9007199254740992 ≤ lkT N L m P k ∧ lkT N L m P k ≤ 9007199254740992 := by
  have := F.bp k hk; unfold lkT; split
  · omega
  · split <;> omega
theorem Fine.lkT_sum {k : Nat} (hk : k ≤ L.n) : -180143985094819840 ≤ sumI (lkT N L m P) k ∧ sumI (lkT N L m P) k ≤ 180143985094819840 := by
  have := sumI_le (X := lkT N L m P) (n := k) fun j hj => F.lkT_le m (by omega)
  have := F.ll; omega
end Ba

set_option maxRecDepth 100000 in
set_option maxHeartbeats 4000000 in
theorem rlost_any (N : Ba.SlNode) (L : Ba.SlLink) (s1 s2 : Ba.State) (I P : Ba.SlI) (M : Ba.SlB) (w : World) (F : Ba.Fine N L s1 s2 I P) (hN : N.At w) (hL : L.At w) (hI : I.At w) (hP : P.At w) (hM : M.At w) (hm : M.n = N.n) : Calls Try.prog 39 #[Ba.netVal N L, .slice M.A M.n M.c, .slice I.A I.n I.c, .slice P.A P.n P.c] w fun e w' => e = .returned (.int .i64 (Ba.lostI N L M.X I P)) ∧ Gr w w' := by
  have hn := F.nn; have hl := F.ll
  have HA := Lib.hid hN.hA; have HX := Lib.hid hN.hD; have KA := Lib.hid hL.hA; have KX := Lib.hid hL.hD
  have IA := Lib.hid hI.hA; have IX := Lib.hid hI.hX; have PA := Lib.hid hP.hA; have PX := Lib.hid hP.hX; have MA := Lib.hid hM.hA; have MX := Lib.hid hM.hX
  have HFR := Lib.hid (fun (k : Nat) (hk : k < L.n) W (hh : Gr w W) => show Calls Try.prog 15 #[Ba.netVal N L, .string (L.D k).fr] W fun e w' => e = .returned (.int .i64 (Ba.fx N L k : Nat)) ∧ Gr W w' from (Ba.net_ends F.net hk).1 ▸ rfindnode_any N L.A L.n L.c (L.D k).fr W (hN.gr hh))
  have HTT := Lib.hid (fun (k : Nat) (hk : k < L.n) W (hh : Gr w W) => show Calls Try.prog 15 #[Ba.netVal N L, .string (L.D k).tt] W fun e w' => e = .returned (.int .i64 (Ba.tx N L k : Nat)) ∧ Gr W w' from (Ba.net_ends F.net hk).2.2.1 ▸ rfindnode_any N L.A L.n L.c (L.D k).tt W (hN.gr hh))
  have HE := Lib.hid (fun (k : Nat) (hk : k < L.n) => Ba.net_ends F.net hk)
  have BI := Lib.hid F.bi; have BP := Lib.hid F.bp
  have i0 := F.i; have p0 := F.p
  have S1 := Lib.hid (fun (i : Nat) (hi : i ≤ N.n) => F.ndL_sum M.X hi)
  have S2 := Lib.hid (fun (k : Nat) (hk : k ≤ L.n) => F.lkL_sum M.X hk)
  clear F hN hL hI hP hM
  unfold Ba.netVal at *
  have N1 := Lib.hid (fun (i : Nat) => show Ba.sumI (Ba.ndL N M.X I) (i + 1) = Ba.sumI (Ba.ndL N M.X I) i + (if (M.X i && ((N.D i).kd == 3)) = true then I.X i else 0) from rfl)
  have N2 := Lib.hid (fun (k : Nat) => show Ba.sumI (Ba.lkL N L M.X P) (k + 1) = Ba.sumI (Ba.lkL N L M.X P) k + (if (M.X (Ba.tx N L k) && ((N.D (Ba.tx N L k)).kd == 3)) = true then P.X k else 0) from rfl)
  have HR := Lib.hid (show Ba.lostI N L M.X I P = Ba.sumI (Ba.ndL N M.X I) N.n + Ba.sumI (Ba.lkL N L M.X P) L.n from rfl)
  have HE2 := Lib.hid (fun (k : Nat) (hk : k < L.n) => (HE.out k hk).2.2.2)
  clear HE
  clear HFR
  have hz1 : Ba.sumI (Ba.ndL N M.X I) 0 = 0 := rfl
  have hz2 : Ba.sumI (Ba.lkL N L M.X P) 0 = 0 := rfl
  generalize Ba.lostI N L M.X I P = r at *
  generalize Ba.sumI (Ba.ndL N M.X I) = f1 at *
  generalize Ba.sumI (Ba.lkL N L M.X P) = f2 at *
  have z1 := Lib.hid (And.intro hz1 hz2)
  clear hz1 hz2
  generalize Ba.tx N L = t at *
  obtain ⟨A, n, c, b, o, D⟩ := N
  obtain ⟨A2, l, c2, b2, o2, E⟩ := L
  obtain ⟨A3, n3, c3, b3, o3, X⟩ := I
  obtain ⟨A4, n4, c4, b4, o4, Y⟩ := P
  obtain ⟨A5, n5, c5, b5, o5, M⟩ := M
  simp only at *
  obtain rfl := i0.symm; obtain rfl := p0.symm; obtain rfl := hm.symm
  go_enter Try.func39, Try.ntmps39
  go_wp2_with fail
  (first | refine name_world ?_ | refine (show (∀ W, W = _ → Calls _ _ _ W _) → Calls _ _ _ _ _ from fun h => h _ rfl) ?_); intro W0 hW0
  have g0 : Gr w W0 := by rw [hW0]; exact gr_auto
  have k0_0 : W0.cell? ⟨w.heap.size, 0, none⟩ = some (.slice A n c) := by rw [hW0]; first | (simp [go_sem, *]; done) | (refine Gr.at ?_ (by assumption); exact gr_auto)
  have b0_0 : w.heap.size < W0.heap.size := World.block_lt_of_cell? _ _ k0_0
  have k0_1 : W0.cell? ⟨w.heap.size, 1, none⟩ = some (.slice A2 l c2) := by rw [hW0]; first | (simp [go_sem, *]; done) | (refine Gr.at ?_ (by assumption); exact gr_auto)
  clear hW0
  go_loopw [9, 10] (fun a q wr => ∃ i : Nat, i ≤ n ∧ q = .int .i64 (i : Int) ∧ a = .int .i64 (f1 i) ∧ Gr W0 wr) (fun _ q _ => n - (intOf q).toNat)
  case atStart => exact ⟨0, Nat.zero_le _, rfl, by rw [z1.out.1], Gr.refl _⟩
  case round =>
    obtain ⟨i, hi, rfl, rfl, hg⟩ := hrel
    have k0_0 := Gr.at (w1 := wr) gr_auto k0_0; have k0_1 := Gr.at (w1 := wr) gr_auto k0_1
    by_cases hlt : i < n
    · obtain rfl := HA.out (by omega); obtain rfl := IA.out (by omega); obtain rfl := MA.out (by omega)
      have a1 := ((HX.out i hlt).1.gr (g0.trans hg)).2.1
      have v0 := Gr.at (g0.trans hg) (IX.out i hlt).1
      have m0 := Gr.at (g0.trans hg) (MX.out i hlt)
      have e0 := BI.out i hlt
      have s0 := S1.out i hi
      have HT := Lib.hid (N1.out i)
      generalize f1 i = a at *
      generalize X i = x at *
      generalize (D i).kd = kd at *
      have ib0 : (0 : Int) ≤ (i : Int) := by omega
      have ib1 : (i : Int) < (n : Int) := by omega
      clear BI S1 N1 IX MX HX BP S2 N2 KX PX HTT HE2
      generalize M i = q at *
      cases q
      · rw [if_neg (by simp), Int.add_zero] at HT
        go_wp2_with fail
        go_roundw
        case rel => exact ⟨i + 1, by omega, by go_num, by rw [HT.out], gr_auto⟩
        case measure => simp [intOf]; omega
      cases t0 : (kd == 3)
      · rw [t0, if_neg (by simp), Int.add_zero] at HT
        go_wp2_with fail
        go_roundw
        case rel => exact ⟨i + 1, by omega, by go_num, by rw [HT.out], gr_auto⟩
        case measure => simp [intOf]; omega
      · rw [t0, if_pos (show (true && true) = true from rfl)] at HT
        go_wp2_with fail
        go_roundw
        case rel => exact ⟨i + 1, by omega, by go_num, by rw [HT.out], gr_auto⟩
        case measure => simp [intOf]; omega
    · obtain rfl : i = n := by omega
      have s1 := S1.out i (Nat.le_refl _)
      generalize f1 i = a at *
      clear BI S1 N1 IX hlt hi
      have gx := g0.trans hg
      clear g0 hg
      go_wp2_with fail
      (first | refine name_world ?_ | refine (show (∀ W, W = _ → Calls _ _ _ W _) → Calls _ _ _ _ _ from fun h => h _ rfl) ?_); intro W1 hW1
      have g1 : Gr w W1 := by rw [hW1]; exact gr_auto
      have k1_0 : W1.cell? ⟨w.heap.size, 0, none⟩ = some (.slice A i c) := by rw [hW1]; first | (simp [go_sem, *]; done) | (refine Gr.at ?_ (by assumption); exact gr_auto)
      have b1_0 : w.heap.size < W1.heap.size := World.block_lt_of_cell? _ _ k1_0
      have k1_1 : W1.cell? ⟨w.heap.size, 1, none⟩ = some (.slice A2 l c2) := by rw [hW1]; first | (simp [go_sem, *]; done) | (refine Gr.at ?_ (by assumption); exact gr_auto)
      clear hW1
      clear k0_0 k0_1 gx
      go_loopw [9, 11] (fun u q wr => ∃ k : Nat, k ≤ l ∧ q = .int .i64 (k : Int) ∧ u = .int .i64 (a + f2 k) ∧ Gr W1 wr) (fun _ q _ => l - (intOf q).toNat)
      case atStart => exact ⟨0, Nat.zero_le _, rfl, by rw [z1.out.2, Int.add_zero], Gr.refl _⟩
      case round =>
        obtain ⟨k, hk, rfl, rfl, hg⟩ := hrel
        have k1_0 := Gr.at (w1 := wr) gr_auto k1_0; have k1_1 := Gr.at (w1 := wr) gr_auto k1_1
        by_cases hlt : k < l
        · obtain rfl := KA.out (by omega); obtain rfl := PA.out (by omega)
          have et := HE2.out k hlt
          obtain rfl := HA.out (by omega); obtain rfl := MA.out (by omega)
          have g2 := g1.trans hg
          have l2 := ((KX.out k hlt).1.gr g2).2.2.1
          have v0 := Gr.at g2 (PX.out k hlt).1
          have a1 := ((HX.out (t k) et).1.gr g2).2.1
          have m0 := Gr.at g2 (MX.out (t k) et)
          have e0 := BP.out k hlt
          have s0 := S2.out k hk
          have HT := Lib.hid (N2.out k)
          have HF := Lib.hid (HTT.out k hlt)
          clear BP S2 N2 KX PX HTT HE2 HX MX
          generalize f2 k = u at *
          generalize Y k = x at *
          generalize t k = j at *
          generalize (D j).kd = kd at *
          generalize (E k).tt = nm at *
          have ib0 : (0 : Int) ≤ (k : Int) := by omega
          have ib1 : (k : Int) < (l : Int) := by omega
          have ib2 : (0 : Int) ≤ (j : Int) := by omega
          have ib3 : (j : Int) < (i : Int) := by omega
          generalize M j = q at *
          go_wp2_with fail
          (first | refine name_world ?_ | refine (show (∀ W, W = _ → Calls _ _ _ W _) → Calls _ _ _ _ _ from fun h => h _ rfl) ?_); intro W3 hW3
          have g3 : Gr w W3 := by rw [hW3]; exact gr_auto
          have gb3_W1 : Gr W1 W3 := by (try clear g3); rw [hW3]; exact gr_auto
          have k3_0 : W3.cell? ⟨w.heap.size, 0, none⟩ = some (.slice (some ⟨b, o, none⟩) i c) := by rw [hW3]; first | (simp [go_sem, *]; done) | (refine Gr.at ?_ (by assumption); exact gr_auto)
          have b3_0 : w.heap.size < W3.heap.size := World.block_lt_of_cell? _ _ k3_0
          have k3_1 : W3.cell? ⟨w.heap.size, 1, none⟩ = some (.slice (some ⟨b2, o2, none⟩) l c2) := by rw [hW3]; first | (simp [go_sem, *]; done) | (refine Gr.at ?_ (by assumption); exact gr_auto)
          have k3_2 : W3.cell? ⟨b2, o2 + k * 11 + 2, none⟩ = some (.string nm) := by rw [hW3]; first | (simp [go_sem, *]; done) | (refine Gr.at ?_ (by assumption); exact gr_auto)
          have b3_2 : b2 < W3.heap.size := World.block_lt_of_cell? _ _ k3_2
          have k3_3 : W3.cell? ⟨b4, o4 + k, none⟩ = some (.int .i64 x) := by rw [hW3]; first | (simp [go_sem, *]; done) | (refine Gr.at ?_ (by assumption); exact gr_auto)
          have b3_3 : b4 < W3.heap.size := World.block_lt_of_cell? _ _ k3_3
          have k3_4 : W3.cell? ⟨b, o + j * 9 + 1, none⟩ = some (.int .i64 kd) := by rw [hW3]; first | (simp [go_sem, *]; done) | (refine Gr.at ?_ (by assumption); exact gr_auto)
          have b3_4 : b < W3.heap.size := World.block_lt_of_cell? _ _ k3_4
          have k3_5 : W3.cell? ⟨b5, o5 + j, none⟩ = some (.bool q) := by rw [hW3]; first | (simp [go_sem, *]; done) | (refine Gr.at ?_ (by assumption); exact gr_auto)
          have b3_5 : b5 < W3.heap.size := World.block_lt_of_cell? _ _ k3_5
          clear hW3
          have s3_0 : ∀ gw : GW W3, gw.1.cell? ⟨w.heap.size, 0, none⟩ = some (.slice (some ⟨b, o, none⟩) i c) := fun gw => Gr.at gw.2 k3_0
          have s3_1 : ∀ gw : GW W3, gw.1.cell? ⟨w.heap.size, 1, none⟩ = some (.slice (some ⟨b2, o2, none⟩) l c2) := fun gw => Gr.at gw.2 k3_1
          have s3_2 : ∀ gw : GW W3, gw.1.cell? ⟨b2, o2 + k * 11 + 2, none⟩ = some (.string nm) := fun gw => Gr.at gw.2 k3_2
          have s3_3 : ∀ gw : GW W3, gw.1.cell? ⟨b4, o4 + k, none⟩ = some (.int .i64 x) := fun gw => Gr.at gw.2 k3_3
          have s3_4 : ∀ gw : GW W3, gw.1.cell? ⟨b, o + j * 9 + 1, none⟩ = some (.int .i64 kd) := fun gw => Gr.at gw.2 k3_4
          have s3_5 : ∀ gw : GW W3, gw.1.cell? ⟨b5, o5 + j, none⟩ = some (.bool q) := fun gw => Gr.at gw.2 k3_5
          have HF4 := Lib.hid (fun gw : GW W3 => gw_call (HF.out gw.1 (g3.trans gw.2)))
          refine wp_region_gr (by kernel_rfl) (by kernel_rfl) ?_
          repeat (go_big_quiet_step ((go_at_call 15; exact HF4.out _)))
          refine wpQuiet_nil ?_
          intro w4 hb4
          clear s3_0 s3_1 s3_2 s3_3 s3_4 s3_5
          have g4 : Gr w w4 := g3.trans hb4
          have k3_0 := Gr.at hb4 k3_0
          have k3_1 := Gr.at hb4 k3_1
          have k3_2 := Gr.at hb4 k3_2
          have k3_3 := Gr.at hb4 k3_3
          have k3_4 := Gr.at hb4 k3_4
          have k3_5 := Gr.at hb4 k3_5
          clear g2 g3
          cases q
          · rw [if_neg (by simp), Int.add_zero] at HT
            go_wp2_with fail
            go_roundw
            case rel => exact ⟨k + 1, by omega, by go_num, by rw [HT.out], gb3_W1.trans hb4⟩
            case measure => simp [intOf]; omega
          cases t0 : (kd == 3)
          · rw [t0, if_neg (by simp), Int.add_zero] at HT
            go_wp2_with fail
            go_roundw
            case rel => exact ⟨k + 1, by omega, by go_num, by rw [HT.out], gb3_W1.trans hb4⟩
            case measure => simp [intOf]; omega
          · rw [t0, if_pos (show (true && true) = true from rfl)] at HT
            go_wp2_with fail
            go_roundw
            case rel => exact ⟨k + 1, by omega, by go_num, by rw [HT.out, ← Int.add_assoc], gb3_W1.trans hb4⟩
            case measure => simp [intOf]; omega
        · obtain rfl : k = l := by omega
          go_wp2_with fail
          go_ret
          exact ⟨ret_int HR.out.symm, g1.trans hg⟩

end Go.Proofs.Ythkmgnaeponfcaa
namespace Go.Proofs.Ythkmgnaeponfcaa
open Go.RowKit
theorem int_eq {a b : Int} (h : a = b) : Value.int .i64 a = Value.int .i64 b := by rw [h]

set_option maxRecDepth 100000 in
set_option maxHeartbeats 8000000 in
theorem rof_any (N : Ba.SlNode) (L : Ba.SlLink) (s1 s2 : Ba.State) (I P : Ba.SlI) (M : Ba.SlB) (w : World) (F : Ba.Fine N L s1 s2 I P) (hN : N.At w) (hL : L.At w) (hI : I.At w) (hP : P.At w) (hM : M.At w) (hm : M.n = N.n) (h1 : s1.Ok w) (h2 : s2.Ok w) : Calls Try.prog 43 #[Ba.netVal N L, .slice M.A M.n M.c, s1.val, s2.val, .slice I.A I.n I.c, .slice P.A P.n P.c] w fun e w' => e = .returned (.int .i64 (Ba.resI N L M.X s1 s2 I P)) ∧ Gr w w' := by
  have hn := F.nn; have hl := F.ll
  have HA := Lib.hid hN.hA; have HX := Lib.hid hN.hD; have KA := Lib.hid hL.hA; have KX := Lib.hid hL.hD
  have IA := Lib.hid hI.hA; have IX := Lib.hid hI.hX; have PA := Lib.hid hP.hA; have PX := Lib.hid hP.hX; have MA := Lib.hid hM.hA; have MX := Lib.hid hM.hX
  have HFR := Lib.hid (fun (k : Nat) (hk : k < L.n) W (hh : Gr w W) => show Calls Try.prog 15 #[Ba.netVal N L, .string (L.D k).fr] W fun e w' => e = .returned (.int .i64 (Ba.fx N L k : Nat)) ∧ Gr W w' from (Ba.net_ends F.net hk).1 ▸ rfindnode_any N L.A L.n L.c (L.D k).fr W (hN.gr hh))
  have HTT := Lib.hid (fun (k : Nat) (hk : k < L.n) W (hh : Gr w W) => show Calls Try.prog 15 #[Ba.netVal N L, .string (L.D k).tt] W fun e w' => e = .returned (.int .i64 (Ba.tx N L k : Nat)) ∧ Gr W w' from (Ba.net_ends F.net hk).2.2.1 ▸ rfindnode_any N L.A L.n L.c (L.D k).tt W (hN.gr hh))
  have HE := Lib.hid (fun (k : Nat) (hk : k < L.n) => Ba.net_ends F.net hk)
  have BI := Lib.hid F.bi; have BP := Lib.hid F.bp
  have HLO := Lib.hid (fun W (hh : Gr w W) => rlost_any N L s1 s2 I P M W F (hN.gr hh) (hL.gr hh) (hI.gr hh) (hP.gr hh) (hM.gr hh) hm)
  have V1 := Lib.hid h1.1.hA; have X1 := Lib.hid h1.1.hX; have Q1 := Lib.hid h1.2.1.hA; have Y1 := Lib.hid h1.2.1.hX
  have V2 := Lib.hid h2.1.hA; have X2 := Lib.hid h2.1.hX; have Q2 := Lib.hid h2.2.1.hA; have Y2 := Lib.hid h2.2.1.hX
  have i0 := F.i; have p0 := F.p; have z1 := F.v1; have z2 := F.p1; have z3 := F.v2; have z4 := F.p2
  have B1 := Lib.hid F.bv1; have B2 := Lib.hid F.bp1; have B3 := Lib.hid F.bv2; have B4 := Lib.hid F.bp2
  have LO := F.lost_le M.X
  have S1 := Lib.hid (fun (i : Nat) (hi : i ≤ N.n) => F.ndT_sum M.X hi)
  have S2 := Lib.hid (fun (k : Nat) (hk : k ≤ L.n) => F.lkT_sum M.X hk)
  clear F hN hL hI hP hM h1 h2
  unfold Ba.netVal Ba.State.val at *
  have N1 := Lib.hid (fun (i : Nat) => show Ba.sumI (Ba.ndT M.X s1 s2 I) (i + 1) = Ba.sumI (Ba.ndT M.X s1 s2 I) i + (if M.X i = true then s1.vs.X i + s1.ps.X i + I.X i - s2.vs.X i - s2.ps.X i else 0) from rfl)
  have N2 := Lib.hid (fun (k : Nat) => show Ba.sumI (Ba.lkT N L M.X P) (k + 1) = Ba.sumI (Ba.lkT N L M.X P) k + (if (M.X (Ba.tx N L k) && !M.X (Ba.fx N L k)) = true then P.X k else if (M.X (Ba.fx N L k) && !M.X (Ba.tx N L k)) = true then 0 - P.X k else 0) from rfl)
  have HR := Lib.hid (show Ba.resI N L M.X s1 s2 I P = 0 - Ba.lostI N L M.X I P + Ba.sumI (Ba.ndT M.X s1 s2 I) N.n + Ba.sumI (Ba.lkT N L M.X P) L.n from rfl)
  have HE2 := Lib.hid (fun (k : Nat) (hk : k < L.n) => (HE.out k hk).2.2.2)
  have HE1 := Lib.hid (fun (k : Nat) (hk : k < L.n) => (HE.out k hk).2.1)
  clear HE
  generalize Ba.resI N L M.X s1 s2 I P = r at *
  have hz1 : Ba.sumI (Ba.ndT M.X s1 s2 I) 0 = 0 := rfl
  have hz2 : Ba.sumI (Ba.lkT N L M.X P) 0 = 0 := rfl
  generalize Ba.lostI N L M.X I P = lo at *
  generalize Ba.sumI (Ba.ndT M.X s1 s2 I) = f1 at *
  generalize Ba.sumI (Ba.lkT N L M.X P) = f2 at *
  have zz := Lib.hid (And.intro hz1 hz2)
  clear hz1 hz2
  generalize Ba.tx N L = t at *
  generalize Ba.fx N L = f at *
  obtain ⟨A, n, c, b, o, D⟩ := N
  obtain ⟨A2, l, c2, b2, o2, E⟩ := L
  obtain ⟨A3, n3, c3, b3, o3, X⟩ := I
  obtain ⟨A4, n4, c4, b4, o4, Y⟩ := P
  obtain ⟨A5, n5, c5, b5, o5, M⟩ := M
  simp only at *
  obtain ⟨⟨VA, vn, vc, bv, ov, XV⟩, ⟨QA, qn, qc, bq, oq, XQ⟩, ⟨SA, sn, sc, bs, os, XS⟩, ⟨OA, on', oc, bo, oo, XO⟩⟩ := s1
  obtain ⟨⟨VB, um, uc, bu, ou, XU⟩, ⟨QB, rm, rc, br, or', XR⟩, ⟨SB, sm, sd, bt, ot, XT⟩, ⟨OB, om, od, bp, op', XP⟩⟩ := s2
  simp only at *
  obtain rfl := i0.symm; obtain rfl := p0.symm; obtain rfl := hm.symm; obtain rfl := z1.symm; obtain rfl := z2.symm; obtain rfl := z3.symm; obtain rfl := z4.symm
  go_enter Try.func43, Try.ntmps43
  go_wp2_with fail
  (first | refine name_world ?_ | refine (show (∀ W, W = _ → Calls _ _ _ W _) → Calls _ _ _ _ _ from fun h => h _ rfl) ?_); intro W5 hW5
  have g5 : Gr w W5 := by rw [hW5]; exact gr_auto
  have k5_0 : W5.cell? ⟨w.heap.size, 0, none⟩ = some (.slice A n c) := by rw [hW5]; first | (simp [go_sem, *]; done) | (refine Gr.at ?_ (by assumption); exact gr_auto)
  have b5_0 : w.heap.size < W5.heap.size := World.block_lt_of_cell? _ _ k5_0
  have k5_1 : W5.cell? ⟨w.heap.size, 1, none⟩ = some (.slice A2 l c2) := by rw [hW5]; first | (simp [go_sem, *]; done) | (refine Gr.at ?_ (by assumption); exact gr_auto)
  have k5_2 : W5.cell? ⟨w.heap.size + 1, 0, none⟩ = some (.slice VA n vc) := by rw [hW5]; first | (simp [go_sem, *]; done) | (refine Gr.at ?_ (by assumption); exact gr_auto)
  have b5_2 : w.heap.size + 1 < W5.heap.size := World.block_lt_of_cell? _ _ k5_2
  have k5_3 : W5.cell? ⟨w.heap.size + 1, 1, none⟩ = some (.slice QA n qc) := by rw [hW5]; first | (simp [go_sem, *]; done) | (refine Gr.at ?_ (by assumption); exact gr_auto)
  have k5_4 : W5.cell? ⟨w.heap.size + 2, 0, none⟩ = some (.slice VB n uc) := by rw [hW5]; first | (simp [go_sem, *]; done) | (refine Gr.at ?_ (by assumption); exact gr_auto)
  have b5_4 : w.heap.size + 2 < W5.heap.size := World.block_lt_of_cell? _ _ k5_4
  have k5_5 : W5.cell? ⟨w.heap.size + 2, 1, none⟩ = some (.slice QB n rc) := by rw [hW5]; first | (simp [go_sem, *]; done) | (refine Gr.at ?_ (by assumption); exact gr_auto)
  clear hW5
  refine (HLO.out _ g5).mono ?_
  rintro e w6 ⟨rfl, hb6⟩
  have g6 := g5.trans hb6
  have k5_0 := Gr.at (w1 := w6) gr_auto k5_0; have k5_1 := Gr.at (w1 := w6) gr_auto k5_1; have k5_2 := Gr.at (w1 := w6) gr_auto k5_2; have k5_3 := Gr.at (w1 := w6) gr_auto k5_3; have k5_4 := Gr.at (w1 := w6) gr_auto k5_4; have k5_5 := Gr.at (w1 := w6) gr_auto k5_5
  go_wp2_with fail
  clear HLO
  (first | refine name_world ?_ | refine (show (∀ W, W = _ → Calls _ _ _ W _) → Calls _ _ _ _ _ from fun h => h _ rfl) ?_); intro W0 hW0
  have g0 : Gr w W0 := by rw [hW0]; exact gr_auto
  have k0_0 : W0.cell? ⟨w.heap.size, 0, none⟩ = some (.slice A n c) := by rw [hW0]; first | (simp [go_sem, *]; done) | (refine Gr.at ?_ (by assumption); exact gr_auto)
  have b0_0 : w.heap.size < W0.heap.size := World.block_lt_of_cell? _ _ k0_0
  have k0_1 : W0.cell? ⟨w.heap.size, 1, none⟩ = some (.slice A2 l c2) := by rw [hW0]; first | (simp [go_sem, *]; done) | (refine Gr.at ?_ (by assumption); exact gr_auto)
  have k0_2 : W0.cell? ⟨w.heap.size + 1, 0, none⟩ = some (.slice VA n vc) := by rw [hW0]; first | (simp [go_sem, *]; done) | (refine Gr.at ?_ (by assumption); exact gr_auto)
  have b0_2 : w.heap.size + 1 < W0.heap.size := World.block_lt_of_cell? _ _ k0_2
  have k0_3 : W0.cell? ⟨w.heap.size + 1, 1, none⟩ = some (.slice QA n qc) := by rw [hW0]; first | (simp [go_sem, *]; done) | (refine Gr.at ?_ (by assumption); exact gr_auto)
  have k0_4 : W0.cell? ⟨w.heap.size + 2, 0, none⟩ = some (.slice VB n uc) := by rw [hW0]; first | (simp [go_sem, *]; done) | (refine Gr.at ?_ (by assumption); exact gr_auto)
  have b0_4 : w.heap.size + 2 < W0.heap.size := World.block_lt_of_cell? _ _ k0_4
  have k0_5 : W0.cell? ⟨w.heap.size + 2, 1, none⟩ = some (.slice QB n rc) := by rw [hW0]; first | (simp [go_sem, *]; done) | (refine Gr.at ?_ (by assumption); exact gr_auto)
  clear hW0
  clear k5_0 k5_1 k5_2 k5_3 k5_4 k5_5 g6 hb6 g5
  go_loopw [13, 14] (fun a q wr => ∃ i : Nat, i ≤ n ∧ q = .int .i64 (i : Int) ∧ a = .int .i64 (0 - lo + f1 i) ∧ Gr W0 wr) (fun _ q _ => n - (intOf q).toNat)
  case atStart => exact ⟨0, Nat.zero_le _, rfl, by rw [zz.out.1]; simp, Gr.refl _⟩
  case round =>
    obtain ⟨i, hi, rfl, rfl, hg⟩ := hrel
    have k0_0 := Gr.at (w1 := wr) gr_auto k0_0; have k0_1 := Gr.at (w1 := wr) gr_auto k0_1; have k0_2 := Gr.at (w1 := wr) gr_auto k0_2; have k0_3 := Gr.at (w1 := wr) gr_auto k0_3; have k0_4 := Gr.at (w1 := wr) gr_auto k0_4; have k0_5 := Gr.at (w1 := wr) gr_auto k0_5
    by_cases hlt : i < n
    · obtain rfl := HA.out (by omega); obtain rfl := IA.out (by omega); obtain rfl := MA.out (by omega); obtain rfl := V1.out (by omega); obtain rfl := Q1.out (by omega); obtain rfl := V2.out (by omega); obtain rfl := Q2.out (by omega)
      have g1 := g0.trans hg
      have v0 := Gr.at g1 (IX.out i hlt).1; have v1 := Gr.at g1 (X1.out i hlt).1; have v2 := Gr.at g1 (Y1.out i hlt).1; have v3 := Gr.at g1 (X2.out i hlt).1; have v4 := Gr.at g1 (Y2.out i hlt).1
      have m0 := Gr.at g1 (MX.out i hlt)
      have e0 := BI.out i hlt; have e1 := B1.out i hlt; have e2 := B2.out i hlt; have e3 := B3.out i hlt; have e4 := B4.out i hlt
      have s0 := S1.out i hi
      have HT := Lib.hid (N1.out i)
      clear BI S1 N1 IX MX HX BP S2 N2 KX PX HTT HE1 HE2 HFR X1 Y1 X2 Y2 B1 B2 B3 B4 HR zz
      generalize f1 i = a at *
      generalize X i = x0 at *
      generalize XV i = x1 at *
      generalize XQ i = x2 at *
      generalize XU i = x3 at *
      generalize XR i = x4 at *
      have ib0 : (0 : Int) ≤ (i : Int) := by omega
      have ib1 : (i : Int) < (n : Int) := by omega
      generalize M i = q at *
      cases q
      · rw [if_neg (by simp), Int.add_zero] at HT
        go_wp2_with fail
        go_roundw
        case rel => exact ⟨i + 1, by omega, by go_num, by rw [HT.out], gr_auto⟩
        case measure => simp [intOf]; omega
      · rw [if_pos rfl] at HT
        go_wp2_with fail
        go_quiet (fail)
        go_wp2_with fail
        go_roundw
        case rel => exact ⟨i + 1, by omega, by go_num, by rw [HT.out]; exact int_eq (by omega), gr_auto⟩
        case measure => simp [intOf]; omega
    · obtain rfl : i = n := by omega
      have s1 := S1.out i (Nat.le_refl _)
      generalize f1 i = a at *
      clear BI S1 N1 IX hlt hi X1 Y1 X2 Y2 B1 B2 B3 B4 V1 V2 Q1 Q2
      have gx := g0.trans hg
      clear g0 hg
      go_wp2_with fail
      (first | refine name_world ?_ | refine (show (∀ W, W = _ → Calls _ _ _ W _) → Calls _ _ _ _ _ from fun h => h _ rfl) ?_); intro W1 hW1
      have g1 : Gr w W1 := by rw [hW1]; exact gr_auto
      have k1_0 : W1.cell? ⟨w.heap.size, 0, none⟩ = some (.slice A i c) := by rw [hW1]; first | (simp [go_sem, *]; done) | (refine Gr.at ?_ (by assumption); exact gr_auto)
      have b1_0 : w.heap.size < W1.heap.size := World.block_lt_of_cell? _ _ k1_0
      have k1_1 : W1.cell? ⟨w.heap.size, 1, none⟩ = some (.slice A2 l c2) := by rw [hW1]; first | (simp [go_sem, *]; done) | (refine Gr.at ?_ (by assumption); exact gr_auto)
      clear hW1
      clear k0_0 k0_1 k0_2 k0_3 k0_4 k0_5 gx
      go_loopw [13, 15] (fun u q wr => ∃ k : Nat, k ≤ l ∧ q = .int .i64 (k : Int) ∧ u = .int .i64 (0 - lo + a + f2 k) ∧ Gr W1 wr) (fun _ q _ => l - (intOf q).toNat)
      case atStart => exact ⟨0, Nat.zero_le _, rfl, by rw [zz.out.2]; simp, Gr.refl _⟩
      case round =>
        obtain ⟨k, hk, rfl, rfl, hg⟩ := hrel
        have k1_0 := Gr.at (w1 := wr) gr_auto k1_0; have k1_1 := Gr.at (w1 := wr) gr_auto k1_1
        by_cases hlt : k < l
        · obtain rfl := KA.out (by omega); obtain rfl := PA.out (by omega)
          have et := HE2.out k hlt; have ef := HE1.out k hlt
          obtain rfl := HA.out (by omega); obtain rfl := MA.out (by omega)
          have g2 := g1.trans hg
          have l1 := ((KX.out k hlt).1.gr g2).2.1
          have l2 := ((KX.out k hlt).1.gr g2).2.2.1
          have v0 := Gr.at g2 (PX.out k hlt).1
          have m0 := Gr.at g2 (MX.out (t k) et); have m1 := Gr.at g2 (MX.out (f k) ef)
          have e0 := BP.out k hlt
          have s0 := S2.out k hk
          have HT := Lib.hid (N2.out k)
          have HF := Lib.hid (HFR.out k hlt); have HG := Lib.hid (HTT.out k hlt)
          clear BP S2 N2 KX PX HTT HFR HE1 HE2 HX MX HR zz IA
          generalize f2 k = u at *
          generalize Y k = x at *
          generalize t k = j at *
          generalize f k = jf at *
          generalize (E k).tt = nm at *
          generalize (E k).fr = nf at *
          have ib0 : (0 : Int) ≤ (k : Int) := by omega
          have ib1 : (k : Int) < (l : Int) := by omega
          have ib2 : (0 : Int) ≤ (j : Int) := by omega
          have ib3 : (j : Int) < (i : Int) := by omega
          have ib4 : (0 : Int) ≤ (jf : Int) := by omega
          have ib5 : (jf : Int) < (i : Int) := by omega
          generalize M j = q at *
          generalize M jf = qf at *
          go_wp2_with fail
          (first | refine name_world ?_ | refine (show (∀ W, W = _ → Calls _ _ _ W _) → Calls _ _ _ _ _ from fun h => h _ rfl) ?_); intro W3 hW3
          have g3 : Gr w W3 := by rw [hW3]; exact gr_auto
          have gb3_W1 : Gr W1 W3 := by (try clear g3); rw [hW3]; exact gr_auto
          have k3_0 : W3.cell? ⟨w.heap.size, 0, none⟩ = some (.slice (some ⟨b, o, none⟩) i c) := by rw [hW3]; first | (simp [go_sem, *]; done) | (refine Gr.at ?_ (by assumption); exact gr_auto)
          have b3_0 : w.heap.size < W3.heap.size := World.block_lt_of_cell? _ _ k3_0
          have k3_1 : W3.cell? ⟨w.heap.size, 1, none⟩ = some (.slice (some ⟨b2, o2, none⟩) l c2) := by rw [hW3]; first | (simp [go_sem, *]; done) | (refine Gr.at ?_ (by assumption); exact gr_auto)
          have k3_2 : W3.cell? ⟨b2, o2 + k * 11 + 1, none⟩ = some (.string nf) := by rw [hW3]; first | (simp [go_sem, *]; done) | (refine Gr.at ?_ (by assumption); exact gr_auto)
          have b3_2 : b2 < W3.heap.size := World.block_lt_of_cell? _ _ k3_2
          have k3_3 : W3.cell? ⟨b2, o2 + k * 11 + 2, none⟩ = some (.string nm) := by rw [hW3]; first | (simp [go_sem, *]; done) | (refine Gr.at ?_ (by assumption); exact gr_auto)
          have k3_4 : W3.cell? ⟨b4, o4 + k, none⟩ = some (.int .i64 x) := by rw [hW3]; first | (simp [go_sem, *]; done) | (refine Gr.at ?_ (by assumption); exact gr_auto)
          have b3_4 : b4 < W3.heap.size := World.block_lt_of_cell? _ _ k3_4
          have k3_5 : W3.cell? ⟨b5, o5 + jf, none⟩ = some (.bool qf) := by rw [hW3]; first | (simp [go_sem, *]; done) | (refine Gr.at ?_ (by assumption); exact gr_auto)
          have b3_5 : b5 < W3.heap.size := World.block_lt_of_cell? _ _ k3_5
          have k3_6 : W3.cell? ⟨b5, o5 + j, none⟩ = some (.bool q) := by rw [hW3]; first | (simp [go_sem, *]; done) | (refine Gr.at ?_ (by assumption); exact gr_auto)
          clear hW3
          have s3_0 : ∀ gw : GW W3, gw.1.cell? ⟨w.heap.size, 0, none⟩ = some (.slice (some ⟨b, o, none⟩) i c) := fun gw => Gr.at gw.2 k3_0
          have s3_1 : ∀ gw : GW W3, gw.1.cell? ⟨w.heap.size, 1, none⟩ = some (.slice (some ⟨b2, o2, none⟩) l c2) := fun gw => Gr.at gw.2 k3_1
          have s3_2 : ∀ gw : GW W3, gw.1.cell? ⟨b2, o2 + k * 11 + 1, none⟩ = some (.string nf) := fun gw => Gr.at gw.2 k3_2
          have s3_3 : ∀ gw : GW W3, gw.1.cell? ⟨b2, o2 + k * 11 + 2, none⟩ = some (.string nm) := fun gw => Gr.at gw.2 k3_3
          have s3_4 : ∀ gw : GW W3, gw.1.cell? ⟨b4, o4 + k, none⟩ = some (.int .i64 x) := fun gw => Gr.at gw.2 k3_4
          have s3_5 : ∀ gw : GW W3, gw.1.cell? ⟨b5, o5 + jf, none⟩ = some (.bool qf) := fun gw => Gr.at gw.2 k3_5
          have s3_6 : ∀ gw : GW W3, gw.1.cell? ⟨b5, o5 + j, none⟩ = some (.bool q) := fun gw => Gr.at gw.2 k3_6
          have HF4 := Lib.hid (fun gw : GW W3 => gw_call (HF.out gw.1 (g3.trans gw.2)))
          have HG4 := Lib.hid (fun gw : GW W3 => gw_call (HG.out gw.1 (g3.trans gw.2)))
          refine wp_region_gr (by kernel_rfl) (by kernel_rfl) ?_
          repeat (go_big_quiet_step ((first | (go_at_call 15; with_reducible exact HF4.out _) | (go_at_call 15; with_reducible exact HG4.out _))))
          refine wpQuiet_nil ?_
          intro w4 hb4
          clear s3_0 s3_1 s3_2 s3_3 s3_4 s3_5 s3_6
          have g4 : Gr w w4 := g3.trans hb4
          have k3_0 := Gr.at hb4 k3_0
          have k3_1 := Gr.at hb4 k3_1
          have k3_2 := Gr.at hb4 k3_2
          have k3_3 := Gr.at hb4 k3_3
          have k3_4 := Gr.at hb4 k3_4
          have k3_5 := Gr.at hb4 k3_5
          have k3_6 := Gr.at hb4 k3_6
          clear g2 g3
          cases q
          · cases qf
            · simp only [Bool.false_and, Bool.false_eq_true, if_false, Int.add_zero] at HT
              go_wp2_with fail
              go_roundw
              case rel => exact ⟨k + 1, by omega, by go_num, by first | (rw [HT.out]; done) | (rw [HT.out]; exact int_eq (by omega)), gb3_W1.trans hb4⟩
              case measure => simp [intOf]; omega
            · simp only [Bool.false_and, Bool.false_eq_true, Bool.not_false, Bool.and_self, if_false, if_true] at HT
              go_wp2_with fail
              go_roundw
              case rel => exact ⟨k + 1, by omega, by go_num, by rw [HT.out]; exact int_eq (by omega), gb3_W1.trans hb4⟩
              case measure => simp [intOf]; omega
          · cases qf
            · simp only [Bool.not_false, Bool.and_self, if_true] at HT
              go_wp2_with fail
              go_roundw
              case rel => exact ⟨k + 1, by omega, by go_num, by rw [HT.out]; exact int_eq (by omega), gb3_W1.trans hb4⟩
              case measure => simp [intOf]; omega
            · simp only [Bool.not_true, Bool.and_false, Bool.false_eq_true, if_false, Int.add_zero] at HT
              go_wp2_with fail
              go_roundw
              case rel => exact ⟨k + 1, by omega, by go_num, by first | (rw [HT.out]; done) | (rw [HT.out]; exact int_eq (by omega)), gb3_W1.trans hb4⟩
              case measure => simp [intOf]; omega
        · obtain rfl : k = l := by omega
          go_wp2_with fail
          go_ret
          exact ⟨ret_int HR.out.symm, g1.trans hg⟩
end Go.Proofs.Ythkmgnaeponfcaa
