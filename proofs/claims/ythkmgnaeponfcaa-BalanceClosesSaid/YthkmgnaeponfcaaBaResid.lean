/-
  A node's residual: the program's, and the reference's. (Printed by mkres.py.)
-/
import Derived.Test.YthkmgnaeponfcaaBaGive
import Derived.Test.YthkmgnaeponfcaaBaSums
import Derived.Test.YthkmgnaeponfcaaBaSets
set_option linter.unusedVariables false
set_option linter.unusedSimpArgs false
namespace Go.Proofs.Ythkmgnaeponfcaa
open Go.RowKit
namespace Ba
/-- What comes over a link to the node of a name, less what goes. -/
def rT (L : SlLink) (t : ByteArray) (P : SlI) (k : Nat) : Int := (if eqS (L.D k).tt t = true then P.X k else 0) + (if eqS (L.D k).fr t = true then 0 - P.X k else 0)
def resOk (bf af inf : Int) : Bool := bet bf 0 9007199254740992 && (bet af 0 9007199254740992 && bet inf 0 9007199254740992)
/-- The error of a residual; the residual. -/
def resE (N : SlNode) (L : SlLink) (t : ByteArray) (bf af inf : Int) (P : SlI) : Int := if netB N L = false then 1 else if nix N t < 0 then 9 else if ((N.D (nix N t).toNat).kd == 3) = true then 11 else if ¬ P.n = L.n then 3 else if (wiB P 9007199254740992 && resOk bf af inf) = false then 2 else 0
def resV (N : SlNode) (L : SlLink) (t : ByteArray) (bf af inf : Int) (P : SlI) : Int := if resE N L t bf af inf P = 0 then bf + inf - af + sumI (rT L t P) L.n else 0
theorem rT_le {L : SlLink} {t : ByteArray} {P : SlI} {k : Nat} (h : 0 ≤ P.X k ∧ P.X k ≤ 9007199254740992) : -9007199254740992 ≤ rT L t P k ∧ rT L t P k ≤ 9007199254740992 := by
  unfold rT; split <;> split <;> omega
theorem rT_sum {L : SlLink} {t : ByteArray} {P : SlI} {n : Nat} (hn : n ≤ 20) (h : ∀ k, k < n → 0 ≤ P.X k ∧ P.X k ≤ 9007199254740992) {k : Nat} (hk : k ≤ n) : -180143985094819840 ≤ sumI (rT L t P) k ∧ sumI (rT L t P) k ≤ 180143985094819840 := by
  have := sumI_le (X := rT L t P) (n := k) fun j hj => rT_le (h j (by omega))
  omega
theorem wi_at {P : SlI} {m : Int} (h : wiB P m = true) {k : Nat} (hk : k < P.n) : 0 ≤ P.X k ∧ P.X k ≤ m := by
  unfold wiB at h
  have := allB_at h hk
  rw [bet_iff] at this
  exact this
theorem bet_nat {x m : Int} (h : bet x 0 m = true) : 0 ≤ x ∧ x ≤ m := by rw [bet_iff] at h; exact h
end Ba
theorem bwithin_three (x y z m : Int) (B : Nat) (w : World) (h0 : w.cell? ⟨B, 0, none⟩ = some (.int .i64 x)) (h1 : w.cell? ⟨B, 1, none⟩ = some (.int .i64 y)) (h2 : w.cell? ⟨B, 2, none⟩ = some (.int .i64 z)) (hx : Ba.i64 x) (hy : Ba.i64 y) (hz : Ba.i64 z) : Calls Try.prog 47 #[.slice (some ⟨B, 0, none⟩) 3 3, .int .i64 m] w fun e w' => e = .returned (.bool (Ba.bet x 0 m && (Ba.bet y 0 m && Ba.bet z 0 m))) ∧ Gr w w' := by
  have h := bwithin_any ⟨some ⟨B, 0, none⟩, 3, 3, B, 0, fun i => if i = 0 then x else if i = 1 then y else z⟩ m w ⟨fun _ => rfl, by simp, by simp, fun i hi => by
    simp only at hi
    rcases (by omega : i = 0 ∨ i = 1 ∨ i = 2) with rfl | rfl | rfl
    · exact ⟨h0, hx⟩
    · exact ⟨h1, hy⟩
    · exact ⟨h2, hz⟩⟩
  refine h.mono fun e w' ⟨he, hg⟩ => ⟨?_, hg⟩
  rw [he]
  unfold Ba.wiB
  simp only [Ba.allB, if_true, Nat.one_ne_zero, if_false, Bool.true_and, Nat.reduceEqDiff, Bool.and_assoc]

set_option maxRecDepth 100000 in
set_option maxHeartbeats 4000000 in
theorem resid_e (A A2 PA : Option Addr) (n c n2 c2 pn pc : Nat) (t : ByteArray) (bf af inf : Int) (w : World) (i ec : Int) (hec : ec ≠ 0) (HN : Hid (∀ W, Gr w W → Calls Try.prog 41 #[.agg #[.slice A n c, .slice A2 n2 c2], .string t] W fun e w' => e = .returned (.tuple #[.int .i64 i, .int .i64 ec]) ∧ Gr W w')) : Calls Try.prog 18 #[.agg #[.slice A n c, .slice A2 n2 c2], .string t, .int .i64 bf, .int .i64 af, .int .i64 inf, .slice PA pn pc] w (fun e w' => e = .returned (.tuple #[.int .i64 0, .int .i64 ec]) ∧ Gr w w') := by
  have t0 : (ec != 0) = true := Ba.bne_of' hec
  clear hec
  go_enter Try.func18, Try.ntmps18
  go_wp2_with fail
  (first | refine name_world ?_ | refine (show (∀ W, W = _ → Calls _ _ _ W _) → Calls _ _ _ _ _ from fun h => h _ rfl) ?_); intro W1 hW1
  have g1 : Gr w W1 := by rw [hW1]; exact gr_auto
  have k1_0 : W1.cell? ⟨w.heap.size, 0, none⟩ = some (.slice A n c) := by rw [hW1]; first | (simp [go_sem, *]; done) | (refine Gr.at ?_ (by assumption); exact gr_auto)
  have b1_0 : w.heap.size < W1.heap.size := World.block_lt_of_cell? _ _ k1_0
  have k1_1 : W1.cell? ⟨w.heap.size, 1, none⟩ = some (.slice A2 n2 c2) := by rw [hW1]; first | (simp [go_sem, *]; done) | (refine Gr.at ?_ (by assumption); exact gr_auto)
  clear hW1
  refine (HN.out _ g1).mono ?_
  rintro e w2 ⟨rfl, hb2⟩
  have g2 := g1.trans hb2
  have k1_0 := Gr.at (w1 := w2) gr_auto k1_0; have k1_1 := Gr.at (w1 := w2) gr_auto k1_1
  go_wp2_with fail
  go_ret2
  exact ⟨rfl, gr_auto⟩

set_option maxRecDepth 100000 in
set_option maxHeartbeats 4000000 in
theorem resid_k (A A2 PA : Option Addr) (n c n2 c2 pn pc : Nat) (t : ByteArray) (bf af inf : Int) (w : World) (b o : Nat) (kd : Int) (j : Nat) (hj : j < n) (hA : A = some ⟨b, o, none⟩) (hkd : w.cell? ⟨b, o + j * 9 + 1, none⟩ = some (.int .i64 kd)) (hn : n ≤ 1000) (HN : Hid (∀ W, Gr w W → Calls Try.prog 41 #[.agg #[.slice A n c, .slice A2 n2 c2], .string t] W fun e w' => e = .returned (.tuple #[.int .i64 (j : Int), .int .i64 0]) ∧ Gr W w')) (t1 : (kd == 3) = true) : Calls Try.prog 18 #[.agg #[.slice A n c, .slice A2 n2 c2], .string t, .int .i64 bf, .int .i64 af, .int .i64 inf, .slice PA pn pc] w (fun e w' => e = .returned (.tuple #[.int .i64 0, .int .i64 11]) ∧ Gr w w') := by
  subst hA
  try (have hp' := hp.symm; subst hp')
  have ib0 : (0 : Int) ≤ (j : Int) := by omega
  have ib1 : (j : Int) < (n : Int) := by omega
  go_enter Try.func18, Try.ntmps18
  go_wp2_with fail
  (first | refine name_world ?_ | refine (show (∀ W, W = _ → Calls _ _ _ W _) → Calls _ _ _ _ _ from fun h => h _ rfl) ?_); intro W1 hW1
  have g1 : Gr w W1 := by rw [hW1]; exact gr_auto
  have k1_0 : W1.cell? ⟨w.heap.size, 0, none⟩ = some (.slice (some ⟨b, o, none⟩) n c) := by rw [hW1]; first | (simp [go_sem, *]; done) | (refine Gr.at ?_ (by assumption); exact gr_auto)
  have b1_0 : w.heap.size < W1.heap.size := World.block_lt_of_cell? _ _ k1_0
  have k1_1 : W1.cell? ⟨w.heap.size, 1, none⟩ = some (.slice A2 n2 c2) := by rw [hW1]; first | (simp [go_sem, *]; done) | (refine Gr.at ?_ (by assumption); exact gr_auto)
  clear hW1
  refine (HN.out _ g1).mono ?_
  rintro e w2 ⟨rfl, hb2⟩
  have g2 := g1.trans hb2
  have k1_0 := Gr.at (w1 := w2) gr_auto k1_0; have k1_1 := Gr.at (w1 := w2) gr_auto k1_1
  have kd2 := Gr.at g2 hkd
  clear hkd
  go_wp2_with fail
  go_ret2
  exact ⟨rfl, gr_auto⟩

set_option maxRecDepth 100000 in
set_option maxHeartbeats 4000000 in
theorem resid_s (A A2 PA : Option Addr) (n c n2 c2 pn pc : Nat) (t : ByteArray) (bf af inf : Int) (w : World) (b o : Nat) (kd : Int) (j : Nat) (hj : j < n) (hA : A = some ⟨b, o, none⟩) (hkd : w.cell? ⟨b, o + j * 9 + 1, none⟩ = some (.int .i64 kd)) (hn : n ≤ 1000) (HN : Hid (∀ W, Gr w W → Calls Try.prog 41 #[.agg #[.slice A n c, .slice A2 n2 c2], .string t] W fun e w' => e = .returned (.tuple #[.int .i64 (j : Int), .int .i64 0]) ∧ Gr W w')) (t1 : (kd == 3) = false) (hp : ¬ pn = n2) (hl : n2 ≤ 1000) (hp2 : pn ≤ 9223372036854775807) : Calls Try.prog 18 #[.agg #[.slice A n c, .slice A2 n2 c2], .string t, .int .i64 bf, .int .i64 af, .int .i64 inf, .slice PA pn pc] w (fun e w' => e = .returned (.tuple #[.int .i64 0, .int .i64 3]) ∧ Gr w w') := by
  subst hA
  try (have hp' := hp.symm; subst hp')
  have ib0 : (0 : Int) ≤ (j : Int) := by omega
  have ib1 : (j : Int) < (n : Int) := by omega
  have t2 : ((pn : Int) != (n2 : Int)) = true := Ba.bne_of' (by omega)
  go_enter Try.func18, Try.ntmps18
  go_wp2_with fail
  (first | refine name_world ?_ | refine (show (∀ W, W = _ → Calls _ _ _ W _) → Calls _ _ _ _ _ from fun h => h _ rfl) ?_); intro W1 hW1
  have g1 : Gr w W1 := by rw [hW1]; exact gr_auto
  have k1_0 : W1.cell? ⟨w.heap.size, 0, none⟩ = some (.slice (some ⟨b, o, none⟩) n c) := by rw [hW1]; first | (simp [go_sem, *]; done) | (refine Gr.at ?_ (by assumption); exact gr_auto)
  have b1_0 : w.heap.size < W1.heap.size := World.block_lt_of_cell? _ _ k1_0
  have k1_1 : W1.cell? ⟨w.heap.size, 1, none⟩ = some (.slice A2 n2 c2) := by rw [hW1]; first | (simp [go_sem, *]; done) | (refine Gr.at ?_ (by assumption); exact gr_auto)
  clear hW1
  refine (HN.out _ g1).mono ?_
  rintro e w2 ⟨rfl, hb2⟩
  have g2 := g1.trans hb2
  have k1_0 := Gr.at (w1 := w2) gr_auto k1_0; have k1_1 := Gr.at (w1 := w2) gr_auto k1_1
  have kd2 := Gr.at g2 hkd
  clear hkd
  go_wp2_with fail
  go_ret2
  exact ⟨rfl, gr_auto⟩

set_option maxRecDepth 100000 in
set_option maxHeartbeats 4000000 in
theorem resid_r (A A2 PA : Option Addr) (n c n2 c2 pn pc : Nat) (t : ByteArray) (bf af inf : Int) (w : World) (b o : Nat) (kd : Int) (j : Nat) (hj : j < n) (hA : A = some ⟨b, o, none⟩) (hkd : w.cell? ⟨b, o + j * 9 + 1, none⟩ = some (.int .i64 kd)) (hn : n ≤ 1000) (HN : Hid (∀ W, Gr w W → Calls Try.prog 41 #[.agg #[.slice A n c, .slice A2 n2 c2], .string t] W fun e w' => e = .returned (.tuple #[.int .i64 (j : Int), .int .i64 0]) ∧ Gr W w')) (t1 : (kd == 3) = false) (hp : pn = n2) (hl : n2 ≤ 1000) (HW1 : Hid (∀ W, Gr w W → Calls Try.prog 47 #[.slice PA pn pc, .int .i64 9007199254740992] W fun e w' => e = .returned (.bool false) ∧ Gr W w')) : Calls Try.prog 18 #[.agg #[.slice A n c, .slice A2 n2 c2], .string t, .int .i64 bf, .int .i64 af, .int .i64 inf, .slice PA pn pc] w (fun e w' => e = .returned (.tuple #[.int .i64 0, .int .i64 2]) ∧ Gr w w') := by
  subst hA
  try (have hp' := hp.symm; subst hp')
  have ib0 : (0 : Int) ≤ (j : Int) := by omega
  have ib1 : (j : Int) < (n : Int) := by omega
  go_enter Try.func18, Try.ntmps18
  go_wp2_with fail
  (first | refine name_world ?_ | refine (show (∀ W, W = _ → Calls _ _ _ W _) → Calls _ _ _ _ _ from fun h => h _ rfl) ?_); intro W1 hW1
  have g1 : Gr w W1 := by rw [hW1]; exact gr_auto
  have k1_0 : W1.cell? ⟨w.heap.size, 0, none⟩ = some (.slice (some ⟨b, o, none⟩) n c) := by rw [hW1]; first | (simp [go_sem, *]; done) | (refine Gr.at ?_ (by assumption); exact gr_auto)
  have b1_0 : w.heap.size < W1.heap.size := World.block_lt_of_cell? _ _ k1_0
  have k1_1 : W1.cell? ⟨w.heap.size, 1, none⟩ = some (.slice A2 n2 c2) := by rw [hW1]; first | (simp [go_sem, *]; done) | (refine Gr.at ?_ (by assumption); exact gr_auto)
  clear hW1
  refine (HN.out _ g1).mono ?_
  rintro e w2 ⟨rfl, hb2⟩
  have g2 := g1.trans hb2
  have k1_0 := Gr.at (w1 := w2) gr_auto k1_0; have k1_1 := Gr.at (w1 := w2) gr_auto k1_1
  have kd2 := Gr.at g2 hkd
  clear hkd
  go_wp2_with fail
  refine (HW1.out _ gr_auto).mono ?_
  rintro e w3 ⟨rfl, hb3⟩
  have g3 : Gr w w3 := g2.trans hb3
  have k1_0 := Gr.at (w1 := w3) gr_auto k1_0; have k1_1 := Gr.at (w1 := w3) gr_auto k1_1
  go_wp2_with fail
  go_ret2
  exact ⟨rfl, gr_auto⟩

set_option maxRecDepth 100000 in
set_option maxHeartbeats 4000000 in
theorem resid_q (A A2 PA : Option Addr) (n c n2 c2 pn pc : Nat) (t : ByteArray) (bf af inf : Int) (w : World) (b o : Nat) (kd : Int) (j : Nat) (hj : j < n) (hA : A = some ⟨b, o, none⟩) (hkd : w.cell? ⟨b, o + j * 9 + 1, none⟩ = some (.int .i64 kd)) (hn : n ≤ 1000) (HN : Hid (∀ W, Gr w W → Calls Try.prog 41 #[.agg #[.slice A n c, .slice A2 n2 c2], .string t] W fun e w' => e = .returned (.tuple #[.int .i64 (j : Int), .int .i64 0]) ∧ Gr W w')) (t1 : (kd == 3) = false) (hp : pn = n2) (hl : n2 ≤ 1000) (HW1 : Hid (∀ W, Gr w W → Calls Try.prog 47 #[.slice PA pn pc, .int .i64 9007199254740992] W fun e w' => e = .returned (.bool true) ∧ Gr W w')) (HW3 : Hid (∀ B W, W.cell? ⟨B, 0, none⟩ = some (.int .i64 bf) → W.cell? ⟨B, 1, none⟩ = some (.int .i64 af) → W.cell? ⟨B, 2, none⟩ = some (.int .i64 inf) → Calls Try.prog 47 #[.slice (some ⟨B, 0, none⟩) 3 3, .int .i64 9007199254740992] W fun e w' => e = .returned (.bool false) ∧ Gr W w')) : Calls Try.prog 18 #[.agg #[.slice A n c, .slice A2 n2 c2], .string t, .int .i64 bf, .int .i64 af, .int .i64 inf, .slice PA pn pc] w (fun e w' => e = .returned (.tuple #[.int .i64 0, .int .i64 2]) ∧ Gr w w') := by
  subst hA
  try (have hp' := hp.symm; subst hp')
  have ib0 : (0 : Int) ≤ (j : Int) := by omega
  have ib1 : (j : Int) < (n : Int) := by omega
  go_enter Try.func18, Try.ntmps18
  go_wp2_with fail
  (first | refine name_world ?_ | refine (show (∀ W, W = _ → Calls _ _ _ W _) → Calls _ _ _ _ _ from fun h => h _ rfl) ?_); intro W1 hW1
  have g1 : Gr w W1 := by rw [hW1]; exact gr_auto
  have k1_0 : W1.cell? ⟨w.heap.size, 0, none⟩ = some (.slice (some ⟨b, o, none⟩) n c) := by rw [hW1]; first | (simp [go_sem, *]; done) | (refine Gr.at ?_ (by assumption); exact gr_auto)
  have b1_0 : w.heap.size < W1.heap.size := World.block_lt_of_cell? _ _ k1_0
  have k1_1 : W1.cell? ⟨w.heap.size, 1, none⟩ = some (.slice A2 n2 c2) := by rw [hW1]; first | (simp [go_sem, *]; done) | (refine Gr.at ?_ (by assumption); exact gr_auto)
  clear hW1
  refine (HN.out _ g1).mono ?_
  rintro e w2 ⟨rfl, hb2⟩
  have g2 := g1.trans hb2
  have k1_0 := Gr.at (w1 := w2) gr_auto k1_0; have k1_1 := Gr.at (w1 := w2) gr_auto k1_1
  have kd2 := Gr.at g2 hkd
  clear hkd
  go_wp2_with fail
  refine (HW1.out _ gr_auto).mono ?_
  rintro e w3 ⟨rfl, hb3⟩
  have g3 : Gr w w3 := g2.trans hb3
  have k1_0 := Gr.at (w1 := w3) gr_auto k1_0; have k1_1 := Gr.at (w1 := w3) gr_auto k1_1
  go_wp2_with fail
  (first | refine name_world ?_ | refine (show (∀ W, W = _ → Calls _ _ _ W _) → Calls _ _ _ _ _ from fun h => h _ rfl) ?_); intro W4 hW4
  have g4 : Gr w W4 := by rw [hW4]; exact gr_auto
  have gb4_w3 : Gr w3 W4 := by (try clear g4); rw [hW4]; exact gr_auto
  have k4_0 : W4.cell? ⟨w.heap.size, 0, none⟩ = some (.slice (some ⟨b, o, none⟩) n c) := by rw [hW4]; first | (simp [go_sem, *]; done) | (refine Gr.at ?_ (by assumption); exact gr_auto)
  have b4_0 : w.heap.size < W4.heap.size := World.block_lt_of_cell? _ _ k4_0
  have k4_1 : W4.cell? ⟨w.heap.size, 1, none⟩ = some (.slice A2 n2 c2) := by rw [hW4]; first | (simp [go_sem, *]; done) | (refine Gr.at ?_ (by assumption); exact gr_auto)
  have k4_2 : W4.cell? ⟨w3.heap.size, 0, none⟩ = some (.int .i64 bf) := by rw [hW4]; first | (simp [go_sem, *]; done) | (refine Gr.at ?_ (by assumption); exact gr_auto)
  have b4_2 : w3.heap.size < W4.heap.size := World.block_lt_of_cell? _ _ k4_2
  have k4_3 : W4.cell? ⟨w3.heap.size, 1, none⟩ = some (.int .i64 af) := by rw [hW4]; first | (simp [go_sem, *]; done) | (refine Gr.at ?_ (by assumption); exact gr_auto)
  have k4_4 : W4.cell? ⟨w3.heap.size, 2, none⟩ = some (.int .i64 inf) := by rw [hW4]; first | (simp [go_sem, *]; done) | (refine Gr.at ?_ (by assumption); exact gr_auto)
  clear hW4
  refine (HW3.out _ _ k4_2 k4_3 k4_4).mono ?_
  rintro e w5 ⟨rfl, hb5⟩
  have g5 : Gr w w5 := g4.trans hb5
  clear k4_2 k4_3 k4_4
  have k4_0 := Gr.at (w1 := w5) gr_auto k4_0; have k4_1 := Gr.at (w1 := w5) gr_auto k4_1
  go_wp2_with fail
  go_ret2
  exact ⟨rfl, gr_auto⟩

set_option maxRecDepth 100000 in
set_option maxHeartbeats 4000000 in
theorem resid_l (A A2 PA : Option Addr) (n c n2 c2 pn pc : Nat) (t : ByteArray) (bf af inf : Int) (w : World) (b o : Nat) (kd : Int) (j : Nat) (hj : j < n) (hA : A = some ⟨b, o, none⟩) (hkd : w.cell? ⟨b, o + j * 9 + 1, none⟩ = some (.int .i64 kd)) (hn : n ≤ 1000) (HN : Hid (∀ W, Gr w W → Calls Try.prog 41 #[.agg #[.slice A n c, .slice A2 n2 c2], .string t] W fun e w' => e = .returned (.tuple #[.int .i64 (j : Int), .int .i64 0]) ∧ Gr W w')) (t1 : (kd == 3) = false) (hp : pn = n2) (HW1 : Hid (∀ W, Gr w W → Calls Try.prog 47 #[.slice PA pn pc, .int .i64 9007199254740992] W fun e w' => e = .returned (.bool true) ∧ Gr W w')) (HW3 : Hid (∀ B W, W.cell? ⟨B, 0, none⟩ = some (.int .i64 bf) → W.cell? ⟨B, 1, none⟩ = some (.int .i64 af) → W.cell? ⟨B, 2, none⟩ = some (.int .i64 inf) → Calls Try.prog 47 #[.slice (some ⟨B, 0, none⟩) 3 3, .int .i64 9007199254740992] W fun e w' => e = .returned (.bool true) ∧ Gr W w')) (b2 o2 b3 o3 : Nat) (E : Nat → Ba.Link) (Y f : Nat → Int) (KA : Hid (0 < n2 → A2 = some ⟨b2, o2, none⟩)) (KX : Hid (∀ k, k < n2 → (E k).Cells w b2 (o2 + k * 11))) (PA0 : Hid (0 < n2 → PA = some ⟨b3, o3, none⟩)) (PX : Hid (∀ k, k < n2 → w.cell? ⟨b3, o3 + k, none⟩ = some (.int .i64 (Y k)) ∧ 0 ≤ Y k ∧ Y k ≤ 9007199254740992))
    (SZ : Hid (∀ k, k < n2 → (E k).tt.size ≤ 9223372036854775807 ∧ (E k).fr.size ≤ 9223372036854775807)) (hsz : t.size ≤ 9223372036854775807) (F0 : f 0 = 0) (FS : Hid (∀ k, f (k + 1) = f k + ((if Ba.eqS (E k).tt t = true then Y k else 0) + (if Ba.eqS (E k).fr t = true then 0 - Y k else 0)))) (FB : Hid (∀ k, k ≤ n2 → -180143985094819840 ≤ f k ∧ f k ≤ 180143985094819840)) (hl : n2 ≤ 20) (q1 : 0 ≤ bf ∧ bf ≤ 9007199254740992) (q2 : 0 ≤ af ∧ af ≤ 9007199254740992) (q3 : 0 ≤ inf ∧ inf ≤ 9007199254740992) : Calls Try.prog 18 #[.agg #[.slice A n c, .slice A2 n2 c2], .string t, .int .i64 bf, .int .i64 af, .int .i64 inf, .slice PA pn pc] w (fun e w' => e = .returned (.tuple #[.int .i64 (bf + inf - af + f n2), .int .i64 0]) ∧ Gr w w') := by
  subst hA
  try (have hp' := hp.symm; subst hp')
  have ib0 : (0 : Int) ≤ (j : Int) := by omega
  have ib1 : (j : Int) < (n : Int) := by omega
  go_enter Try.func18, Try.ntmps18
  go_wp2_with fail
  (first | refine name_world ?_ | refine (show (∀ W, W = _ → Calls _ _ _ W _) → Calls _ _ _ _ _ from fun h => h _ rfl) ?_); intro W1 hW1
  have g1 : Gr w W1 := by rw [hW1]; exact gr_auto
  have k1_0 : W1.cell? ⟨w.heap.size, 0, none⟩ = some (.slice (some ⟨b, o, none⟩) n c) := by rw [hW1]; first | (simp [go_sem, *]; done) | (refine Gr.at ?_ (by assumption); exact gr_auto)
  have b1_0 : w.heap.size < W1.heap.size := World.block_lt_of_cell? _ _ k1_0
  have k1_1 : W1.cell? ⟨w.heap.size, 1, none⟩ = some (.slice A2 n2 c2) := by rw [hW1]; first | (simp [go_sem, *]; done) | (refine Gr.at ?_ (by assumption); exact gr_auto)
  clear hW1
  refine (HN.out _ g1).mono ?_
  rintro e w2 ⟨rfl, hb2⟩
  have g2 := g1.trans hb2
  have k1_0 := Gr.at (w1 := w2) gr_auto k1_0; have k1_1 := Gr.at (w1 := w2) gr_auto k1_1
  have kd2 := Gr.at g2 hkd
  clear hkd
  go_wp2_with fail
  refine (HW1.out _ gr_auto).mono ?_
  rintro e w3 ⟨rfl, hb3⟩
  have g3 : Gr w w3 := g2.trans hb3
  have k1_0 := Gr.at (w1 := w3) gr_auto k1_0; have k1_1 := Gr.at (w1 := w3) gr_auto k1_1
  go_wp2_with fail
  (first | refine name_world ?_ | refine (show (∀ W, W = _ → Calls _ _ _ W _) → Calls _ _ _ _ _ from fun h => h _ rfl) ?_); intro W4 hW4
  have g4 : Gr w W4 := by rw [hW4]; exact gr_auto
  have gb4_w3 : Gr w3 W4 := by (try clear g4); rw [hW4]; exact gr_auto
  have k4_0 : W4.cell? ⟨w.heap.size, 0, none⟩ = some (.slice (some ⟨b, o, none⟩) n c) := by rw [hW4]; first | (simp [go_sem, *]; done) | (refine Gr.at ?_ (by assumption); exact gr_auto)
  have b4_0 : w.heap.size < W4.heap.size := World.block_lt_of_cell? _ _ k4_0
  have k4_1 : W4.cell? ⟨w.heap.size, 1, none⟩ = some (.slice A2 n2 c2) := by rw [hW4]; first | (simp [go_sem, *]; done) | (refine Gr.at ?_ (by assumption); exact gr_auto)
  have k4_2 : W4.cell? ⟨w3.heap.size, 0, none⟩ = some (.int .i64 bf) := by rw [hW4]; first | (simp [go_sem, *]; done) | (refine Gr.at ?_ (by assumption); exact gr_auto)
  have b4_2 : w3.heap.size < W4.heap.size := World.block_lt_of_cell? _ _ k4_2
  have k4_3 : W4.cell? ⟨w3.heap.size, 1, none⟩ = some (.int .i64 af) := by rw [hW4]; first | (simp [go_sem, *]; done) | (refine Gr.at ?_ (by assumption); exact gr_auto)
  have k4_4 : W4.cell? ⟨w3.heap.size, 2, none⟩ = some (.int .i64 inf) := by rw [hW4]; first | (simp [go_sem, *]; done) | (refine Gr.at ?_ (by assumption); exact gr_auto)
  clear hW4
  refine (HW3.out _ _ k4_2 k4_3 k4_4).mono ?_
  rintro e w5 ⟨rfl, hb5⟩
  have g5 : Gr w w5 := g4.trans hb5
  clear k4_2 k4_3 k4_4
  have k4_0 := Gr.at (w1 := w5) gr_auto k4_0; have k4_1 := Gr.at (w1 := w5) gr_auto k4_1
  clear k1_0 k1_1 kd2
  go_wp2_with fail
  (first | refine name_world ?_ | refine (show (∀ W, W = _ → Calls _ _ _ W _) → Calls _ _ _ _ _ from fun h => h _ rfl) ?_); intro W8 hW8
  have g8 : Gr w W8 := by rw [hW8]; exact gr_auto
  have gb8_w5 : Gr w5 W8 := by (try clear g8); rw [hW8]; exact gr_auto
  have k8_0 : W8.cell? ⟨w.heap.size, 0, none⟩ = some (.slice (some ⟨b, o, none⟩) n c) := by rw [hW8]; first | (simp [go_sem, *]; done) | (refine Gr.at ?_ (by assumption); exact gr_auto)
  have b8_0 : w.heap.size < W8.heap.size := World.block_lt_of_cell? _ _ k8_0
  have k8_1 : W8.cell? ⟨w.heap.size, 1, none⟩ = some (.slice A2 n2 c2) := by rw [hW8]; first | (simp [go_sem, *]; done) | (refine Gr.at ?_ (by assumption); exact gr_auto)
  clear hW8
  clear k4_0 k4_1
  go_loopw [16, 64] (fun a q wr => ∃ k : Nat, k ≤ n2 ∧ q = .int .i64 (k : Int) ∧ a = .int .i64 (bf + inf - af + f k) ∧ Gr W8 wr) (fun _ q _ => n2 - (intOf q).toNat)
  case atStart => exact ⟨0, Nat.zero_le _, rfl, by rw [F0, Int.add_zero], Gr.refl _⟩
  case round =>
    obtain ⟨k, hk, rfl, rfl, hg⟩ := hrel
    have gr : Gr w wr := g8.trans hg
    have k0 := Gr.at hg k8_0; have k1 := Gr.at hg k8_1
    clear k8_0 k8_1
    by_cases hlt : k < n2
    · obtain rfl := KA.out (by omega); obtain rfl := PA0.out (by omega)
      obtain ⟨a0, a1, a2, a3, a4, a5, a6, a7, a8, a9, a10⟩ := (KX.out k hlt).gr gr
      have v0 := Gr.at gr (PX.out k hlt).1
      have e0 := (PX.out k hlt).2
      have s0 := FB.out k hk; have s1 := FB.out (k + 1) hlt
      have z0 := (SZ.out k hlt).1; have z1 := (SZ.out k hlt).2
      have HT := Lib.hid (FS.out k)
      have hb1 : b3 < wr.heap.size := World.block_lt_of_cell? _ _ v0
      have hb0 : w.heap.size < wr.heap.size := World.block_lt_of_cell? _ _ k0
      have hb2 : b3 ≠ wr.heap.size := by omega
      have ib0 : (0 : Int) ≤ (k : Int) := by omega
      have ib1 : (k : Int) < (n2 : Int) := by omega
      clear FB FS KX PX SZ
      rw [HT.out] at s1
      generalize f k = x5 at *
      generalize Y k = x at *
      generalize E k = d at *
      unfold Ba.eqS at HT s1
      cases t0 : (d.tt.toList == t.toList)
      all_goals
        cases t1 : (d.fr.toList == t.toList)
        all_goals
          rw [t0, t1] at HT s1
          simp only [Bool.false_eq_true, if_false, if_true, Int.add_zero, Int.zero_add] at HT s1
          go_wp2_with fail
          go_roundw
          case rel => exact ⟨k + 1, by omega, by go_num, by (rw [HT.out]; try (first | rfl | (congr 1; omega))), gr_auto⟩
          case measure => simp [intOf]; omega
    · obtain rfl : k = n2 := by omega
      have s0 := FB.out k hk
      clear FB FS KX PX SZ
      go_wp2_with fail
      go_ret2
      exact ⟨rfl, gr_auto⟩

set_option maxRecDepth 100000 in
set_option maxHeartbeats 4000000 in
theorem rresid_v (A A2 PA : Option Addr) (n c n2 c2 pn pc : Nat) (t : ByteArray) (bf af inf : Int) (w : World) (HV : Hid (∀ W, Gr w W → Calls Try.prog 53 #[.agg #[.slice A n c, .slice A2 n2 c2]] W fun e w' => e = .returned (.bool false) ∧ Gr W w')) : Calls Try.prog 29 #[.agg #[.slice A n c, .slice A2 n2 c2], .string t, .int .i64 bf, .int .i64 af, .int .i64 inf, .slice PA pn pc] w (fun e w' => e = .returned (.tuple #[.int .i64 0, .int .i64 1]) ∧ Gr w w') := by
  go_enter Try.func29, Try.ntmps29
  go_wp2_with fail
  (first | refine name_world ?_ | refine (show (∀ W, W = _ → Calls _ _ _ W _) → Calls _ _ _ _ _ from fun h => h _ rfl) ?_); intro W1 hW1
  have g1 : Gr w W1 := by rw [hW1]; exact gr_auto
  have k1_0 : W1.cell? ⟨w.heap.size, 0, none⟩ = some (.slice A n c) := by rw [hW1]; first | (simp [go_sem, *]; done) | (refine Gr.at ?_ (by assumption); exact gr_auto)
  have b1_0 : w.heap.size < W1.heap.size := World.block_lt_of_cell? _ _ k1_0
  have k1_1 : W1.cell? ⟨w.heap.size, 1, none⟩ = some (.slice A2 n2 c2) := by rw [hW1]; first | (simp [go_sem, *]; done) | (refine Gr.at ?_ (by assumption); exact gr_auto)
  clear hW1
  refine (HV.out _ g1).mono ?_
  rintro e w2 ⟨rfl, hb2⟩
  have g2 := g1.trans hb2
  have k1_0 := Gr.at (w1 := w2) gr_auto k1_0; have k1_1 := Gr.at (w1 := w2) gr_auto k1_1
  go_wp2_with fail
  go_ret2
  exact ⟨rfl, gr_auto⟩

set_option maxRecDepth 100000 in
set_option maxHeartbeats 4000000 in
theorem rresid_n (A A2 PA : Option Addr) (n c n2 c2 pn pc : Nat) (t : ByteArray) (bf af inf : Int) (w : World) (i : Int) (hi : i < 0) (HV : Hid (∀ W, Gr w W → Calls Try.prog 53 #[.agg #[.slice A n c, .slice A2 n2 c2]] W fun e w' => e = .returned (.bool true) ∧ Gr W w')) (HN : Hid (∀ W, Gr w W → Calls Try.prog 15 #[.agg #[.slice A n c, .slice A2 n2 c2], .string t] W fun e w' => e = .returned (.int .i64 i) ∧ Gr W w')) : Calls Try.prog 29 #[.agg #[.slice A n c, .slice A2 n2 c2], .string t, .int .i64 bf, .int .i64 af, .int .i64 inf, .slice PA pn pc] w (fun e w' => e = .returned (.tuple #[.int .i64 0, .int .i64 9]) ∧ Gr w w') := by
  have t0 : decide (i < 0) = true := decide_eq_true hi
  clear hi
  go_enter Try.func29, Try.ntmps29
  go_wp2_with fail
  (first | refine name_world ?_ | refine (show (∀ W, W = _ → Calls _ _ _ W _) → Calls _ _ _ _ _ from fun h => h _ rfl) ?_); intro W1 hW1
  have g1 : Gr w W1 := by rw [hW1]; exact gr_auto
  have k1_0 : W1.cell? ⟨w.heap.size, 0, none⟩ = some (.slice A n c) := by rw [hW1]; first | (simp [go_sem, *]; done) | (refine Gr.at ?_ (by assumption); exact gr_auto)
  have b1_0 : w.heap.size < W1.heap.size := World.block_lt_of_cell? _ _ k1_0
  have k1_1 : W1.cell? ⟨w.heap.size, 1, none⟩ = some (.slice A2 n2 c2) := by rw [hW1]; first | (simp [go_sem, *]; done) | (refine Gr.at ?_ (by assumption); exact gr_auto)
  clear hW1
  refine (HV.out _ g1).mono ?_
  rintro e w2 ⟨rfl, hb2⟩
  have g2 := g1.trans hb2
  have k1_0 := Gr.at (w1 := w2) gr_auto k1_0; have k1_1 := Gr.at (w1 := w2) gr_auto k1_1
  go_wp2_with fail
  refine (HN.out _ g2).mono ?_
  rintro e w3 ⟨rfl, hb3⟩
  have g3 := g2.trans hb3
  have k1_0 := Gr.at (w1 := w3) gr_auto k1_0; have k1_1 := Gr.at (w1 := w3) gr_auto k1_1
  go_wp2_with fail
  go_ret2
  exact ⟨rfl, gr_auto⟩

set_option maxRecDepth 100000 in
set_option maxHeartbeats 4000000 in
theorem rresid_k (A A2 PA : Option Addr) (n c n2 c2 pn pc : Nat) (t : ByteArray) (bf af inf : Int) (w : World) (b o : Nat) (kd : Int) (j : Nat) (hj : j < n) (hA : A = some ⟨b, o, none⟩) (hkd : w.cell? ⟨b, o + j * 9 + 1, none⟩ = some (.int .i64 kd)) (hn : n ≤ 1000) (HV : Hid (∀ W, Gr w W → Calls Try.prog 53 #[.agg #[.slice A n c, .slice A2 n2 c2]] W fun e w' => e = .returned (.bool true) ∧ Gr W w')) (HN : Hid (∀ W, Gr w W → Calls Try.prog 15 #[.agg #[.slice A n c, .slice A2 n2 c2], .string t] W fun e w' => e = .returned (.int .i64 (j : Int)) ∧ Gr W w')) (t1 : (kd == 3) = true) : Calls Try.prog 29 #[.agg #[.slice A n c, .slice A2 n2 c2], .string t, .int .i64 bf, .int .i64 af, .int .i64 inf, .slice PA pn pc] w (fun e w' => e = .returned (.tuple #[.int .i64 0, .int .i64 11]) ∧ Gr w w') := by
  subst hA
  try (have hp' := hp.symm; subst hp')
  have ib0 : (0 : Int) ≤ (j : Int) := by omega
  have ib1 : (j : Int) < (n : Int) := by omega
  have t0 : decide ((j : Int) < 0) = false := decide_eq_false (by omega)
  go_enter Try.func29, Try.ntmps29
  go_wp2_with fail
  (first | refine name_world ?_ | refine (show (∀ W, W = _ → Calls _ _ _ W _) → Calls _ _ _ _ _ from fun h => h _ rfl) ?_); intro W1 hW1
  have g1 : Gr w W1 := by rw [hW1]; exact gr_auto
  have k1_0 : W1.cell? ⟨w.heap.size, 0, none⟩ = some (.slice (some ⟨b, o, none⟩) n c) := by rw [hW1]; first | (simp [go_sem, *]; done) | (refine Gr.at ?_ (by assumption); exact gr_auto)
  have b1_0 : w.heap.size < W1.heap.size := World.block_lt_of_cell? _ _ k1_0
  have k1_1 : W1.cell? ⟨w.heap.size, 1, none⟩ = some (.slice A2 n2 c2) := by rw [hW1]; first | (simp [go_sem, *]; done) | (refine Gr.at ?_ (by assumption); exact gr_auto)
  clear hW1
  refine (HV.out _ g1).mono ?_
  rintro e w2 ⟨rfl, hb2⟩
  have g2 := g1.trans hb2
  have k1_0 := Gr.at (w1 := w2) gr_auto k1_0; have k1_1 := Gr.at (w1 := w2) gr_auto k1_1
  go_wp2_with fail
  refine (HN.out _ g2).mono ?_
  rintro e w3 ⟨rfl, hb3⟩
  have g3 := g2.trans hb3
  have k1_0 := Gr.at (w1 := w3) gr_auto k1_0; have k1_1 := Gr.at (w1 := w3) gr_auto k1_1
  have kd2 := Gr.at g3 hkd
  clear hkd
  go_wp2_with fail
  go_ret2
  exact ⟨rfl, gr_auto⟩

set_option maxRecDepth 100000 in
set_option maxHeartbeats 4000000 in
theorem rresid_s (A A2 PA : Option Addr) (n c n2 c2 pn pc : Nat) (t : ByteArray) (bf af inf : Int) (w : World) (b o : Nat) (kd : Int) (j : Nat) (hj : j < n) (hA : A = some ⟨b, o, none⟩) (hkd : w.cell? ⟨b, o + j * 9 + 1, none⟩ = some (.int .i64 kd)) (hn : n ≤ 1000) (HV : Hid (∀ W, Gr w W → Calls Try.prog 53 #[.agg #[.slice A n c, .slice A2 n2 c2]] W fun e w' => e = .returned (.bool true) ∧ Gr W w')) (HN : Hid (∀ W, Gr w W → Calls Try.prog 15 #[.agg #[.slice A n c, .slice A2 n2 c2], .string t] W fun e w' => e = .returned (.int .i64 (j : Int)) ∧ Gr W w')) (t1 : (kd == 3) = false) (hp : ¬ pn = n2) (hl : n2 ≤ 1000) (hp2 : pn ≤ 9223372036854775807) : Calls Try.prog 29 #[.agg #[.slice A n c, .slice A2 n2 c2], .string t, .int .i64 bf, .int .i64 af, .int .i64 inf, .slice PA pn pc] w (fun e w' => e = .returned (.tuple #[.int .i64 0, .int .i64 3]) ∧ Gr w w') := by
  subst hA
  try (have hp' := hp.symm; subst hp')
  have ib0 : (0 : Int) ≤ (j : Int) := by omega
  have ib1 : (j : Int) < (n : Int) := by omega
  have t0 : decide ((j : Int) < 0) = false := decide_eq_false (by omega)
  have t2 : ((pn : Int) != (n2 : Int)) = true := Ba.bne_of' (by omega)
  go_enter Try.func29, Try.ntmps29
  go_wp2_with fail
  (first | refine name_world ?_ | refine (show (∀ W, W = _ → Calls _ _ _ W _) → Calls _ _ _ _ _ from fun h => h _ rfl) ?_); intro W1 hW1
  have g1 : Gr w W1 := by rw [hW1]; exact gr_auto
  have k1_0 : W1.cell? ⟨w.heap.size, 0, none⟩ = some (.slice (some ⟨b, o, none⟩) n c) := by rw [hW1]; first | (simp [go_sem, *]; done) | (refine Gr.at ?_ (by assumption); exact gr_auto)
  have b1_0 : w.heap.size < W1.heap.size := World.block_lt_of_cell? _ _ k1_0
  have k1_1 : W1.cell? ⟨w.heap.size, 1, none⟩ = some (.slice A2 n2 c2) := by rw [hW1]; first | (simp [go_sem, *]; done) | (refine Gr.at ?_ (by assumption); exact gr_auto)
  clear hW1
  refine (HV.out _ g1).mono ?_
  rintro e w2 ⟨rfl, hb2⟩
  have g2 := g1.trans hb2
  have k1_0 := Gr.at (w1 := w2) gr_auto k1_0; have k1_1 := Gr.at (w1 := w2) gr_auto k1_1
  go_wp2_with fail
  refine (HN.out _ g2).mono ?_
  rintro e w3 ⟨rfl, hb3⟩
  have g3 := g2.trans hb3
  have k1_0 := Gr.at (w1 := w3) gr_auto k1_0; have k1_1 := Gr.at (w1 := w3) gr_auto k1_1
  have kd2 := Gr.at g3 hkd
  clear hkd
  go_wp2_with fail
  go_ret2
  exact ⟨rfl, gr_auto⟩

set_option maxRecDepth 100000 in
set_option maxHeartbeats 4000000 in
theorem rresid_r0 (A A2 PA : Option Addr) (n c n2 c2 pn pc : Nat) (t : ByteArray) (bf af inf : Int) (w : World) (b o : Nat) (kd : Int) (j : Nat) (hj : j < n) (hA : A = some ⟨b, o, none⟩) (hkd : w.cell? ⟨b, o + j * 9 + 1, none⟩ = some (.int .i64 kd)) (hn : n ≤ 1000) (HV : Hid (∀ W, Gr w W → Calls Try.prog 53 #[.agg #[.slice A n c, .slice A2 n2 c2]] W fun e w' => e = .returned (.bool true) ∧ Gr W w')) (HN : Hid (∀ W, Gr w W → Calls Try.prog 15 #[.agg #[.slice A n c, .slice A2 n2 c2], .string t] W fun e w' => e = .returned (.int .i64 (j : Int)) ∧ Gr W w')) (t1 : (kd == 3) = false) (hp : pn = n2) (hl : n2 ≤ 1000)  (y0 : decide (bf < 0) = true) : Calls Try.prog 29 #[.agg #[.slice A n c, .slice A2 n2 c2], .string t, .int .i64 bf, .int .i64 af, .int .i64 inf, .slice PA pn pc] w (fun e w' => e = .returned (.tuple #[.int .i64 0, .int .i64 2]) ∧ Gr w w') := by
  subst hA
  try (have hp' := hp.symm; subst hp')
  have ib0 : (0 : Int) ≤ (j : Int) := by omega
  have ib1 : (j : Int) < (n : Int) := by omega
  have t0 : decide ((j : Int) < 0) = false := decide_eq_false (by omega)
  go_enter Try.func29, Try.ntmps29
  go_wp2_with fail
  (first | refine name_world ?_ | refine (show (∀ W, W = _ → Calls _ _ _ W _) → Calls _ _ _ _ _ from fun h => h _ rfl) ?_); intro W1 hW1
  have g1 : Gr w W1 := by rw [hW1]; exact gr_auto
  have k1_0 : W1.cell? ⟨w.heap.size, 0, none⟩ = some (.slice (some ⟨b, o, none⟩) n c) := by rw [hW1]; first | (simp [go_sem, *]; done) | (refine Gr.at ?_ (by assumption); exact gr_auto)
  have b1_0 : w.heap.size < W1.heap.size := World.block_lt_of_cell? _ _ k1_0
  have k1_1 : W1.cell? ⟨w.heap.size, 1, none⟩ = some (.slice A2 n2 c2) := by rw [hW1]; first | (simp [go_sem, *]; done) | (refine Gr.at ?_ (by assumption); exact gr_auto)
  clear hW1
  refine (HV.out _ g1).mono ?_
  rintro e w2 ⟨rfl, hb2⟩
  have g2 := g1.trans hb2
  have k1_0 := Gr.at (w1 := w2) gr_auto k1_0; have k1_1 := Gr.at (w1 := w2) gr_auto k1_1
  go_wp2_with fail
  refine (HN.out _ g2).mono ?_
  rintro e w3 ⟨rfl, hb3⟩
  have g3 := g2.trans hb3
  have k1_0 := Gr.at (w1 := w3) gr_auto k1_0; have k1_1 := Gr.at (w1 := w3) gr_auto k1_1
  have kd2 := Gr.at g3 hkd
  clear hkd
  go_wp2_with fail
  go_ret2
  exact ⟨rfl, gr_auto⟩

set_option maxRecDepth 100000 in
set_option maxHeartbeats 4000000 in
theorem rresid_r1 (A A2 PA : Option Addr) (n c n2 c2 pn pc : Nat) (t : ByteArray) (bf af inf : Int) (w : World) (b o : Nat) (kd : Int) (j : Nat) (hj : j < n) (hA : A = some ⟨b, o, none⟩) (hkd : w.cell? ⟨b, o + j * 9 + 1, none⟩ = some (.int .i64 kd)) (hn : n ≤ 1000) (HV : Hid (∀ W, Gr w W → Calls Try.prog 53 #[.agg #[.slice A n c, .slice A2 n2 c2]] W fun e w' => e = .returned (.bool true) ∧ Gr W w')) (HN : Hid (∀ W, Gr w W → Calls Try.prog 15 #[.agg #[.slice A n c, .slice A2 n2 c2], .string t] W fun e w' => e = .returned (.int .i64 (j : Int)) ∧ Gr W w')) (t1 : (kd == 3) = false) (hp : pn = n2) (hl : n2 ≤ 1000) (y0 : decide (bf < 0) = false) (y1 : decide (9007199254740992 < bf) = true) : Calls Try.prog 29 #[.agg #[.slice A n c, .slice A2 n2 c2], .string t, .int .i64 bf, .int .i64 af, .int .i64 inf, .slice PA pn pc] w (fun e w' => e = .returned (.tuple #[.int .i64 0, .int .i64 2]) ∧ Gr w w') := by
  subst hA
  try (have hp' := hp.symm; subst hp')
  have ib0 : (0 : Int) ≤ (j : Int) := by omega
  have ib1 : (j : Int) < (n : Int) := by omega
  have t0 : decide ((j : Int) < 0) = false := decide_eq_false (by omega)
  go_enter Try.func29, Try.ntmps29
  go_wp2_with fail
  (first | refine name_world ?_ | refine (show (∀ W, W = _ → Calls _ _ _ W _) → Calls _ _ _ _ _ from fun h => h _ rfl) ?_); intro W1 hW1
  have g1 : Gr w W1 := by rw [hW1]; exact gr_auto
  have k1_0 : W1.cell? ⟨w.heap.size, 0, none⟩ = some (.slice (some ⟨b, o, none⟩) n c) := by rw [hW1]; first | (simp [go_sem, *]; done) | (refine Gr.at ?_ (by assumption); exact gr_auto)
  have b1_0 : w.heap.size < W1.heap.size := World.block_lt_of_cell? _ _ k1_0
  have k1_1 : W1.cell? ⟨w.heap.size, 1, none⟩ = some (.slice A2 n2 c2) := by rw [hW1]; first | (simp [go_sem, *]; done) | (refine Gr.at ?_ (by assumption); exact gr_auto)
  clear hW1
  refine (HV.out _ g1).mono ?_
  rintro e w2 ⟨rfl, hb2⟩
  have g2 := g1.trans hb2
  have k1_0 := Gr.at (w1 := w2) gr_auto k1_0; have k1_1 := Gr.at (w1 := w2) gr_auto k1_1
  go_wp2_with fail
  refine (HN.out _ g2).mono ?_
  rintro e w3 ⟨rfl, hb3⟩
  have g3 := g2.trans hb3
  have k1_0 := Gr.at (w1 := w3) gr_auto k1_0; have k1_1 := Gr.at (w1 := w3) gr_auto k1_1
  have kd2 := Gr.at g3 hkd
  clear hkd
  go_wp2_with fail
  go_ret2
  exact ⟨rfl, gr_auto⟩

set_option maxRecDepth 100000 in
set_option maxHeartbeats 4000000 in
theorem rresid_r2 (A A2 PA : Option Addr) (n c n2 c2 pn pc : Nat) (t : ByteArray) (bf af inf : Int) (w : World) (b o : Nat) (kd : Int) (j : Nat) (hj : j < n) (hA : A = some ⟨b, o, none⟩) (hkd : w.cell? ⟨b, o + j * 9 + 1, none⟩ = some (.int .i64 kd)) (hn : n ≤ 1000) (HV : Hid (∀ W, Gr w W → Calls Try.prog 53 #[.agg #[.slice A n c, .slice A2 n2 c2]] W fun e w' => e = .returned (.bool true) ∧ Gr W w')) (HN : Hid (∀ W, Gr w W → Calls Try.prog 15 #[.agg #[.slice A n c, .slice A2 n2 c2], .string t] W fun e w' => e = .returned (.int .i64 (j : Int)) ∧ Gr W w')) (t1 : (kd == 3) = false) (hp : pn = n2) (hl : n2 ≤ 1000) (y0 : decide (bf < 0) = false) (y1 : decide (9007199254740992 < bf) = false) (y2 : decide (af < 0) = true) : Calls Try.prog 29 #[.agg #[.slice A n c, .slice A2 n2 c2], .string t, .int .i64 bf, .int .i64 af, .int .i64 inf, .slice PA pn pc] w (fun e w' => e = .returned (.tuple #[.int .i64 0, .int .i64 2]) ∧ Gr w w') := by
  subst hA
  try (have hp' := hp.symm; subst hp')
  have ib0 : (0 : Int) ≤ (j : Int) := by omega
  have ib1 : (j : Int) < (n : Int) := by omega
  have t0 : decide ((j : Int) < 0) = false := decide_eq_false (by omega)
  go_enter Try.func29, Try.ntmps29
  go_wp2_with fail
  (first | refine name_world ?_ | refine (show (∀ W, W = _ → Calls _ _ _ W _) → Calls _ _ _ _ _ from fun h => h _ rfl) ?_); intro W1 hW1
  have g1 : Gr w W1 := by rw [hW1]; exact gr_auto
  have k1_0 : W1.cell? ⟨w.heap.size, 0, none⟩ = some (.slice (some ⟨b, o, none⟩) n c) := by rw [hW1]; first | (simp [go_sem, *]; done) | (refine Gr.at ?_ (by assumption); exact gr_auto)
  have b1_0 : w.heap.size < W1.heap.size := World.block_lt_of_cell? _ _ k1_0
  have k1_1 : W1.cell? ⟨w.heap.size, 1, none⟩ = some (.slice A2 n2 c2) := by rw [hW1]; first | (simp [go_sem, *]; done) | (refine Gr.at ?_ (by assumption); exact gr_auto)
  clear hW1
  refine (HV.out _ g1).mono ?_
  rintro e w2 ⟨rfl, hb2⟩
  have g2 := g1.trans hb2
  have k1_0 := Gr.at (w1 := w2) gr_auto k1_0; have k1_1 := Gr.at (w1 := w2) gr_auto k1_1
  go_wp2_with fail
  refine (HN.out _ g2).mono ?_
  rintro e w3 ⟨rfl, hb3⟩
  have g3 := g2.trans hb3
  have k1_0 := Gr.at (w1 := w3) gr_auto k1_0; have k1_1 := Gr.at (w1 := w3) gr_auto k1_1
  have kd2 := Gr.at g3 hkd
  clear hkd
  go_wp2_with fail
  go_ret2
  exact ⟨rfl, gr_auto⟩

set_option maxRecDepth 100000 in
set_option maxHeartbeats 4000000 in
theorem rresid_r3 (A A2 PA : Option Addr) (n c n2 c2 pn pc : Nat) (t : ByteArray) (bf af inf : Int) (w : World) (b o : Nat) (kd : Int) (j : Nat) (hj : j < n) (hA : A = some ⟨b, o, none⟩) (hkd : w.cell? ⟨b, o + j * 9 + 1, none⟩ = some (.int .i64 kd)) (hn : n ≤ 1000) (HV : Hid (∀ W, Gr w W → Calls Try.prog 53 #[.agg #[.slice A n c, .slice A2 n2 c2]] W fun e w' => e = .returned (.bool true) ∧ Gr W w')) (HN : Hid (∀ W, Gr w W → Calls Try.prog 15 #[.agg #[.slice A n c, .slice A2 n2 c2], .string t] W fun e w' => e = .returned (.int .i64 (j : Int)) ∧ Gr W w')) (t1 : (kd == 3) = false) (hp : pn = n2) (hl : n2 ≤ 1000) (y0 : decide (bf < 0) = false) (y1 : decide (9007199254740992 < bf) = false) (y2 : decide (af < 0) = false) (y3 : decide (9007199254740992 < af) = true) : Calls Try.prog 29 #[.agg #[.slice A n c, .slice A2 n2 c2], .string t, .int .i64 bf, .int .i64 af, .int .i64 inf, .slice PA pn pc] w (fun e w' => e = .returned (.tuple #[.int .i64 0, .int .i64 2]) ∧ Gr w w') := by
  subst hA
  try (have hp' := hp.symm; subst hp')
  have ib0 : (0 : Int) ≤ (j : Int) := by omega
  have ib1 : (j : Int) < (n : Int) := by omega
  have t0 : decide ((j : Int) < 0) = false := decide_eq_false (by omega)
  go_enter Try.func29, Try.ntmps29
  go_wp2_with fail
  (first | refine name_world ?_ | refine (show (∀ W, W = _ → Calls _ _ _ W _) → Calls _ _ _ _ _ from fun h => h _ rfl) ?_); intro W1 hW1
  have g1 : Gr w W1 := by rw [hW1]; exact gr_auto
  have k1_0 : W1.cell? ⟨w.heap.size, 0, none⟩ = some (.slice (some ⟨b, o, none⟩) n c) := by rw [hW1]; first | (simp [go_sem, *]; done) | (refine Gr.at ?_ (by assumption); exact gr_auto)
  have b1_0 : w.heap.size < W1.heap.size := World.block_lt_of_cell? _ _ k1_0
  have k1_1 : W1.cell? ⟨w.heap.size, 1, none⟩ = some (.slice A2 n2 c2) := by rw [hW1]; first | (simp [go_sem, *]; done) | (refine Gr.at ?_ (by assumption); exact gr_auto)
  clear hW1
  refine (HV.out _ g1).mono ?_
  rintro e w2 ⟨rfl, hb2⟩
  have g2 := g1.trans hb2
  have k1_0 := Gr.at (w1 := w2) gr_auto k1_0; have k1_1 := Gr.at (w1 := w2) gr_auto k1_1
  go_wp2_with fail
  refine (HN.out _ g2).mono ?_
  rintro e w3 ⟨rfl, hb3⟩
  have g3 := g2.trans hb3
  have k1_0 := Gr.at (w1 := w3) gr_auto k1_0; have k1_1 := Gr.at (w1 := w3) gr_auto k1_1
  have kd2 := Gr.at g3 hkd
  clear hkd
  go_wp2_with fail
  go_ret2
  exact ⟨rfl, gr_auto⟩

set_option maxRecDepth 100000 in
set_option maxHeartbeats 4000000 in
theorem rresid_r4 (A A2 PA : Option Addr) (n c n2 c2 pn pc : Nat) (t : ByteArray) (bf af inf : Int) (w : World) (b o : Nat) (kd : Int) (j : Nat) (hj : j < n) (hA : A = some ⟨b, o, none⟩) (hkd : w.cell? ⟨b, o + j * 9 + 1, none⟩ = some (.int .i64 kd)) (hn : n ≤ 1000) (HV : Hid (∀ W, Gr w W → Calls Try.prog 53 #[.agg #[.slice A n c, .slice A2 n2 c2]] W fun e w' => e = .returned (.bool true) ∧ Gr W w')) (HN : Hid (∀ W, Gr w W → Calls Try.prog 15 #[.agg #[.slice A n c, .slice A2 n2 c2], .string t] W fun e w' => e = .returned (.int .i64 (j : Int)) ∧ Gr W w')) (t1 : (kd == 3) = false) (hp : pn = n2) (hl : n2 ≤ 1000) (y0 : decide (bf < 0) = false) (y1 : decide (9007199254740992 < bf) = false) (y2 : decide (af < 0) = false) (y3 : decide (9007199254740992 < af) = false) (y4 : decide (inf < 0) = true) : Calls Try.prog 29 #[.agg #[.slice A n c, .slice A2 n2 c2], .string t, .int .i64 bf, .int .i64 af, .int .i64 inf, .slice PA pn pc] w (fun e w' => e = .returned (.tuple #[.int .i64 0, .int .i64 2]) ∧ Gr w w') := by
  subst hA
  try (have hp' := hp.symm; subst hp')
  have ib0 : (0 : Int) ≤ (j : Int) := by omega
  have ib1 : (j : Int) < (n : Int) := by omega
  have t0 : decide ((j : Int) < 0) = false := decide_eq_false (by omega)
  go_enter Try.func29, Try.ntmps29
  go_wp2_with fail
  (first | refine name_world ?_ | refine (show (∀ W, W = _ → Calls _ _ _ W _) → Calls _ _ _ _ _ from fun h => h _ rfl) ?_); intro W1 hW1
  have g1 : Gr w W1 := by rw [hW1]; exact gr_auto
  have k1_0 : W1.cell? ⟨w.heap.size, 0, none⟩ = some (.slice (some ⟨b, o, none⟩) n c) := by rw [hW1]; first | (simp [go_sem, *]; done) | (refine Gr.at ?_ (by assumption); exact gr_auto)
  have b1_0 : w.heap.size < W1.heap.size := World.block_lt_of_cell? _ _ k1_0
  have k1_1 : W1.cell? ⟨w.heap.size, 1, none⟩ = some (.slice A2 n2 c2) := by rw [hW1]; first | (simp [go_sem, *]; done) | (refine Gr.at ?_ (by assumption); exact gr_auto)
  clear hW1
  refine (HV.out _ g1).mono ?_
  rintro e w2 ⟨rfl, hb2⟩
  have g2 := g1.trans hb2
  have k1_0 := Gr.at (w1 := w2) gr_auto k1_0; have k1_1 := Gr.at (w1 := w2) gr_auto k1_1
  go_wp2_with fail
  refine (HN.out _ g2).mono ?_
  rintro e w3 ⟨rfl, hb3⟩
  have g3 := g2.trans hb3
  have k1_0 := Gr.at (w1 := w3) gr_auto k1_0; have k1_1 := Gr.at (w1 := w3) gr_auto k1_1
  have kd2 := Gr.at g3 hkd
  clear hkd
  go_wp2_with fail
  go_ret2
  exact ⟨rfl, gr_auto⟩

set_option maxRecDepth 100000 in
set_option maxHeartbeats 4000000 in
theorem rresid_r5 (A A2 PA : Option Addr) (n c n2 c2 pn pc : Nat) (t : ByteArray) (bf af inf : Int) (w : World) (b o : Nat) (kd : Int) (j : Nat) (hj : j < n) (hA : A = some ⟨b, o, none⟩) (hkd : w.cell? ⟨b, o + j * 9 + 1, none⟩ = some (.int .i64 kd)) (hn : n ≤ 1000) (HV : Hid (∀ W, Gr w W → Calls Try.prog 53 #[.agg #[.slice A n c, .slice A2 n2 c2]] W fun e w' => e = .returned (.bool true) ∧ Gr W w')) (HN : Hid (∀ W, Gr w W → Calls Try.prog 15 #[.agg #[.slice A n c, .slice A2 n2 c2], .string t] W fun e w' => e = .returned (.int .i64 (j : Int)) ∧ Gr W w')) (t1 : (kd == 3) = false) (hp : pn = n2) (hl : n2 ≤ 1000) (y0 : decide (bf < 0) = false) (y1 : decide (9007199254740992 < bf) = false) (y2 : decide (af < 0) = false) (y3 : decide (9007199254740992 < af) = false) (y4 : decide (inf < 0) = false) (y5 : decide (9007199254740992 < inf) = true) : Calls Try.prog 29 #[.agg #[.slice A n c, .slice A2 n2 c2], .string t, .int .i64 bf, .int .i64 af, .int .i64 inf, .slice PA pn pc] w (fun e w' => e = .returned (.tuple #[.int .i64 0, .int .i64 2]) ∧ Gr w w') := by
  subst hA
  try (have hp' := hp.symm; subst hp')
  have ib0 : (0 : Int) ≤ (j : Int) := by omega
  have ib1 : (j : Int) < (n : Int) := by omega
  have t0 : decide ((j : Int) < 0) = false := decide_eq_false (by omega)
  go_enter Try.func29, Try.ntmps29
  go_wp2_with fail
  (first | refine name_world ?_ | refine (show (∀ W, W = _ → Calls _ _ _ W _) → Calls _ _ _ _ _ from fun h => h _ rfl) ?_); intro W1 hW1
  have g1 : Gr w W1 := by rw [hW1]; exact gr_auto
  have k1_0 : W1.cell? ⟨w.heap.size, 0, none⟩ = some (.slice (some ⟨b, o, none⟩) n c) := by rw [hW1]; first | (simp [go_sem, *]; done) | (refine Gr.at ?_ (by assumption); exact gr_auto)
  have b1_0 : w.heap.size < W1.heap.size := World.block_lt_of_cell? _ _ k1_0
  have k1_1 : W1.cell? ⟨w.heap.size, 1, none⟩ = some (.slice A2 n2 c2) := by rw [hW1]; first | (simp [go_sem, *]; done) | (refine Gr.at ?_ (by assumption); exact gr_auto)
  clear hW1
  refine (HV.out _ g1).mono ?_
  rintro e w2 ⟨rfl, hb2⟩
  have g2 := g1.trans hb2
  have k1_0 := Gr.at (w1 := w2) gr_auto k1_0; have k1_1 := Gr.at (w1 := w2) gr_auto k1_1
  go_wp2_with fail
  refine (HN.out _ g2).mono ?_
  rintro e w3 ⟨rfl, hb3⟩
  have g3 := g2.trans hb3
  have k1_0 := Gr.at (w1 := w3) gr_auto k1_0; have k1_1 := Gr.at (w1 := w3) gr_auto k1_1
  have kd2 := Gr.at g3 hkd
  clear hkd
  go_wp2_with fail
  go_ret2
  exact ⟨rfl, gr_auto⟩

set_option maxRecDepth 100000 in
set_option maxHeartbeats 4000000 in
theorem rresid_q (A A2 PA : Option Addr) (n c n2 c2 pn pc : Nat) (t : ByteArray) (bf af inf : Int) (w : World) (b o : Nat) (kd : Int) (j : Nat) (hj : j < n) (hA : A = some ⟨b, o, none⟩) (hkd : w.cell? ⟨b, o + j * 9 + 1, none⟩ = some (.int .i64 kd)) (hn : n ≤ 1000) (HV : Hid (∀ W, Gr w W → Calls Try.prog 53 #[.agg #[.slice A n c, .slice A2 n2 c2]] W fun e w' => e = .returned (.bool true) ∧ Gr W w')) (HN : Hid (∀ W, Gr w W → Calls Try.prog 15 #[.agg #[.slice A n c, .slice A2 n2 c2], .string t] W fun e w' => e = .returned (.int .i64 (j : Int)) ∧ Gr W w')) (t1 : (kd == 3) = false) (hp : pn = n2) (hl : n2 ≤ 1000) (y0 : decide (bf < 0) = false) (y1 : decide (9007199254740992 < bf) = false) (y2 : decide (af < 0) = false) (y3 : decide (9007199254740992 < af) = false) (y4 : decide (inf < 0) = false) (y5 : decide (9007199254740992 < inf) = false) (HL : Hid (∀ W, Gr w W → Calls Try.prog 45 #[.agg #[.slice A n c, .slice A2 n2 c2], .agg #[.int .i64 0, .int .i64 0, .slice PA pn pc]] W fun e w' => e = .returned (.bool false) ∧ Gr W w')) : Calls Try.prog 29 #[.agg #[.slice A n c, .slice A2 n2 c2], .string t, .int .i64 bf, .int .i64 af, .int .i64 inf, .slice PA pn pc] w (fun e w' => e = .returned (.tuple #[.int .i64 0, .int .i64 2]) ∧ Gr w w') := by
  subst hA
  try (have hp' := hp.symm; subst hp')
  have ib0 : (0 : Int) ≤ (j : Int) := by omega
  have ib1 : (j : Int) < (n : Int) := by omega
  have t0 : decide ((j : Int) < 0) = false := decide_eq_false (by omega)
  go_enter Try.func29, Try.ntmps29
  go_wp2_with fail
  (first | refine name_world ?_ | refine (show (∀ W, W = _ → Calls _ _ _ W _) → Calls _ _ _ _ _ from fun h => h _ rfl) ?_); intro W1 hW1
  have g1 : Gr w W1 := by rw [hW1]; exact gr_auto
  have k1_0 : W1.cell? ⟨w.heap.size, 0, none⟩ = some (.slice (some ⟨b, o, none⟩) n c) := by rw [hW1]; first | (simp [go_sem, *]; done) | (refine Gr.at ?_ (by assumption); exact gr_auto)
  have b1_0 : w.heap.size < W1.heap.size := World.block_lt_of_cell? _ _ k1_0
  have k1_1 : W1.cell? ⟨w.heap.size, 1, none⟩ = some (.slice A2 n2 c2) := by rw [hW1]; first | (simp [go_sem, *]; done) | (refine Gr.at ?_ (by assumption); exact gr_auto)
  clear hW1
  refine (HV.out _ g1).mono ?_
  rintro e w2 ⟨rfl, hb2⟩
  have g2 := g1.trans hb2
  have k1_0 := Gr.at (w1 := w2) gr_auto k1_0; have k1_1 := Gr.at (w1 := w2) gr_auto k1_1
  go_wp2_with fail
  refine (HN.out _ g2).mono ?_
  rintro e w3 ⟨rfl, hb3⟩
  have g3 := g2.trans hb3
  have k1_0 := Gr.at (w1 := w3) gr_auto k1_0; have k1_1 := Gr.at (w1 := w3) gr_auto k1_1
  have kd2 := Gr.at g3 hkd
  clear hkd
  go_wp2_with fail
  refine (HL.out _ g3).mono ?_
  rintro e w4 ⟨rfl, hb4⟩
  have g4 := g3.trans hb4
  have k1_0 := Gr.at (w1 := w4) gr_auto k1_0; have k1_1 := Gr.at (w1 := w4) gr_auto k1_1
  go_wp2_with fail
  go_ret2
  exact ⟨rfl, gr_auto⟩

set_option maxRecDepth 100000 in
set_option maxHeartbeats 4000000 in
theorem rresid_l (A A2 PA : Option Addr) (n c n2 c2 pn pc : Nat) (t : ByteArray) (bf af inf : Int) (w : World) (b o : Nat) (kd : Int) (j : Nat) (hj : j < n) (hA : A = some ⟨b, o, none⟩) (hkd : w.cell? ⟨b, o + j * 9 + 1, none⟩ = some (.int .i64 kd)) (hn : n ≤ 1000) (HV : Hid (∀ W, Gr w W → Calls Try.prog 53 #[.agg #[.slice A n c, .slice A2 n2 c2]] W fun e w' => e = .returned (.bool true) ∧ Gr W w')) (HN : Hid (∀ W, Gr w W → Calls Try.prog 15 #[.agg #[.slice A n c, .slice A2 n2 c2], .string t] W fun e w' => e = .returned (.int .i64 (j : Int)) ∧ Gr W w')) (t1 : (kd == 3) = false) (hp : pn = n2) (y0 : decide (bf < 0) = false) (y1 : decide (9007199254740992 < bf) = false) (y2 : decide (af < 0) = false) (y3 : decide (9007199254740992 < af) = false) (y4 : decide (inf < 0) = false) (y5 : decide (9007199254740992 < inf) = false) (HL : Hid (∀ W, Gr w W → Calls Try.prog 45 #[.agg #[.slice A n c, .slice A2 n2 c2], .agg #[.int .i64 0, .int .i64 0, .slice PA pn pc]] W fun e w' => e = .returned (.bool true) ∧ Gr W w')) (b2 o2 b3 o3 : Nat) (E : Nat → Ba.Link) (Y f : Nat → Int) (KA : Hid (0 < n2 → A2 = some ⟨b2, o2, none⟩)) (KX : Hid (∀ k, k < n2 → (E k).Cells w b2 (o2 + k * 11))) (PA0 : Hid (0 < n2 → PA = some ⟨b3, o3, none⟩)) (PX : Hid (∀ k, k < n2 → w.cell? ⟨b3, o3 + k, none⟩ = some (.int .i64 (Y k)) ∧ 0 ≤ Y k ∧ Y k ≤ 9007199254740992))
    (SZ : Hid (∀ k, k < n2 → (E k).tt.size ≤ 9223372036854775807 ∧ (E k).fr.size ≤ 9223372036854775807)) (hsz : t.size ≤ 9223372036854775807) (F0 : f 0 = 0) (FS : Hid (∀ k, f (k + 1) = f k + ((if Ba.eqS (E k).tt t = true then Y k else 0) + (if Ba.eqS (E k).fr t = true then 0 - Y k else 0)))) (FB : Hid (∀ k, k ≤ n2 → -180143985094819840 ≤ f k ∧ f k ≤ 180143985094819840)) (hl : n2 ≤ 20) (q1 : 0 ≤ bf ∧ bf ≤ 9007199254740992) (q2 : 0 ≤ af ∧ af ≤ 9007199254740992) (q3 : 0 ≤ inf ∧ inf ≤ 9007199254740992) : Calls Try.prog 29 #[.agg #[.slice A n c, .slice A2 n2 c2], .string t, .int .i64 bf, .int .i64 af, .int .i64 inf, .slice PA pn pc] w (fun e w' => e = .returned (.tuple #[.int .i64 (bf + inf - af + f n2), .int .i64 0]) ∧ Gr w w') := by
  subst hA
  try (have hp' := hp.symm; subst hp')
  have ib0 : (0 : Int) ≤ (j : Int) := by omega
  have ib1 : (j : Int) < (n : Int) := by omega
  have t0 : decide ((j : Int) < 0) = false := decide_eq_false (by omega)
  go_enter Try.func29, Try.ntmps29
  go_wp2_with fail
  (first | refine name_world ?_ | refine (show (∀ W, W = _ → Calls _ _ _ W _) → Calls _ _ _ _ _ from fun h => h _ rfl) ?_); intro W1 hW1
  have g1 : Gr w W1 := by rw [hW1]; exact gr_auto
  have k1_0 : W1.cell? ⟨w.heap.size, 0, none⟩ = some (.slice (some ⟨b, o, none⟩) n c) := by rw [hW1]; first | (simp [go_sem, *]; done) | (refine Gr.at ?_ (by assumption); exact gr_auto)
  have b1_0 : w.heap.size < W1.heap.size := World.block_lt_of_cell? _ _ k1_0
  have k1_1 : W1.cell? ⟨w.heap.size, 1, none⟩ = some (.slice A2 n2 c2) := by rw [hW1]; first | (simp [go_sem, *]; done) | (refine Gr.at ?_ (by assumption); exact gr_auto)
  clear hW1
  refine (HV.out _ g1).mono ?_
  rintro e w2 ⟨rfl, hb2⟩
  have g2 := g1.trans hb2
  have k1_0 := Gr.at (w1 := w2) gr_auto k1_0; have k1_1 := Gr.at (w1 := w2) gr_auto k1_1
  go_wp2_with fail
  refine (HN.out _ g2).mono ?_
  rintro e w3 ⟨rfl, hb3⟩
  have g3 := g2.trans hb3
  have k1_0 := Gr.at (w1 := w3) gr_auto k1_0; have k1_1 := Gr.at (w1 := w3) gr_auto k1_1
  have kd2 := Gr.at g3 hkd
  clear hkd
  go_wp2_with fail
  refine (HL.out _ g3).mono ?_
  rintro e w4 ⟨rfl, hb4⟩
  have g4 := g3.trans hb4
  have k1_0 := Gr.at (w1 := w4) gr_auto k1_0; have k1_1 := Gr.at (w1 := w4) gr_auto k1_1
  clear kd2
  go_wp2_with fail
  (first | refine name_world ?_ | refine (show (∀ W, W = _ → Calls _ _ _ W _) → Calls _ _ _ _ _ from fun h => h _ rfl) ?_); intro W8 hW8
  have g8 : Gr w W8 := by rw [hW8]; exact gr_auto
  have gb8_w4 : Gr w4 W8 := by (try clear g8); rw [hW8]; exact gr_auto
  have k8_0 : W8.cell? ⟨w.heap.size, 0, none⟩ = some (.slice (some ⟨b, o, none⟩) n c) := by rw [hW8]; first | (simp [go_sem, *]; done) | (refine Gr.at ?_ (by assumption); exact gr_auto)
  have b8_0 : w.heap.size < W8.heap.size := World.block_lt_of_cell? _ _ k8_0
  have k8_1 : W8.cell? ⟨w.heap.size, 1, none⟩ = some (.slice A2 n2 c2) := by rw [hW8]; first | (simp [go_sem, *]; done) | (refine Gr.at ?_ (by assumption); exact gr_auto)
  clear hW8
  clear k1_0 k1_1
  go_loopw [15, 16] (fun a q wr => ∃ k : Nat, k ≤ n2 ∧ q = .int .i64 (k : Int) ∧ a = .int .i64 (bf + inf - af + f k) ∧ Gr W8 wr) (fun _ q _ => n2 - (intOf q).toNat)
  case atStart => exact ⟨0, Nat.zero_le _, rfl, by rw [F0, Int.add_zero], Gr.refl _⟩
  case round =>
    obtain ⟨k, hk, rfl, rfl, hg⟩ := hrel
    have gr : Gr w wr := g8.trans hg
    have k0 := Gr.at hg k8_0; have k1 := Gr.at hg k8_1
    clear k8_0 k8_1
    by_cases hlt : k < n2
    · obtain rfl := KA.out (by omega); obtain rfl := PA0.out (by omega)
      obtain ⟨a0, a1, a2, a3, a4, a5, a6, a7, a8, a9, a10⟩ := (KX.out k hlt).gr gr
      have v0 := Gr.at gr (PX.out k hlt).1
      have e0 := (PX.out k hlt).2
      have s0 := FB.out k hk; have s1 := FB.out (k + 1) hlt
      have z0 := (SZ.out k hlt).1; have z1 := (SZ.out k hlt).2
      have HT := Lib.hid (FS.out k)
      have hb1 : b3 < wr.heap.size := World.block_lt_of_cell? _ _ v0
      have hb0 : w.heap.size < wr.heap.size := World.block_lt_of_cell? _ _ k0
      have hb2 : b3 ≠ wr.heap.size := by omega
      have ib0 : (0 : Int) ≤ (k : Int) := by omega
      have ib1 : (k : Int) < (n2 : Int) := by omega
      clear FB FS KX PX SZ
      rw [HT.out] at s1
      generalize f k = x5 at *
      generalize Y k = x at *
      generalize E k = d at *
      unfold Ba.eqS at HT s1
      cases t0 : (d.tt.toList == t.toList)
      all_goals
        cases t1 : (d.fr.toList == t.toList)
        all_goals
          rw [t0, t1] at HT s1
          simp only [Bool.false_eq_true, if_false, if_true, Int.add_zero, Int.zero_add] at HT s1
          go_wp2_with fail
          go_roundw
          case rel => exact ⟨k + 1, by omega, by go_num, by (rw [HT.out]; try (first | rfl | (congr 1; omega))), gr_auto⟩
          case measure => simp [intOf]; omega
    · obtain rfl : k = n2 := by omega
      have s0 := FB.out k hk
      clear FB FS KX PX SZ
      go_wp2_with fail
      go_ret2
      exact ⟨rfl, gr_auto⟩

theorem resid_any (N : Ba.SlNode) (L : Ba.SlLink) (t : ByteArray) (bf af inf : Int) (P : Ba.SlI) (w : World) (hN : N.At w) (hL : L.At w) (hP : P.At w) (hsz : t.size ≤ 9223372036854775807) (hb : Ba.i64 bf) (ha : Ba.i64 af) (hi : Ba.i64 inf) (hn12 : N.n ≤ 12) (hl20 : L.n ≤ 20) : Calls Try.prog 18 #[Ba.netVal N L, .string t, .int .i64 bf, .int .i64 af, .int .i64 inf, .slice P.A P.n P.c] w fun e w' => e = .returned (.tuple #[.int .i64 (Ba.resV N L t bf af inf P), .int .i64 (Ba.resE N L t bf af inf P)]) ∧ Gr w w' := by
  have HN := Lib.hid (fun W (hh : Gr w W) => nodeno_any N L t W (hN.gr hh) (hL.gr hh))
  have HW1 := Lib.hid (fun W (hh : Gr w W) => bwithin_any P 9007199254740992 W (hP.gr hh))
  have HW3 := Lib.hid (fun B W h0 h1 h2 => bwithin_three bf af inf 9007199254740992 B W h0 h1 h2 hb ha hi)
  change Hid (∀ B W, W.cell? ⟨B, 0, none⟩ = some (.int .i64 bf) → W.cell? ⟨B, 1, none⟩ = some (.int .i64 af) → W.cell? ⟨B, 2, none⟩ = some (.int .i64 inf) → Calls _ _ _ W fun e w' => e = .returned (.bool (Ba.resOk bf af inf)) ∧ Gr W w') at HW3
  unfold Ba.resV
  generalize he : Ba.resE N L t bf af inf P = ec
  unfold Ba.resE at he
  cases hv : Ba.netB N L
  · rw [if_pos hv] at he
    subst he
    rw [hv] at HN
    rw [if_neg (by decide)]
    exact resid_e N.A L.A P.A N.n N.c L.n L.c P.n P.c t bf af inf w _ 1 (by decide) HN
  rw [if_neg (by rw [hv]; decide)] at he
  rw [hv] at HN
  simp only [if_true] at HN
  by_cases hx : Ba.nix N t < 0
  · rw [if_pos hx] at he
    subst he
    unfold Ba.fnd Ba.fndE at HN
    simp only [if_pos hx] at HN
    rw [if_neg (by decide)]
    exact resid_e N.A L.A P.A N.n N.c L.n L.c P.n P.c t bf af inf w _ 9 (by decide) HN
  rw [if_neg hx] at he
  unfold Ba.fnd Ba.fndE at HN
  simp only [if_neg hx] at HN
  obtain ⟨hj, hjn⟩ := Ba.nix_ok (N := N) (t := t) (by omega)
  rw [hj] at HN
  generalize (Ba.nix N t).toNat = j at *
  have hAj := hN.hA (by omega)
  have hkj := (hN.hD j hjn).1.2.1
  have hp2 := Nat.le_trans hP.hc hP.hb
  cases hk : ((N.D j).kd == 3)
  rotate_left
  · rw [if_pos hk] at he
    subst he
    rw [if_neg (by decide)]
    exact resid_k N.A L.A P.A N.n N.c L.n L.c P.n P.c t bf af inf w N.b N.o _ j hjn hAj hkj (by omega) HN hk
  rw [if_neg (by rw [hk]; decide)] at he
  by_cases hp : P.n = L.n
  rotate_left
  · rw [if_pos hp] at he
    subst he
    rw [if_neg (by decide)]
    exact resid_s N.A L.A P.A N.n N.c L.n L.c P.n P.c t bf af inf w N.b N.o _ j hjn hAj hkj (by omega) HN hk hp (by omega) hp2
  rw [if_neg (fun h => h hp)] at he
  cases hw : Ba.wiB P 9007199254740992
  · rw [hw, Bool.false_and, if_pos rfl] at he
    subst he
    rw [hw] at HW1
    rw [if_neg (by decide)]
    exact resid_r N.A L.A P.A N.n N.c L.n L.c P.n P.c t bf af inf w N.b N.o _ j hjn hAj hkj (by omega) HN hk hp (by omega) HW1
  rw [hw, Bool.true_and] at he
  rw [hw] at HW1
  cases hr : Ba.resOk bf af inf
  · rw [hr, if_pos rfl] at he
    subst he
    rw [hr] at HW3
    rw [if_neg (by decide)]
    exact resid_q N.A L.A P.A N.n N.c L.n L.c P.n P.c t bf af inf w N.b N.o _ j hjn hAj hkj (by omega) HN hk hp (by omega) HW1 HW3
  rw [hr, if_neg (by decide)] at he
  subst he
  rw [hr] at HW3
  rw [if_pos rfl]
  unfold Ba.resOk at hr
  simp only [Bool.and_eq_true] at hr
  exact resid_l N.A L.A P.A N.n N.c L.n L.c P.n P.c t bf af inf w N.b N.o _ j hjn hAj hkj (by omega) HN hk hp HW1 HW3 L.b L.o P.b P.o L.D P.X (Ba.sumI (Ba.rT L t P)) (Lib.hid hL.hA) (Lib.hid fun k hk => (hL.hD k hk).1) (Lib.hid fun h => hP.hA (by omega)) (Lib.hid fun k hk => ⟨(hP.hX k (by omega)).1, Ba.wi_at hw (by omega)⟩) (Lib.hid fun k hk => ⟨(hL.hD k hk).2.2.2.2.2.2.2.2.2.1, (hL.hD k hk).2.2.2.2.2.2.2.2.1⟩) hsz rfl (Lib.hid fun k => rfl) (Lib.hid fun k hk => Ba.rT_sum hl20 (fun j hj => Ba.wi_at hw (by omega)) hk) hl20 (Ba.bet_nat hr.1) (Ba.bet_nat hr.2.1) (Ba.bet_nat hr.2.2)

theorem rresid_any (N : Ba.SlNode) (L : Ba.SlLink) (t : ByteArray) (bf af inf : Int) (P : Ba.SlI) (w : World) (hN : N.At w) (hL : L.At w) (hP : P.At w) (hsz : t.size ≤ 9223372036854775807) (hb : Ba.i64 bf) (ha : Ba.i64 af) (hi : Ba.i64 inf) (hn12 : N.n ≤ 12) (hl20 : L.n ≤ 20) : Calls Try.prog 29 #[Ba.netVal N L, .string t, .int .i64 bf, .int .i64 af, .int .i64 inf, .slice P.A P.n P.c] w fun e w' => e = .returned (.tuple #[.int .i64 (Ba.resV N L t bf af inf P), .int .i64 (Ba.resE N L t bf af inf P)]) ∧ Gr w w' := by
  have HV := Lib.hid (fun W (hh : Gr w W) => rnetvalid_any N L W (hN.gr hh) (hL.gr hh))
  have HN := Lib.hid (fun W (hh : Gr w W) => show Calls Try.prog 15 #[Ba.netVal N L, .string t] W fun e w' => e = .returned (.int .i64 (Ba.nix N t)) ∧ Gr W w' from rfindnode_any N L.A L.n L.c t W (hN.gr hh))
  have HL := Lib.hid (fun W (hh : Gr w W) => rvalid_any N L ⟨0, 0, P⟩ W (by omega) ⟨(show Ba.i64 0 by unfold Ba.i64; omega), (show Ba.i64 0 by unfold Ba.i64; omega), hP.gr hh⟩)
  unfold Ba.resV
  generalize he : Ba.resE N L t bf af inf P = ec
  unfold Ba.resE at he
  cases hv : Ba.netB N L
  · rw [if_pos hv] at he
    subst he
    rw [hv] at HV
    rw [if_neg (by decide)]
    exact rresid_v N.A L.A P.A N.n N.c L.n L.c P.n P.c t bf af inf w HV
  rw [if_neg (by rw [hv]; decide)] at he
  rw [hv] at HV
  by_cases hx : Ba.nix N t < 0
  · rw [if_pos hx] at he
    subst he
    rw [if_neg (by decide)]
    exact rresid_n N.A L.A P.A N.n N.c L.n L.c P.n P.c t bf af inf w _ hx HV HN
  rw [if_neg hx] at he
  obtain ⟨hj, hjn⟩ := Ba.nix_ok (N := N) (t := t) (by omega)
  rw [hj] at HN
  generalize (Ba.nix N t).toNat = j at *
  have hAj := hN.hA (by omega)
  have hkj := (hN.hD j hjn).1.2.1
  have hp2 := Nat.le_trans hP.hc hP.hb
  cases hk : ((N.D j).kd == 3)
  rotate_left
  · rw [if_pos hk] at he
    subst he
    rw [if_neg (by decide)]
    exact rresid_k N.A L.A P.A N.n N.c L.n L.c P.n P.c t bf af inf w N.b N.o _ j hjn hAj hkj (by omega) HV HN hk
  rw [if_neg (by rw [hk]; decide)] at he
  by_cases hp : P.n = L.n
  rotate_left
  · rw [if_pos hp] at he
    subst he
    rw [if_neg (by decide)]
    exact rresid_s N.A L.A P.A N.n N.c L.n L.c P.n P.c t bf af inf w N.b N.o _ j hjn hAj hkj (by omega) HV HN hk hp (by omega) hp2
  rw [if_neg (fun h => h hp)] at he
  have hlb : Ba.ledgB L ⟨0, 0, P⟩ = Ba.wiB P 9007199254740992 := by
    unfold Ba.ledgB Ba.passB Ba.wiB
    rw [show Ba.bet 0 0 1152921504606846976 = true by decide, show decide (P.n = L.n) = true from decide_eq_true hp]
    rfl
  rw [hlb] at HL
  have no : ∀ {x m : Int}, (decide (x < 0) = true ∨ decide (m < x) = true) → Ba.bet x 0 m = false := fun {x m} h => by
    cases hq : Ba.bet x 0 m
    · rfl
    · have := Ba.bet_nat hq
      rcases h with h | h <;> (have := of_decide_eq_true h; omega)
  have yes : ∀ {x m : Int}, decide (x < 0) = false → decide (m < x) = false → Ba.bet x 0 m = true := fun {x m} h1 h2 => by
    rw [Ba.bet_iff]
    have := of_decide_eq_false h1; have := of_decide_eq_false h2
    omega
  have two : Ba.resOk bf af inf = false → ec = 2 := fun h => by
    rw [h, Bool.and_false, if_pos rfl] at he; exact he.symm
  cases y0 : decide (bf < 0)
  rotate_left
  · obtain rfl := two (by unfold Ba.resOk; rw [no (Or.inl y0)]; rfl)
    rw [if_neg (by decide)]
    exact rresid_r0 N.A L.A P.A N.n N.c L.n L.c P.n P.c t bf af inf w N.b N.o _ j hjn hAj hkj (by omega) HV HN hk hp (by omega) y0
  cases y1 : decide (9007199254740992 < bf)
  rotate_left
  · obtain rfl := two (by unfold Ba.resOk; rw [no (Or.inr y1)]; rfl)
    rw [if_neg (by decide)]
    exact rresid_r1 N.A L.A P.A N.n N.c L.n L.c P.n P.c t bf af inf w N.b N.o _ j hjn hAj hkj (by omega) HV HN hk hp (by omega) y0 y1
  cases y2 : decide (af < 0)
  rotate_left
  · obtain rfl := two (by unfold Ba.resOk; rw [no (x := af) (Or.inl y2), Bool.false_and, Bool.and_false])
    rw [if_neg (by decide)]
    exact rresid_r2 N.A L.A P.A N.n N.c L.n L.c P.n P.c t bf af inf w N.b N.o _ j hjn hAj hkj (by omega) HV HN hk hp (by omega) y0 y1 y2
  cases y3 : decide (9007199254740992 < af)
  rotate_left
  · obtain rfl := two (by unfold Ba.resOk; rw [no (x := af) (Or.inr y3), Bool.false_and, Bool.and_false])
    rw [if_neg (by decide)]
    exact rresid_r3 N.A L.A P.A N.n N.c L.n L.c P.n P.c t bf af inf w N.b N.o _ j hjn hAj hkj (by omega) HV HN hk hp (by omega) y0 y1 y2 y3
  cases y4 : decide (inf < 0)
  rotate_left
  · obtain rfl := two (by unfold Ba.resOk; rw [no (x := inf) (Or.inl y4), Bool.and_false, Bool.and_false])
    rw [if_neg (by decide)]
    exact rresid_r4 N.A L.A P.A N.n N.c L.n L.c P.n P.c t bf af inf w N.b N.o _ j hjn hAj hkj (by omega) HV HN hk hp (by omega) y0 y1 y2 y3 y4
  cases y5 : decide (9007199254740992 < inf)
  rotate_left
  · obtain rfl := two (by unfold Ba.resOk; rw [no (x := inf) (Or.inr y5), Bool.and_false, Bool.and_false])
    rw [if_neg (by decide)]
    exact rresid_r5 N.A L.A P.A N.n N.c L.n L.c P.n P.c t bf af inf w N.b N.o _ j hjn hAj hkj (by omega) HV HN hk hp (by omega) y0 y1 y2 y3 y4 y5
  have hr0 : Ba.resOk bf af inf = true := by unfold Ba.resOk; rw [yes y0 y1, yes y2 y3, yes y4 y5]; rfl
  rw [hr0, Bool.and_true] at he
  cases hw : Ba.wiB P 9007199254740992
  · rw [hw, if_pos rfl] at he
    subst he
    rw [hw] at HL
    rw [if_neg (by decide)]
    exact rresid_q N.A L.A P.A N.n N.c L.n L.c P.n P.c t bf af inf w N.b N.o _ j hjn hAj hkj (by omega) HV HN hk hp (by omega) y0 y1 y2 y3 y4 y5 HL
  rw [hw, if_neg (by decide)] at he
  subst he
  rw [hw] at HL
  rw [if_pos rfl]
  have hr := hr0
  unfold Ba.resOk at hr
  simp only [Bool.and_eq_true] at hr
  exact rresid_l N.A L.A P.A N.n N.c L.n L.c P.n P.c t bf af inf w N.b N.o _ j hjn hAj hkj (by omega) HV HN hk hp y0 y1 y2 y3 y4 y5 HL L.b L.o P.b P.o L.D P.X (Ba.sumI (Ba.rT L t P)) (Lib.hid hL.hA) (Lib.hid fun k hk => (hL.hD k hk).1) (Lib.hid fun h => hP.hA (by omega)) (Lib.hid fun k hk => ⟨(hP.hX k (by omega)).1, Ba.wi_at hw (by omega)⟩) (Lib.hid fun k hk => ⟨(hL.hD k hk).2.2.2.2.2.2.2.2.2.1, (hL.hD k hk).2.2.2.2.2.2.2.2.1⟩) hsz rfl (Lib.hid fun k => rfl) (Lib.hid fun k hk => Ba.rT_sum hl20 (fun j hj => Ba.wi_at hw (by omega)) hk) hl20 (Ba.bet_nat hr.1) (Ba.bet_nat hr.2.1) (Ba.bet_nat hr.2.2)

end Go.Proofs.Ythkmgnaeponfcaa
