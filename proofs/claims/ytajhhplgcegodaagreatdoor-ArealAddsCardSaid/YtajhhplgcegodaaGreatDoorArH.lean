/-
  Areal: areal.Mean. (Printed by mkh.py.)
-/
import Derived.Test.YtajhhplgcegodaaGreatDoorArF
import Derived.Test.YtajhhplgcegodaaGreatDoorArG
set_option linter.unusedVariables false
set_option linter.unusedSimpArgs false
namespace Go.Proofs.YtajhhplgcegodaaGreatDoor
open Go.RowKit
attribute [local go_sem ↓] Go.wp_at_zero Go.wp_at_succ
theorem GrY.grow {R M : Nat} {a b c : World} {base E size n : Nat} {v : Value} {xs : List Value} (h : GrY R M a b) (hb : a.heap.size ≤ base) (ho : b.ownsRow base E size v n xs) (hgr : b.grownBy c v.ownBlock) : GrY R M a c :=
  ⟨hgr.os.trans h.os, hgr.tape.trans h.tape, hgr.output.trans h.output, Nat.le_trans h.size hgr.size, fun k hk hR hM => (hgr.block k (Nat.lt_of_lt_of_le hk h.size) (fun e => by have := (ho.lt k (by first | exact e | exact e.symm)).1; omega)).trans (h.block k hk hR hM)⟩
theorem GrY.keep {R M : Nat} {w w' : World} (h : GrY R M w w') {b o : Nat} {v : Value} (hR : b ≠ R) (hM : b ≠ M) (hc : Own w b o v) : Own w' b o v := by
  have hlt := World.block_lt_of_cell? w ⟨b, o, none⟩ hc.1
  have e := h.block b hlt hR hM
  exact ⟨(World.cell?_of_block (w := w) e).trans hc.1, (World.frozen?_of_block (w := w) (a := ⟨b, o, none⟩) e).trans hc.2⟩
theorem own_far {w : World} {base E size n B : Nat} {v : Value} {xs : List Value} (ho : w.ownsRow base E size v n xs) (hB : B < base) : some B ≠ v.ownBlock := fun e => by
  have := (ho.lt B (by first | exact e | exact e.symm)).1; omega
theorem ownsRow_set {w : World} {base E size n B o : Nat} {v u : Value} {xs : List Value} (h : w.ownsRow base E size v n xs) (hB : B < base) : (w.setCell ⟨B, o, none⟩ u).ownsRow base E size v n xs := by
  obtain ⟨hl, h | ⟨g, cap, cur, hv, hb, hc, r⟩⟩ := h
  · exact ⟨hl, Or.inl h⟩
  · exact ⟨hl, Or.inr ⟨g, cap, cur, hv, hb, (Below.heap_setCell _ _ _ _ (by simp only; omega)).trans hc, r⟩⟩
theorem ownsRow_atn {w : World} {base e n : Nat} {v : Value} {xs : List Value} (h : w.ownsRow base e 1 v n xs) : ∃ (A : Option Addr) (c b : Nat), v = .slice A n c ∧ (0 < n → A = some ⟨b, 0, none⟩) ∧ n ≤ c ∧ c ≤ 9223372036854775807 ∧ (∀ i, i < n → w.cell? ⟨b, i, none⟩ = xs[i]?) ∧ base ≤ b := by
  have h' := h
  obtain ⟨hl, ⟨rfl, rfl⟩ | ⟨g, cap, cur, rfl, hb, hc, hn, hm, r⟩⟩ := h
  · exact ⟨none, 0, base, rfl, fun h => absurd h (by omega), Nat.le_refl _, by omega, fun i hi => absurd hi (by omega), Nat.le_refl _⟩
  · exact ⟨some ⟨g, 0, none⟩, cap, g, rfl, fun _ => rfl, hn, by unfold maxLen at hm; exact hm, fun i hi => h'.cellAt i (by omega), hb⟩
theorem own_slin {w : World} {base E n : Nat} {v : Value} {X : Nat → Int} (h : w.ownsRow base E 1 v n ((List.range n).map fun i => .int .i64 (X i))) (hb : ∀ i, i < n → Ba.i64 (X i)) : ∃ s : Ba.SlI, v = .slice s.A s.n s.c ∧ s.At w ∧ s.n = n ∧ (∀ i, i < s.n → s.X i = X i) ∧ base ≤ s.b := by
  obtain ⟨A, c, b, rfl, h1, h2, h3, h4, h5⟩ := ownsRow_atn h
  refine ⟨⟨A, n, c, b, 0, X⟩, rfl, ⟨h1, h2, h3, fun i hi => ⟨?_, hb i hi⟩⟩, rfl, fun _ _ => rfl, h5⟩
  simp only at hi
  have := h4 i hi
  rw [Nat.zero_add]
  simpa [hi] using this
theorem own_grow {w w' : World} {row : Option Nat} {b o : Nat} {v : Value} (h : Own w b o v) (hg : w.grownBy w' row) (hne : some b ≠ row) : Own w' b o v := by
  have hlt := World.block_lt_of_cell? w ⟨b, o, none⟩ h.1
  have e := hg.block b hlt hne
  exact ⟨(World.cell?_of_block (w := w) e).trans h.1, (World.frozen?_of_block (w := w) (a := ⟨b, o, none⟩) e).trans h.2⟩
namespace Ba
def wtB (u : SlI) : Bool := allB (fun i => bet (u.X i) 0 9007199254740992) u.n
def mnE (S : SlSer) (u : SlI) : Int := if giE S = 0 then if u.n = S.n then if wtB u = true then if fitB S = true then 0 else 25 else 2 else 3 else giE S
theorem cm_bd {S : SlSer} (hg : giE S = 0) (hf : fitB S = true) : 0 ≤ cmN S ∧ cmN S ≤ 10000 ∧ ∀ k : Int, 0 ≤ k → k < cmN S → InT S (frI S S.n + k * (S.D 0).st) := by
  obtain ⟨n1, n2, hv⟩ := gi_parts hg
  have fb := fr_bd hv n1 S.n (Nat.le_refl _)
  have hst : ∀ i, i < S.n → (S.D i).st = (S.D 0).st := fun i hi => by
    have := allB_at hf hi
    unfold ftB at this
    rw [Bool.and_eq_true, beq_iff_eq] at this
    exact this.1
  have hfr : ∀ i, i ≤ S.n → ∀ k, k < i → (S.D k).fr ≤ frI S i := fun i => by
    induction i with
    | zero => intro _ k hk; omega
    | succ i ih =>
      intro hi k hk
      rw [frI]
      by_cases e : k = i
      · subst e; omega
      · have := ih (by omega) k (by omega); omega
  have hen : ∀ i, i ≤ S.n → ∀ k, k < i → enI S i ≤ (S.D k).fr + (S.D 0).st * (S.D k).ds.n := fun i => by
    induction i with
    | zero => intro _ k hk; omega
    | succ i ih =>
      intro hi k hk
      rw [enI]
      by_cases e : k = i
      · subst e; omega
      · have := ih (by omega) k (by omega); omega
  have v0 := ser_nums (hv 0 n1)
  have s0 := v0.2.1
  have e0 := hen S.n (Nat.le_refl _) 0 n1
  have f0 := hfr S.n (Nat.le_refl _) 0 n1
  have m0 : (S.D 0).st * ((S.D 0).ds.n : Int) ≤ (S.D 0).st * 10000 := Int.mul_le_mul_of_nonneg_left (by omega) (by omega)
  obtain ⟨D, hD⟩ : ∃ z, enI S S.n - frI S S.n = z := ⟨_, rfl⟩
  have hDm : max 0 D ≤ 10000 * (S.D 0).st := by omega
  unfold cmN
  rw [hD]
  refine ⟨Int.ediv_nonneg (by omega) (by omega), Int.ediv_le_of_le_mul (by omega) hDm, fun k k0 k1 i hi => ?_⟩
  have a := Int.mul_ediv_add_emod (max 0 D) (S.D 0).st
  have r0 := Int.emod_nonneg (max 0 D) (show (S.D 0).st ≠ 0 by omega)
  have kk : (k + 1) * (S.D 0).st ≤ (max 0 D / (S.D 0).st) * (S.D 0).st := Int.mul_le_mul_of_nonneg_right (by omega) (by omega)
  rw [Int.mul_comm (max 0 D / (S.D 0).st)] at kk
  rw [Int.add_mul, Int.one_mul] at kk
  have ks : 0 ≤ k * (S.D 0).st := Int.mul_nonneg k0 (by omega)
  have fi := hfr S.n (Nat.le_refl _) i hi; have ei := hen S.n (Nat.le_refl _) i hi
  have vi := (ser_nums (hv i hi)).1
  have ebd := en_bd hv n1 S.n (Nat.le_refl _) fun k hk => hst k hk
  rw [hst i hi]
  refine ⟨by omega, by omega, ?_⟩
  exact Int.ediv_lt_of_lt_mul (by omega) (by have e := Int.mul_comm ((S.D i).ds.n : Int) (S.D 0).st; rw [e]; omega)
end Ba
/-- What Mean answers. -/
def RetMn (S : Ba.SlSer) (u : Ba.SlI) (w : World) (e : Ending) (w' : World) : Prop := ∃ t : Ba.Ser, e = .returned (.tuple #[t.val, .int .i64 (Ba.mnE S u)]) ∧ t.Ok w' ∧ (Ba.mnE S u = 0 → t.fr = Ba.frI S S.n ∧ t.st = (S.D 0).st ∧ t.ds.n = (Ba.cmN S).toNat ∧ ∀ k, k < t.ds.n → t.ds.X k = Ba.mnV S u (Ba.frI S S.n + (k : Int) * (S.D 0).st)) ∧ (Ba.mnE S u ≠ 0 → t.fr = 0 ∧ t.st = 0 ∧ t.ds.n = 0) ∧ Gr w w'

set_option maxRecDepth 100000 in
set_option maxHeartbeats 4000000 in
theorem mwf_any (x : Int) (w : World) : Calls Tryz.prog 69 #[.int .i64 x] w fun e w' => e = .returned (.bool (!Ba.bet x 0 9007199254740992)) ∧ w = w' := by
  have e : (!Ba.bet x 0 9007199254740992) = (decide (x < 0) || decide (9007199254740992 < x)) := by
    unfold Ba.bet
    by_cases h : x < 0
    · rw [decide_eq_true h, decide_eq_false (by omega : ¬ 0 ≤ x)]; simp
    · rw [decide_eq_false h, decide_eq_true (by omega : 0 ≤ x)]
      by_cases h2 : 9007199254740992 < x
      · rw [decide_eq_true h2, decide_eq_false (by omega : ¬ x ≤ 9007199254740992)]; rfl
      · rw [decide_eq_false h2, decide_eq_true (by omega : x ≤ 9007199254740992)]; rfl
  rw [e]
  clear e
  cases t0 : decide (x < 0)
  · cases t1 : decide (9007199254740992 < x)
    · go_enter Tryz.func69, Tryz.ntmps69
      go_wp2_with fail
      go_ret
      exact ⟨rfl, rfl⟩
    · go_enter Tryz.func69, Tryz.ntmps69
      go_wp2_with fail
      go_ret
      exact ⟨rfl, rfl⟩
  · go_enter Tryz.func69, Tryz.ntmps69
    go_wp2_with fail
    go_ret
    exact ⟨rfl, rfl⟩
theorem wts_any (u : Ba.SlI) (w : World) (h : u.At w) : Calls Tryz.prog 14 #[.slice u.A u.n u.c, .func (.func 69) #[] #[]] w fun e w' => e = .returned (.bool (!Ba.wtB u)) ∧ Gr w w' := by
  have HC := has_int 69 #[] u (fun i => !Ba.bet (u.X i) 0 9007199254740992) w h (enter_of Tryz.func69 (by kernel_rfl) (by kernel_rfl)) fun i _ W' _ => gr_of (mwf_any (u.X i) W')
  have e : Ba.any (fun i => !Ba.bet (u.X i) 0 9007199254740992) u.n = !Ba.wtB u := by unfold Ba.wtB; rw [← Ba.any_not, Bool.not_not]
  rw [e] at HC
  exact HC

set_option maxRecDepth 100000 in
set_option maxHeartbeats 4000000 in
theorem mn_no1 (S : Ba.SlSer) (u : Ba.SlI) (w : World) (hS : S.At w) (hu : u.At w) (hg0 : Ba.giE S ≠ 0) : Calls Tryz.prog 28 #[.slice S.A S.n S.c, .slice u.A u.n u.c] w (fun e w' => e = .returned (.tuple #[.agg #[.int .i64 0, .int .i64 0, .slice none 0 0], .int .i64 (Ba.giE S)]) ∧ Gr w w') := by
  have hm := Nat.le_trans hS.hc hS.hb; have hm2 := Nat.le_trans hu.hc hu.hb
  have HG := Lib.hid (fun W (hh : Gr w W) => giv_any S W (hS.gr hh))
  clear hS hu
  generalize Ba.giE S = E at *
  have t0 : (E != 0) = true := bne_iff_ne.2 hg0
  clear hg0
  generalize S.A = A at *; generalize S.n = n at *; generalize S.c = c at *; generalize u.A = uA at *; generalize u.n = un at *; generalize u.c = uc at *
  go_enter Tryz.func28, Tryz.ntmps28
  go_wp2_with fail
  refine (show (∀ W, W = _ → Calls _ _ _ W _) → Calls _ _ _ _ _ from fun h => h _ rfl) ?_
  intro W1 hW1
  have g1 : Gr w W1 := by rw [hW1]; exact gr_auto
  have k0 : Own W1 w.heap.size 0 (.int .i64 0) := by rw [hW1]; exact ⟨by simp [go_sem], by simp [go_sem]⟩
  have k1 : Own W1 w.heap.size 1 (.int .i64 0) := by rw [hW1]; exact ⟨by simp [go_sem], by simp [go_sem]⟩
  have k2 : Own W1 w.heap.size 2 (.slice none 0 0) := by rw [hW1]; exact ⟨by simp [go_sem], by simp [go_sem]⟩
  clear hW1
  refine (HG.out _ g1).mono ?_
  rintro e w2 ⟨rfl, hb2⟩
  have g2 := g1.trans hb2
  replace k0 := k0.gr hb2; replace k1 := k1.gr hb2; replace k2 := k2.gr hb2
  clear HG
  obtain ⟨x0, f0⟩ := k0; obtain ⟨x1, f1⟩ := k1; obtain ⟨x2, f2⟩ := k2
  go_wp2_with fail
  refine bodyPost_ret (by simp [results, Tryz.results28, go_sem, x0, x1, x2, f0, f1, f2]; try rfl) rfl ?_
  exact ⟨rfl, gr_auto⟩

set_option maxRecDepth 100000 in
set_option maxHeartbeats 4000000 in
theorem mn_no2 (S : Ba.SlSer) (u : Ba.SlI) (w : World) (hS : S.At w) (hu : u.At w) (hg0 : Ba.giE S = 0) (hn : u.n ≠ S.n) : Calls Tryz.prog 28 #[.slice S.A S.n S.c, .slice u.A u.n u.c] w (fun e w' => e = .returned (.tuple #[.agg #[.int .i64 0, .int .i64 0, .slice none 0 0], .int .i64 3]) ∧ Gr w w') := by
  have hm := Nat.le_trans hS.hc hS.hb; have hm2 := Nat.le_trans hu.hc hu.hb
  have HG := Lib.hid (fun W (hh : Gr w W) => giv_any S W (hS.gr hh))
  rw [hg0] at HG
  have t0 : ((u.n : Int) != (S.n : Int)) = true := bne_iff_ne.2 (by omega)
  clear hS hu hg0 hn
  generalize S.A = A at *; generalize S.n = n at *; generalize S.c = c at *; generalize u.A = uA at *; generalize u.n = un at *; generalize u.c = uc at *
  go_enter Tryz.func28, Tryz.ntmps28
  go_wp2_with fail
  refine (show (∀ W, W = _ → Calls _ _ _ W _) → Calls _ _ _ _ _ from fun h => h _ rfl) ?_
  intro W1 hW1
  have g1 : Gr w W1 := by rw [hW1]; exact gr_auto
  have k0 : Own W1 w.heap.size 0 (.int .i64 0) := by rw [hW1]; exact ⟨by simp [go_sem], by simp [go_sem]⟩
  have k1 : Own W1 w.heap.size 1 (.int .i64 0) := by rw [hW1]; exact ⟨by simp [go_sem], by simp [go_sem]⟩
  have k2 : Own W1 w.heap.size 2 (.slice none 0 0) := by rw [hW1]; exact ⟨by simp [go_sem], by simp [go_sem]⟩
  clear hW1
  refine (HG.out _ g1).mono ?_
  rintro e w2 ⟨rfl, hb2⟩
  have g2 := g1.trans hb2
  replace k0 := k0.gr hb2; replace k1 := k1.gr hb2; replace k2 := k2.gr hb2
  clear HG
  obtain ⟨x0, f0⟩ := k0; obtain ⟨x1, f1⟩ := k1; obtain ⟨x2, f2⟩ := k2
  go_wp2_with fail
  refine bodyPost_ret (by simp [results, Tryz.results28, go_sem, x0, x1, x2, f0, f1, f2]; try rfl) rfl ?_
  exact ⟨rfl, gr_auto⟩

set_option maxRecDepth 100000 in
set_option maxHeartbeats 4000000 in
theorem mn_no3 (S : Ba.SlSer) (u : Ba.SlI) (w : World) (hS : S.At w) (hu : u.At w) (hg0 : Ba.giE S = 0) (hn : u.n = S.n) (hw : Ba.wtB u = false) : Calls Tryz.prog 28 #[.slice S.A S.n S.c, .slice u.A u.n u.c] w (fun e w' => e = .returned (.tuple #[.agg #[.int .i64 0, .int .i64 0, .slice none 0 0], .int .i64 2]) ∧ Gr w w') := by
  have hm := Nat.le_trans hS.hc hS.hb; have hm2 := Nat.le_trans hu.hc hu.hb
  have HG := Lib.hid (fun W (hh : Gr w W) => giv_any S W (hS.gr hh))
  have HW := Lib.hid (fun W (hh : Gr w W) => wts_any u W (hu.gr hh))
  rw [hg0] at HG
  rw [hw] at HW
  have t0 : ((u.n : Int) != (S.n : Int)) = false := by rw [hn]; simp
  clear hS hu hg0 hw hn
  generalize S.A = A at *; generalize S.n = n at *; generalize S.c = c at *; generalize u.A = uA at *; generalize u.n = un at *; generalize u.c = uc at *
  go_enter Tryz.func28, Tryz.ntmps28
  go_wp2_with fail
  refine (show (∀ W, W = _ → Calls _ _ _ W _) → Calls _ _ _ _ _ from fun h => h _ rfl) ?_
  intro W1 hW1
  have g1 : Gr w W1 := by rw [hW1]; exact gr_auto
  have k0 : Own W1 w.heap.size 0 (.int .i64 0) := by rw [hW1]; exact ⟨by simp [go_sem], by simp [go_sem]⟩
  have k1 : Own W1 w.heap.size 1 (.int .i64 0) := by rw [hW1]; exact ⟨by simp [go_sem], by simp [go_sem]⟩
  have k2 : Own W1 w.heap.size 2 (.slice none 0 0) := by rw [hW1]; exact ⟨by simp [go_sem], by simp [go_sem]⟩
  clear hW1
  refine (HG.out _ g1).mono ?_
  rintro e w2 ⟨rfl, hb2⟩
  have g2 := g1.trans hb2
  replace k0 := k0.gr hb2; replace k1 := k1.gr hb2; replace k2 := k2.gr hb2
  clear HG
  go_wp2_with fail
  refine (HW.out _ g2).mono ?_
  rintro e w3 ⟨rfl, hb3⟩
  have g3 := g2.trans hb3
  replace k0 := k0.gr hb3; replace k1 := k1.gr hb3; replace k2 := k2.gr hb3
  clear HW
  obtain ⟨x0, f0⟩ := k0; obtain ⟨x1, f1⟩ := k1; obtain ⟨x2, f2⟩ := k2
  go_wp2_with fail
  refine bodyPost_ret (by simp [results, Tryz.results28, go_sem, x0, x1, x2, f0, f1, f2]; try rfl) rfl ?_
  exact ⟨rfl, gr_auto⟩

set_option maxRecDepth 100000 in
set_option maxHeartbeats 4000000 in
theorem mn_no4 (S : Ba.SlSer) (u : Ba.SlI) (w : World) (hS : S.At w) (hu : u.At w) (hg0 : Ba.giE S = 0) (hn : u.n = S.n) (hw : Ba.wtB u = true) (hf : Ba.fitB S = false) : Calls Tryz.prog 28 #[.slice S.A S.n S.c, .slice u.A u.n u.c] w (fun e w' => e = .returned (.tuple #[.agg #[.int .i64 0, .int .i64 0, .slice none 0 0], .int .i64 25]) ∧ Gr w w') := by
  have hm := Nat.le_trans hS.hc hS.hb; have hm2 := Nat.le_trans hu.hc hu.hb
  have HG := Lib.hid (fun W (hh : Gr w W) => giv_any S W (hS.gr hh))
  have HW := Lib.hid (fun W (hh : Gr w W) => wts_any u W (hu.gr hh))
  have HC := Lib.hid (fun W (hh : Gr w W) => com_any S W (hS.gr hh) hg0)
  rw [hg0] at HG
  rw [hw] at HW
  rw [hf] at HC
  have t0 : ((u.n : Int) != (S.n : Int)) = false := by rw [hn]; simp
  clear hS hu hg0 hw hn hf
  generalize S.A = A at *; generalize S.n = n at *; generalize S.c = c at *; generalize u.A = uA at *; generalize u.n = un at *; generalize u.c = uc at *
  go_enter Tryz.func28, Tryz.ntmps28
  go_wp2_with fail
  refine (show (∀ W, W = _ → Calls _ _ _ W _) → Calls _ _ _ _ _ from fun h => h _ rfl) ?_
  intro W1 hW1
  have g1 : Gr w W1 := by rw [hW1]; exact gr_auto
  have k0 : Own W1 w.heap.size 0 (.int .i64 0) := by rw [hW1]; exact ⟨by simp [go_sem], by simp [go_sem]⟩
  have k1 : Own W1 w.heap.size 1 (.int .i64 0) := by rw [hW1]; exact ⟨by simp [go_sem], by simp [go_sem]⟩
  have k2 : Own W1 w.heap.size 2 (.slice none 0 0) := by rw [hW1]; exact ⟨by simp [go_sem], by simp [go_sem]⟩
  clear hW1
  refine (HG.out _ g1).mono ?_
  rintro e w2 ⟨rfl, hb2⟩
  have g2 := g1.trans hb2
  replace k0 := k0.gr hb2; replace k1 := k1.gr hb2; replace k2 := k2.gr hb2
  clear HG
  go_wp2_with fail
  refine (HW.out _ g2).mono ?_
  rintro e w3 ⟨rfl, hb3⟩
  have g3 := g2.trans hb3
  replace k0 := k0.gr hb3; replace k1 := k1.gr hb3; replace k2 := k2.gr hb3
  clear HW
  go_wp2_with fail
  refine (HC.out _ g3).mono ?_
  rintro e w4 ⟨rfl, hb4⟩
  have g4 := g3.trans hb4
  replace k0 := k0.gr hb4; replace k1 := k1.gr hb4; replace k2 := k2.gr hb4
  clear HC
  obtain ⟨x0, f0⟩ := k0; obtain ⟨x1, f1⟩ := k1; obtain ⟨x2, f2⟩ := k2
  go_wp2_with fail
  refine bodyPost_ret (by simp [results, Tryz.results28, go_sem, x0, x1, x2, f0, f1, f2]; try rfl) rfl ?_
  exact ⟨rfl, gr_auto⟩

theorem mnV_i64 {S : Ba.SlSer} {u : Ba.SlI} {t : Int} (hg0 : Ba.giE S = 0) (hn : u.n = S.n) (hw : Ba.WtB u) (ht : Ba.InT S t) : Ba.i64 (Ba.mnV S u t) := by
  obtain ⟨n1, n2, hv⟩ := Ba.gi_parts hg0
  obtain ⟨a, b, c⟩ := Ba.sn_bd hv ht hw hn S.n (Nat.le_refl _)
  unfold Ba.mnV
  split
  · unfold Ba.i64; omega
  · have q0 : 0 ≤ Ba.snI S u t S.n / Ba.whI S u t S.n := Int.ediv_nonneg a.1 b.1
    have q1 : Ba.snI S u t S.n / Ba.whI S u t S.n ≤ 4194304 := Int.ediv_le_of_le_mul (by omega) (by omega)
    unfold Ba.i64; omega

set_option maxRecDepth 100000 in
set_option maxHeartbeats 4000000 in
theorem mn_ok (S : Ba.SlSer) (u : Ba.SlI) (w : World) (hS : S.At w) (hu : u.At w) (hg0 : Ba.giE S = 0) (hn : u.n = S.n) (hw : Ba.wtB u = true) (hf : Ba.fitB S = true) : Calls Tryz.prog 28 #[.slice S.A S.n S.c, .slice u.A u.n u.c] w (fun e w' => ∃ r : Ba.SlI, e = .returned (.tuple #[.agg #[.int .i64 (Ba.frI S S.n), .int .i64 (S.D 0).st, .slice r.A r.n r.c], .int .i64 0]) ∧ r.At w' ∧ (r.n : Int) = Ba.cmN S ∧ (∀ k : Nat, (k : Int) < Ba.cmN S → r.X k = Ba.mnV S u (Ba.frI S S.n + (k : Int) * (S.D 0).st)) ∧ Gr w w') := by
  have hm := Nat.le_trans hS.hc hS.hb; have hm2 := Nat.le_trans hu.hc hu.hb
  have HG := Lib.hid (fun W (hh : Gr w W) => giv_any S W (hS.gr hh))
  have HW := Lib.hid (fun W (hh : Gr w W) => wts_any u W (hu.gr hh))
  have HC := Lib.hid (fun W (hh : Gr w W) => com_any S W (hS.gr hh) hg0)
  obtain ⟨n1, n2, hv⟩ := Ba.gi_parts hg0
  obtain ⟨cm0, cm1, cmI⟩ := Ba.cm_bd hg0 hf
  have fb := Ba.fr_bd hv n1 S.n (Nat.le_refl _)
  have s0 := (Ba.ser_nums (hv 0 n1)).2.1
  have hwt : Ba.WtB u := fun i hi => (Ba.bet_iff _ _ _).1 (Ba.allB_at hw hi)
  have HMn := Lib.hid (fun (k : Nat) (hk : (k : Int) < Ba.cmN S) W (hW : Gr w W) => mean_any S u (Ba.frI S S.n + (k : Int) * (S.D 0).st) W (hS.gr hW) (hu.gr hW) hg0 hn hwt (cmI k (by omega) hk))
  have hA := hS.hA (by omega)
  obtain ⟨z0, z1, z2⟩ := (hS.hD 0 (by omega)).1
  rw [Nat.zero_mul, Nat.add_zero] at z0 z1 z2
  have hnc := hS.hc; have hcb := hS.hb
  rw [hg0] at HG
  rw [hw] at HW
  rw [if_pos hf, if_pos hf, hf] at HC
  have t0 : ((u.n : Int) != (S.n : Int)) = false := by rw [hn]; simp
  rw [hA] at HG HC HMn ⊢
  obtain ⟨N, hN⟩ : ∃ N : Nat, Ba.cmN S = (N : Int) := ⟨(Ba.cmN S).toNat, by omega⟩
  rw [hN] at HC HMn cm0 cm1 ⊢
  have hmvb0 := fun (k : Nat) (hk : (k : Int) < (N : Int)) => mnV_i64 hg0 hn hwt (cmI k (by omega) (by omega))
  clear hg0 hw hf hv hwt cmI hS hu hA hN hn
  have HMV := Lib.hid (fun k : Nat => show Ba.mnV S u (Ba.frI S S.n + (k : Int) * (S.D 0).st) = (fun k : Nat => Ba.mnV S u (Ba.frI S S.n + (k : Int) * (S.D 0).st)) k from rfl)
  obtain ⟨mv, hmv⟩ : ∃ f : Nat → Int, (fun k : Nat => Ba.mnV S u (Ba.frI S S.n + (k : Int) * (S.D 0).st)) = f := ⟨_, rfl⟩
  have HMV2 := Lib.hid (fun k : Nat => show Ba.mnV S u (Ba.frI S S.n + (k : Int) * (S.D 0).st) = mv k from by rw [← hmv])
  have HMn2 := Lib.hid (fun (k : Nat) (hk : k < N) W (hW : Gr w W) => by have z := HMn.out k (by omega) W hW; rw [HMV2.out k] at z; exact z)
  have HPost := Lib.hid (fun (X : Nat → Int) (h : ∀ k, k < N → X k = mv k) => fun k (hk : k < N) => (h k hk).trans (HMV2.out k).symm)
  have hmvb := Lib.hid (fun (k : Nat) (hk : k < N) => show Ba.i64 (mv k) from by rw [← HMV2.out k]; exact hmvb0 k (by omega))
  clear HMn HMV hmv HMV2 hmvb0
  generalize Ba.mnV S u = mm at *
  generalize Ba.frI S S.n = fr at *
  generalize (S.D 0).st = st at *
  generalize (S.D 0).fr = fr0 at *
  generalize (S.D 0).ds.A = dsA at *
  generalize (S.D 0).ds.n = dsn at *
  generalize (S.D 0).ds.c = dsc at *
  generalize S.b = sb at *; generalize S.o = so at *; generalize S.n = n at *; generalize S.c = c at *; generalize u.A = uA at *; generalize u.n = un at *; generalize u.c = uc at *
  obtain ⟨i1, hi0, hz0, hz1, hz2⟩ := info_parts info_intz
  have KI := Lib.hid hi0; have KZ0 := Lib.hid hz0; have KZ1 := Lib.hid hz1; have KZ2 := Lib.hid hz2
  clear hi0 hz0 hz1 hz2
  have nb1 : (0 : Int) < (n : Int) := by omega
  have nb2 : 0 < n := by omega
  go_enter Tryz.func28, Tryz.ntmps28
  go_wp2_with fail
  refine (show (∀ W, W = _ → Calls _ _ _ W _) → Calls _ _ _ _ _ from fun h => h _ rfl) ?_
  intro W1 hW1
  have g1 : Gr w W1 := by rw [hW1]; exact gr_auto
  have k0 : Own W1 w.heap.size 0 (.int .i64 0) := by rw [hW1]; exact ⟨by simp [go_sem], by simp [go_sem]⟩
  have k1 : Own W1 w.heap.size 1 (.int .i64 0) := by rw [hW1]; exact ⟨by simp [go_sem], by simp [go_sem]⟩
  have k2 : Own W1 w.heap.size 2 (.slice none 0 0) := by rw [hW1]; exact ⟨by simp [go_sem], by simp [go_sem]⟩
  clear hW1
  refine (HG.out _ g1).mono ?_
  rintro e w2 ⟨rfl, hb2⟩
  have g2 := g1.trans hb2
  replace k0 := k0.gr hb2; replace k1 := k1.gr hb2; replace k2 := k2.gr hb2
  clear HG
  go_wp2_with fail
  refine (HW.out _ g2).mono ?_
  rintro e w3 ⟨rfl, hb3⟩
  have g3 := g2.trans hb3
  replace k0 := k0.gr hb3; replace k1 := k1.gr hb3; replace k2 := k2.gr hb3
  clear HW
  go_wp2_with fail
  refine (HC.out _ g3).mono ?_
  rintro e w4 ⟨rfl, hb4⟩
  have g4 := g3.trans hb4
  replace k0 := k0.gr hb4; replace k1 := k1.gr hb4; replace k2 := k2.gr hb4
  clear HC
  replace z1 := Gr.at g4 z1
  have hB4 : w.heap.size < w4.heap.size := World.block_lt_of_cell? _ _ k0.1
  -- @a
  go_wp2_with fail
  -- @b
  refine name_world ?_
  intro W6 hW6
  have gs6 : Gr w4 W6 := by rw [hW6]; exact gr_auto
  have P0 : Own W6 w4.heap.size 0 (.int .i64 fr) := by rw [hW6]; exact ⟨by simp [go_sem], by simp [go_sem]⟩
  have P1 : Own W6 w4.heap.size 1 (.int .i64 st) := by rw [hW6]; exact ⟨by simp [go_sem], by simp [go_sem]⟩
  have P2 : Own W6 w4.heap.size 2 (.slice none 0 0) := by rw [hW6]; exact ⟨by simp [go_sem], by simp [go_sem]⟩
  clear hW6
  have g6 := g4.trans gs6
  replace k0 := k0.gr gs6; replace k1 := k1.gr gs6; replace k2 := k2.gr gs6
  have nB : w4.heap.size < W6.heap.size := World.block_lt_of_cell? _ _ P0.1
  generalize w4.heap.size = BO at *
  replace P0 := Lib.hid P0; replace P1 := Lib.hid P1; replace P2 := Lib.hid P2
  replace k0 := Lib.hid k0; replace k1 := Lib.hid k1; replace k2 := Lib.hid k2
  clear z0 z1 z2
  go_loopw [48] (fun x wr => ∃ k : Nat, k ≤ N ∧ x = .int .i64 (k : Int) ∧ (∃ va, Hid (Own wr BO 2 va) ∧ Hid (wr.ownsRow W6.heap.size 3 1 va k ((List.range k).map fun k => .int .i64 (mv k)))) ∧ Hid (Own wr BO 0 (.int .i64 fr)) ∧ Hid (Own wr BO 1 (.int .i64 st)) ∧ GrY BO BO W6 wr) (fun x _ => N - (intOf x).toNat)
  case atStart => exact ⟨0, Nat.zero_le _, rfl, ⟨_, P2, Lib.hid ⟨rfl, Or.inl ⟨rfl, rfl⟩⟩⟩, P0, P1, GrY.refl _ _ _⟩
  case round =>
    clear P0 P1 P2
    obtain ⟨k, hk, rfl, ⟨va, HC, HO⟩, HD0, HD1, hg⟩ := hrel
    have gw : Gr w wr := GrY.below g6 (by omega) (by omega) hg
    by_cases hlt : k < N
    · have HMk := Lib.hid (fun W (hW : Gr wr W) => HMn2.out k hlt W (gw.trans hW))
      have ib0 : (0 : Int) ≤ (k : Int) := by omega
      have ib1 : (k : Int) < (N : Int) := by omega
      have kb : 0 ≤ (k : Int) * st ∧ (k : Int) * st ≤ 10000 * 86400 := ⟨Int.mul_nonneg (by omega) (by omega), Int.mul_le_mul (by omega) (by omega) (by omega) (by omega)⟩
      have e1 := HD1.out.1
      have hfar : some BO ≠ va.ownBlock := own_far HO.out nB
      have bw := hg.size
      clear HMn2 HPost k0 k1 k2
      obtain ⟨mk, hmk⟩ : ∃ z, mv k = z := ⟨_, rfl⟩
      rw [hmk] at HMk
      replace hmk := Lib.hid hmk
      -- @c
      go_wp2_with fail
      -- @d
      refine (HMk.out _ (Gr.refl _)).mono ?_
      rintro e w7 ⟨rfl, hb7⟩
      clear HMk
      have c2 := Gr.at hb7 HC.out.1
      have hz7 := Gr.size hb7
      have bB7 : BO < w7.heap.size := by omega
      have HO7 := Lib.hid (ownsRow_gr HO.out hb7)
      have HCw := Lib.hid (fun (W : World) (h : Gr wr W) => HC.out.gr h); have HDw := Lib.hid (fun (W : World) (h : Gr wr W) => HD0.out.gr h); have HEw := Lib.hid (fun (W : World) (h : Gr wr W) => HD1.out.gr h)
      have HGw := Lib.hid (fun (W : World) (h : Gr wr W) => hg.gr h)
      clear HO e1
      go_wp2_with (at_builtin; refine wpList_append_own _ rfl _ _ 26 rfl W6.heap.size 3 i1 (.int .i64 0) 1 8 Tryz.underlying26 KI.out KZ0.out KZ1.out KZ2.out rfl (by decide) _ k ((List.range k).map fun k => .int .i64 (mv k)) rfl (ownsRow_gr HO7.out (by exact gr_auto)) ⟨w7.heap.size, 0, none⟩ 1 1 [.int .i64 mk] rfl rfl (by intro p u hp; rcases p with _ | p <;> simp at hp <;> (try subst hp) <;> first | (simp [Addr.add, go_sem]; done) | (simp [Addr.add]; done)) (by intro u hu; simp at hu; subst hu; rfl) (by unfold maxLen; omega) (by omega) (by simp; omega) ?_)
      -- @e
      intro v' w9 hown' hgrow hnil
      obtain ⟨A9, cc9, g9, hv9, -⟩ := ownsRow_atn hown'
      subst hv9
      have gx8 : Gr wr (w7.alloc (Obj.cells #[.int .i64 mk] 3)) := Gr.alloc hb7 _
      have C9 := own_grow (HCw.out _ gx8) hgrow hfar; have D9 := own_grow (HDw.out _ gx8) hgrow hfar; have E9 := own_grow (HEw.out _ gx8) hgrow hfar
      have HCn := Lib.hid (show Own (w9.setCell ⟨BO, 2, none⟩ (.slice A9 (k + 1) cc9)) BO 2 (.slice A9 (k + 1) cc9) from C9.set); have HDn := Lib.hid (D9.other (b' := BO) (o' := 2) (u := .slice A9 (k + 1) cc9) (Or.inr (by decide))); have HEn := Lib.hid (E9.other (b' := BO) (o' := 2) (u := .slice A9 (k + 1) cc9) (Or.inr (by decide)))
      have HOn := Lib.hid (show (w9.setCell ⟨BO, 2, none⟩ (.slice A9 (k + 1) cc9)).ownsRow W6.heap.size 3 1 (.slice A9 (k + 1) cc9) (k + 1) ((List.range (k + 1)).map fun k => .int .i64 (mv k)) from ownsRow_set (by rw [List.range_succ, List.map_append, List.map_cons, List.map_nil, hmk.out]; exact hown') nB)
      have HGn := Lib.hid (GrY.setCell (p := ⟨BO, 2, none⟩) (GrY.grow (HGw.out _ gx8) (Nat.le_refl _) (ownsRow_gr HO7.out (Gr.alloc (Gr.refl _) _)) hgrow) rfl (.slice A9 (k + 1) cc9))
      have c9 := C9.1; have f9 := C9.2
      clear C9 D9 E9 hown' hgrow hnil HCw HDw HEw HGw HO7 HC HD0 HD1
      go_wp2_with fail
      -- @f
      go_roundw
      case rel => exact ⟨k + 1, by omega, by go_num, ⟨_, HCn, HOn⟩, HDn, HEn, HGn.out⟩
      case measure => simp [intOf]; omega
    · obtain rfl : N = k := by omega
      have K0 := hg.keep (by omega) (by omega) k0.out; have K1 := hg.keep (by omega) (by omega) k1.out; have K2 := hg.keep (by omega) (by omega) k2.out
      obtain ⟨x0, f0⟩ := K0; obtain ⟨x1, f1⟩ := K1; obtain ⟨x2, f2⟩ := K2
      have d0 := HD0.out.1; have d1 := HD1.out.1; have d2 := HC.out.1
      have HRow := Lib.hid HO.out
      have HPo := Lib.hid HPost.out
      clear HMn2 HPost k0 k1 k2 HO HC HD0 HD1
      have hmb : ∀ i, i < N → Ba.i64 (mv i) := hmvb.out
      obtain ⟨r, rfl, r1, r2, r3, r4⟩ := own_slin HRow.out hmb
      replace r1 := Lib.hid r1; replace r2 := Lib.hid r2; replace r3 := Lib.hid r3
      have hrb : w.heap.size ≠ r.b := by omega
      clear hmb HRow
      -- @g
      go_wp2_with fail
      -- @h
      refine bodyPost_ret (by simp [results, Tryz.results28, go_sem, x0, x1, x2, f0, f1, f2]; try rfl) rfl ?_
      exact ⟨r, rfl, ⟨r1.out.hA, r1.out.hc, r1.out.hb, fun i hi => ⟨GrX.at (R := w.heap.size) (show GrX w.heap.size wr _ from (by repeat' (first | (with_reducible assumption) | (with_reducible exact GrX.refl _ _) | (with_reducible refine GrX.drew ?_) | (with_reducible refine GrX.drewN ?_ _) | (with_reducible refine GrX.setCell ?_ ?_ _) | (rfl; done) | (with_reducible refine GrX.alloc ?_ _) | (with_reducible refine GrX.grown ?_ (by with_reducible assumption))))) (by omega) (r1.out.hX i hi).1, (r1.out.hX i hi).2⟩⟩, by rw [r2.out], fun k hk => HPo.out r.X (fun k hk => r3.out k (by rw [r2.out]; exact hk)) k (by omega), GrX.gr gw (Nat.le_refl _) (show GrX w.heap.size wr _ from (by repeat' (first | (with_reducible assumption) | (with_reducible exact GrX.refl _ _) | (with_reducible refine GrX.drew ?_) | (with_reducible refine GrX.drewN ?_ _) | (with_reducible refine GrX.setCell ?_ ?_ _) | (rfl; done) | (with_reducible refine GrX.alloc ?_ _) | (with_reducible refine GrX.grown ?_ (by with_reducible assumption)))))⟩
end Go.Proofs.YtajhhplgcegodaaGreatDoor
