/-
  Accounts: the plain words; the reference's Lost and Of. (Printed by mkof.py.)
  A region that draws its order, of reads before one last operation that writes: the reads in the order of the text.
  And worlds in which two blocks alone have turned.
-/
import Derived.Test.YtkgbbcmgfbipaaaGreatDoorSm28
import Derived.Test.YtkgbbcmgfbipaaaGreatDoorSm11
import Derived.Test.YtkgbbcmgfbipaaaGreatDoorSm01
import Derived.Deep.Quiet
import Derived.BigQuiet
import Derived.StillTail
set_option linter.unusedVariables false
set_option linter.unusedSimpArgs false
namespace Go.Proofs.YtkgbbcmgfbipaaaGreatDoor
open Go.RowKit
namespace Ba
/-- The ends of a link. -/
def fx (N : SlNode) (L : SlLink) (k : Nat) : Nat := (nix N (L.D k).fr).toNat
def tx (N : SlNode) (L : SlLink) (k : Nat) : Nat := (nix N (L.D k).tt).toNat
/-- Is a node an outfall? -/
def isO (N : SlNode) (i : Nat) : Bool := (N.D i).kd == 3
/-- What a set loses: at its nodes, by links. -/
def ndL (N : SlNode) (m : Nat → Bool) (I : SlI) (i : Nat) : Int := if (m i && isO N i) = true then I.X i else 0
def lkL (N : SlNode) (L : SlLink) (m : Nat → Bool) (P : SlI) (k : Nat) : Int := if (m (tx N L k) && isO N (tx N L k)) = true then P.X k else 0
def lostI (N : SlNode) (L : SlLink) (m : Nat → Bool) (I P : SlI) : Int := sumI (ndL N m I) N.n + sumI (lkL N L m P) L.n
/-- What a node loses without its links; what a set does. -/
def hol (s1 s2 : State) (I : SlI) (i : Nat) : Int := s1.vs.X i + s1.ps.X i + I.X i - s2.vs.X i - s2.ps.X i
def ndT (m : Nat → Bool) (s1 s2 : State) (I : SlI) (i : Nat) : Int := if m i = true then hol s1 s2 I i else 0
/-- What comes over a link into a set, less what goes. -/
def lkT (N : SlNode) (L : SlLink) (m : Nat → Bool) (P : SlI) (k : Nat) : Int := if (m (tx N L k) && !m (fx N L k)) = true then P.X k else if (m (fx N L k) && !m (tx N L k)) = true then 0 - P.X k else 0
def resI (N : SlNode) (L : SlLink) (m : Nat → Bool) (s1 s2 : State) (I P : SlI) : Int := 0 - lostI N L m I P + sumI (ndT m s1 s2 I) N.n + sumI (lkT N L m P) L.n
theorem net_ends {N : SlNode} {L : SlLink} (h : netB N L = true) {k : Nat} (hk : k < L.n) : nix N (L.D k).fr = (fx N L k : Int) ∧ fx N L k < N.n ∧ nix N (L.D k).tt = (tx N L k : Int) ∧ tx N L k < N.n := by
  unfold netB at h
  simp only [Bool.and_eq_true] at h
  have h1 := allB_at h.2.2.2 hk
  unfold linkB at h1
  simp only [Bool.and_eq_true, decide_eq_true_eq] at h1
  obtain ⟨-, -, a, b, -⟩ := h1
  unfold fx tx
  rcases nix_cases N (L.D k).fr with e | ⟨i, hi, e, -⟩
  · omega
  rcases nix_cases N (L.D k).tt with f | ⟨j, hj, f, -⟩
  · omega
  rw [e, f]
  exact ⟨by simp, by simpa using hi, by simp, by simpa using hj⟩
/-- Numbers of a step: not many, and not too great. -/
structure Fine (N : SlNode) (L : SlLink) (s1 s2 : State) (I P : SlI) : Prop where
  net : netB N L = true
  nn : N.n ≤ 12
  ll : L.n ≤ 20
  i : I.n = N.n
  p : P.n = L.n
  v1 : s1.vs.n = N.n
  p1 : s1.ps.n = N.n
  v2 : s2.vs.n = N.n
  p2 : s2.ps.n = N.n
  bi : ∀ i, i < N.n → 0 ≤ I.X i ∧ I.X i ≤ 1125899906842624
  bp : ∀ i, i < L.n → 0 ≤ P.X i ∧ P.X i ≤ 9007199254740992
  bv1 : ∀ i, i < N.n → 0 ≤ s1.vs.X i ∧ s1.vs.X i ≤ 1125899906842624
  bp1 : ∀ i, i < N.n → 0 ≤ s1.ps.X i ∧ s1.ps.X i ≤ 1125899906842624
  bv2 : ∀ i, i < N.n → 0 ≤ s2.vs.X i ∧ s2.vs.X i ≤ 1125899906842624
  bp2 : ∀ i, i < N.n → 0 ≤ s2.ps.X i ∧ s2.ps.X i ≤ 1125899906842624
variable {N : SlNode} {L : SlLink} {s1 s2 : State} {I P : SlI} (F : Fine N L s1 s2 I P) (m : Nat → Bool)
include F
theorem Fine.ndL_le {i : Nat} (hi : i < N.n) : 0 ≤ ndL N m I i ∧ ndL N m I i ≤ 1125899906842624 := by
  have := F.bi i hi; unfold ndL; split <;> omega
theorem Fine.lkL_le {k : Nat} (hk : k < L.n) : 0 ≤ lkL N L m P k ∧ lkL N L m P k ≤ 9007199254740992 := by
  have := F.bp k hk; unfold lkL; split <;> omega
theorem Fine.ndL_sum {i : Nat} (hi : i ≤ N.n) : 0 ≤ sumI (ndL N m I) i ∧ sumI (ndL N m I) i ≤ 13510798882111488 := by
  have := sumI_le (X := ndL N m I) (n := i) fun j hj => F.ndL_le m (by omega)
  have := F.nn; omega
theorem Fine.lkL_sum {k : Nat} (hk : k ≤ L.n) : 0 ≤ sumI (lkL N L m P) k ∧ sumI (lkL N L m P) k ≤ 180143985094819840 := by
  have := sumI_le (X := lkL N L m P) (n := k) fun j hj => F.lkL_le m (by omega)
  have := F.ll; omega
theorem Fine.lost_le : 0 ≤ lostI N L m I P ∧ lostI N L m I P ≤ 193654783976931328 := by
  have := F.ndL_sum m (Nat.le_refl N.n); have := F.lkL_sum m (Nat.le_refl L.n); unfold lostI; omega
theorem Fine.hol_le {i : Nat} (hi : i < N.n) : -2251799813685248 ≤ hol s1 s2 I i ∧ hol s1 s2 I i ≤ 3377699720527872 := by
  have := F.bi i hi; have := F.bv1 i hi; have := F.bp1 i hi; have := F.bv2 i hi; have := F.bp2 i hi
  unfold hol; omega
theorem Fine.ndT_le {i : Nat} (hi : i < N.n) : -2251799813685248 ≤ ndT m s1 s2 I i ∧ ndT m s1 s2 I i ≤ 3377699720527872 := by
  have := F.hol_le hi; unfold ndT; split <;> omega
theorem Fine.ndT_sum {i : Nat} (hi : i ≤ N.n) : -27021597764222976 ≤ sumI (ndT m s1 s2 I) i ∧ sumI (ndT m s1 s2 I) i ≤ 40532396646334464 := by
  have := sumI_le (X := ndT m s1 s2 I) (n := i) fun j hj => F.ndT_le m (by omega)
  have := F.nn; omega
theorem Fine.lkT_le {k : Nat} (hk : k < L.n) : -9007199254740992 ≤ lkT N L m P k ∧ lkT N L m P k ≤ 9007199254740992 := by
  have := F.bp k hk; unfold lkT; split
  · omega
  · split <;> omega
theorem Fine.lkT_sum {k : Nat} (hk : k ≤ L.n) : -180143985094819840 ≤ sumI (lkT N L m P) k ∧ sumI (lkT N L m P) k ≤ 180143985094819840 := by
  have := sumI_le (X := lkT N L m P) (n := k) fun j hj => F.lkT_le m (by omega)
  have := F.ll; omega
end Ba
end Go.Proofs.YtkgbbcmgfbipaaaGreatDoor
set_option linter.unusedVariables false
set_option linter.unusedSimpArgs false
namespace Go.Proofs.YtkgbbcmgfbipaaaGreatDoor
open Go.RowKit
theorem still_of_quiet {P : Program} {o : Oper} {a : Act} {W : World} {K K' : Act → Prop} (hn : ∀ a, K a → K' a) (h : o.quiet P a (fun w' => w' = W) K) : o.still P a W K' := by
  obtain ⟨v, h1, h2⟩ := h
  have h3 := h1 W rfl
  unfold Oper.quietAt at h3
  unfold Oper.still
  generalize (execOp a.eval o).run P W = r at *
  cases r with
  | halt x w' => simp only [Oper.quietUpon] at h3
  | ok n w' =>
    cases n with
    | value u =>
      simp only [Oper.quietUpon] at h3
      simp only [Oper.stillUpon]
      exact ⟨h3.1, by rw [h3.2]; exact hn _ h2⟩
    | skip =>
      simp only [Oper.quietUpon] at h3
      simp only [Oper.stillUpon]
      exact ⟨h3.1, by rw [← h3.2]; exact hn _ h2⟩
    | enter f args =>
      simp only [Oper.quietUpon] at h3
      simp only [Oper.stillUpon]
      exact ⟨h3.1, v, h3.2, hn _ h2⟩
    | _ => simp only [Oper.quietUpon] at h3
theorem wpStill_of_quiet {P : Program} {ops : Array Oper} {W : World} {Q : Act → Prop} : ∀ (l : List Oper) (a : Act), wpQuiet P ops (fun w' => w' = W) Q l a → wpStill P ops W Q l a
  | [], _, h => h
  | o :: l, a, h => by
    unfold wpQuiet at h
    unfold wpStill
    split
    · rename_i hw; rw [if_pos hw] at h; exact still_of_quiet (fun a' => wpStill_of_quiet l a') h
    · rename_i hw; rw [if_neg hw] at h; exact wpStill_of_quiet l _ h
theorem wp_region_tail {P : Program} {id : Nat} {Q : Exit → Act → World → Prop} {a : Act} {w : World} {l : List Oper} (n : Nat) (hm : P.follows .mixedOrders = true) (hB : Region.lexTailB .any l.toArray n = true)
    (h : wpQuiet P l.toArray (fun w' => w' = w.drew) (fun a' => wpList P l.toArray Q (l.drop n) a' w.drew) (l.take n) a) : (Code.region id l.toArray true).wp P Q a w :=
  wp_region_still_tail n hm hB (wpStill_of_quiet _ _ h)
/-- The world has grown; of what was there, the blocks R and M alone have turned. -/
structure GrY (R M : Nat) (w w' : World) : Prop where
  os : w'.os = w.os
  tape : w'.tape = w.tape
  output : w'.output = w.output
  size : w.heap.size ≤ w'.heap.size
  block : ∀ k, k < w.heap.size → k ≠ R → k ≠ M → w'.heap[k]? = w.heap[k]?
theorem GrY.refl (R M : Nat) (w : World) : GrY R M w w := ⟨rfl, rfl, rfl, Nat.le_refl _, fun _ _ _ _ => rfl⟩
theorem GrY.gr {R M : Nat} {a b c : World} (h : GrY R M a b) (k : Gr b c) : GrY R M a c :=
  ⟨k.os.trans h.os, k.tape.trans h.tape, k.output.trans h.output, Nat.le_trans h.size (Gr.size k), fun i hi hR hM => (Below.block k i (Nat.lt_of_lt_of_le hi h.size)).trans (h.block i hi hR hM)⟩
theorem GrY.drew {R M : Nat} {a b : World} (h : GrY R M a b) : GrY R M a b.drew := h.gr (Gr.drew (Gr.refl _))
theorem GrY.drewN {R M : Nat} {a b : World} (h : GrY R M a b) (n : Nat) : GrY R M a (b.drewN n) := h.gr (Gr.drewN (Gr.refl _) n)
theorem GrY.alloc {R M : Nat} {a b : World} (h : GrY R M a b) (o : Obj) : GrY R M a (b.alloc o) := h.gr (Gr.alloc (Gr.refl _) o)
theorem GrY.setCell {R M : Nat} {a b : World} (h : GrY R M a b) {p : Addr} (hp : p.block = R) (u : Value) : GrY R M a (b.setCell p u) := by
  subst hp
  exact ⟨h.os, h.tape, h.output, by simpa [World.setCell] using h.size, fun i hi hR hM => (Below.heap_setCell _ _ _ _ hR).trans (h.block i hi hR hM)⟩
theorem GrY.grx {R M : Nat} {a b c : World} (h : GrY R M a b) (k : GrX M b c) : GrY R M a c :=
  ⟨k.os.trans h.os, k.tape.trans h.tape, k.output.trans h.output, Nat.le_trans h.size k.size, fun i hi hR hM => (k.block i (Nat.lt_of_lt_of_le hi h.size) hM).trans (h.block i hi hR hM)⟩
theorem GrY.at {R M : Nat} {w w' : World} (h : GrY R M w w') {b o : Nat} {v : Value} (hR : b ≠ R) (hM : b ≠ M) (hc : w.cell? ⟨b, o, none⟩ = some v) : w'.cell? ⟨b, o, none⟩ = some v := by
  have hlt := World.block_lt_of_cell? w ⟨b, o, none⟩ hc
  rw [← hc]; exact World.cell?_of_block (w := w) (h.block b hlt hR hM)
theorem GrY.below {R M : Nat} {w W0 w' : World} (g : Gr w W0) (hR : w.heap.size ≤ R) (hM : w.heap.size ≤ M) (h : GrY R M W0 w') : Gr w w' :=
  ⟨h.os.trans g.os, h.tape.trans g.tape, h.output.trans g.output, Nat.le_trans (Gr.size g) h.size, fun k hk => (h.block k (Nat.lt_of_lt_of_le hk (Gr.size g)) (by omega) (by omega)).trans (Below.block g k hk)⟩
/-- A cell holds a value, and may be written. -/
def Own (w : World) (b o : Nat) (v : Value) : Prop := w.cell? ⟨b, o, none⟩ = some v ∧ w.frozen? ⟨b, o, none⟩ = false
theorem Own.gr {w w' : World} {b o : Nat} {v : Value} (h : Own w b o v) (g : Gr w w') : Own w' b o v := ⟨Gr.at g h.1, Gr.free g h.1 h.2⟩
theorem Own.grx {M : Nat} {w w' : World} {b o : Nat} {v : Value} (h : Own w b o v) (g : GrX M w w') (hb : b ≠ M) : Own w' b o v :=
  ⟨GrX.at g hb h.1, by
    have hlt := World.block_lt_of_cell? w ⟨b, o, none⟩ h.1
    have e := g.block b hlt hb
    have := h.2
    simp only [World.frozen?, e] at this ⊢
    exact this⟩
theorem Own.set {w : World} {b o : Nat} {v u : Value} (h : Own w b o v) : Own (w.setCell ⟨b, o, none⟩ u) b o u :=
  ⟨World.cell?_setCell_same' _ _ _ (by rw [h.1]; rfl), by have := h.2; simpa [go_sem] using this⟩
theorem Own.other {w : World} {b o b' o' : Nat} {v u : Value} (h : Own w b o v) (hne : b ≠ b' ∨ o ≠ o') : Own (w.setCell ⟨b', o', none⟩ u) b o v :=
  ⟨by rw [World.cell?_setCell_other _ _ _ _ (fun e => by simp only [Addr.mk.injEq] at e; omega)]; exact h.1, by have := h.2; simpa [go_sem] using this⟩
end Go.Proofs.YtkgbbcmgfbipaaaGreatDoor
