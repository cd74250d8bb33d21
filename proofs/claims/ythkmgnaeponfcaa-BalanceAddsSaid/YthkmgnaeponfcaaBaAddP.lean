/-
  Sums of ledgers: the plain law; the program's Sum for any list.
-/
import Derived.Test.YthkmgnaeponfcaaBaRev
set_option linter.unusedVariables false
set_option linter.unusedSimpArgs false
namespace Go.Proofs.Ythkmgnaeponfcaa
open Go.RowKit
namespace Ba
theorem sumI_nn {X : Nat → Int} : ∀ {n : Nat}, (∀ i, i < n → 0 ≤ X i) → 0 ≤ sumI X n
  | 0, _ => by simp [sumI]
  | n + 1, h => by have := sumI_nn (n := n) fun i hi => h i (by omega); have := h n (by omega); rw [sumI]; omega
theorem sumI_split (X : Nat → Int) (i : Nat) : ∀ m, sumI X (i + m) = sumI X i + sumI (fun j => X (i + j)) m
  | 0 => by simp [sumI]
  | m + 1 => by rw [show i + (m + 1) = i + m + 1 by omega, sumI, sumI, sumI_split X i m]; omega
theorem sumI_mono {X : Nat → Int} {n i : Nat} (h : ∀ i, i < n → 0 ≤ X i) (hi : i ≤ n) : sumI X i ≤ sumI X n := by
  obtain ⟨m, rfl⟩ : ∃ m, n = i + m := ⟨n - i, by omega⟩
  rw [sumI_split]
  have := sumI_nn (X := fun j => X (i + j)) (n := m) fun j hj => h _ (by omega)
  omega
theorem sumI_rev (X : Nat → Int) : ∀ n, sumI (fun j => X (n - 1 - j)) n = sumI X n
  | 0 => rfl
  | n + 1 => by
    have h := sumI_split (fun j => X (n + 1 - 1 - j)) 1 n
    rw [show 1 + n = n + 1 by omega] at h
    have e : sumI (fun j => X (n + 1 - 1 - j)) 1 = X n := by simp [sumI]
    have e2 : sumI (fun j => (fun j => X (n + 1 - 1 - j)) (1 + j)) n = sumI (fun j => X (n - 1 - j)) n := sumI_congr fun j hj => by
      show X (n + 1 - 1 - (1 + j)) = X (n - 1 - j)
      congr 1; omega
    rw [h, e, e2, sumI_rev X n, sumI]; omega
/-- No number is negative. -/
def NN (D : Nat → Ledger) (n2 n : Nat) : Prop := ∀ i, i < n → 0 ≤ (D i).inn ∧ 0 ≤ (D i).out ∧ ∀ k, k < n2 → 0 ≤ (D i).ps.X k
theorem okS_iff (D : Nat → Ledger) (n2 i : Nat) : okS D n2 i = true ↔ (0 ≤ sIn D i ∧ sIn D i ≤ 1152921504606846976) ∧ (0 ≤ sOut D i ∧ sOut D i ≤ 1152921504606846976) ∧ ∀ k, k < n2 → 0 ≤ sPs D k i ∧ sPs D k i ≤ 9007199254740992 := by
  constructor
  · exact okS_parts
  · rintro ⟨h1, h2, h3⟩
    unfold okS
    simp only [Bool.and_eq_true, bet_iff]
    refine ⟨h1, h2, ?_⟩
    rw [allB_iff]
    intro k hk; rw [bet_iff]; exact h3 k hk
theorem okS_mono {D : Nat → Ledger} {n2 n : Nat} (hn : NN D n2 n) (h : okS D n2 n = true) {i : Nat} (hi : i ≤ n) : okS D n2 i = true := by
  rw [okS_iff] at h ⊢
  obtain ⟨h1, h2, h3⟩ := h
  have a := sumI_mono (X := fun j => (D j).inn) (fun j hj => (hn j hj).1) hi
  have b := sumI_mono (X := fun j => (D j).out) (fun j hj => (hn j hj).2.1) hi
  have a' := sumI_nn (X := fun j => (D j).inn) (n := i) (fun j hj => (hn j (by omega)).1)
  have b' := sumI_nn (X := fun j => (D j).out) (n := i) (fun j hj => (hn j (by omega)).2.1)
  unfold sIn sOut at *
  refine ⟨by omega, by omega, fun k hk => ?_⟩
  have c := sumI_mono (X := fun j => (D j).ps.X k) (fun j hj => (hn j hj).2.2 k hk) hi
  have c' := sumI_nn (X := fun j => (D j).ps.X k) (n := i) (fun j hj => (hn j (by omega)).2.2 k hk)
  have := h3 k hk
  unfold sPs at *
  omega
/-- The error of a sum. -/
def sumE (N : SlNode) (L : SlLink) (G : SlLedger) : Int := if lstE N L G = 0 then if allB (fun i => okS G.D L.n (i + 1)) G.n = true then 0 else 5 else lstE N L G
theorem lst_zero {N : SlNode} {L : SlLink} {G : SlLedger} (h : lstE N L G = 0) : netB N L = true ∧ ledsB L G = true ∧ G.n ≤ 10000 := by
  unfold lstE at h
  split at h
  · omega
  split at h
  · omega
  split at h
  · omega
  rename_i a b c
  exact ⟨by simpa using a, by simpa using b, by omega⟩
theorem lst_of {N : SlNode} {L : SlLink} {G : SlLedger} (h1 : netB N L = true) (h2 : ledsB L G = true) (h3 : G.n ≤ 10000) : lstE N L G = 0 := by
  unfold lstE
  rw [if_neg (by rw [h1]; decide), if_neg (by rw [h2]; decide), if_neg (by omega)]
theorem leds_iff {L : SlLink} {G : SlLedger} : ledsB L G = true ↔ ∀ i, i < G.n → ledgB L (G.D i) = true := by
  unfold ledsB; rw [allB_iff]
theorem leds_nn {L : SlLink} {G : SlLedger} (h : ledsB L G = true) : NN G.D L.n G.n := fun i hi => by
  have a := ledg_parts (leds_iff.1 h i hi)
  exact ⟨a.1.1, a.2.1.1, fun k hk => (a.2.2.2 k hk).1⟩
theorem sumE_val {N : SlNode} {L : SlLink} {G : SlLedger} (h : lstE N L G = 0) : sumE N L G = if okS G.D L.n G.n = true then 0 else 5 := by
  obtain ⟨h1, h2, -⟩ := lst_zero h
  have hn := leds_nn h2
  unfold sumE
  rw [if_pos h]
  by_cases q : okS G.D L.n G.n = true
  · rw [if_pos q, if_pos (allB_iff.2 fun i hi => okS_mono hn q (by omega))]
  · rw [if_neg q, if_neg ?_]
    intro h
    cases hz : G.n with
    | zero => rw [hz] at q; exact q (okS_zero _ _)
    | succ m => rw [hz] at q h; exact q (allB_at (p := fun i => okS G.D L.n (i + 1)) h (Nat.lt_succ_self m))
theorem ledg_of {L : SlLink} {g : Ledger} (h1 : 0 ≤ g.inn ∧ g.inn ≤ 1152921504606846976) (h2 : 0 ≤ g.out ∧ g.out ≤ 1152921504606846976) (h3 : g.ps.n = L.n) (h4 : ∀ k, k < L.n → 0 ≤ g.ps.X k ∧ g.ps.X k ≤ 9007199254740992) : ledgB L g = true := by
  unfold ledgB passB
  simp only [Bool.and_eq_true, bet_iff, decide_eq_true_eq]
  refine ⟨h1, h2, h3, ?_⟩
  rw [allB_iff]
  intro k hk; rw [bet_iff]; exact h4 k (by omega)
theorem same_of {a b : Ledger} (h1 : a.inn = b.inn) (h2 : a.out = b.out) (h3 : a.ps.n = b.ps.n) (h4 : ∀ k, k < a.ps.n → a.ps.X k = b.ps.X k) : sameB a b = true := by
  unfold sameB
  rw [h1, h2]
  simp only [beq_self_eq_true, Bool.true_and, Bool.and_eq_true, decide_eq_true_eq]
  refine ⟨h3, ?_⟩
  rw [allB_iff]
  intro k hk; rw [h4 k hk]; simp
/-- The ledgers in the opposite order; the first i; those behind the first i. -/
def revG (A : Option Addr) (c g : Nat) (G : SlLedger) : SlLedger := ⟨A, G.n, c, g, 0, fun j => G.D (G.n - 1 - j)⟩
theorem rev_lst {N : SlNode} {L : SlLink} {G : SlLedger} {A : Option Addr} {c g : Nat} (h : lstE N L G = 0) : lstE N L (revG A c g G) = 0 := by
  obtain ⟨h1, h2, h3⟩ := lst_zero h
  exact lst_of h1 (leds_iff.2 fun i hi => leds_iff.1 h2 _ (by unfold revG at hi; simp only at hi; omega)) h3
theorem rev_sums (D : Nat → Ledger) (n : Nat) : sIn (fun j => D (n - 1 - j)) n = sIn D n ∧ sOut (fun j => D (n - 1 - j)) n = sOut D n ∧ ∀ k, sPs (fun j => D (n - 1 - j)) k n = sPs D k n :=
  ⟨sumI_rev (fun j => (D j).inn) n, sumI_rev (fun j => (D j).out) n, fun k => sumI_rev (fun j => (D j).ps.X k) n⟩
theorem rev_sumE {N : SlNode} {L : SlLink} {G : SlLedger} {A : Option Addr} {c g : Nat} (h : lstE N L G = 0) : sumE N L (revG A c g G) = sumE N L G := by
  rw [sumE_val h, sumE_val (rev_lst h)]
  have e : okS (revG A c g G).D L.n (revG A c g G).n = okS G.D L.n G.n := by
    obtain ⟨a, b, d⟩ := rev_sums G.D G.n
    unfold okS revG
    simp only
    rw [a, b]
    have : (fun k => bet (sPs (fun j => G.D (G.n - 1 - j)) k G.n) 0 9007199254740992) = fun k => bet (sPs G.D k G.n) 0 9007199254740992 := funext fun k => by rw [d k]
    rw [this]
  rw [e]
end Ba
theorem sum_ledgers (N : Ba.SlNode) (L : Ba.SlLink) (G : Ba.SlLedger) (w : World) (hN : N.At w) (hL : L.At w) (hG : G.At w) (hm : G.n ≤ 1000) : Calls Try.prog 22 #[Ba.netVal N L, .slice G.A G.n G.c] w (RetSum G.D L.n G.n (Ba.sumE N L G) w) := by
  have HL := Lib.hid (fun W (hh : Gr w W) => listed_any N L G W (hN.gr hh) (hL.gr hh) (hG.gr hh))
  by_cases he : Ba.lstE N L G = 0
  rotate_left
  · have e : Ba.sumE N L G = Ba.lstE N L G := by unfold Ba.sumE; rw [if_neg he]
    rw [e]
    exact sum_e N.A L.A G.A N.n N.c L.n L.c G.n G.c w G.D _ he HL
  rw [he] at HL
  obtain ⟨h1, h2, h3⟩ := Ba.lst_zero he
  have hl := Nat.le_trans hL.hc hL.hb
  have hl4 : L.n ≤ 1000 := by
    unfold Ba.netB at h1
    simp only [Bool.and_eq_true, decide_eq_true_eq] at h1
    omega
  have P := fun i (hi : i < G.n) => Ba.ledg_parts (Ba.leds_iff.1 h2 i hi)
  refine sum_l N.A L.A G.A N.n N.c L.n L.c G.n G.c w G.b G.o G.D _ hm hl4 (Lib.hid hG.hA) (Lib.hid fun i hi => ⟨(hG.hD i hi).1, (P i hi).1, (P i hi).2.1, ⟨(P i hi).2.2.1, fun h => (hG.hD i hi).2.2.2.hA (by rw [(P i hi).2.2.1]; exact h)⟩, fun k hk => ((hG.hD i hi).2.2.2.hX k (by rw [(P i hi).2.2.1]; exact hk)).1, (P i hi).2.2.2⟩) HL (Lib.hid fun g W hh hg => bvalid_any N L g W hl hg) (Lib.hid fun i hi hq => ?_) (Lib.hid fun hq => ?_)
  · unfold Ba.sumE
    rw [if_pos he, if_neg (by rw [Ba.allB_stop (p := fun i => Ba.okS G.D L.n (i + 1)) hi hq]; decide)]
  · unfold Ba.sumE
    rw [if_pos he, if_pos (Ba.allB_iff.2 hq)]
end Go.Proofs.Ythkmgnaeponfcaa
