/-
  Sums of ledgers: parts of a list add up; what passed a link is in the sum. (No program is in sight.)
-/
import Derived.Test.YthkmgnaeponfcaaBaAddP
set_option linter.unusedVariables false
set_option linter.unusedSimpArgs false
namespace Go.Proofs.Ythkmgnaeponfcaa
open Go.RowKit
namespace Ba
/-- A list's part: n ledgers from the i-th on. -/
def partG (A : Option Addr) (G : SlLedger) (i n c : Nat) : SlLedger := ⟨A, n, c, G.b, G.o + i * 3, fun j => G.D (i + j)⟩
theorem partG_at {w : World} {G : SlLedger} {A : Option Addr} {i n c : Nat} (h : G.At w) (hA : 0 < n → A = some ⟨G.b, G.o + i * 3, none⟩) (hn : i + n ≤ G.n) (hc : n ≤ c) (hm : c ≤ 9223372036854775807) : (partG A G i n c).At w := ⟨hA, hc, hm, fun j hj => by
  have := h.hD (i + j) (by unfold partG at hj; simp only at hj; omega)
  unfold partG
  simp only
  rw [show G.o + i * 3 + j * 3 = G.o + (i + j) * 3 by omega]
  exact this⟩
theorem part_lst {N : SlNode} {L : SlLink} {G : SlLedger} {A : Option Addr} {i n c : Nat} (h : lstE N L G = 0) (hn : i + n ≤ G.n) : lstE N L (partG A G i n c) = 0 := by
  obtain ⟨h1, h2, h3⟩ := lst_zero h
  exact lst_of h1 (leds_iff.2 fun j hj => leds_iff.1 h2 _ (by unfold partG at hj; simp only at hj; omega)) (by unfold partG; simp only; omega)
theorem part_sums (D : Nat → Ledger) (i n : Nat) : sIn (fun j => D (i + j)) n = sIn D (i + n) - sIn D i ∧ sOut (fun j => D (i + j)) n = sOut D (i + n) - sOut D i ∧ ∀ k, sPs (fun j => D (i + j)) k n = sPs D k (i + n) - sPs D k i := by
  refine ⟨?_, ?_, fun k => ?_⟩
  · have h : sumI (fun j => (D (i + j)).inn) n = sumI (fun j => (D j).inn) (i + n) - sumI (fun j => (D j).inn) i := by rw [sumI_split (fun j => (D j).inn) i n]; omega
    exact h
  · have h : sumI (fun j => (D (i + j)).out) n = sumI (fun j => (D j).out) (i + n) - sumI (fun j => (D j).out) i := by rw [sumI_split (fun j => (D j).out) i n]; omega
    exact h
  · have h : sumI (fun j => (D (i + j)).ps.X k) n = sumI (fun j => (D j).ps.X k) (i + n) - sumI (fun j => (D j).ps.X k) i := by rw [sumI_split (fun j => (D j).ps.X k) i n]; omega
    exact h
theorem part_sumE {N : SlNode} {L : SlLink} {G : SlLedger} {A : Option Addr} {i n c : Nat} (h : lstE N L G = 0) (hs : sumE N L G = 0) (hn : i + n ≤ G.n) : sumE N L (partG A G i n c) = 0 := by
  obtain ⟨h1, h2, h3⟩ := lst_zero h
  have nn := leds_nn h2
  rw [sumE_val h] at hs
  have ok : okS G.D L.n G.n = true := by
    by_cases q : okS G.D L.n G.n = true
    · exact q
    · rw [if_neg q] at hs; omega
  have a := okS_parts (okS_mono nn ok (show i + n ≤ G.n from hn))
  have b := okS_parts (okS_mono nn ok (show i ≤ G.n by omega))
  obtain ⟨e1, e2, e3⟩ := part_sums G.D i n
  rw [sumE_val (part_lst h hn)]
  have nn' := leds_nn (lst_zero (part_lst (A := A) (c := c) h hn)).2.1
  have c1 := sumI_nn (X := fun j => ((partG A G i n c).D j).inn) (n := n) (fun j hj => (nn' j hj).1)
  have c2 := sumI_nn (X := fun j => ((partG A G i n c).D j).out) (n := n) (fun j hj => (nn' j hj).2.1)
  have : okS (partG A G i n c).D L.n (partG A G i n c).n = true := by
    rw [okS_iff]
    unfold partG at *
    simp only at *
    refine ⟨⟨c1, by omega⟩, ⟨c2, by omega⟩, fun k hk => ?_⟩
    have c3 := sumI_nn (X := fun j => (G.D (i + j)).ps.X k) (n := n) (fun j hj => (nn' j hj).2.2 k hk)
    have := a.2.2 k hk; have := b.2.2 k hk; have := e3 k
    exact ⟨c3, by omega⟩
  rw [if_pos this]
theorem sum_ok {N : SlNode} {L : SlLink} {G : SlLedger} (h : lstE N L G = 0) (hs : sumE N L G = 0) : okS G.D L.n G.n = true := by
  rw [sumE_val h] at hs
  by_cases q : okS G.D L.n G.n = true
  · exact q
  · rw [if_neg q] at hs; omega
/-- A ledger is the sum of a list. -/
def IsSum (L : SlLink) (G : SlLedger) (g : Ledger) : Prop := g.inn = sIn G.D G.n ∧ g.out = sOut G.D G.n ∧ g.ps.n = L.n ∧ ∀ k, k < L.n → g.ps.X k = sPs G.D k G.n
theorem IsSum.ledg {N : SlNode} {L : SlLink} {G : SlLedger} {g : Ledger} (hg : IsSum L G g) (h : lstE N L G = 0) (hs : sumE N L G = 0) : ledgB L g = true := by
  obtain ⟨a, b, c⟩ := okS_parts (sum_ok h hs)
  obtain ⟨e1, e2, e3, e4⟩ := hg
  exact ledg_of (by rw [e1]; exact a) (by rw [e2]; exact b) e3 (fun k hk => by rw [e4 k hk]; exact c k hk)
/-- Two ledgers as a list. -/
def twoG (b : Nat) (x y : Ledger) : SlLedger := ⟨some ⟨b, 0, none⟩, 2, 2, b, 0, fun j => if j = 0 then x else y⟩
theorem two_lst {N : SlNode} {L : SlLink} {b : Nat} {x y : Ledger} (hv : netB N L = true) (hx : ledgB L x = true) (hy : ledgB L y = true) : lstE N L (twoG b x y) = 0 := lst_of hv (leds_iff.2 fun j hj => by
  have : j < 2 := hj
  rcases (by omega : j = 0 ∨ j = 1) with rfl | rfl
  · exact hx
  · exact hy) (by show 2 ≤ 10000; omega)
/-- The sums of a list's two parts add up to its sum. -/
theorem two_sum {N : SlNode} {L : SlLink} {G : SlLedger} {A A' : Option Addr} {i m c c' b : Nat} {x y z s : Ledger} (h : lstE N L G = 0) (hs : sumE N L G = 0) (hn : i + m = G.n) (hx : IsSum L (partG A G 0 i c) x) (hy : IsSum L (partG A' G i m c') y) :
    sumE N L (twoG b x y) = 0 ∧ (IsSum L (twoG b x y) z → IsSum L G s → sameB z s = true) := by
  have hv := (lst_zero h).1
  have lx := hx.ledg (part_lst h (by omega)) (part_sumE h hs (by omega))
  have ly := hy.ledg (part_lst h (by omega)) (part_sumE h hs (by omega))
  have lt := two_lst (b := b) hv lx ly
  obtain ⟨x1, x2, x3, x4⟩ := hx
  obtain ⟨y1, y2, y3, y4⟩ := hy
  obtain ⟨p1, p2, p3⟩ := part_sums G.D 0 i
  obtain ⟨q1, q2, q3⟩ := part_sums G.D i m
  have z0 : sIn G.D 0 = 0 := rfl
  have z1 : sOut G.D 0 = 0 := rfl
  have z2 : ∀ k, sPs G.D k 0 = 0 := fun _ => rfl
  unfold partG at x1 x2 x4 y1 y2 y4
  simp only at x1 x2 x4 y1 y2 y4
  rw [Nat.zero_add] at p1 p2
  rw [hn] at q1 q2 q3
  have t1 : sIn (twoG b x y).D 2 = sIn G.D G.n := by
    show 0 + x.inn + y.inn = _
    omega
  have t2 : sOut (twoG b x y).D 2 = sOut G.D G.n := by
    show 0 + x.out + y.out = _
    omega
  have t3 : ∀ k, k < L.n → sPs (twoG b x y).D k 2 = sPs G.D k G.n := fun k hk => by
    show 0 + x.ps.X k + y.ps.X k = _
    have := x4 k hk; have := y4 k hk; have := p3 k; have := q3 k; have := z2 k
    rw [Nat.zero_add] at *
    omega
  refine ⟨?_, fun hz hsm => ?_⟩
  · rw [sumE_val lt]
    have ok := okS_parts (sum_ok h hs)
    have : okS (twoG b x y).D L.n (twoG b x y).n = true := by
      rw [okS_iff]
      show (0 ≤ sIn (twoG b x y).D 2 ∧ sIn (twoG b x y).D 2 ≤ _) ∧ (0 ≤ sOut (twoG b x y).D 2 ∧ sOut (twoG b x y).D 2 ≤ _) ∧ ∀ k, k < L.n → 0 ≤ sPs (twoG b x y).D k 2 ∧ sPs (twoG b x y).D k 2 ≤ _
      rw [t1, t2]
      exact ⟨ok.1, ok.2.1, fun k hk => by rw [t3 k hk]; exact ok.2.2 k hk⟩
    rw [if_pos this]
  · obtain ⟨a1, a2, a3, a4⟩ := hz
    obtain ⟨b1, b2, b3, b4⟩ := hsm
    exact same_of (by rw [a1, b1]; exact t1) (by rw [a2, b2]; exact t2) (by rw [a3, b3]) (fun k hk => by
      rw [a4 k (by omega), b4 k (by omega)]; exact t3 k (by omega))
/-- What passed a link altogether is in the sum. -/
theorem thr_sum {N : SlNode} {L : SlLink} {G : SlLedger} (h : lstE N L G = 0) (hs : sumE N L G = 0) {k : Nat} (hk : k < L.n) : thrE N L G (L.D k).nm = 0 ∧ thrV N L G (L.D k).nm = sPs G.D k G.n := by
  obtain ⟨h1, h2, h3⟩ := lst_zero h
  have nn := leds_nn h2
  have hx : lix L (L.D k).nm = (k : Int) := by
    unfold netB at h1
    simp only [Bool.and_eq_true] at h1
    have h1 := allB_at h1.2.2.2 hk
    unfold linkB at h1
    simp only [Bool.and_eq_true] at h1
    exact eq_of_beq h1.2.1
  have ok := sum_ok h hs
  have ht : thrOk G k = true := by
    unfold thrOk
    rw [allB_iff]
    intro i hi
    have := (okS_parts (okS_mono nn ok (show i + 1 ≤ G.n by omega))).2.2 k hk
    exact decide_eq_true this.2
  have e : thrE N L G (L.D k).nm = 0 := by
    unfold thrE
    rw [if_pos h, hx, if_neg (by omega), Int.toNat_natCast, if_pos ht]
  refine ⟨e, ?_⟩
  unfold thrV
  rw [if_pos e, hx, Int.toNat_natCast]
  rfl
end Ba
end Go.Proofs.Ythkmgnaeponfcaa
