/-
  Runoff: the plain law of dry days, and of sums of inflows.
-/
import Derived.Test.YtjighhphadfoiaaRoYl
set_option linter.unusedVariables false
set_option linter.unusedSimpArgs false
namespace Go.Proofs.Ytjighhphadfoiaa
open Go.RowKit
namespace Ba
def gI (X : Nat → Int) (daily : Int) (n : Nat) (m r : Int) : Int := cutI X daily n (r / m).toNat + shrI X daily n (r / m).toNat * (r % m) / m
theorem cut_up {s : SlI} (h : uniB s = true) {t : Int} (ht : 0 ≤ t) {i j : Nat} (hij : i ≤ j) (hj : j ≤ s.n) : cutI s.X t s.n i ≤ cutI s.X t s.n j := by
  have p := (uni_parts h).2.2.2
  have u := sumI_up (X := s.X) (n := s.n) (i := i) (fun k hk => ((uni_parts h).2.2.1 k hk).1) (j - i) (by omega)
  rw [show i + (j - i) = j by omega] at u
  unfold cutI
  exact Int.ediv_le_ediv p (Int.mul_le_mul_of_nonneg_left u ht)
theorem cut_zero (X : Nat → Int) (t : Int) (n : Nat) : cutI X t n 0 = 0 := by
  unfold cutI; rw [show sumI X 0 = 0 from rfl, Int.mul_zero, Int.zero_ediv]
theorem cut_all {s : SlI} (h : uniB s = true) (t : Int) : cutI s.X t s.n s.n = t := by
  have p := (uni_parts h).2.2.2
  unfold cutI; exact Int.mul_ediv_cancel _ (by omega)
theorem g_in {s : SlI} (h : uniB s = true) {t m r : Int} (ht : 0 ≤ t) (hm : 1 ≤ m) (hp : (r / m).toNat < s.n) (hr : 0 ≤ r) : cutI s.X t s.n (r / m).toNat ≤ gI s.X t s.n m r ∧ gI s.X t s.n m r ≤ cutI s.X t s.n ((r / m).toNat + 1) := by
  have y := shr_le h ht hp
  have q0 : 0 ≤ r % m := Int.emod_nonneg _ (by omega)
  have q1 : r % m < m := Int.emod_lt_of_pos _ (by omega)
  have v0 : 0 ≤ shrI s.X t s.n (r / m).toNat * (r % m) / m := Int.ediv_nonneg (Int.mul_nonneg y.1 q0) (by omega)
  have v1 : shrI s.X t s.n (r / m).toNat * (r % m) / m ≤ shrI s.X t s.n (r / m).toNat := Int.ediv_le_of_le_mul (by omega) (Int.mul_le_mul_of_nonneg_left (by omega) y.1)
  have e : shrI s.X t s.n (r / m).toNat = cutI s.X t s.n ((r / m).toNat + 1) - cutI s.X t s.n (r / m).toNat := rfl
  unfold gI
  omega
theorem g_up {s : SlI} (h : uniB s = true) {t m r q : Int} (ht : 0 ≤ t) (hm : 1 ≤ m) (hr : 0 ≤ r) (hrq : r ≤ q) (hq : (q / m).toNat < s.n) : gI s.X t s.n m r ≤ gI s.X t s.n m q := by
  have d0 : 0 ≤ r / m := Int.ediv_nonneg hr (by omega)
  have d1 : r / m ≤ q / m := Int.ediv_le_ediv (by omega) hrq
  have hp : (r / m).toNat < s.n := by omega
  by_cases e : r / m = q / m
  · have y := shr_le h ht hp
    have a1 := Int.mul_ediv_add_emod r m
    have a2 := Int.mul_ediv_add_emod q m
    have hl : r % m ≤ q % m := by rw [e] at a1; omega
    unfold gI
    rw [← e]
    have := Int.ediv_le_ediv (c := m) (by omega) (Int.mul_le_mul_of_nonneg_left hl y.1)
    omega
  · have a := (g_in h ht hm hp hr).2
    have b := (g_in h ht hm hq (by omega)).1
    have c := cut_up h ht (i := (r / m).toNat + 1) (j := (q / m).toNat) (by omega) (by omega)
    omega
theorem up_g (X : Nat → Int) (daily : Int) (n : Nat) (t : Int) : upI X daily n t = t / 86400 * daily + gI X daily n (86400 / (n : Int)) (t % 86400) := by
  unfold upI gI; omega
theorem up_day {s : SlI} (h : uniB s = true) (hd : 86400 % (s.n : Int) = 0) {daily : Int} (h1 : 0 ≤ daily ∧ daily ≤ 1099511627776) (j : Int) : upI s.X daily s.n (j * 86400) = j * daily := by
  rw [up_g, Int.mul_ediv_cancel _ (by decide), Int.mul_emod_left]
  unfold gI
  rw [Int.zero_ediv, Int.zero_emod, Int.mul_zero, Int.zero_ediv, show (0 : Int).toNat = 0 from rfl, cut_zero]
  omega
theorem up_up {s : SlI} (h : uniB s = true) (hd : 86400 % (s.n : Int) = 0) {daily : Int} (h1 : 0 ≤ daily ∧ daily ≤ 1099511627776) {t q : Int} (ht : 0 ≤ t) (htq : t ≤ q) (hq : q ≤ 864000000) : upI s.X daily s.n t ≤ upI s.X daily s.n q := by
  have A := hour_of h hd h1 (t := t) ⟨ht, by omega⟩
  have B := hour_of h hd h1 (t := q) ⟨by omega, hq⟩
  rw [up_g, up_g]
  have m1 := A.m.1
  have pa := A.pn; have pb := B.pn
  by_cases e : t / 86400 = q / 86400
  · rw [e]
    have := g_up h h1.1 m1 (r := t % 86400) (q := q % 86400) (by omega) (by omega) pb
    omega
  · have a := (g_in h h1.1 m1 pa (by omega)).2
    have b := (g_in h h1.1 m1 pb (by omega)).1
    have c := cut_up h h1.1 (i := (t % 86400 / (86400 / (s.n : Int))).toNat + 1) (j := s.n) (by omega) (Nat.le_refl _)
    rw [cut_all h] at c
    have d := (cut_le h h1.1 (i := (q % 86400 / (86400 / (s.n : Int))).toNat) (by omega)).1
    have f : (t / 86400 + 1) * daily ≤ q / 86400 * daily := Int.mul_le_mul_of_nonneg_right (by omega) h1.1
    rw [Int.add_mul, Int.one_mul] at f
    omega
/-- What steps add up to. -/
theorem up_sum {X : Nat → Int} {U : Int → Int} {st : Int} : ∀ k : Nat, (∀ i : Nat, i < k → X i = U (((i + 1 : Nat) : Int) * st) - U ((i : Int) * st)) → sumI X k = U ((k : Int) * st) - U 0
  | 0, _ => by rw [show sumI X 0 = 0 from rfl, show ((0 : Nat) : Int) * st = 0 by simp]; omega
  | k + 1, h => by
    rw [sumI, up_sum k fun i hi => h i (by omega), h k (by omega)]; omega
/-- The volumes of a node, altogether. -/
def totN (G : SlInflow) (t : ByteArray) : Nat → Int
  | 0 => 0
  | i + 1 => if nmB G t i = true then totN G t i + sumI (G.D i).vs.X (G.D i).vs.n else totN G t i
theorem sumI_far (X : Nat → Int) (n : Nat) : ∀ L, n ≤ L → sumI (fun j => if j < n then X j else 0) L = sumI X n
  | 0, h => by obtain rfl : n = 0 := by omega
               rfl
  | L + 1, h => by
    by_cases e : n = L + 1
    · subst e
      exact sumI_congr fun j hj => if_pos hj
    · rw [sumI, sumI_far X n L (by omega), if_neg (by omega)]; omega
theorem vls_sum {G : SlInflow} {t : ByteArray} : ∀ i L, lnS G t i ≤ L → sumI (vlS G t i) L = totN G t i
  | 0, L, _ => sumI_zero fun _ _ => rfl
  | i + 1, L, h => by
    rw [lnS] at h
    rw [totN]
    by_cases e : nmB G t i = true
    · rw [if_pos e] at h ⊢
      rw [← vls_sum i L (by omega), ← sumI_far _ _ L (show (G.D i).vs.n ≤ L by omega), ← sumI_add]
      refine sumI_congr fun j _ => ?_
      rw [vlS, if_pos e]
    · rw [if_neg e] at h ⊢
      rw [← vls_sum i L h]
      refine sumI_congr fun j _ => ?_
      rw [vlS, if_neg e]
theorem eqS_self (a : ByteArray) : eqS a a = true := by unfold eqS; simp
theorem eqS_comm (a b : ByteArray) : eqS a b = eqS b a := by unfold eqS; exact Bool.beq_comm
/-- The three inflows. -/
def G3 (b : Nat) (x o y : Inflow) : SlInflow := ⟨some ⟨b, 0, none⟩, 3, 3, b, 0, fun i => if i = 0 then x else if i = 1 then o else y⟩
theorem tot3 (b : Nat) (x o y : Inflow) : totI (G3 b x o y) 3 = sumI x.vs.X x.vs.n + sumI o.vs.X o.vs.n + sumI y.vs.X y.vs.n := by
  simp [totI, G3]
theorem totn3 {b : Nat} {x o y : Inflow} {nd : ByteArray} (hx : x.nm = nd) (hy : y.nm = nd) : totN (G3 b x o y) nd 3 = if eqS o.nm nd = true then totI (G3 b x o y) 3 else sumI x.vs.X x.vs.n + sumI y.vs.X y.vs.n := by
  rw [tot3]
  subst hx
  simp [totN, nmB, G3, eqS_self, hy]
  split <;> omega
theorem any3 {b : Nat} {x o y : Inflow} {nd : ByteArray} (hx : x.nm = nd) : any (nmB (G3 b x o y) nd) 3 = true := (any_iff _ _).2 ⟨0, by omega, by simp [nmB, G3, hx, eqS_self]⟩
theorem sm3 {b : Nat} {x o y : Inflow} {nd : ByteArray} (hx : x.nm = nd) (hE : infE (G3 b x o y) = 0) : smE (G3 b x o y) nd = 0 ∨ smE (G3 b x o y) nd = 5 := by
  unfold smE
  rw [if_pos hE, if_pos (show any (nmB (G3 b x o y) nd) (G3 b x o y).n = true from any3 hx)]
  split
  · exact .inl rfl
  · exact .inr rfl
theorem other3 {b : Nat} {x o y : Inflow} {nd : ByteArray} (hx : x.nm = nd) (hy : y.nm = nd) (ho : eqS o.nm nd = false) (hE : infE (G3 b x o y) = 0) : smE (G3 b x o y) o.nm = 0 ∧ lnS (G3 b x o y) o.nm 3 = o.vs.n ∧ (∀ j, j < o.vs.n → vlS (G3 b x o y) o.nm 3 j = o.vs.X j) := by
  have e0 : nmB (G3 b x o y) o.nm 0 = false := by simp [nmB, G3, hx]; rw [eqS_comm]; exact ho
  have e1 : nmB (G3 b x o y) o.nm 1 = true := by simp [nmB, G3, eqS_self]
  have e2 : nmB (G3 b x o y) o.nm 2 = false := by simp [nmB, G3, hy]; rw [eqS_comm]; exact ho
  have l : lnS (G3 b x o y) o.nm 3 = o.vs.n := by
    have d1 : ((G3 b x o y).D 1).vs.n = o.vs.n := by simp [G3]
    simp [lnS, e0, e1, e2, d1]
  have v : ∀ j, j < o.vs.n → vlS (G3 b x o y) o.nm 3 j = o.vs.X j := fun j hj => by
    have d1 : (G3 b x o y).D 1 = o := by simp [G3]
    simp [vlS, e0, e1, e2, d1, hj]
  have iv : ∀ k, k < o.vs.n → 0 ≤ o.vs.X k ∧ o.vs.X k ≤ 1125899906842624 := by
    have z := (inf_vol ((inf_right hE).2 1 (by simp [G3]))).2
    simpa [G3] using z
  refine ⟨?_, l, v⟩
  unfold smE
  rw [if_pos hE, if_pos ((any_iff _ _).2 ⟨1, by simp [G3], e1⟩), if_pos]
  show allB (fun j => bet (vlS (G3 b x o y) o.nm 3 j) 0 1125899906842624) (lnS (G3 b x o y) o.nm 3) = true
  rw [l, allB_iff]
  intro k hk
  rw [v k hk]
  exact (bet_iff _ _ _).2 (iv k hk)
end Ba
end Go.Proofs.Ytjighhphadfoiaa
