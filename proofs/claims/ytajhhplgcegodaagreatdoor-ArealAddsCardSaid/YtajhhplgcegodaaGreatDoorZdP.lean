/-
  Areal, plain: the weights of an inlet add up to its area. No condition.
-/
import Derived.Test.YtajhhplgcegodaaGreatDoorZwA
import Derived.Test.YtajhhplgcegodaaGreatDoorZaA
set_option linter.unusedVariables false
set_option linter.unusedSimpArgs false
namespace Go.Proofs.YtajhhplgcegodaaGreatDoor
namespace Ba
/-- A sum over the numbers below n. -/
def smZ (f : Nat → Int) : Nat → Int
  | 0 => 0
  | n + 1 => smZ f n + f n
/-- What drains to an inlet, of the first n faces. -/
def clT (m : Ms.Mesh) (P : Nat → Int) (k : Int) : Nat → Int
  | 0 => 0
  | i + 1 => clT m P k i + if P i = k then Ms.tTn (Ms.tri m (m.F.D i)) else 0
theorem smZ_zero : ∀ n, smZ (fun _ => 0) n = 0
  | 0 => rfl
  | n + 1 => by rw [smZ, smZ_zero n]; rfl
theorem smZ_congr {f g : Nat → Int} : ∀ {n : Nat}, (∀ i, i < n → f i = g i) → smZ f n = smZ g n
  | 0, _ => rfl
  | n + 1, h => by rw [smZ, smZ, smZ_congr fun i hi => h i (by omega), h n (by omega)]
theorem smZ_add (f g : Nat → Int) : ∀ n, smZ (fun i => f i + g i) n = smZ f n + smZ g n
  | 0 => rfl
  | n + 1 => by rw [smZ, smZ, smZ, smZ_add f g n]; omega
theorem smZ_one {j : Nat} (t : Int) : ∀ {n : Nat}, j < n → smZ (fun i => if j = i then t else 0) n = t
  | 0, h => absurd h (Nat.not_lt_zero j)
  | n + 1, h => by
    rw [smZ]
    by_cases e : j = n
    · subst e
      rw [smZ_congr (g := fun _ => 0) (fun i hi => if_neg (by omega)), smZ_zero, if_pos rfl]; omega
    · rw [smZ_one t (n := n) (by omega), if_neg e]; omega
theorem smZ_bd {f : Nat → Int} {M : Int} (h : ∀ i, 0 ≤ f i ∧ f i ≤ M) : ∀ n, 0 ≤ smZ f n ∧ smZ f n ≤ M * (n : Int)
  | 0 => by simp [smZ]
  | n + 1 => by
    have a := smZ_bd h n; have b := h n
    have e : M * ((n + 1 : Nat) : Int) = M * (n : Int) + M := by rw [Int.natCast_add, Int.mul_add]; simp
    rw [smZ, e]; omega
theorem wt_sum (m : Ms.Mesh) (P : Nat → Int) (G : SlGauge) (k : Int) (hn : 1 ≤ G.n) : ∀ i, smZ (wtS m P G k i) G.n = clT m P k i
  | 0 => by
    show smZ (fun _ => 0) G.n = 0
    exact smZ_zero _
  | i + 1 => by
    have e : wtS m P G k (i + 1) = fun g => wtS m P G k i g + (if fg m G i = g then (if P i = k then Ms.tTn (Ms.tri m (m.F.D i)) else 0) else 0) := by
      funext g
      rw [wtS]
      by_cases a : P i = k <;> by_cases b : fg m G i = g <;> simp [a, b]
    rw [e, smZ_add, wt_sum m P G k hn i, smZ_one (j := fg m G i) _ (nsT_lt hn (Nat.le_refl _)), clT]
theorem ar_sum (m : Ms.Mesh) (P : Nat → Int) (r C : Nat) : ∀ k, (∀ i, i < k → 0 ≤ (m.F.D i).k ∧ (m.F.D i).k < (C : Int)) → smZ (arS m P k r) C = clT m P (r : Int) k
  | 0, _ => by
    show smZ (fun _ => 0) C = 0
    exact smZ_zero _
  | k + 1, h => by
    obtain ⟨h1, h2⟩ := h k (by omega)
    have e : arS m P (k + 1) r = fun c => arS m P k r c + (if (m.F.D k).k.toNat = c then (if P k = (r : Int) then Ms.tTn (Ms.tri m (m.F.D k)) else 0) else 0) := by
      funext c
      rw [arS]
      by_cases a : P k = (r : Int)
      · by_cases b : (m.F.D k).k = (c : Int)
        · rw [if_pos ⟨a, b⟩, if_pos (by omega), if_pos a]
        · rw [if_neg (fun q => b q.2), if_neg (by omega)]
      · rw [if_neg (fun q => a q.1), if_neg a]; split <;> rfl
    rw [e, smZ_add, ar_sum m P r C k (fun i hi => h i (by omega)), smZ_one _ (by omega), clT]
theorem cl_none {m : Ms.Mesh} {P : Nat → Int} : ∀ {k r : Nat}, arK P k ≤ r → clT m P (r : Int) k = 0
  | 0, _, _ => rfl
  | k + 1, r, h => by
    have h1 := arK_le (P := P) (k := k); have h2 := arK_in (P := P) (k := k)
    rw [clT, cl_none (k := k) (by omega), if_neg (by omega)]; rfl
/-- The first gauge alone. -/
def one (G : SlGauge) : SlGauge := ⟨G.A, 1, G.c, G.b, G.o, G.D⟩
theorem one_ok {G : SlGauge} (h : gasB G = true) : gasB (one G) = true := by
  unfold gasB at h ⊢
  simp only [Bool.and_eq_true, decide_eq_true_eq] at h
  have a := allB_at h.2.2 (k := 0) (by omega)
  have q : allB (gaB (one G)) 1 = true := allB_iff.2 (fun i hi => by
    have e : i = 0 := by omega
    subst e; exact a)
  simp only [Bool.and_eq_true, decide_eq_true_eq]
  exact ⟨Nat.le_refl 1, (by show 1 ≤ 100; omega), q⟩
theorem one_at {w : World} {G : SlGauge} (h : G.At w) (hn : 1 ≤ G.n) : (one G).At w :=
  ⟨fun _ => h.hA (by omega), Nat.le_trans hn h.hc, h.hb, fun i hi => h.hD i (Nat.lt_of_lt_of_le hi hn)⟩
theorem one_sum (m : Ms.Mesh) (P : Nat → Int) (G : SlGauge) (k : Int) (i : Nat) : wtS m P (one G) k i 0 = clT m P k i := by
  have := wt_sum m P (one G) k (Nat.le_refl 1) i
  rw [← this]
  show _ = smZ (wtS m P (one G) k i) 0 + wtS m P (one G) k i 0
  rw [smZ]; omega
end Ba
end Go.Proofs.YtajhhplgcegodaaGreatDoor
