/-
  Law 22: what ArealBetween needs of the means. No condition.
-/
import Derived.Test.YtnfjebfmfjpepaaArU
import Derived.Test.YtnfjebfmfjpepaaArQ
set_option linter.unusedVariables false
set_option linter.unusedSimpArgs false
namespace Go.Proofs.Ytnfjebfmfjpepaa
open Go.RowKit
/-- What Mean answers where all is right. -/
def RetM (fr st : Int) (N : Nat) (mv : Nat → Int) (W : World) (e : Ending) (w' : World) : Prop := ∃ t : Ba.Ser, e = .returned (.tuple #[t.val, .int .i64 0]) ∧ t.Ok w' ∧ t.fr = fr ∧ t.st = st ∧ t.ds.n = N ∧ (∀ k, k < N → t.ds.X k = mv k) ∧ Gr W w'
theorem retm_of {S : Ba.SlSer} {u : Ba.SlI} {W : World} {mv : Nat → Int} (hS : S.At W) (hu : u.At W) (hg : Ba.giE S = 0) (hf : Ba.fitB S = true) (hn : u.n = S.n) (hw : ∀ j, j < S.n → 0 ≤ u.X j ∧ u.X j ≤ 9007199254740992) (hm : ∀ k, k < (Ba.cmN S).toNat → Ba.mnV S u (Ba.frI S S.n + (k : Int) * (S.D 0).st) = mv k) : Calls Try.prog 23 #[.slice S.A S.n S.c, .slice u.A u.n u.c] W (RetM (Ba.frI S S.n) (S.D 0).st (Ba.cmN S).toNat mv W) := by
  have hwt : Ba.wtB u = true := Ba.allB_iff.2 fun i hi => (Ba.bet_iff _ _ _).2 (hw i (by omega))
  have he : Ba.mnE S u = 0 := by unfold Ba.mnE; rw [if_pos hg, if_pos hn, if_pos hwt, if_pos hf]
  refine (mn_any S u W hS hu).mono fun e w' ⟨t, h1, h2, h3, _, h5⟩ => ?_
  obtain ⟨a, b, c, d⟩ := h3 he
  rw [he] at h1
  exact ⟨t, h1, h2, a, b, c, fun k hk => (d k (by omega)).trans (hm k hk), h5⟩
theorem bt_all (S : Ba.SlSer) (K : Nat → Int) (F : Int) (q : Nat) (hg : Ba.giE S = 0) (hf : Ba.fitB S = true) (hK : ∀ j, j < S.n → 0 ≤ K j ∧ K j ≤ 4294967295) (hF : 1 ≤ F ∧ F ≤ 65536) (hq : q < S.n) :
    ∃ (fr st : Int) (N : Nat) (mv : Nat → Int) (xq : Nat → Nat → Nat) (dv lo hi : Nat → Nat → Int),
      (Ba.coF S = fr ∧ Ba.coN S = (N : Int) ∧ Ba.coE S = 0 ∧ (S.D 0).st = st ∧ N ≤ 10000 ∧ (1 ≤ st ∧ st ≤ 86400) ∧ (-68719476736 ≤ fr ∧ fr ≤ 68719476736) ∧ ∀ j, j < S.n → (-68719476736 ≤ (S.D j).fr ∧ (S.D j).fr ≤ 68719476736) ∧ (S.D j).st = st ∧ (S.D j).ds.n ≤ 10000) ∧
      (∀ k, k < N → ∀ j, j < S.n → xq k j < (S.D j).ds.n ∧ 0 ≤ fr + (k : Int) * st - (S.D j).fr ∧ (fr + (k : Int) * st - (S.D j).fr) / st = (xq k j : Int) ∧ (fr + (k : Int) * st - (S.D j).fr).tdiv st = (xq k j : Int) ∧ (S.D j).ds.X (xq k j) = dv k j ∧ -1 ≤ dv k j ∧ dv k j ≤ 4194304) ∧
      (∀ k, lo k 0 = 4194305 ∧ hi k 0 = -1 ∧ ∀ i, lo k (i + 1) = (if 0 < K i ∧ 0 ≤ dv k i then min (lo k i) (dv k i) else lo k i) ∧ hi k (i + 1) = (if 0 < K i ∧ 0 ≤ dv k i then max (hi k i) (dv k i) else hi k i)) ∧
      (∀ k, k < N → ∀ i, i ≤ S.n → (0 ≤ lo k i ∧ lo k i ≤ 4194305) ∧ -1 ≤ hi k i ∧ hi k i ≤ 4194304) ∧
      (∀ k, k < N → (hi k S.n < 0 ∧ mv k = -1) ∨ (0 ≤ hi k S.n ∧ lo k S.n ≤ mv k ∧ mv k ≤ hi k S.n)) ∧
      (∀ (u : Ba.SlI) W, S.At W → u.At W → u.n = S.n → (∀ j, j < S.n → u.X j = K j) → Calls Try.prog 23 #[.slice S.A S.n S.c, .slice u.A u.n u.c] W (RetM fr st N mv W)) ∧
      (∀ (u : Ba.SlI) W, S.At W → u.At W → u.n = S.n → (∀ j, j < S.n → u.X j = K j * F) → Calls Try.prog 23 #[.slice S.A S.n S.c, .slice u.A u.n u.c] W (RetM fr st N mv W)) ∧
      (∀ (u : Ba.SlI) W, S.At W → u.At W → u.n = S.n → (∀ j, j < S.n → u.X j = if j = q then 1 + K q else 0) → Calls Try.prog 23 #[.slice S.A S.n S.c, .slice u.A u.n u.c] W (RetM fr st N (fun k => dv k q) W)) ∧
      (∀ (T : Ba.SlSer) (u : Ba.SlI) W, T.At W → u.At W → T.n = S.n → u.n = S.n → (∀ j, j < S.n → T.D j = S.D (S.n - 1 - j)) → (∀ j, j < S.n → u.X j = K (S.n - 1 - j)) → Calls Try.prog 23 #[.slice T.A T.n T.c, .slice u.A u.n u.c] W (RetM fr st N mv W)) := by
  obtain ⟨n1, n2, hv⟩ := Ba.gi_parts hg
  obtain ⟨cm0, cm1, cmI⟩ := Ba.cm_bd hg hf
  have fb := Ba.fr_bd hv n1 S.n (Nat.le_refl _)
  have s0 := (Ba.ser_nums (hv 0 n1)).2.1
  have hst : ∀ j, j < S.n → (S.D j).st = (S.D 0).st := fun j hj => (Ba.ft_parts hf hj).1
  have hco : Ba.coE S = 0 := by unfold Ba.coE; rw [if_pos hg, if_pos hf]
  have hcI : ∀ k : Nat, k < (Ba.cmN S).toNat → Ba.InT S (Ba.frI S S.n + (k : Int) * (S.D 0).st) := fun k hk => cmI k (by omega) (by omega)
  obtain ⟨u0, hu0⟩ : ∃ u : Ba.SlI, u.X = K := ⟨⟨none, 0, 0, 0, 0, K⟩, rfl⟩
  have hcg : ∀ (u : Ba.SlI) t, (∀ j, j < S.n → u.X j = K j) → Ba.mnV S u t = Ba.mnV S u0 t := fun u t h => Ba.mn_mul (F := 1) (by decide) (fun j hj => by rw [hu0, h j hj, Int.mul_one]) t
  refine ⟨Ba.frI S S.n, (S.D 0).st, (Ba.cmN S).toNat, fun k => Ba.mnV S u0 (Ba.frI S S.n + (k : Int) * (S.D 0).st), fun k j => Ba.xN S (Ba.frI S S.n + (k : Int) * (S.D 0).st) j, fun k j => Ba.dV S (Ba.frI S S.n + (k : Int) * (S.D 0).st) j, fun k i => Ba.loI S u0 (Ba.frI S S.n + (k : Int) * (S.D 0).st) i, fun k i => Ba.hiI S u0 (Ba.frI S S.n + (k : Int) * (S.D 0).st) i, ?_, ?_, ?_, ?_, ?_, ?_, ?_, ?_, ?_⟩
  · refine ⟨by unfold Ba.coF; rw [if_pos hco], by unfold Ba.coN; rw [if_pos hco]; omega, hco, rfl, by omega, s0, fb, fun j hj => ?_⟩
    have v := Ba.ser_nums (hv j hj)
    exact ⟨v.1, hst j hj, v.2.2.1⟩
  · intro k hk j hj
    have i := hcI k hk
    obtain ⟨a, b⟩ := Ba.in_x hv i hj
    have c := Ba.dV_bd hv i hj
    rw [hst j hj] at b
    exact ⟨a, (i j hj).1, b, by rw [Int.tdiv_eq_ediv_of_nonneg (i j hj).1]; exact b, rfl, c⟩
  · intro k
    refine ⟨rfl, rfl, fun i => ?_⟩
    show Ba.loI S u0 _ (i + 1) = _ ∧ Ba.hiI S u0 _ (i + 1) = _
    rw [Ba.loI, Ba.hiI, hu0]
    exact ⟨rfl, rfl⟩
  · intro k hk i hi
    exact Ba.lohi_bd i fun j hj => (Ba.dV_bd hv (hcI k hk) (i := j) (by omega)).2
  · intro k hk
    exact Ba.mn_between _ fun j hj => by rw [hu0]; exact (hK j hj).1
  · intro u W hS hu hn hX
    exact retm_of hS hu hg hf hn (fun j hj => by rw [hX j hj]; have := hK j hj; omega) fun k hk => hcg u _ hX
  · intro u W hS hu hn hX
    refine retm_of hS hu hg hf hn (fun j hj => ?_) fun k hk => ?_
    · rw [hX j hj]
      have := hK j hj
      have p : 0 ≤ K j * F := Int.mul_nonneg (by omega) (by omega)
      have p2 : K j * F ≤ 4294967295 * 65536 := Int.mul_le_mul (by omega) (by omega) (by omega) (by omega)
      omega
    · exact Ba.mn_mul (F := F) (by omega) (fun j hj => by rw [hX j hj, hu0]) _
  · intro u W hS hu hn hX
    have kq := hK q hq
    refine retm_of hS hu hg hf hn (fun j hj => ?_) fun k hk => ?_
    · rw [hX j hj]; split <;> omega
    · exact Ba.mn_one hX hq (by omega) (Ba.dV_bd hv (hcI k hk) hq).1
  · intro T u W hT hu hTn hn hD hX
    have fr := Ba.fit_rev hTn n1 hD hf
    have e1 := Ba.cm_rev hTn n1 hD hf
    have e2 := Ba.fr_rev n1 hD
    have z := retm_of (mv := fun k => Ba.mnV S u0 (Ba.frI S S.n + (k : Int) * (S.D 0).st)) hT hu (Ba.gi_rev hTn hD hg) fr.1 (by omega) (fun j hj => by rw [hX j (by omega)]; have := hK (S.n - 1 - j) (by omega); omega) fun k hk => by
      rw [hTn, e2, fr.2]
      exact Ba.mn_rev hTn hD (fun j hj => by rw [hX j hj, hu0]) _
    rw [hTn, e2, fr.2, e1] at z
    rw [hTn]
    exact z
end Go.Proofs.Ytnfjebfmfjpepaa
