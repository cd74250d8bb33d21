/-
  Runoff, plain: more rain in the last step; a class that is divided.
  Runoff: slices.Clone of ints and of classes: a row of the call's own. (Printed by mkq.py.)
  Law 25: RunoffMore, each way. (Printed by mkr.py.)
  Law 25: RunoffMore, the long way. (Printed by mks.py.)
-/
import Derived.Test.YtajhhplgcegodaaDoorRoE
import Derived.Test.YtajhhplgcegodaaDoorGA6
import Derived.Deep.AppendLies
import Derived.Test.YtajhhplgcegodaaDoorRoO
import Derived.Test.YtajhhplgcegodaaDoorGA2
import Derived.Test.YtajhhplgcegodaaDoorGA9
import Derived.Test.YtajhhplgcegodaaDoorGA4
import Derived.Deep.RegionLaw
set_option linter.unusedVariables false
set_option linter.unusedSimpArgs false
namespace Go.Proofs.YtajhhplgcegodaaDoor
open Go.RowKit
namespace Ba
theorem dpt_congr {s t : Ser} {j : Nat} (h : s.ds.X j = t.ds.X j) : dpt s j = dpt t j := by unfold dpt; rw [h]
theorem str_congr (C : SlClass) {s t : Ser} (hs : s.st = t.st) : ∀ j, (∀ i, i < j → s.ds.X i = t.ds.X i) → str C s j = str C t j
  | 0, _ => rfl
  | j + 1, h => by
    have ih := str_congr C hs j fun i hi => h i (by omega)
    funext i
    rw [str, str, ih, hs, dpt_congr (h j (by omega))]
theorem vol_congr (C : SlClass) (a : SlI) {s t : Ser} (hs : s.st = t.st) {j : Nat} (h : ∀ i, i ≤ j → s.ds.X i = t.ds.X i) : vol C a s j = vol C a t j := by
  unfold vol
  rw [str_congr C hs j fun i hi => h i (by omega), dpt_congr (h j (Nat.le_refl _))]
theorem lft_congr (C : SlClass) (a : SlI) {s t : Ser} (hs : s.st = t.st) : ∀ j, (∀ i, i < j → s.ds.X i = t.ds.X i) → lft C a s j = lft C a t j
  | 0, _ => rfl
  | j + 1, h => by
    rw [lft, lft, lft_congr C a hs j fun i hi => h i (by omega), vol_congr C a hs fun i hi => h i (by omega)]
theorem out_congr (C : SlClass) (a : SlI) {s t : Ser} (hs : s.st = t.st) {j : Nat} (h : ∀ i, i ≤ j → s.ds.X i = t.ds.X i) : out C a s j = out C a t j := by
  unfold out
  rw [vol_congr C a hs h, lft_congr C a hs j fun i hi => h i (by omega)]
/-- More rain, more runs off. -/
theorem off_mono {d : Class} {wet held x y : Int} (F : Fit d wet held) (hx : 0 ≤ x) (h : x ≤ y) : offI d wet held x ≤ offI d wet held y := by
  have s := F.se
  have w1 := F.wet; have h1 := F.held
  have r : rR d wet x ≤ rR d wet y := by unfold rR rW; omega
  have q : rR d wet x - rH d wet held x ≤ rR d wet y - rH d wet held y := by unfold rH rR rW; omega
  have a : rR d wet x * d.se ≤ rR d wet y * d.se := Int.mul_le_mul_of_nonneg_right r s.1
  have b : (rR d wet x - rH d wet held x) * (1000 - d.se) ≤ (rR d wet y - rH d wet held y) * (1000 - d.se) := Int.mul_le_mul_of_nonneg_right q (by omega)
  unfold offI; omega
theorem volI_mono {C : SlClass} {a : SlI} {W H : Nat → Int} {x y : Int} {n : Nat} (ha : ∀ i, i < n → 0 ≤ a.X i) (hf : ∀ i, i < n → Fit (C.D i) (W i) (H i)) (hx : 0 ≤ x) (h : x ≤ y) : ∀ k, k ≤ n → volI C a W H x k ≤ volI C a W H y k
  | 0, _ => Int.le_refl _
  | k + 1, hk => by
    have ih := volI_mono ha hf hx h k (by omega)
    have m : a.X k * offI (C.D k) (W k) (H k) x ≤ a.X k * offI (C.D k) (W k) (H k) y := Int.mul_le_mul_of_nonneg_left (off_mono (hf k (by omega)) hx h) (ha k (by omega))
    have e1 : ∀ z, volI C a W H z (k + 1) = volI C a W H z k + a.X k * offI (C.D k) (W k) (H k) z := fun _ => rfl
    rw [e1, e1]; omega
/-- More rain in the last step: the volumes ahead are as they were, the last one is not less. -/
theorem more_rain {C : SlClass} {a : SlI} {s t : Ser} {m : Nat} (R : Right C a s) (hs : s.st = t.st) (hm : s.ds.n = m + 1) (hX : ∀ i, i < m → s.ds.X i = t.ds.X i) (hl : max 0 (s.ds.X m) ≤ t.ds.X m) : (∀ j, j < m → out C a s j = out C a t j) ∧ out C a s m ≤ out C a t m := by
  refine ⟨fun j hj => out_congr C a hs fun i hi => hX i (by omega), ?_⟩
  have e1 := str_congr C hs m hX
  have e2 := lft_congr C a hs m hX
  have v : vol C a s m ≤ vol C a t m := by
    unfold vol
    rw [← e1]
    exact volI_mono (n := C.n) (fun i hi => (R.mtr i hi).1) (fun i hi => R.fit hi m (by omega)) (R.dep (by omega)).1 (by unfold dpt; omega) C.n (Nat.le_refl _)
  unfold out
  rw [← e2]
  exact Int.ediv_le_ediv (by omega) (by omega)
theorem sumI_split (X : Nat → Int) (m : Nat) : sumI X (m + 1) = sumI X m + X m := rfl
/-- One of the classes twice. -/
structure Twin (C E : SlClass) (k : Int) (a b : SlI) : Prop where
  n : E.n = C.n + 1
  bn : b.n = a.n + 1
  D : ∀ i, i < C.n → E.D i = C.D i
  se : (E.D C.n).se = (C.D 0).se
  we : (E.D C.n).we = (C.D 0).we
  ro : (E.D C.n).ro = (C.D 0).ro
  dr : (E.D C.n).dr = (C.D 0).dr
  h0 : b.X 0 = a.X 0 - k
  hX : ∀ i, 0 < i → i < a.n → b.X i = a.X i
  hl : b.X a.n = k
theorem off_twin {d e : Class} (h1 : e.se = d.se) (h2 : e.we = d.we) (h3 : e.ro = d.ro) (x y z : Int) : offI e x y z = offI d x y z := by
  unfold offI rH rR rW; rw [h1, h2, h3]
theorem st_twin {d e : Class} (h1 : e.se = d.se) (h2 : e.we = d.we) (h3 : e.ro = d.ro) (h4 : e.dr = d.dr) (x y z t : Int) : stW e x z t = stW d x z t ∧ stH e x y z t = stH d x y z t := by
  unfold stW stH wD hD rH rR rW; rw [h2, h3, h4]; exact ⟨rfl, rfl⟩
theorem str_same {C E : SlClass} {k : Int} {a b : SlI} (T : Twin C E k a b) (s : Ser) : ∀ j i, i < C.n → str E s j i = str C s j i
  | 0, _, _ => rfl
  | j + 1, i, hi => by rw [str, str, str_same T s j i hi, T.D i hi]
theorem str_twin {C E : SlClass} {k : Int} {a b : SlI} (T : Twin C E k a b) (s : Ser) : ∀ j, str E s j C.n = str C s j 0
  | 0 => rfl
  | j + 1 => by
    rw [str, str, str_twin T s j]
    obtain ⟨q1, q2⟩ := st_twin T.se T.we T.ro T.dr (str C s j 0).1 (str C s j 0).2 (dpt s j) s.st
    rw [q1, q2]
theorem sumI_one (X Y : Nat → Int) (d : Int) (h0 : Y 0 = X 0 - d) : ∀ n, (∀ i, 0 < i → i < n + 1 → Y i = X i) → sumI Y (n + 1) = sumI X (n + 1) - d
  | 0, _ => by simp only [sumI]; omega
  | n + 1, h => by
    rw [sumI, sumI_one X Y d h0 n (fun i h1 h2 => h i h1 (by omega)), h (n + 1) (by omega) (by omega), sumI_split X (n + 1)]; omega
theorem vol_twin {C E : SlClass} {k : Int} {a b : SlI} (T : Twin C E k a b) (s : Ser) (hn : 1 ≤ C.n) (ha : a.n = C.n) (j : Nat) : vol E b s j = vol C a s j := by
  unfold vol
  rw [T.n]
  obtain ⟨m, hm⟩ : ∃ m, C.n = m + 1 := ⟨C.n - 1, by omega⟩
  have l : volI E b (fun i => (str E s j i).1) (fun i => (str E s j i).2) (dpt s j) (C.n + 1) = volI E b (fun i => (str E s j i).1) (fun i => (str E s j i).2) (dpt s j) C.n + k * offI (C.D 0) (str C s j 0).1 (str C s j 0).2 (dpt s j) := by
    unfold volI
    rw [sumI]
    dsimp only
    rw [str_twin T s j, off_twin T.se T.we T.ro, ← ha, T.hl]
  rw [l]
  have q : volI E b (fun i => (str E s j i).1) (fun i => (str E s j i).2) (dpt s j) C.n = volI C a (fun i => (str C s j i).1) (fun i => (str C s j i).2) (dpt s j) C.n - k * offI (C.D 0) (str C s j 0).1 (str C s j 0).2 (dpt s j) := by
    unfold volI
    rw [hm]
    refine sumI_one _ _ _ ?_ m ?_
    · dsimp only
      rw [str_same T s j 0 (by omega), T.D 0 (by omega), T.h0, Int.sub_mul]
    · intro i h1 h2
      dsimp only
      rw [str_same T s j i (by omega), T.D i (by omega), T.hX i h1 (by omega)]
  rw [q]; omega
theorem lft_twin {C E : SlClass} {k : Int} {a b : SlI} (T : Twin C E k a b) (s : Ser) (hn : 1 ≤ C.n) (ha : a.n = C.n) : ∀ j, lft E b s j = lft C a s j
  | 0 => rfl
  | j + 1 => by rw [lft, lft, lft_twin T s hn ha j, vol_twin T s hn ha j]
theorem out_twin {C E : SlClass} {k : Int} {a b : SlI} (T : Twin C E k a b) (s : Ser) (hn : 1 ≤ C.n) (ha : a.n = C.n) (j : Nat) : out E b s j = out C a s j := by
  unfold out; rw [lft_twin T s hn ha j, vol_twin T s hn ha j]
/-- A class that is divided: the same volumes, or the classes are not valid. -/
theorem twin_err {C E : SlClass} {k : Int} {a b : SlI} {s : Ser} (T : Twin C E k a b) (he : depE C a s = 0) (hk : 0 ≤ k ∧ k ≤ a.X 0) : (clsB E = false ∧ depE E b s = 1) ∨ (depE E b s = 0) := by
  have hg : givR C a s = 0 := by
    unfold depE at he
    split at he
    · assumption
    · exact he
  have R := right_of hg
  have hn := R.few
  cases hc : clsB E
  · left
    refine ⟨rfl, ?_⟩
    unfold depE givR
    rw [hc]; rfl
  right
  have hall : allB (fitO C a s) s.ds.n = true := by
    unfold depE at he
    rw [if_pos hg] at he
    split at he
    · assumption
    · omega
  have hb : ∀ i, i < b.n → 0 ≤ b.X i ∧ b.X i ≤ 1073741824 := by
    intro i hi
    have m0 := R.mtr 0 (by omega)
    by_cases h1 : i = 0
    · subst h1; rw [T.h0]; omega
    · by_cases h2 : i = a.n
      · subst h2; rw [T.hl]; omega
      · have h3 : i < a.n := by have := T.bn; omega
        rw [T.hX i (by omega) h3]
        have := R.n
        exact R.mtr i (by omega)
  have sb : sumI b.X b.n = sumI a.X C.n := by
    obtain ⟨m, hm⟩ : ∃ m, a.n = m + 1 := ⟨a.n - 1, by have := R.n; omega⟩
    rw [T.bn, sumI, T.hl, hm, sumI_one a.X b.X k T.h0 m (fun i h1 h2 => T.hX i h1 (by omega)), ← R.n, hm]; omega
  have sp : sumP b.X b.n = sumI a.X C.n := by
    rw [← sb]; unfold sumP
    exact sumI_congr fun i hi => by have := hb i hi; omega
  have hg2 : givR E b s = 0 := by
    unfold givR
    rw [if_pos hc, if_pos R.ser, if_pos (by rw [T.bn, T.n, R.n]), if_pos (allB_iff.2 fun i hi => by unfold mtr; rw [bet_iff]; exact hb i hi), if_neg (by have := R.sum; omega), if_neg (by have := R.rain; omega)]
  have hall2 : allB (fitO E b s) s.ds.n = true := by
    rw [allB_iff] at hall ⊢
    intro j hj
    have := hall j hj
    unfold fitO at this ⊢
    rw [out_twin T s hn.1 R.n j]; exact this
  unfold depE
  rw [if_pos hg2, if_pos hall2]
theorem dep_right {C : SlClass} {a : SlI} {s : Ser} (he : depE C a s = 0) : Right C a s ∧ ∀ j, j < s.ds.n → 0 ≤ out C a s j ∧ out C a s j ≤ 1125899906842624 := by
  have hg : givR C a s = 0 := by
    unfold depE at he
    split at he
    · assumption
    · exact he
  have R := right_of hg
  refine ⟨R, fun j hj => ?_⟩
  unfold depE at he
  rw [if_pos hg] at he
  split at he
  rename_i h
  · have := allB_at h hj
    unfold fitO at this
    have v := R.vol hj
    have l := lft_le (C := C) (a := a) (s := s) j
    refine ⟨?_, of_decide_eq_true this⟩
    unfold out
    exact Int.ediv_nonneg (by omega) (by omega)
  · omega
end Ba
end Go.Proofs.YtajhhplgcegodaaDoor
namespace Go.Proofs.YtajhhplgcegodaaDoor
open Go.RowKit
attribute [local go_sem ↓] Go.wp_at_zero Go.wp_at_succ
theorem info_class : (Tryd.prog.info? 86).map (fun i => (i.zero, i.size, i.bytes)) = some (some (.agg #[.string ⟨#[]⟩, .int .i64 0, .int .i64 0, .int .i64 0, .int .i64 0]), 5, 48) := by kernel_rfl
/-- The cells of classes, one behind the other. -/
def flatC (D : Nat → Ba.Class) : Nat → List Value
  | 0 => []
  | n + 1 => flatC D n ++ [.string (D n).nm, .int .i64 (D n).se, .int .i64 (D n).we, .int .i64 (D n).ro, .int .i64 (D n).dr]
theorem flatC_len (D : Nat → Ba.Class) : ∀ n, (flatC D n).length = n * 5
  | 0 => rfl
  | n + 1 => by rw [flatC, List.length_append, flatC_len D n]; simp; omega
theorem flatC_get (D : Nat → Ba.Class) : ∀ {n j : Nat}, j < n → (flatC D n)[j * 5]? = some (.string (D j).nm) ∧ (flatC D n)[j * 5 + 1]? = some (.int .i64 (D j).se) ∧ (flatC D n)[j * 5 + 2]? = some (.int .i64 (D j).we) ∧ (flatC D n)[j * 5 + 3]? = some (.int .i64 (D j).ro) ∧ (flatC D n)[j * 5 + 4]? = some (.int .i64 (D j).dr)
  | 0, _, h => by omega
  | n + 1, j, h => by
    rw [flatC]
    by_cases e : j = n
    · subst e
      have hl := flatC_len D j
      refine ⟨?_, ?_, ?_, ?_, ?_⟩
      · rw [List.getElem?_append_right (by omega), hl, show j * 5 - j * 5 = 0 by omega]; rfl
      · rw [List.getElem?_append_right (by omega), hl, show j * 5 + 1 - j * 5 = 1 by omega]; rfl
      · rw [List.getElem?_append_right (by omega), hl, show j * 5 + 2 - j * 5 = 2 by omega]; rfl
      · rw [List.getElem?_append_right (by omega), hl, show j * 5 + 3 - j * 5 = 3 by omega]; rfl
      · rw [List.getElem?_append_right (by omega), hl, show j * 5 + 4 - j * 5 = 4 by omega]; rfl
    · obtain ⟨h0, h1, h2, h3, h4⟩ := flatC_get D (n := n) (j := j) (by omega)
      have hl := flatC_len D n
      refine ⟨?_, ?_, ?_, ?_, ?_⟩
      · rw [List.getElem?_append_left (by omega)]; exact h0
      · rw [List.getElem?_append_left (by omega)]; exact h1
      · rw [List.getElem?_append_left (by omega)]; exact h2
      · rw [List.getElem?_append_left (by omega)]; exact h3
      · rw [List.getElem?_append_left (by omega)]; exact h4
theorem flatC_one (D : Nat → Ba.Class) : ∀ n, ∀ u ∈ flatC D n, u.oneCell' = true
  | 0, u, h => by simp [flatC] at h
  | n + 1, u, h => by
    rw [flatC] at h
    rcases List.mem_append.1 h with h | h
    · exact flatC_one D n u h
    · simp at h
      rcases h with rfl | rfl | rfl | rfl | rfl <;> rfl
theorem flatC_congr {D E : Nat → Ba.Class} : ∀ {n}, (∀ i, i < n → D i = E i) → flatC D n = flatC E n
  | 0, _ => rfl
  | n + 1, h => by rw [flatC, flatC, flatC_congr fun i hi => h i (by omega), h n (by omega)]
theorem flatN_congr {X Y : Nat → Int} : ∀ {n}, (∀ i, i < n → X i = Y i) → flatN X n = flatN Y n
  | 0, _ => rfl
  | n + 1, h => by rw [flatN, flatN, flatN_congr fun i hi => h i (by omega), h n (by omega)]
theorem flatC_at {w : World} {ad : Addr} {n b o : Nat} {D : Nat → Ba.Class} (hA : 0 < n → some ad = some ⟨b, o, none⟩) (hX : ∀ j, j < n → (D j).Cells w b (o + j * 5)) : ∀ (j : Nat) (u : Value), (flatC D n)[j]? = some u → w.cell? (ad.add j) = some u := by
  intro j u hj
  have hjn : j < n * 5 := by
    have := (List.getElem?_eq_some_iff.1 hj).1
    rwa [flatC_len] at this
  obtain ⟨q, hq5⟩ : ∃ q, j = q * 5 ∨ j = q * 5 + 1 ∨ j = q * 5 + 2 ∨ j = q * 5 + 3 ∨ j = q * 5 + 4 := ⟨j / 5, by omega⟩
  have hq : q < n := by omega
  have e := hA (by omega)
  cases e
  obtain ⟨g0, g1, g2, g3, g4⟩ := flatC_get D hq
  obtain ⟨c0, c1, c2, c3, c4⟩ := hX _ hq
  have ha : (⟨b, o, none⟩ : Addr).add j = ⟨b, o + j, none⟩ := by
    by_cases h0 : j = 0
    · subst h0; simp [Addr.add]
    · simp [Addr.add, h0]
  rw [ha]
  rcases hq5 with rfl | rfl | rfl | rfl | rfl
  · rw [g0] at hj; cases hj; exact c0
  · rw [g1] at hj; cases hj; rw [← Nat.add_assoc]; exact c1
  · rw [g2] at hj; cases hj; rw [← Nat.add_assoc]; exact c2
  · rw [g3] at hj; cases hj; rw [← Nat.add_assoc]; exact c3
  · rw [g4] at hj; cases hj; rw [← Nat.add_assoc]; exact c4
/-- A row of classes of a call's own, as a slice. -/
theorem own_slc {w : World} {base E n : Nat} {v : Value} {D : Nat → Ba.Class} (h : w.ownsRow base E 5 v n (flatC D n)) (hok : ∀ i, i < n → (D i).Ok w) : ∃ s : Ba.SlClass, v = .slice s.A s.n s.c ∧ s.At w ∧ s.n = n ∧ s.D = D := by
  have h' := h
  obtain ⟨hl, ⟨rfl, rfl⟩ | ⟨g, cap, cur, rfl, hb, hc, hn, hm, hs, hx⟩⟩ := h
  · exact ⟨⟨none, 0, 0, 0, 0, D⟩, rfl, ⟨fun h => absurd h (by simp), Nat.le_refl _, by simp, fun j hj => absurd hj (by simp)⟩, rfl, rfl⟩
  · refine ⟨⟨some ⟨g, 0, none⟩, n, cap, g, 0, D⟩, rfl, ⟨fun _ => rfl, hn, by unfold maxLen at hm; exact hm, fun j hj => ?_⟩, rfl, rfl⟩
    have own : ∀ i v, i < n * 5 → (flatC D n)[i]? = some v → w.cell? ⟨g, i, none⟩ = some v := fun i v hi hv => by
      have hcv : cur.toList[i]? = some v := by
        rw [← hx, List.getElem?_take_of_lt hi] at hv; exact hv
      simp only [World.cell?, hc]; simpa using hcv
    simp only at hj
    obtain ⟨g0, g1, g2, g3, g4⟩ := flatC_get D hj
    refine ⟨?_, hok j hj⟩
    simp only [Nat.zero_add]
    exact ⟨own _ _ (by omega) g0, own _ _ (by omega) g1, own _ _ (by omega) g2, own _ _ (by omega) g3, own _ _ (by omega) g4⟩
/-- What Clone answers: a row of the call's own. -/
def RetOwn (E size n : Nat) (xs : List Value) (w : World) (e : Ending) (w' : World) : Prop := ∃ (A : Option Addr) (c : Nat), e = .returned (.slice A n c) ∧ w'.ownsRow w.heap.size E size (.slice A n c) n xs ∧ Gr w w'
theorem own_form {w : World} {base E size n : Nat} {v : Value} {xs : List Value} (h : w.ownsRow base E size v n xs) : ∃ (A : Option Addr) (c : Nat), v = .slice A n c := by
  obtain ⟨hl, ⟨rfl, rfl⟩ | ⟨g, cap, cur, rfl, hb, hc, hn, hm, hs, hx⟩⟩ := h
  · exact ⟨none, 0, rfl⟩
  · exact ⟨_, cap, rfl⟩

end Go.Proofs.YtajhhplgcegodaaDoor
namespace Go.Proofs.YtajhhplgcegodaaDoor
open Go.RowKit
attribute [local go_sem ↓] Go.wp_at_zero Go.wp_at_succ

end Go.Proofs.YtajhhplgcegodaaDoor
namespace Go.Proofs.YtajhhplgcegodaaDoor
open Go.RowKit
attribute [local go_sem ↓] Go.wp_at_zero Go.wp_at_succ
theorem dep_good (C : Ba.SlClass) (a : Ba.SlI) (s : Ba.Ser) (w : World) (hC : C.At w) (ha : a.At w) (hs : s.Ok w) (he : Ba.depE C a s = 0) : Calls Tryd.prog 83 #[.slice C.A C.n C.c, .slice a.A a.n a.c, s.val] w fun e w' => ∃ (A : Option Addr) (c b oo : Nat), e = .returned (.tuple #[.slice A s.ds.n c, .int .i64 0]) ∧ Ba.SlI.At w' ⟨A, s.ds.n, c, b, oo, Ba.out C a s⟩ ∧ Gr w w' := by
  refine (dep_any C a s w hC ha hs).mono ?_
  rintro e w' ⟨r, rfl, r1, r2, -, r4⟩
  obtain ⟨q1, q2⟩ := r2 he
  refine ⟨r.A, r.c, r.b, r.o, by rw [he, q1], ⟨fun h => r1.hA (by simp only at h; omega), by have := r1.hc; simp only; omega, r1.hb, fun i hi => ?_⟩, r4⟩
  simp only at hi
  have := r1.hX i (by omega)
  rw [q2 i hi] at this
  exact this
theorem out_sum {C : Ba.SlClass} {a : Ba.SlI} {s : Ba.Ser} (he : Ba.depE C a s = 0) (hn : s.ds.n ≤ 100) : ∀ i, i ≤ s.ds.n → Ba.i64 (Ba.sumI (Ba.out C a s) i) := fun i hi => by
  have h := Ba.sumI_le (X := Ba.out C a s) (lo := 0) (hi := 1125899906842624) (n := i) fun j hj => (Ba.dep_right he).2 j (by omega)
  unfold Ba.i64
  have : (i : Int) ≤ 100 := by omega
  omega

namespace Ba
def upS (s : Ser) (G c m : Nat) (z : Int) : Ser := ⟨s.fr, s.st, ⟨some ⟨G, 0, none⟩, s.ds.n, c, G, 0, fun i => if i = m then z else s.ds.X i⟩⟩
end Ba
theorem at_pre {w : World} {A : Option Addr} {n m c b o : Nat} {X : Nat → Int} (h : Ba.SlI.At w ⟨A, n, c, b, o, X⟩) (hm : m ≤ n) : Ba.SlI.At w ⟨A, m, c, b, o, X⟩ :=
  ⟨fun h1 => h.hA (by simp only at h1 ⊢; omega), by have := h.hc; simp only at this ⊢; omega, h.hb, fun i hi => h.hX i (by simp only at hi ⊢; omega)⟩
namespace Ba
theorem few_le {C : SlClass} {a : SlI} {s : Ser} (h : fewB C a s = true) : C.n ≤ 20 ∧ a.n ≤ 30 ∧ s.ds.n ≤ 100 := by
  unfold fewB at h
  simp only [Bool.and_eq_true, decide_eq_true_eq] at h
  omega
end Ba

end Go.Proofs.YtajhhplgcegodaaDoor
