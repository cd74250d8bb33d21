/-
  Runoff: slices.Clone of ints and of classes: a row of the call's own. (Printed by mkq.py.)
-/
import Derived.Test.YtjighhphadfoiaaRoG
import Derived.Deep.AppendLies
set_option linter.unusedVariables false
set_option linter.unusedSimpArgs false
namespace Go.Proofs.Ytjighhphadfoiaa
open Go.RowKit
attribute [local go_sem ↓] Go.wp_at_zero Go.wp_at_succ
theorem info_class : (Try.prog.info? 37).map (fun i => (i.zero, i.size, i.bytes)) = some (some (.agg #[.string ⟨#[]⟩, .int .i64 0, .int .i64 0, .int .i64 0, .int .i64 0]), 5, 48) := by kernel_rfl
/-- The cells of classes, one behind the other. -/
def flatC (D : Nat → Ba.Class) : Nat → List Value
  | 0 => []
  | n + 1 => flatC D n ++ [.string (D n).nm, .int .i64 (D n).se, .int .i64 (D n).we, .int .i64 (D n).ro, .int .i64 (D n).dr]
theorem flatC_len (D : Nat → Ba.Class) : ∀ n, (flatC D n).length = n * 5
  | 0 => rfl
  | n + 1 => by rw [flatC, List.length_append, flatC_len D n]; simp; omega
theorem flatC_get (D : Nat → Ba.Class) : ∀ {n j : Nat}, j < n → (flatC D n)[j * 5]? = some (.string (D j).nm) ∧ (flatC D n)[j * 5 + 1]? = some (.int .i64 (D j).se) ∧ (flatC D n)[j * 5 + 2]? = some (.int .i64 (D j).we) ∧ (flatC D n)[j * 5 + 3]? = some (.int .i64 (D j).ro) ∧ (flatC D n)[j * 5 + 4]? = some (.int .i64 (D j).dr)
  | 0, _, h => by omega
  | n + 1, j, h => by
    rw [flatC]
    by_cases e : j = n
    · subst e
      have hl := flatC_len D j
      refine ⟨?_, ?_, ?_, ?_, ?_⟩
      · rw [List.getElem?_append_right (by omega), hl, show j * 5 - j * 5 = 0 by omega]; rfl
      · rw [List.getElem?_append_right (by omega), hl, show j * 5 + 1 - j * 5 = 1 by omega]; rfl
      · rw [List.getElem?_append_right (by omega), hl, show j * 5 + 2 - j * 5 = 2 by omega]; rfl
      · rw [List.getElem?_append_right (by omega), hl, show j * 5 + 3 - j * 5 = 3 by omega]; rfl
      · rw [List.getElem?_append_right (by omega), hl, show j * 5 + 4 - j * 5 = 4 by omega]; rfl
    · obtain ⟨h0, h1, h2, h3, h4⟩ := flatC_get D (n := n) (j := j) (by omega)
      have hl := flatC_len D n
      refine ⟨?_, ?_, ?_, ?_, ?_⟩
      · rw [List.getElem?_append_left (by omega)]; exact h0
      · rw [List.getElem?_append_left (by omega)]; exact h1
      · rw [List.getElem?_append_left (by omega)]; exact h2
      · rw [List.getElem?_append_left (by omega)]; exact h3
      · rw [List.getElem?_append_left (by omega)]; exact h4
theorem flatC_one (D : Nat → Ba.Class) : ∀ n, ∀ u ∈ flatC D n, u.oneCell' = true
  | 0, u, h => by simp [flatC] at h
  | n + 1, u, h => by
    rw [flatC] at h
    rcases List.mem_append.1 h with h | h
    · exact flatC_one D n u h
    · simp at h
      rcases h with rfl | rfl | rfl | rfl | rfl <;> rfl
theorem flatC_congr {D E : Nat → Ba.Class} : ∀ {n}, (∀ i, i < n → D i = E i) → flatC D n = flatC E n
  | 0, _ => rfl
  | n + 1, h => by rw [flatC, flatC, flatC_congr fun i hi => h i (by omega), h n (by omega)]
theorem flatN_congr {X Y : Nat → Int} : ∀ {n}, (∀ i, i < n → X i = Y i) → flatN X n = flatN Y n
  | 0, _ => rfl
  | n + 1, h => by rw [flatN, flatN, flatN_congr fun i hi => h i (by omega), h n (by omega)]
theorem flatC_at {w : World} {ad : Addr} {n b o : Nat} {D : Nat → Ba.Class} (hA : 0 < n → some ad = some ⟨b, o, none⟩) (hX : ∀ j, j < n → (D j).Cells w b (o + j * 5)) : ∀ (j : Nat) (u : Value), (flatC D n)[j]? = some u → w.cell? (ad.add j) = some u := by
  intro j u hj
  have hjn : j < n * 5 := by
    have := (List.getElem?_eq_some_iff.1 hj).1
    rwa [flatC_len] at this
  obtain ⟨q, hq5⟩ : ∃ q, j = q * 5 ∨ j = q * 5 + 1 ∨ j = q * 5 + 2 ∨ j = q * 5 + 3 ∨ j = q * 5 + 4 := ⟨j / 5, by omega⟩
  have hq : q < n := by omega
  have e := hA (by omega)
  cases e
  obtain ⟨g0, g1, g2, g3, g4⟩ := flatC_get D hq
  obtain ⟨c0, c1, c2, c3, c4⟩ := hX _ hq
  have ha : (⟨b, o, none⟩ : Addr).add j = ⟨b, o + j, none⟩ := by
    by_cases h0 : j = 0
    · subst h0; simp [Addr.add]
    · simp [Addr.add, h0]
  rw [ha]
  rcases hq5 with rfl | rfl | rfl | rfl | rfl
  · rw [g0] at hj; cases hj; exact c0
  · rw [g1] at hj; cases hj; rw [← Nat.add_assoc]; exact c1
  · rw [g2] at hj; cases hj; rw [← Nat.add_assoc]; exact c2
  · rw [g3] at hj; cases hj; rw [← Nat.add_assoc]; exact c3
  · rw [g4] at hj; cases hj; rw [← Nat.add_assoc]; exact c4
/-- A row of classes of a call's own, as a slice. -/
theorem own_slc {w : World} {base E n : Nat} {v : Value} {D : Nat → Ba.Class} (h : w.ownsRow base E 5 v n (flatC D n)) (hok : ∀ i, i < n → (D i).Ok w) : ∃ s : Ba.SlClass, v = .slice s.A s.n s.c ∧ s.At w ∧ s.n = n ∧ s.D = D := by
  have h' := h
  obtain ⟨hl, ⟨rfl, rfl⟩ | ⟨g, cap, cur, rfl, hb, hc, hn, hm, hs, hx⟩⟩ := h
  · exact ⟨⟨none, 0, 0, 0, 0, D⟩, rfl, ⟨fun h => absurd h (by simp), Nat.le_refl _, by simp, fun j hj => absurd hj (by simp)⟩, rfl, rfl⟩
  · refine ⟨⟨some ⟨g, 0, none⟩, n, cap, g, 0, D⟩, rfl, ⟨fun _ => rfl, hn, by unfold maxLen at hm; exact hm, fun j hj => ?_⟩, rfl, rfl⟩
    have own : ∀ i v, i < n * 5 → (flatC D n)[i]? = some v → w.cell? ⟨g, i, none⟩ = some v := fun i v hi hv => by
      have hcv : cur.toList[i]? = some v := by
        rw [← hx, List.getElem?_take_of_lt hi] at hv; exact hv
      simp only [World.cell?, hc]; simpa using hcv
    simp only at hj
    obtain ⟨g0, g1, g2, g3, g4⟩ := flatC_get D hj
    refine ⟨?_, hok j hj⟩
    simp only [Nat.zero_add]
    exact ⟨own _ _ (by omega) g0, own _ _ (by omega) g1, own _ _ (by omega) g2, own _ _ (by omega) g3, own _ _ (by omega) g4⟩
/-- What Clone answers: a row of the call's own. -/
def RetOwn (E size n : Nat) (xs : List Value) (w : World) (e : Ending) (w' : World) : Prop := ∃ (A : Option Addr) (c : Nat), e = .returned (.slice A n c) ∧ w'.ownsRow w.heap.size E size (.slice A n c) n xs ∧ Gr w w'
theorem own_form {w : World} {base E size n : Nat} {v : Value} {xs : List Value} (h : w.ownsRow base E size v n xs) : ∃ (A : Option Addr) (c : Nat), v = .slice A n c := by
  obtain ⟨hl, ⟨rfl, rfl⟩ | ⟨g, cap, cur, rfl, hb, hc, hn, hm, hs, hx⟩⟩ := h
  · exact ⟨none, 0, rfl⟩
  · exact ⟨_, cap, rfl⟩

set_option maxRecDepth 100000 in
set_option maxHeartbeats 4000000 in
theorem clonen_any (s : Ba.SlI) (w : World) (h : s.At w) (hn0 : 0 < s.n) (hn : s.n ≤ 100000) : Calls Try.prog 13 #[.slice s.A s.n s.c] w (RetOwn 3 1 s.n (flatN s.X s.n) w) := by
  obtain ⟨i0, hi0, hz0, hz1, hz2⟩ := info_parts info_int
  have HI := Lib.hid hi0; have HZ0 := Lib.hid hz0; have HZ1 := Lib.hid hz1; have HZ2 := Lib.hid hz2
  clear hi0 hz0 hz1 hz2
  have HA := Lib.hid h.hA; have HX := Lib.hid (fun i hi => (h.hX i hi).1)
  clear h
  obtain ⟨A, n, c, b, o, D⟩ := s
  simp only at *
  have qe : ∀ (w : World) (a : Option Addr) (n c n' c' : Nat), (binOp .eql 23 (.slice a n c) (.slice none n' c')).run Try.prog w = .ok (.bool a.isNone) w := fun w a n c n' c' => Lib.run_eql_slice_nil w _ _ a n c n' c' Try.underlying23
  obtain ⟨ad, rfl⟩ : ∃ ad, A = some ad := ⟨_, HA.out hn0⟩
  go_enter Try.func13, Try.ntmps13
  go_wp2_with (at_builtin; refine wpList_append_own _ rfl _ _ 23 rfl w.heap.size 3 i0 (.int .i64 0) 1 8 Try.underlying23 HI.out HZ0.out HZ1.out HZ2.out rfl (by decide) _ 0 [] rfl (World.ownsRow_made w #[] 0 (Nat.le_refl _) (Nat.zero_le _) rfl) ad n c (flatN D n) rfl (by rw [flatN_len, Nat.mul_one]) ?c1 ?c2 ?c3 ?c4 ?c5 ?_)
  case c1 => exact flatN_at HA.out (fun j hj => Gr.at (by first | exact Gr.alloc (Gr.refl _) _ | exact gr_auto) (HX.out j hj))
  case c2 => exact flatN_one D n
  case c3 => unfold maxLen; omega
  case c4 => omega
  case c5 => simp
  intro v' w1 hown hgrow hnil'
  have hg1 : Gr w w1 := by
    refine Below.grown (Below.alloc (Below.refl _ w) (Nat.le_refl _) _) hgrow (by simp) ?_
    intro k hk; simp [Value.ownBlock] at hk; omega
  replace hown := (show w1.ownsRow w.heap.size 3 1 v' n (flatN D n) from by simpa using hown)
  obtain ⟨A', c', rfl⟩ := own_form hown
  have HR := Lib.hid hown
  clear hown hgrow hnil'
  go_wp2_with fail
  go_ret
  exact ⟨A', c', rfl, HR.out, hg1⟩

set_option maxRecDepth 100000 in
set_option maxHeartbeats 4000000 in
theorem clonec_any (s : Ba.SlClass) (w : World) (h : s.At w) (hn0 : 0 < s.n) (hn : s.n ≤ 1000) : Calls Try.prog 16 #[.slice s.A s.n s.c] w (RetOwn 37 5 s.n (flatC s.D s.n) w) := by
  obtain ⟨i0, hi0, hz0, hz1, hz2⟩ := info_parts info_class
  have HI := Lib.hid hi0; have HZ0 := Lib.hid hz0; have HZ1 := Lib.hid hz1; have HZ2 := Lib.hid hz2
  clear hi0 hz0 hz1 hz2
  have HA := Lib.hid h.hA; have HX := Lib.hid (fun i hi => (h.hD i hi).1)
  clear h
  obtain ⟨A, n, c, b, o, D⟩ := s
  simp only at *
  have qe : ∀ (w : World) (a : Option Addr) (n c n' c' : Nat), (binOp .eql 22 (.slice a n c) (.slice none n' c')).run Try.prog w = .ok (.bool a.isNone) w := fun w a n c n' c' => Lib.run_eql_slice_nil w _ _ a n c n' c' Try.underlying22
  obtain ⟨ad, rfl⟩ : ∃ ad, A = some ad := ⟨_, HA.out hn0⟩
  go_enter Try.func16, Try.ntmps16
  go_wp2_with (at_builtin; refine wpList_append_own _ rfl _ _ 22 rfl w.heap.size 37 i0 (.agg #[.string ⟨#[]⟩, .int .i64 0, .int .i64 0, .int .i64 0, .int .i64 0]) 5 48 Try.underlying22 HI.out HZ0.out HZ1.out HZ2.out rfl (by decide) _ 0 [] rfl (World.ownsRow_made w #[] 0 (Nat.le_refl _) (Nat.zero_le _) rfl) ad n c (flatC D n) rfl (flatC_len D n) ?c1 ?c2 ?c3 ?c4 ?c5 ?_)
  case c1 => exact flatC_at HA.out (fun j hj => (HX.out j hj).gr (by first | exact Gr.alloc (Gr.refl _) _ | exact gr_auto))
  case c2 => exact flatC_one D n
  case c3 => unfold maxLen; omega
  case c4 => omega
  case c5 => simp
  intro v' w1 hown hgrow hnil'
  have hg1 : Gr w w1 := by
    refine Below.grown (Below.alloc (Below.refl _ w) (Nat.le_refl _) _) hgrow (by simp) ?_
    intro k hk; simp [Value.ownBlock] at hk; omega
  replace hown := (show w1.ownsRow w.heap.size 37 5 v' n (flatC D n) from by simpa using hown)
  obtain ⟨A', c', rfl⟩ := own_form hown
  have HR := Lib.hid hown
  clear hown hgrow hnil'
  go_wp2_with fail
  go_ret
  exact ⟨A', c', rfl, HR.out, hg1⟩

end Go.Proofs.Ytjighhphadfoiaa
