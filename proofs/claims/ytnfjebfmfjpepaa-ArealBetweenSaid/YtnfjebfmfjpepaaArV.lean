/-
  Areal: slices.Clone of records; slices.Reverse of records and of ints. (Printed by mkv.py.)
-/
import Derived.Test.YtnfjebfmfjpepaaArG
import Derived.Lib.SliceRun
import Derived.ChangeAlike
set_option linter.unusedVariables false
set_option linter.unusedSimpArgs false
namespace Go.Proofs.Ytnfjebfmfjpepaa
open Go.RowKit
attribute [local go_sem ↓] Go.wp_at_zero Go.wp_at_succ
theorem info_ser : (Try.prog.info? 40).map (fun i => (i.zero, i.size, i.bytes)) = some (some (.agg #[.int .i64 0, .int .i64 0, .slice none 0 0]), 3, 40) := by kernel_rfl
/-- A row of records, each cell of which may be written. -/
def RowS (w : World) (g n : Nat) (D : Nat → Ba.Ser) : Prop := ∀ j, j < n → Own w g (j * 3) (.int .i64 (D j).fr) ∧ Own w g (j * 3 + 1) (.int .i64 (D j).st) ∧ Own w g (j * 3 + 2) (.slice (D j).ds.A (D j).ds.n (D j).ds.c)
theorem RowS.gr {w w' : World} {g n : Nat} {D : Nat → Ba.Ser} (h : RowS w g n D) (hg : Gr w w') : RowS w' g n D := fun j hj => ⟨(h j hj).1.gr hg, (h j hj).2.1.gr hg, (h j hj).2.2.gr hg⟩
/-- Three cells are written. -/
def set3 (w : World) (g j : Nat) (d : Ba.Ser) : World := ((w.setCell ⟨g, j * 3, none⟩ (.int .i64 d.fr)).setCell ⟨g, j * 3 + 1, none⟩ (.int .i64 d.st)).setCell ⟨g, j * 3 + 2, none⟩ (.slice d.ds.A d.ds.n d.ds.c)
theorem RowS.set {w : World} {g n k : Nat} {D E : Nat → Ba.Ser} {d : Ba.Ser} (h : RowS w g n D) (hk : E k = d) (ho : ∀ j, j < n → j ≠ k → E j = D j) : RowS (set3 w g k d) g n E := by
  intro j hj
  unfold set3
  by_cases e : j = k
  · subst e
    rw [hk]
    exact ⟨Own.other (Own.other (Own.set (h j hj).1) (Or.inr (by omega))) (Or.inr (by omega)), Own.other (Own.set (Own.other (h j hj).2.1 (Or.inr (by omega)))) (Or.inr (by omega)), Own.set (Own.other (Own.other (h j hj).2.2 (Or.inr (by omega))) (Or.inr (by omega)))⟩
  · rw [ho j hj e]
    exact ⟨Own.other (Own.other (Own.other (h j hj).1 (Or.inr (by omega))) (Or.inr (by omega))) (Or.inr (by omega)), Own.other (Own.other (Own.other (h j hj).2.1 (Or.inr (by omega))) (Or.inr (by omega))) (Or.inr (by omega)), Own.other (Own.other (Own.other (h j hj).2.2 (Or.inr (by omega))) (Or.inr (by omega))) (Or.inr (by omega))⟩
theorem grx_set3 {R : Nat} {a w : World} (h : GrX R a w) (j : Nat) (d : Ba.Ser) : GrX R a (set3 w R j d) := GrX.setCell (GrX.setCell (GrX.setCell h rfl _) rfl _) rfl _
/-- The cells of records, one behind the other. -/
def flatS (D : Nat → Ba.Ser) : Nat → List Value
  | 0 => []
  | n + 1 => flatS D n ++ [.int .i64 (D n).fr, .int .i64 (D n).st, .slice (D n).ds.A (D n).ds.n (D n).ds.c]
theorem flatS_len (D : Nat → Ba.Ser) : ∀ n, (flatS D n).length = n * 3
  | 0 => rfl
  | n + 1 => by rw [flatS, List.length_append, flatS_len D n]; simp; omega
theorem flatS_get (D : Nat → Ba.Ser) : ∀ {n j : Nat}, j < n → (flatS D n)[j * 3]? = some (.int .i64 (D j).fr) ∧ (flatS D n)[j * 3 + 1]? = some (.int .i64 (D j).st) ∧ (flatS D n)[j * 3 + 2]? = some (.slice (D j).ds.A (D j).ds.n (D j).ds.c)
  | 0, _, h => by omega
  | n + 1, j, h => by
    rw [flatS]
    by_cases e : j = n
    · subst e
      have hl := flatS_len D j
      refine ⟨?_, ?_, ?_⟩
      · rw [List.getElem?_append_right (by omega), hl, show j * 3 - j * 3 = 0 by omega]; rfl
      · rw [List.getElem?_append_right (by omega), hl, show j * 3 + 1 - j * 3 = 1 by omega]; rfl
      · rw [List.getElem?_append_right (by omega), hl, show j * 3 + 2 - j * 3 = 2 by omega]; rfl
    · obtain ⟨h1, h2, h3⟩ := flatS_get D (n := n) (j := j) (by omega)
      have hl := flatS_len D n
      refine ⟨?_, ?_, ?_⟩
      · rw [List.getElem?_append_left (by omega)]; exact h1
      · rw [List.getElem?_append_left (by omega)]; exact h2
      · rw [List.getElem?_append_left (by omega)]; exact h3
theorem flatS_one (D : Nat → Ba.Ser) : ∀ n, ∀ u ∈ flatS D n, u.oneCell' = true
  | 0, u, h => by simp [flatS] at h
  | n + 1, u, h => by
    rw [flatS] at h
    rcases List.mem_append.1 h with h | h
    · exact flatS_one D n u h
    · simp at h
      rcases h with rfl | rfl | rfl <;> rfl
theorem flatS_at {w : World} {ad : Addr} {n b o : Nat} {D : Nat → Ba.Ser} (hA : 0 < n → some ad = some ⟨b, o, none⟩) (hX : ∀ j, j < n → (D j).Cells w b (o + j * 3)) : ∀ (j : Nat) (u : Value), (flatS D n)[j]? = some u → w.cell? (ad.add j) = some u := by
  intro j u hj
  have hjn : j < n * 3 := by
    have := (List.getElem?_eq_some_iff.1 hj).1
    rwa [flatS_len] at this
  obtain ⟨q, hq3⟩ : ∃ q, j = q * 3 ∨ j = q * 3 + 1 ∨ j = q * 3 + 2 := ⟨j / 3, by omega⟩
  have hq : q < n := by omega
  have e := hA (by omega)
  cases e
  obtain ⟨g1, g2, g3⟩ := flatS_get D hq
  obtain ⟨c1, c2, c3⟩ := hX _ hq
  have ha : (⟨b, o, none⟩ : Addr).add j = ⟨b, o + j, none⟩ := by
    by_cases h0 : j = 0
    · subst h0; simp [Addr.add]
    · simp [Addr.add, h0]
  rw [ha]
  rcases hq3 with rfl | rfl | rfl
  · rw [g1] at hj; cases hj; exact c1
  · rw [g2] at hj; cases hj; rw [← Nat.add_assoc]; exact c2
  · rw [g3] at hj; cases hj; rw [← Nat.add_assoc]; exact c3

/-- What Clone answers: a slice of a call's own, of the same records. -/
def RetCls (n : Nat) (D : Nat → Ba.Ser) (w : World) (e : Ending) (w' : World) : Prop := ∃ (A : Option Addr) (c g : Nat), e = .returned (.slice A n c) ∧ (0 < n → A = some ⟨g, 0, none⟩) ∧ w.heap.size ≤ g ∧ n ≤ c ∧ c ≤ 9223372036854775807 ∧ RowS w' g n D ∧ Gr w w'
theorem own_rowS {w : World} {base E n : Nat} {v : Value} {D : Nat → Ba.Ser} (h : w.ownsRow base E 3 v n (flatS D n)) : ∃ (A : Option Addr) (c g : Nat), v = .slice A n c ∧ (0 < n → A = some ⟨g, 0, none⟩) ∧ base ≤ g ∧ n ≤ c ∧ c ≤ 9223372036854775807 ∧ RowS w g n D := by
  have h' := h
  obtain ⟨hl, ⟨rfl, rfl⟩ | ⟨g, cap, cur, rfl, hb, hc, hn, hm, hs, hx⟩⟩ := h
  · exact ⟨none, 0, base, rfl, fun h => absurd h (by omega), Nat.le_refl _, Nat.le_refl _, by omega, fun j hj => absurd hj (by omega)⟩
  · refine ⟨_, cap, g, rfl, fun _ => rfl, hb, hn, by unfold maxLen at hm; exact hm, ?_⟩
    have own : ∀ i v, i < n * 3 → (flatS D n)[i]? = some v → Own w g i v := fun i v hi hv => by
      have hcv : cur.toList[i]? = some v := by
        rw [← hx, List.getElem?_take_of_lt hi] at hv; exact hv
      refine ⟨?_, ?_⟩
      · simp only [World.cell?, hc]; simpa using hcv
      · simp only [World.frozen?, hc]; simp
    intro j hj
    obtain ⟨g1, g2, g3⟩ := flatS_get D hj
    exact ⟨own _ _ (by omega) g1, own _ _ (by omega) g2, own _ _ (by omega) g3⟩

set_option maxRecDepth 100000 in
set_option maxHeartbeats 4000000 in
theorem clones_any (s : Ba.SlSer) (w : World) (h : s.At w) (hn0 : 0 < s.n) (hn : s.n ≤ 1000) : Calls Try.prog 28 #[.slice s.A s.n s.c] w (RetCls s.n s.D w) := by
  obtain ⟨i0, hi0, hz0, hz1, hz2⟩ := info_parts info_ser
  have HI := Lib.hid hi0; have HZ0 := Lib.hid hz0; have HZ1 := Lib.hid hz1; have HZ2 := Lib.hid hz2
  clear hi0 hz0 hz1 hz2
  have HA := Lib.hid h.hA; have HX := Lib.hid (fun i hi => (h.hD i hi).1)
  clear h
  obtain ⟨A, n, c, b, o, D⟩ := s
  simp only at *
  have qe : ∀ (w : World) (a : Option Addr) (n c n' c' : Nat), (binOp .eql 43 (.slice a n c) (.slice none n' c')).run Try.prog w = .ok (.bool a.isNone) w := fun w a n c n' c' => Lib.run_eql_slice_nil w _ _ a n c n' c' Try.underlying43
  obtain ⟨ad, rfl⟩ : ∃ ad, A = some ad := ⟨_, HA.out hn0⟩
  go_enter Try.func28, Try.ntmps28
  go_wp2_with (at_builtin; refine wpList_append_own _ rfl _ _ 43 rfl w.heap.size 40 i0 (.agg #[.int .i64 0, .int .i64 0, .slice none 0 0]) 3 40 Try.underlying43 HI.out HZ0.out HZ1.out HZ2.out rfl (by decide) _ 0 [] rfl (World.ownsRow_made w #[] 0 (Nat.le_refl _) (Nat.zero_le _) rfl) ad n c (flatS D n) rfl (flatS_len D n) ?c1 ?c2 ?c3 ?c4 ?c5 ?_)
  case c1 => exact flatS_at HA.out (fun j hj => (HX.out j hj).gr (by first | exact Gr.alloc (Gr.refl _) _ | exact gr_auto))
  case c2 => exact flatS_one D n
  case c3 => unfold maxLen; omega
  case c4 => omega
  case c5 => simp
  intro v' w1 hown hgrow hnil'
  have hg1 : Gr w w1 := by
    refine Below.grown (Below.alloc (Below.refl _ w) (Nat.le_refl _) _) hgrow (by simp) ?_
    intro k hk; simp [Value.ownBlock] at hk; omega
  obtain ⟨A', c', g', rfl, h1, h0, h2, h3, h4⟩ := own_rowS (by simpa using hown)
  have HR := Lib.hid (And.intro h1 (And.intro h0 (And.intro h2 (And.intro h3 h4))))
  clear hown hgrow hnil' h0 h1 h2 h3 h4
  go_wp2_with fail
  go_ret
  exact ⟨A', c', g', rfl, HR.out.1, HR.out.2.1, HR.out.2.2.1, HR.out.2.2.2.1, HR.out.2.2.2.2, hg1⟩

/-- The records when the outer i on each side have been exchanged. -/
def revD (D : Nat → Ba.Ser) (n i : Nat) (j : Nat) : Ba.Ser := if j < i ∨ n - 1 - i < j then D (n - 1 - j) else D j

set_option maxRecDepth 100000 in
set_option maxHeartbeats 4000000 in
theorem reverses_any (A : Option Addr) (n c g : Nat) (D : Nat → Ba.Ser) (w : World) (hA : 0 < n → A = some ⟨g, 0, none⟩) (hn : n ≤ 1000) (hR : RowS w g n D) : Calls Try.prog 30 #[.slice A n c] w fun e w' => e = .returned (.tuple #[]) ∧ RowS w' g n (fun j => D (n - 1 - j)) ∧ GrX g w w' := by
  have HA := Lib.hid hA; have HR0 := Lib.hid hR
  clear hA hR
  go_enter Try.func30, Try.ntmps30
  go_wp2_with fail
  go_loopw [2, 3] (fun x y wr => ∃ i : Nat, 2 * i ≤ n + 1 ∧ x = .int .i64 (i : Int) ∧ y = .int .i64 ((n : Int) - 1 - (i : Int)) ∧ Hid (RowS wr g n (revD D n i)) ∧ GrX g w wr) (fun x _ _ => n + 1 - (intOf x).toNat)
  case atStart => exact ⟨0, by omega, rfl, by simp, Lib.hid (fun j hj => by
    have : revD D n 0 j = D j := by unfold revD; rw [if_neg (by omega)]
    rw [this]; exact HR0.out j hj), GrX.refl _ _⟩
  case round =>
    clear HR0
    obtain ⟨i, hi, rfl, rfl, HR, hg⟩ := hrel
    by_cases hlt : 2 * i + 1 < n
    · obtain ⟨j, hj⟩ : ∃ j : Nat, n = i + j + 1 := ⟨n - 1 - i, by omega⟩
      have hij : i < j := by omega
      rw [show (n : Int) - 1 - (i : Int) = (j : Int) by omega]
      obtain rfl := HA.out (by omega)
      have ei : revD D n i i = D i := by unfold revD; rw [if_neg (by omega)]
      have ej : revD D n i j = D j := by unfold revD; rw [if_neg (by omega)]
      obtain ⟨⟨u0, f0⟩, ⟨u1, f1⟩, ⟨u2, f2⟩⟩ := HR.out i (by omega)
      obtain ⟨⟨v0, h0⟩, ⟨v1, h1⟩, ⟨v2, h2⟩⟩ := HR.out j (by omega)
      rw [ei] at u0 u1 u2
      rw [ej] at v0 v1 v2
      have HRn := Lib.hid (show RowS (set3 (set3 wr g i (D j)) g j (D i)) g n (revD D n (i + 1)) from RowS.set (D := fun k => if k = i then D j else revD D n i k) (RowS.set HR.out (if_pos rfl) (fun k _ hk => if_neg hk)) (by
        unfold revD; rw [if_pos (by omega)]; congr 1; omega) (fun k hk hkj => by
        by_cases q : k = i
        · subst q; rw [if_pos rfl]; unfold revD; rw [if_pos (by omega)]; congr 1; omega
        · rw [if_neg q]; unfold revD
          by_cases q2 : k < i ∨ n - 1 - i < k
          · rw [if_pos q2, if_pos (by omega)]
          · rw [if_neg q2, if_neg (by omega)]))
      have hgn := grx_set3 (grx_set3 hg i (D j)) j (D i)
      unfold set3 at HRn hgn
      have ib0 : (0 : Int) ≤ (i : Int) := by omega
      have ib1 : (i : Int) < (n : Int) := by omega
      have ib2 : (0 : Int) ≤ (j : Int) := by omega
      have ib3 : (j : Int) < (n : Int) := by omega
      have td : decide ((i : Int) < (j : Int)) = true := decide_eq_true (by omega)
      have nn1 : i * 3 ≠ j * 3 := by omega
      have HJ := Lib.hid hj
      clear HR ei ej hg hj
      generalize D i = di at *
      generalize D j = dj at *
      go_wp2_with fail
      go_region
      go_wp2_with fail
      go_roundw
      case rel => exact ⟨i + 1, by omega, by go_num, by (have := HJ.out; congr 1; omega), Lib.hid (HRn.out.gr (Gr.drew (Gr.refl _))), GrX.drew hgn⟩
      case measure => simp [intOf]; omega
    · have td : decide ((i : Int) < (n : Int) - 1 - (i : Int)) = false := decide_eq_false (by omega)
      have HRe := Lib.hid (show RowS wr g n (fun j => D (n - 1 - j)) from fun j hj => by
        have := HR.out j hj
        have e : revD D n i j = D (n - 1 - j) := by
          unfold revD
          by_cases q : j < i ∨ n - 1 - i < j
          · rw [if_pos q]
          · rw [if_neg q]; congr 1; omega
        rw [e] at this; exact this)
      clear HR
      go_wp2_with fail
      go_end0
      exact ⟨rfl, HRe.out, hg⟩

/-- The ints when the outer i on each side have been exchanged. -/
def revI (D : Nat → Int) (n i : Nat) (j : Nat) : Int := if j < i ∨ n - 1 - i < j then D (n - 1 - j) else D j
set_option maxRecDepth 100000 in
set_option maxHeartbeats 4000000 in
theorem reversei_any (A : Option Addr) (n c g : Nat) (D : Nat → Int) (w : World) (hA : 0 < n → A = some ⟨g, 0, none⟩) (hn : n ≤ 1000) (hR : Row w g n (fun j => .int .i64 (D j))) : Calls Try.prog 31 #[.slice A n c] w fun e w' => e = .returned (.tuple #[]) ∧ Row w' g n (fun j => .int .i64 (D (n - 1 - j))) ∧ GrX g w w' := by
  have HA := Lib.hid hA; have HR0 := Lib.hid hR
  clear hA hR
  go_enter Try.func31, Try.ntmps31
  go_wp2_with fail
  go_loopw [2, 3] (fun x y wr => ∃ i : Nat, 2 * i ≤ n + 1 ∧ x = .int .i64 (i : Int) ∧ y = .int .i64 ((n : Int) - 1 - (i : Int)) ∧ Hid (Row wr g n (fun j => .int .i64 (revI D n i j))) ∧ GrX g w wr) (fun x _ _ => n + 1 - (intOf x).toNat)
  case atStart => exact ⟨0, by omega, rfl, by simp, Lib.hid (fun j hj => by
    have : revI D n 0 j = D j := by unfold revI; rw [if_neg (by omega)]
    simp only [this]; exact HR0.out j hj), GrX.refl _ _⟩
  case round =>
    clear HR0
    obtain ⟨i, hi, rfl, rfl, HR, hg⟩ := hrel
    by_cases hlt : 2 * i + 1 < n
    · obtain ⟨j, hj⟩ : ∃ j : Nat, n = i + j + 1 := ⟨n - 1 - i, by omega⟩
      have hij : i < j := by omega
      rw [show (n : Int) - 1 - (i : Int) = (j : Int) by omega]
      obtain rfl := HA.out (by omega)
      have ei : revI D n i i = D i := by unfold revI; rw [if_neg (by omega)]
      have ej : revI D n i j = D j := by unfold revI; rw [if_neg (by omega)]
      obtain ⟨u0, f0⟩ := HR.out i (by omega)
      obtain ⟨v0, h0⟩ := HR.out j (by omega)
      simp only [ei] at u0
      simp only [ej] at v0
      have HRn := Lib.hid (show Row ((wr.setCell ⟨g, i, none⟩ (.int .i64 (D j))).setCell ⟨g, j, none⟩ (.int .i64 (D i))) g n (fun k => .int .i64 (revI D n (i + 1) k)) from Row.set (X := fun k => .int .i64 (if k = i then D j else revI D n i k)) (Row.set HR.out (by simp only [if_true]) (fun k _ hk => by simp only [if_neg hk])) (by
        unfold revI; rw [if_pos (by omega)]; congr 2; omega) (fun k hk hkj => by
        by_cases q : k = i
        · subst q; simp only [if_true]; unfold revI; rw [if_pos (by omega)]; congr 2; omega
        · simp only [if_neg q]; unfold revI
          by_cases q2 : k < i ∨ n - 1 - i < k
          · rw [if_pos q2, if_pos (by omega)]
          · rw [if_neg q2, if_neg (by omega)]))
      have hgn := GrX.setCell (GrX.setCell hg (p := ⟨g, i, none⟩) rfl (.int .i64 (D j))) (p := ⟨g, j, none⟩) rfl (.int .i64 (D i))
      have ib0 : (0 : Int) ≤ (i : Int) := by omega
      have ib1 : (i : Int) < (n : Int) := by omega
      have ib2 : (0 : Int) ≤ (j : Int) := by omega
      have ib3 : (j : Int) < (n : Int) := by omega
      have td : decide ((i : Int) < (j : Int)) = true := decide_eq_true (by omega)
      have nn1 : i ≠ j := by omega
      have HJ := Lib.hid hj
      clear HR ei ej hg hj
      generalize D i = di at *
      generalize D j = dj at *
      go_wp2_with fail
      go_region
      go_wp2_with fail
      go_roundw
      case rel => exact ⟨i + 1, by omega, by go_num, by (have := HJ.out; congr 1; omega), Lib.hid (HRn.out.gr (Gr.drew (Gr.refl _))), GrX.drew hgn⟩
      case measure => simp [intOf]; omega
    · have td : decide ((i : Int) < (n : Int) - 1 - (i : Int)) = false := decide_eq_false (by omega)
      have HRe := Lib.hid (show Row wr g n (fun j => .int .i64 (D (n - 1 - j))) from fun j hj => by
        have := HR.out j hj
        have e : revI D n i j = D (n - 1 - j) := by
          unfold revI
          by_cases q : j < i ∨ n - 1 - i < j
          · rw [if_pos q]
          · rw [if_neg q]; congr 1; omega
        simp only [e] at this; exact this)
      clear HR
      go_wp2_with fail
      go_end0
      exact ⟨rfl, HRe.out, hg⟩

end Go.Proofs.Ytnfjebfmfjpepaa
