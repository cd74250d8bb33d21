/-
  slices.Clone and slices.Reverse of ledgers. (Printed by mkrev.py.)
-/
import Derived.Test.YthkmgnaeponfcaaBaTotal
import Derived.Lib.SliceRun
import Derived.ChangeAlike
set_option linter.unusedVariables false
set_option linter.unusedSimpArgs false
namespace Go.Proofs.Ythkmgnaeponfcaa
open Go.RowKit
attribute [local go_sem ↓] Go.wp_at_zero Go.wp_at_succ
theorem info_led : (Try.prog.info? 31).map (fun i => (i.zero, i.size, i.bytes)) = some (some (.agg #[.int .i64 0, .int .i64 0, .slice none 0 0]), 3, 40) := by kernel_rfl
/-- A row of ledgers, each cell of which may be written. -/
def RowG (w : World) (g n : Nat) (D : Nat → Ba.Ledger) : Prop := ∀ j, j < n → Own w g (j * 3) (.int .i64 (D j).inn) ∧ Own w g (j * 3 + 1) (.int .i64 (D j).out) ∧ Own w g (j * 3 + 2) (.slice (D j).ps.A (D j).ps.n (D j).ps.c)
theorem RowG.gr {w w' : World} {g n : Nat} {D : Nat → Ba.Ledger} (h : RowG w g n D) (hg : Gr w w') : RowG w' g n D := fun j hj => ⟨(h j hj).1.gr hg, (h j hj).2.1.gr hg, (h j hj).2.2.gr hg⟩
/-- Three cells are written. -/
def set3 (w : World) (g j : Nat) (d : Ba.Ledger) : World := ((w.setCell ⟨g, j * 3, none⟩ (.int .i64 d.inn)).setCell ⟨g, j * 3 + 1, none⟩ (.int .i64 d.out)).setCell ⟨g, j * 3 + 2, none⟩ (.slice d.ps.A d.ps.n d.ps.c)
theorem RowG.set {w : World} {g n k : Nat} {D E : Nat → Ba.Ledger} {d : Ba.Ledger} (h : RowG w g n D) (hk : E k = d) (ho : ∀ j, j < n → j ≠ k → E j = D j) : RowG (set3 w g k d) g n E := by
  intro j hj
  unfold set3
  by_cases e : j = k
  · subst e
    rw [hk]
    exact ⟨Own.other (Own.other (Own.set (h j hj).1) (Or.inr (by omega))) (Or.inr (by omega)), Own.other (Own.set (Own.other (h j hj).2.1 (Or.inr (by omega)))) (Or.inr (by omega)), Own.set (Own.other (Own.other (h j hj).2.2 (Or.inr (by omega))) (Or.inr (by omega)))⟩
  · rw [ho j hj e]
    exact ⟨Own.other (Own.other (Own.other (h j hj).1 (Or.inr (by omega))) (Or.inr (by omega))) (Or.inr (by omega)), Own.other (Own.other (Own.other (h j hj).2.1 (Or.inr (by omega))) (Or.inr (by omega))) (Or.inr (by omega)), Own.other (Own.other (Own.other (h j hj).2.2 (Or.inr (by omega))) (Or.inr (by omega))) (Or.inr (by omega))⟩
theorem grx_set3 {R : Nat} {a w : World} (h : GrX R a w) (j : Nat) (d : Ba.Ledger) : GrX R a (set3 w R j d) := GrX.setCell (GrX.setCell (GrX.setCell h rfl _) rfl _) rfl _
/-- The cells of ledgers, one behind the other. -/
def flatG (D : Nat → Ba.Ledger) : Nat → List Value
  | 0 => []
  | n + 1 => flatG D n ++ [.int .i64 (D n).inn, .int .i64 (D n).out, .slice (D n).ps.A (D n).ps.n (D n).ps.c]
theorem flatG_len (D : Nat → Ba.Ledger) : ∀ n, (flatG D n).length = n * 3
  | 0 => rfl
  | n + 1 => by rw [flatG, List.length_append, flatG_len D n]; simp; omega
theorem flatG_get (D : Nat → Ba.Ledger) : ∀ {n j : Nat}, j < n → (flatG D n)[j * 3]? = some (.int .i64 (D j).inn) ∧ (flatG D n)[j * 3 + 1]? = some (.int .i64 (D j).out) ∧ (flatG D n)[j * 3 + 2]? = some (.slice (D j).ps.A (D j).ps.n (D j).ps.c)
  | 0, _, h => by omega
  | n + 1, j, h => by
    rw [flatG]
    by_cases e : j = n
    · subst e
      have hl := flatG_len D j
      refine ⟨?_, ?_, ?_⟩
      · rw [List.getElem?_append_right (by omega), hl, show j * 3 - j * 3 = 0 by omega]; rfl
      · rw [List.getElem?_append_right (by omega), hl, show j * 3 + 1 - j * 3 = 1 by omega]; rfl
      · rw [List.getElem?_append_right (by omega), hl, show j * 3 + 2 - j * 3 = 2 by omega]; rfl
    · obtain ⟨h1, h2, h3⟩ := flatG_get D (n := n) (j := j) (by omega)
      have hl := flatG_len D n
      refine ⟨?_, ?_, ?_⟩
      · rw [List.getElem?_append_left (by omega)]; exact h1
      · rw [List.getElem?_append_left (by omega)]; exact h2
      · rw [List.getElem?_append_left (by omega)]; exact h3
theorem flatG_one (D : Nat → Ba.Ledger) : ∀ n, ∀ u ∈ flatG D n, u.oneCell' = true
  | 0, u, h => by simp [flatG] at h
  | n + 1, u, h => by
    rw [flatG] at h
    rcases List.mem_append.1 h with h | h
    · exact flatG_one D n u h
    · simp at h
      rcases h with rfl | rfl | rfl <;> rfl
theorem flatG_at {w : World} {ad : Addr} {n b o : Nat} {D : Nat → Ba.Ledger} (hA : 0 < n → some ad = some ⟨b, o, none⟩) (hX : ∀ j, j < n → (D j).Cells w b (o + j * 3)) : ∀ (j : Nat) (u : Value), (flatG D n)[j]? = some u → w.cell? (ad.add j) = some u := by
  intro j u hj
  have hjn : j < n * 3 := by
    have := (List.getElem?_eq_some_iff.1 hj).1
    rwa [flatG_len] at this
  obtain ⟨q, hq3⟩ : ∃ q, j = q * 3 ∨ j = q * 3 + 1 ∨ j = q * 3 + 2 := ⟨j / 3, by omega⟩
  have hq : q < n := by omega
  have e := hA (by omega)
  cases e
  obtain ⟨g1, g2, g3⟩ := flatG_get D hq
  obtain ⟨c1, c2, c3⟩ := hX _ hq
  have ha : (⟨b, o, none⟩ : Addr).add j = ⟨b, o + j, none⟩ := by
    by_cases h0 : j = 0
    · subst h0; simp [Addr.add]
    · simp [Addr.add, h0]
  rw [ha]
  rcases hq3 with rfl | rfl | rfl
  · rw [g1] at hj; cases hj; exact c1
  · rw [g2] at hj; cases hj; rw [← Nat.add_assoc]; exact c2
  · rw [g3] at hj; cases hj; rw [← Nat.add_assoc]; exact c3

/-- What Clone answers: a slice of a call's own, of the same ledgers. -/
def RetClone (n : Nat) (D : Nat → Ba.Ledger) (w : World) (e : Ending) (w' : World) : Prop := ∃ (A : Option Addr) (c g : Nat), e = .returned (.slice A n c) ∧ (0 < n → A = some ⟨g, 0, none⟩) ∧ w.heap.size ≤ g ∧ n ≤ c ∧ c ≤ 9223372036854775807 ∧ RowG w' g n D ∧ Gr w w'
theorem own_rowG {w : World} {base E n : Nat} {v : Value} {D : Nat → Ba.Ledger} (h : w.ownsRow base E 3 v n (flatG D n)) : ∃ (A : Option Addr) (c g : Nat), v = .slice A n c ∧ (0 < n → A = some ⟨g, 0, none⟩) ∧ base ≤ g ∧ n ≤ c ∧ c ≤ 9223372036854775807 ∧ RowG w g n D := by
  have h' := h
  obtain ⟨hl, ⟨rfl, rfl⟩ | ⟨g, cap, cur, rfl, hb, hc, hn, hm, hs, hx⟩⟩ := h
  · exact ⟨none, 0, base, rfl, fun h => absurd h (by omega), Nat.le_refl _, Nat.le_refl _, by omega, fun j hj => absurd hj (by omega)⟩
  · refine ⟨_, cap, g, rfl, fun _ => rfl, hb, hn, by unfold maxLen at hm; exact hm, ?_⟩
    have own : ∀ i v, i < n * 3 → (flatG D n)[i]? = some v → Own w g i v := fun i v hi hv => by
      have hcv : cur.toList[i]? = some v := by
        rw [← hx, List.getElem?_take_of_lt hi] at hv; exact hv
      refine ⟨?_, ?_⟩
      · simp only [World.cell?, hc]; simpa using hcv
      · simp only [World.frozen?, hc]; simp
    intro j hj
    obtain ⟨g1, g2, g3⟩ := flatG_get D hj
    exact ⟨own _ _ (by omega) g1, own _ _ (by omega) g2, own _ _ (by omega) g3⟩

set_option maxRecDepth 100000 in
set_option maxHeartbeats 4000000 in
theorem clone_any (G : Ba.SlLedger) (w : World) (hG : G.At w) (hn : G.n ≤ 1000) (hnil : G.A = none → G.c = 0) : Calls Try.prog 23 #[.slice G.A G.n G.c] w (RetClone G.n G.D w) := by
  obtain ⟨i0, hi0, hz0, hz1, hz2⟩ := info_parts info_led
  have HI := Lib.hid hi0; have HZ0 := Lib.hid hz0; have HZ1 := Lib.hid hz1; have HZ2 := Lib.hid hz2
  clear hi0 hz0 hz1 hz2
  have HA := Lib.hid hG.hA; have HX := Lib.hid (fun i hi => (hG.hD i hi).1)
  clear hG
  obtain ⟨A, n, c, b, o, D⟩ := G
  simp only at *
  have qe : ∀ (w : World) (a : Option Addr) (n c n' c' : Nat), (binOp .eql 64 (.slice a n c) (.slice none n' c')).run Try.prog w = .ok (.bool a.isNone) w := fun w a n c n' c' => Lib.run_eql_slice_nil w _ _ a n c n' c' Try.underlying64
  cases A with
  | none =>
    obtain rfl : n = 0 := by
      by_cases h0 : 0 < n
      · exact absurd (HA.out h0) (by simp)
      · omega
    go_enter Try.func23, Try.ntmps23
    go_wp2_with fail
    go_ret
    exact ⟨none, 0, w.heap.size, rfl, fun h => absurd h (by omega), Nat.le_refl _, Nat.le_refl _, by omega, fun j hj => absurd hj (by omega), gr_auto⟩
  | some ad =>
    go_enter Try.func23, Try.ntmps23
    go_wp2_with (at_builtin; refine wpList_append_own _ rfl _ _ 64 rfl w.heap.size 31 i0 (.agg #[.int .i64 0, .int .i64 0, .slice none 0 0]) 3 40 Try.underlying64 HI.out HZ0.out HZ1.out HZ2.out rfl (by decide) _ 0 [] rfl (World.ownsRow_made w #[] 0 (Nat.le_refl _) (Nat.zero_le _) rfl) ad n c (flatG D n) rfl (flatG_len D n) ?c1 ?c2 ?c3 ?c4 ?c5 ?_)
    case c1 => exact flatG_at HA.out (fun j hj => (HX.out j hj).gr (by first | exact Gr.alloc (Gr.refl _) _ | exact gr_auto))
    case c2 => exact flatG_one D n
    case c3 => unfold maxLen; omega
    case c4 => omega
    case c5 => simp
    intro v' w1 hown hgrow hnil'
    have hg1 : Gr w w1 := by
      refine Below.grown (Below.alloc (Below.refl _ w) (Nat.le_refl _) _) hgrow (by simp) ?_
      intro k hk; simp [Value.ownBlock] at hk; omega
    obtain ⟨A', c', g', rfl, h1, h0, h2, h3, h4⟩ := own_rowG (by simpa using hown)
    have HR := Lib.hid (And.intro h1 (And.intro h0 (And.intro h2 (And.intro h3 h4))))
    clear hown hgrow hnil' h0 h1 h2 h3 h4
    go_wp2_with fail
    go_ret
    exact ⟨A', c', g', rfl, HR.out.1, HR.out.2.1, HR.out.2.2.1, HR.out.2.2.2.1, HR.out.2.2.2.2, hg1⟩

/-- The ledgers when the outer i on each side have been exchanged. -/
def revD (D : Nat → Ba.Ledger) (n i : Nat) (j : Nat) : Ba.Ledger := if j < i ∨ n - 1 - i < j then D (n - 1 - j) else D j

set_option maxRecDepth 100000 in
set_option maxHeartbeats 4000000 in
theorem reverse_any (A : Option Addr) (n c g : Nat) (D : Nat → Ba.Ledger) (w : World) (hA : 0 < n → A = some ⟨g, 0, none⟩) (hn : n ≤ 1000) (hR : RowG w g n D) : Calls Try.prog 24 #[.slice A n c] w fun e w' => e = .returned (.tuple #[]) ∧ RowG w' g n (fun j => D (n - 1 - j)) ∧ GrX g w w' := by
  have HA := Lib.hid hA; have HR0 := Lib.hid hR
  clear hA hR
  go_enter Try.func24, Try.ntmps24
  go_wp2_with fail
  go_loopw [2, 3] (fun x y wr => ∃ i : Nat, 2 * i ≤ n + 1 ∧ x = .int .i64 (i : Int) ∧ y = .int .i64 ((n : Int) - 1 - (i : Int)) ∧ Hid (RowG wr g n (revD D n i)) ∧ GrX g w wr) (fun x _ _ => n + 1 - (intOf x).toNat)
  case atStart => exact ⟨0, by omega, rfl, by simp, Lib.hid (fun j hj => by
    have : revD D n 0 j = D j := by unfold revD; rw [if_neg (by omega)]
    rw [this]; exact HR0.out j hj), GrX.refl _ _⟩
  case round =>
    clear HR0
    obtain ⟨i, hi, rfl, rfl, HR, hg⟩ := hrel
    by_cases hlt : 2 * i + 1 < n
    · obtain ⟨j, hj⟩ : ∃ j : Nat, n = i + j + 1 := ⟨n - 1 - i, by omega⟩
      have hij : i < j := by omega
      rw [show (n : Int) - 1 - (i : Int) = (j : Int) by omega]
      obtain rfl := HA.out (by omega)
      have ei : revD D n i i = D i := by unfold revD; rw [if_neg (by omega)]
      have ej : revD D n i j = D j := by unfold revD; rw [if_neg (by omega)]
      obtain ⟨⟨u0, f0⟩, ⟨u1, f1⟩, ⟨u2, f2⟩⟩ := HR.out i (by omega)
      obtain ⟨⟨v0, h0⟩, ⟨v1, h1⟩, ⟨v2, h2⟩⟩ := HR.out j (by omega)
      rw [ei] at u0 u1 u2
      rw [ej] at v0 v1 v2
      have HRn := Lib.hid (show RowG (set3 (set3 wr g i (D j)) g j (D i)) g n (revD D n (i + 1)) from RowG.set (D := fun k => if k = i then D j else revD D n i k) (RowG.set HR.out (if_pos rfl) (fun k _ hk => if_neg hk)) (by
        unfold revD; rw [if_pos (by omega)]; congr 1; omega) (fun k hk hkj => by
        by_cases q : k = i
        · subst q; rw [if_pos rfl]; unfold revD; rw [if_pos (by omega)]; congr 1; omega
        · rw [if_neg q]; unfold revD
          by_cases q2 : k < i ∨ n - 1 - i < k
          · rw [if_pos q2, if_pos (by omega)]
          · rw [if_neg q2, if_neg (by omega)]))
      have hgn := grx_set3 (grx_set3 hg i (D j)) j (D i)
      unfold set3 at HRn hgn
      have ib0 : (0 : Int) ≤ (i : Int) := by omega
      have ib1 : (i : Int) < (n : Int) := by omega
      have ib2 : (0 : Int) ≤ (j : Int) := by omega
      have ib3 : (j : Int) < (n : Int) := by omega
      have td : decide ((i : Int) < (j : Int)) = true := decide_eq_true (by omega)
      have nn1 : i * 3 ≠ j * 3 := by omega
      have HJ := Lib.hid hj
      clear HR ei ej hg hj
      generalize D i = di at *
      generalize D j = dj at *
      go_wp2_with fail
      go_region
      go_wp2_with fail
      go_roundw
      case rel => exact ⟨i + 1, by omega, by go_num, by (have := HJ.out; congr 1; omega), Lib.hid (HRn.out.gr (Gr.drew (Gr.refl _))), GrX.drew hgn⟩
      case measure => simp [intOf]; omega
    · have td : decide ((i : Int) < (n : Int) - 1 - (i : Int)) = false := decide_eq_false (by omega)
      have HRe := Lib.hid (show RowG wr g n (fun j => D (n - 1 - j)) from fun j hj => by
        have := HR.out j hj
        have e : revD D n i j = D (n - 1 - j) := by
          unfold revD
          by_cases q : j < i ∨ n - 1 - i < j
          · rw [if_pos q]
          · rw [if_neg q]; congr 1; omega
        rw [e] at this; exact this)
      clear HR
      go_wp2_with fail
      go_end0
      exact ⟨rfl, HRe.out, hg⟩

end Go.Proofs.Ythkmgnaeponfcaa
