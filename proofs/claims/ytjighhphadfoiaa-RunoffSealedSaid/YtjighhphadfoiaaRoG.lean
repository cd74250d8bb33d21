/-
  Runoff: hydrograph.within and Valid; slices.Clone of ints and of classes. (Printed by mkg.py.)
-/
import Derived.Test.YtjighhphadfoiaaRoF
import Derived.Test.YtjighhphadfoiaaMade
import Derived.ChangeAlike
set_option linter.unusedVariables false
set_option linter.unusedSimpArgs false
namespace Go.Proofs.Ytjighhphadfoiaa
open Go.RowKit
attribute [local go_sem ↓] Go.wp_at_zero Go.wp_at_succ
namespace Ba
/-- All numbers are from 0 to m. -/
def wiB (s : SlI) (m : Int) : Bool := allB (fun i => bet (s.X i) 0 m) s.n
/-- Is a unit hydrograph valid? -/
def uniB (s : SlI) : Bool := decide ((1 : Int) ≤ (s.n : Int)) && (decide ((s.n : Int) ≤ 1000) && (wiB s 1073741824 && (s.X (s.n - 1) != 0)))
theorem bet_not0 (x m : Int) : (!bet x 0 m) = (decide (x < 0) || decide (m < x)) := by
  unfold bet
  rw [Bool.eq_iff_iff]
  simp only [Bool.not_eq_true', Bool.and_eq_false_iff, decide_eq_false_iff_not, Bool.or_eq_true, decide_eq_true_eq]
  omega
end Ba

set_option maxRecDepth 100000 in
set_option maxHeartbeats 4000000 in
theorem hwithinf_any (x m : Int) (B : Nat) (w : World) (hc : w.cell? ⟨B, 0, none⟩ = some (.int .i64 m)) : Calls Try.prog 107 #[.int .i64 x, .pointer (some ⟨B, 0, none⟩)] w fun e w' => e = .returned (.bool (!Ba.bet x 0 m)) ∧ Gr w w' := by
  rw [Ba.bet_not0]
  cases t0 : decide (x < 0)
  · cases t1 : decide (m < x)
    all_goals
      go_enter Try.func107, Try.ntmps107
      go_wp2_with fail
      go_ret
      exact ⟨rfl, Gr.refl _⟩
  · go_enter Try.func107, Try.ntmps107
    go_wp2_with fail
    go_ret
    exact ⟨rfl, Gr.refl _⟩

set_option maxRecDepth 100000 in
set_option maxHeartbeats 4000000 in
theorem hwithin_any (s : Ba.SlI) (m : Int) (w : World) (h : s.At w) : Calls Try.prog 76 #[.slice s.A s.n s.c, .int .i64 m] w fun e w' => e = .returned (.bool (Ba.wiB s m)) ∧ Gr w w' := by
  have HI := Lib.hid (fun (B : Nat) (W : World) (hg : Gr w W) (hc : W.cell? ⟨B, 0, none⟩ = some (.int .i64 m)) => has_int 107 #[.pointer (some ⟨B, 0, none⟩)] s (fun i => !Ba.bet (s.X i) 0 m) W (h.gr hg) (enter_of Try.func107 (by kernel_rfl) (by kernel_rfl)) fun i hi W' hW => hwithinf_any (s.X i) m B W' (Gr.at hW hc))
  unfold Ba.wiB
  rw [← Ba.any_not]
  clear h
  generalize Ba.any (fun i => !Ba.bet (s.X i) 0 m) s.n = q at *
  generalize s.A = A at *
  generalize s.n = n at *
  generalize s.c = c at *
  go_enter Try.func76, Try.ntmps76
  go_wp2_with fail
  refine (HI.out _ _ gr_auto (by simp [go_sem])).mono ?_
  rintro e w1 ⟨rfl, hb1⟩
  go_wp2
  go_ret
  exact ⟨rfl, gr_auto⟩

set_option maxRecDepth 100000 in
set_option maxHeartbeats 4000000 in
theorem hvalid_any (s : Ba.SlI) (w : World) (h : s.At w) : Calls Try.prog 43 #[.slice s.A s.n s.c] w fun e w' => e = .returned (.bool (Ba.uniB s)) ∧ Gr w w' := by
  have HC := Lib.hid (fun W (hh : Gr w W) => hwithin_any s 1073741824 W (h.gr hh))
  have hm := Nat.le_trans h.hc h.hb
  have HA := Lib.hid h.hA; have HX := Lib.hid h.hX
  clear h
  unfold Ba.uniB
  generalize Ba.wiB s 1073741824 = q at *
  obtain ⟨A, n, c, b, o, X⟩ := s
  simp only at *
  cases t0 : decide ((1 : Int) ≤ (n : Int))
  · clear HC HX
    go_enter Try.func43, Try.ntmps43
    go_wp2_with fail
    go_ret
    exact ⟨rfl, gr_auto⟩
  cases t1 : decide ((n : Int) ≤ 1000)
  · clear HC HX
    go_enter Try.func43, Try.ntmps43
    go_wp2_with fail
    go_ret
    exact ⟨rfl, gr_auto⟩
  have n1 : 1 ≤ n := by simp only [decide_eq_true_eq] at t0; omega
  obtain rfl := HA.out (by omega)
  have a0 := (HX.out (n - 1) (by omega)).1
  have e1 : ((n - 1 : Nat) : Int) = (n : Int) - 1 := by omega
  have ib0 : (0 : Int) ≤ (n : Int) - 1 := by omega
  have ib1 : (n : Int) - 1 < (n : Int) := by omega
  have ib2 : ((n : Int) - 1).toNat = n - 1 := by omega
  clear HX HA
  generalize X (n - 1) = x at *
  cases q
  · go_enter Try.func43, Try.ntmps43
    go_wp2_with fail
    refine (HC.out _ gr_auto).mono ?_
    rintro e w1 ⟨rfl, hb1⟩
    go_wp2_with fail
    go_ret
    exact ⟨rfl, gr_auto⟩
  · cases t3 : (x != 0)
    · go_enter Try.func43, Try.ntmps43
      go_wp2_with fail
      refine (HC.out _ gr_auto).mono ?_
      rintro e w1 ⟨rfl, hb1⟩
      replace a0 := Gr.at hb1 a0
      go_wp2_with fail
      go_ret
      exact ⟨rfl, gr_auto⟩
    · go_enter Try.func43, Try.ntmps43
      go_wp2_with fail
      refine (HC.out _ gr_auto).mono ?_
      rintro e w1 ⟨rfl, hb1⟩
      replace a0 := Gr.at hb1 a0
      go_wp2_with fail
      go_ret
      exact ⟨rfl, gr_auto⟩

/-- The numbers of a row. -/
def flatN (X : Nat → Int) : Nat → List Value
  | 0 => []
  | n + 1 => flatN X n ++ [.int .i64 (X n)]
theorem flatN_len (X : Nat → Int) : ∀ n, (flatN X n).length = n
  | 0 => rfl
  | n + 1 => by rw [flatN, List.length_append, flatN_len X n]; rfl
theorem flatN_get (X : Nat → Int) : ∀ {n j : Nat}, j < n → (flatN X n)[j]? = some (.int .i64 (X j))
  | 0, _, h => by omega
  | n + 1, j, h => by
    rw [flatN]
    have hl := flatN_len X n
    by_cases e : j = n
    · subst e
      rw [List.getElem?_append_right (by omega), hl, Nat.sub_self]; rfl
    · rw [List.getElem?_append_left (by omega)]; exact flatN_get X (by omega)
theorem flatN_one (X : Nat → Int) : ∀ n, ∀ u ∈ flatN X n, u.oneCell' = true
  | 0, u, h => by simp [flatN] at h
  | n + 1, u, h => by
    rw [flatN] at h
    rcases List.mem_append.1 h with h | h
    · exact flatN_one X n u h
    · simp at h; subst h; rfl
theorem flatN_at {w : World} {ad : Addr} {n b o : Nat} {X : Nat → Int} (hA : 0 < n → some ad = some ⟨b, o, none⟩) (hX : ∀ j, j < n → w.cell? ⟨b, o + j, none⟩ = some (.int .i64 (X j))) : ∀ (j : Nat) (u : Value), (flatN X n)[j]? = some u → w.cell? (ad.add j) = some u := by
  intro j u hj
  have hjn : j < n := by
    have := (List.getElem?_eq_some_iff.1 hj).1
    rwa [flatN_len] at this
  have e := hA (by omega)
  cases e
  have ha : (⟨b, o, none⟩ : Addr).add j = ⟨b, o + j, none⟩ := by
    by_cases h0 : j = 0
    · subst h0; simp [Addr.add]
    · simp [Addr.add, h0]
  rw [ha]
  rw [flatN_get X hjn] at hj
  cases hj
  exact hX _ hjn
theorem own_rowN {w : World} {base E n : Nat} {v : Value} {X : Nat → Int} (h : w.ownsRow base E 1 v n (flatN X n)) : ∃ (A : Option Addr) (c g : Nat), v = .slice A n c ∧ (0 < n → A = some ⟨g, 0, none⟩) ∧ base ≤ g ∧ n ≤ c ∧ c ≤ 9223372036854775807 ∧ Row w g n (fun j => .int .i64 (X j)) := by
  have h' := h
  obtain ⟨hl, ⟨rfl, rfl⟩ | ⟨g, cap, cur, rfl, hb, hc, hn, hm, hs, hx⟩⟩ := h
  · exact ⟨none, 0, base, rfl, fun h => absurd h (by omega), Nat.le_refl _, Nat.le_refl _, by omega, fun j hj => absurd hj (by omega)⟩
  · refine ⟨_, cap, g, rfl, fun _ => rfl, hb, hn, by unfold maxLen at hm; exact hm, ?_⟩
    rw [Nat.mul_one] at hx
    intro j hj
    have hcv : cur.toList[j]? = some (.int .i64 (X j)) := by
      have := flatN_get X hj
      rw [← hx, List.getElem?_take_of_lt hj] at this; exact this
    refine ⟨?_, ?_⟩
    · simp only [World.cell?, hc]; simpa using hcv
    · simp only [World.frozen?, hc]; simp
/-- What Clone of ints answers: a row of a call's own. -/
def RetCln (n : Nat) (X : Nat → Int) (w : World) (e : Ending) (w' : World) : Prop := ∃ (A : Option Addr) (c g : Nat), e = .returned (.slice A n c) ∧ (0 < n → A = some ⟨g, 0, none⟩) ∧ w.heap.size ≤ g ∧ n ≤ c ∧ c ≤ 9223372036854775807 ∧ Row w' g n (fun j => .int .i64 (X j)) ∧ Gr w w'

set_option maxRecDepth 100000 in
set_option maxHeartbeats 4000000 in
theorem clonei_any (s : Ba.SlI) (w : World) (h : s.At w) (hn : s.n ≤ 100000) (hnil : s.A = none → s.c = 0) : Calls Try.prog 13 #[.slice s.A s.n s.c] w (RetCln s.n s.X w) := by
  obtain ⟨i0, hi0, hz0, hz1, hz2⟩ := info_parts info_int
  have HI := Lib.hid hi0; have HZ0 := Lib.hid hz0; have HZ1 := Lib.hid hz1; have HZ2 := Lib.hid hz2
  clear hi0 hz0 hz1 hz2
  have HA := Lib.hid h.hA; have HX := Lib.hid (fun i hi => (h.hX i hi).1)
  clear h
  obtain ⟨A, n, c, b, o, X⟩ := s
  simp only at *
  have qe : ∀ (w : World) (a : Option Addr) (n c n' c' : Nat), (binOp .eql 23 (.slice a n c) (.slice none n' c')).run Try.prog w = .ok (.bool a.isNone) w := fun w a n c n' c' => Lib.run_eql_slice_nil w _ _ a n c n' c' Try.underlying23
  cases A with
  | none =>
    obtain rfl : n = 0 := by
      by_cases h0 : 0 < n
      · exact absurd (HA.out h0) (by simp)
      · omega
    go_enter Try.func13, Try.ntmps13
    go_wp2_with fail
    go_ret
    exact ⟨none, 0, w.heap.size, rfl, fun h => absurd h (by omega), Nat.le_refl _, Nat.le_refl _, by omega, fun j hj => absurd hj (by omega), gr_auto⟩
  | some ad =>
    go_enter Try.func13, Try.ntmps13
    go_wp2_with (at_builtin; refine wpList_append_own _ rfl _ _ 23 rfl w.heap.size 3 i0 (.int .i64 0) 1 8 Try.underlying23 HI.out HZ0.out HZ1.out HZ2.out rfl (by decide) _ 0 [] rfl (World.ownsRow_made w #[] 0 (Nat.le_refl _) (Nat.zero_le _) rfl) ad n c (flatN X n) rfl (by rw [flatN_len, Nat.mul_one]) ?c1 ?c2 ?c3 ?c4 ?c5 ?_)
    case c1 => exact flatN_at HA.out (fun j hj => Gr.at (by first | exact Gr.alloc (Gr.refl _) _ | exact gr_auto) (HX.out j hj))
    case c2 => exact flatN_one X n
    case c3 => unfold maxLen; omega
    case c4 => omega
    case c5 => simp
    intro v' w1 hown hgrow hnil'
    have hg1 : Gr w w1 := by
      refine Below.grown (Below.alloc (Below.refl _ w) (Nat.le_refl _) _) hgrow (by simp) ?_
      intro k hk; simp [Value.ownBlock] at hk; omega
    obtain ⟨A', c', g', rfl, h1, h0, h2, h3, h4⟩ := own_rowN (by simpa using hown)
    have HR := Lib.hid (And.intro h1 (And.intro h0 (And.intro h2 (And.intro h3 h4))))
    clear hown hgrow hnil' h0 h1 h2 h3 h4
    go_wp2_with fail
    go_ret
    exact ⟨A', c', g', rfl, HR.out.1, HR.out.2.1, HR.out.2.2.1, HR.out.2.2.2.1, HR.out.2.2.2.2, hg1⟩

end Go.Proofs.Ytjighhphadfoiaa
