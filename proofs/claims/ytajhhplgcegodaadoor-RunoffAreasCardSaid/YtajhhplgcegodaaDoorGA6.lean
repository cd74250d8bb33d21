/-
  Runoff: law 25's sum and few; the reference's Right, Find, and Valid of classes; slices.Clone and slices.Equal of ints. (Printed by mkf.py.)
  Runoff: hydrograph.within and Valid; slices.Clone of ints and of classes. (Printed by mkg.py.)
-/
import Derived.Test.YtajhhplgcegodaaDoorRoE
import Derived.Lib.SliceRun
import Derived.Test.YtajhhplgcegodaaDoorGA2
import Derived.ChangeAlike
set_option linter.unusedVariables false
set_option linter.unusedSimpArgs false
namespace Go.Proofs.YtajhhplgcegodaaDoor
open Go.RowKit
attribute [local go_sem ↓] Go.wp_at_zero Go.wp_at_succ

set_option maxRecDepth 100000 in
set_option maxHeartbeats 4000000 in
theorem lsum_any (s : Ba.SlI) (w : World) (h : s.At w) (hb : ∀ i, i ≤ s.n → Ba.i64 (Ba.sumI s.X i)) : Calls Tryd.prog 49 #[.slice s.A s.n s.c] w fun e w' => e = .returned (.int .i64 (Ba.sumI s.X s.n)) ∧ Gr w w' := by
  have HA := Lib.hid h.hA; have HX := Lib.hid h.hX; have HB := Lib.hid hb
  have hm := Nat.le_trans h.hc h.hb
  clear h hb
  obtain ⟨A, n, c, b, o, X⟩ := s
  simp only at *
  have HR := Lib.hid (fun i => show Ba.sumI X (i + 1) = Ba.sumI X i + X i from rfl)
  have HR0 := Lib.hid (show Ba.sumI X 0 = 0 from rfl)
  go_enter Tryd.func49, Tryd.ntmps49
  go_wp2_with fail
  go_loopw [3, 8] (fun v x wr => ∃ i : Nat, i ≤ n ∧ x = .int .i64 (i : Int) ∧ v = .int .i64 (Ba.sumI X i) ∧ Gr w wr) (fun _ x _ => n - (intOf x).toNat)
  case atStart => exact ⟨0, Nat.zero_le _, rfl, by rw [HR0.out], Gr.refl _⟩
  case round =>
    obtain ⟨i, hi, rfl, rfl, hg⟩ := hrel
    by_cases hlt : i < n
    · obtain rfl := HA.out (by omega)
      have a0 := Gr.at hg (HX.out i hlt).1
      have t1 := HB.out (i + 1) (by omega)
      have ib0 : (0 : Int) ≤ (i : Int) := by omega
      have ib1 : (i : Int) < (n : Int) := by omega
      have T := Lib.hid (HR.out i)
      rw [T.out] at t1
      unfold Ba.i64 at t1
      clear HX HB HR
      generalize Ba.sumI X i = s0 at *
      generalize X i = x at *
      go_wp2_with fail
      go_roundw
      case rel => exact ⟨i + 1, by omega, by go_num, by rw [T.out], gr_auto⟩
      case measure => simp [intOf]; omega
    · obtain rfl : n = i := by omega
      clear HX HB HR
      go_wp2_with fail
      go_ret
      exact ⟨rfl, hg⟩

namespace Ba
/-- Are the sizes small? -/
def fewB (C : SlClass) (a : SlI) (s : Ser) : Bool := decide ((C.n : Int) ≤ 20) && (decide ((a.n : Int) ≤ 30) && (decide ((s.ds.n : Int) ≤ 100) && !any (fun i => decide ((100 : Int) < ((C.D i).nm.size : Int))) C.n))
end Ba

namespace Ba
/-- Are the numbers the same? -/
def eqI (a b : SlI) : Bool := decide (a.n = b.n) && allB (fun i => a.X i == b.X i) a.n
end Ba
set_option maxRecDepth 100000 in
set_option maxHeartbeats 4000000 in
theorem equal_any (a b : Ba.SlI) (w : World) (ha : a.At w) (hb : b.At w) : Calls Tryd.prog 27 #[.slice a.A a.n a.c, .slice b.A b.n b.c] w fun e w' => e = .returned (.bool (Ba.eqI a b)) ∧ Gr w w' := by
  have m1 := Nat.le_trans ha.hc ha.hb; have m2 := Nat.le_trans hb.hc hb.hb
  have HA := Lib.hid ha.hA; have HX := Lib.hid ha.hX; have KA := Lib.hid hb.hA; have KX := Lib.hid hb.hX
  clear ha hb
  unfold Ba.eqI
  obtain ⟨A, n, c, b1, o1, X⟩ := a
  obtain ⟨A2, n2, c2, b2, o2, Y⟩ := b
  simp only at *
  by_cases hn : n = n2
  rotate_left
  · rw [decide_eq_false hn]
    have t0 : ((n : Int) != (n2 : Int)) = true := by rw [bne_iff_ne]; omega
    clear hn
    go_enter Tryd.func27, Tryd.ntmps27
    go_wp2_with fail
    go_ret
    exact ⟨rfl, gr_auto⟩
  subst hn
  rw [decide_eq_true rfl, Bool.true_and]
  go_enter Tryd.func27, Tryd.ntmps27
  go_wp2_with fail
  go_loopw [13] (fun x wr => ∃ i : Nat, i ≤ n ∧ x = .int .i64 (i : Int) ∧ Hid (Ba.allB (fun i => X i == Y i) i = true) ∧ Gr w wr) (fun x _ => n - (intOf x).toNat)
  case atStart => exact ⟨0, Nat.zero_le _, rfl, Lib.hid rfl, Gr.refl _⟩
  case round =>
    obtain ⟨i, hi, rfl, HQ, hg⟩ := hrel
    by_cases hlt : i < n
    · obtain rfl := HA.out (by omega); obtain rfl := KA.out (by omega)
      have a0 := Gr.at hg (HX.out i hlt).1; have a1 := Gr.at hg (KX.out i hlt).1
      have ib0 : (0 : Int) ≤ (i : Int) := by omega
      have ib1 : (i : Int) < (n : Int) := by omega
      cases hq : (X i == Y i)
      · have HZ := Lib.hid (Ba.allB_stop (p := fun i => X i == Y i) hlt hq)
        have hq2 : (X i != Y i) = true := by simp only [bne, hq, Bool.not_false]
        clear HX KX HQ
        generalize X i = x at *
        generalize Y i = y at *
        go_wp2_with fail
        go_quiet (fail)
        go_wp2_with fail
        go_ret
        exact ⟨by rw [HZ.out]; rfl, gr_auto⟩
      · have HZ := Lib.hid (Ba.allB_go (p := fun i => X i == Y i) HQ.out hq)
        have hq2 : (X i != Y i) = false := by simp only [bne, hq, Bool.not_true]
        clear HX KX HQ
        generalize X i = x at *
        generalize Y i = y at *
        go_wp2_with fail
        go_quiet (fail)
        go_wp2_with fail
        go_roundw
        case rel => exact ⟨i + 1, by omega, by go_num, HZ, gr_auto⟩
        case measure => simp [intOf]; omega
    · obtain rfl : n = i := by omega
      have HR := Lib.hid HQ.out
      clear HX KX HQ
      go_wp2_with fail
      go_ret
      exact ⟨by rw [HR.out]; rfl, hg⟩

end Go.Proofs.YtajhhplgcegodaaDoor
namespace Go.Proofs.YtajhhplgcegodaaDoor
open Go.RowKit
attribute [local go_sem ↓] Go.wp_at_zero Go.wp_at_succ
namespace Ba
/-- All numbers are from 0 to m. -/
def wiB (s : SlI) (m : Int) : Bool := allB (fun i => bet (s.X i) 0 m) s.n
/-- Is a unit hydrograph valid? -/
def uniB (s : SlI) : Bool := decide ((1 : Int) ≤ (s.n : Int)) && (decide ((s.n : Int) ≤ 1000) && (wiB s 1073741824 && (s.X (s.n - 1) != 0)))
theorem bet_not0 (x m : Int) : (!bet x 0 m) = (decide (x < 0) || decide (m < x)) := by
  unfold bet
  rw [Bool.eq_iff_iff]
  simp only [Bool.not_eq_true', Bool.and_eq_false_iff, decide_eq_false_iff_not, Bool.or_eq_true, decide_eq_true_eq]
  omega
end Ba

set_option maxRecDepth 100000 in
set_option maxHeartbeats 4000000 in
theorem hwithinf_any (x m : Int) (B : Nat) (w : World) (hc : w.cell? ⟨B, 0, none⟩ = some (.int .i64 m)) : Calls Tryd.prog 153 #[.int .i64 x, .pointer (some ⟨B, 0, none⟩)] w fun e w' => e = .returned (.bool (!Ba.bet x 0 m)) ∧ Gr w w' := by
  rw [Ba.bet_not0]
  cases t0 : decide (x < 0)
  · cases t1 : decide (m < x)
    all_goals
      go_enter Tryd.func153, Tryd.ntmps153
      go_wp2_with fail
      go_ret
      exact ⟨rfl, Gr.refl _⟩
  · go_enter Tryd.func153, Tryd.ntmps153
    go_wp2_with fail
    go_ret
    exact ⟨rfl, Gr.refl _⟩

set_option maxRecDepth 100000 in
set_option maxHeartbeats 4000000 in
theorem hwithin_any (s : Ba.SlI) (m : Int) (w : World) (h : s.At w) : Calls Tryd.prog 136 #[.slice s.A s.n s.c, .int .i64 m] w fun e w' => e = .returned (.bool (Ba.wiB s m)) ∧ Gr w w' := by
  have HI := Lib.hid (fun (B : Nat) (W : World) (hg : Gr w W) (hc : W.cell? ⟨B, 0, none⟩ = some (.int .i64 m)) => has_int 153 #[.pointer (some ⟨B, 0, none⟩)] s (fun i => !Ba.bet (s.X i) 0 m) W (h.gr hg) (enter_of Tryd.func153 (by kernel_rfl) (by kernel_rfl)) fun i hi W' hW => hwithinf_any (s.X i) m B W' (Gr.at hW hc))
  unfold Ba.wiB
  rw [← Ba.any_not]
  clear h
  generalize Ba.any (fun i => !Ba.bet (s.X i) 0 m) s.n = q at *
  generalize s.A = A at *
  generalize s.n = n at *
  generalize s.c = c at *
  go_enter Tryd.func136, Tryd.ntmps136
  go_wp2_with fail
  refine (HI.out _ _ gr_auto (by simp [go_sem])).mono ?_
  rintro e w1 ⟨rfl, hb1⟩
  go_wp2
  go_ret
  exact ⟨rfl, gr_auto⟩

set_option maxRecDepth 100000 in
set_option maxHeartbeats 4000000 in
theorem hvalid_any (s : Ba.SlI) (w : World) (h : s.At w) : Calls Tryd.prog 106 #[.slice s.A s.n s.c] w fun e w' => e = .returned (.bool (Ba.uniB s)) ∧ Gr w w' := by
  have HC := Lib.hid (fun W (hh : Gr w W) => hwithin_any s 1073741824 W (h.gr hh))
  have hm := Nat.le_trans h.hc h.hb
  have HA := Lib.hid h.hA; have HX := Lib.hid h.hX
  clear h
  unfold Ba.uniB
  generalize Ba.wiB s 1073741824 = q at *
  obtain ⟨A, n, c, b, o, X⟩ := s
  simp only at *
  cases t0 : decide ((1 : Int) ≤ (n : Int))
  · clear HC HX
    go_enter Tryd.func106, Tryd.ntmps106
    go_wp2_with fail
    go_ret
    exact ⟨rfl, gr_auto⟩
  cases t1 : decide ((n : Int) ≤ 1000)
  · clear HC HX
    go_enter Tryd.func106, Tryd.ntmps106
    go_wp2_with fail
    go_ret
    exact ⟨rfl, gr_auto⟩
  have n1 : 1 ≤ n := by simp only [decide_eq_true_eq] at t0; omega
  obtain rfl := HA.out (by omega)
  have a0 := (HX.out (n - 1) (by omega)).1
  have e1 : ((n - 1 : Nat) : Int) = (n : Int) - 1 := by omega
  have ib0 : (0 : Int) ≤ (n : Int) - 1 := by omega
  have ib1 : (n : Int) - 1 < (n : Int) := by omega
  have ib2 : ((n : Int) - 1).toNat = n - 1 := by omega
  clear HX HA
  generalize X (n - 1) = x at *
  cases q
  · go_enter Tryd.func106, Tryd.ntmps106
    go_wp2_with fail
    refine (HC.out _ gr_auto).mono ?_
    rintro e w1 ⟨rfl, hb1⟩
    go_wp2_with fail
    go_ret
    exact ⟨rfl, gr_auto⟩
  · cases t3 : (x != 0)
    · go_enter Tryd.func106, Tryd.ntmps106
      go_wp2_with fail
      refine (HC.out _ gr_auto).mono ?_
      rintro e w1 ⟨rfl, hb1⟩
      replace a0 := Gr.at hb1 a0
      go_wp2_with fail
      go_ret
      exact ⟨rfl, gr_auto⟩
    · go_enter Tryd.func106, Tryd.ntmps106
      go_wp2_with fail
      refine (HC.out _ gr_auto).mono ?_
      rintro e w1 ⟨rfl, hb1⟩
      replace a0 := Gr.at hb1 a0
      go_wp2_with fail
      go_ret
      exact ⟨rfl, gr_auto⟩

/-- The numbers of a row. -/
def flatN (X : Nat → Int) : Nat → List Value
  | 0 => []
  | n + 1 => flatN X n ++ [.int .i64 (X n)]
theorem flatN_len (X : Nat → Int) : ∀ n, (flatN X n).length = n
  | 0 => rfl
  | n + 1 => by rw [flatN, List.length_append, flatN_len X n]; rfl
theorem flatN_get (X : Nat → Int) : ∀ {n j : Nat}, j < n → (flatN X n)[j]? = some (.int .i64 (X j))
  | 0, _, h => by omega
  | n + 1, j, h => by
    rw [flatN]
    have hl := flatN_len X n
    by_cases e : j = n
    · subst e
      rw [List.getElem?_append_right (by omega), hl, Nat.sub_self]; rfl
    · rw [List.getElem?_append_left (by omega)]; exact flatN_get X (by omega)
theorem flatN_one (X : Nat → Int) : ∀ n, ∀ u ∈ flatN X n, u.oneCell' = true
  | 0, u, h => by simp [flatN] at h
  | n + 1, u, h => by
    rw [flatN] at h
    rcases List.mem_append.1 h with h | h
    · exact flatN_one X n u h
    · simp at h; subst h; rfl
theorem flatN_at {w : World} {ad : Addr} {n b o : Nat} {X : Nat → Int} (hA : 0 < n → some ad = some ⟨b, o, none⟩) (hX : ∀ j, j < n → w.cell? ⟨b, o + j, none⟩ = some (.int .i64 (X j))) : ∀ (j : Nat) (u : Value), (flatN X n)[j]? = some u → w.cell? (ad.add j) = some u := by
  intro j u hj
  have hjn : j < n := by
    have := (List.getElem?_eq_some_iff.1 hj).1
    rwa [flatN_len] at this
  have e := hA (by omega)
  cases e
  have ha : (⟨b, o, none⟩ : Addr).add j = ⟨b, o + j, none⟩ := by
    by_cases h0 : j = 0
    · subst h0; simp [Addr.add]
    · simp [Addr.add, h0]
  rw [ha]
  rw [flatN_get X hjn] at hj
  cases hj
  exact hX _ hjn
theorem own_rowN {w : World} {base E n : Nat} {v : Value} {X : Nat → Int} (h : w.ownsRow base E 1 v n (flatN X n)) : ∃ (A : Option Addr) (c g : Nat), v = .slice A n c ∧ (0 < n → A = some ⟨g, 0, none⟩) ∧ base ≤ g ∧ n ≤ c ∧ c ≤ 9223372036854775807 ∧ Row w g n (fun j => .int .i64 (X j)) := by
  have h' := h
  obtain ⟨hl, ⟨rfl, rfl⟩ | ⟨g, cap, cur, rfl, hb, hc, hn, hm, hs, hx⟩⟩ := h
  · exact ⟨none, 0, base, rfl, fun h => absurd h (by omega), Nat.le_refl _, Nat.le_refl _, by omega, fun j hj => absurd hj (by omega)⟩
  · refine ⟨_, cap, g, rfl, fun _ => rfl, hb, hn, by unfold maxLen at hm; exact hm, ?_⟩
    rw [Nat.mul_one] at hx
    intro j hj
    have hcv : cur.toList[j]? = some (.int .i64 (X j)) := by
      have := flatN_get X hj
      rw [← hx, List.getElem?_take_of_lt hj] at this; exact this
    refine ⟨?_, ?_⟩
    · simp only [World.cell?, hc]; simpa using hcv
    · simp only [World.frozen?, hc]; simp
/-- What Clone of ints answers: a row of a call's own. -/
def RetCln (n : Nat) (X : Nat → Int) (w : World) (e : Ending) (w' : World) : Prop := ∃ (A : Option Addr) (c g : Nat), e = .returned (.slice A n c) ∧ (0 < n → A = some ⟨g, 0, none⟩) ∧ w.heap.size ≤ g ∧ n ≤ c ∧ c ≤ 9223372036854775807 ∧ Row w' g n (fun j => .int .i64 (X j)) ∧ Gr w w'

end Go.Proofs.YtajhhplgcegodaaDoor
