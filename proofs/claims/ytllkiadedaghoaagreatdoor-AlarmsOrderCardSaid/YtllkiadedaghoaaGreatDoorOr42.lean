/-
  Alarms: the reference's SameInts, Same, less, Before. (Printed by mkamg.py.)
-/
import Derived.Test.YtllkiadedaghoaaGreatDoorOr25
import Derived.Test.YtllkiadedaghoaaGreatDoorOr41

set_option linter.unusedVariables false
set_option linter.unusedSimpArgs false
namespace Go.Proofs.YtllkiadedaghoaaGreatDoor
open Go.RowKit Go.Sort Go.Shelf
attribute [local go_sem ↓] Go.wp_at_zero Go.wp_at_succ
namespace Al
/-- Alarms that can be read. -/
structure SlA.Rd (w : World) (s : SlA) : Prop where
  hA : 0 < s.n → s.A = some ⟨s.b, s.o, none⟩
  hc : s.n ≤ s.c
  hb : s.c ≤ 9223372036854775807
  hD : ∀ i, i < s.n → (s.D i).Cells w s.b (s.o + i * 4) ∧ (s.D i).At w
theorem SlA.At.rd {w : World} {s : SlA} (h : s.At w) : s.Rd w := ⟨h.hA, h.hc, h.hb, fun i hi => ⟨(h.hD i hi).1, (h.hD i hi).2.at'⟩⟩
theorem SlA.Rd.gr {w w1 : World} {s : SlA} (h : s.Rd w) (hg : Gr w w1) : s.Rd w1 := ⟨h.hA, h.hc, h.hb, fun i hi => ⟨(h.hD i hi).1.gr hg, (h.hD i hi).2.gr hg⟩⟩
def eqC (a b : C) : Bool := (a.kd == b.kd) && (Ba.eqS a.nd b.nd && ((a.tm == b.tm) && decide (a.bc = b.bc)))
theorem eqC_iff {a b : C} : eqC a b = true ↔ a = b := by
  unfold eqC
  simp only [Bool.and_eq_true, beq_iff_eq, decide_eq_true_eq, eqS_iff']
  constructor
  · rintro ⟨h1, h2, h3, h4⟩
    cases a; cases b; simp only at *; subst h1; subst h2; subst h3; subst h4; rfl
  · rintro rfl; exact ⟨rfl, rfl, rfl, rfl⟩
/-- Are lists of contents equal? -/
def samB : List C → List C → Bool
  | [], [] => true
  | a :: l, b :: k => eqC a b && samB l k
  | _, _ => false
theorem samB_iff : ∀ {l k : List C}, samB l k = true ↔ l = k
  | [], [] => ⟨fun _ => rfl, fun _ => rfl⟩
  | [], _ :: _ => ⟨fun h => (by cases h), fun h => (by cases h)⟩
  | _ :: _, [] => ⟨fun h => (by cases h), fun h => (by cases h)⟩
  | a :: l, b :: k => by
    rw [samB, Bool.and_eq_true, eqC_iff, samB_iff]
    constructor
    · rintro ⟨rfl, rfl⟩; rfl
    · rintro ⟨⟩; exact ⟨rfl, rfl⟩
theorem samB_len {l k : List C} (h : l.length ≠ k.length) : samB l k = false := by
  cases e : samB l k with
  | false => rfl
  | true => exact absurd (congrArg List.length (samB_iff.1 e)) h
/-- Lists of one length differ where their members do. -/
theorem samB_stop {l k : List C} (i : Nat) (hi : i < l.length) (hk : i < k.length) (h : eqC l[i] k[i] = false) : samB l k = false := by
  cases e : samB l k with
  | false => rfl
  | true =>
    have e' := samB_iff.1 e
    subst e'
    rw [eqC_iff.2 rfl] at h; cases h
theorem samB_all {l k : List C} (hl : l.length = k.length) (h : ∀ i (hi : i < l.length) (hk : i < k.length), eqC l[i] k[i] = true) : samB l k = true :=
  samB_iff.2 (List.ext_getElem hl fun i h1 h2 => eqC_iff.1 (h i h1 h2))
theorem con_get (s : SlA) (i : Nat) (h : i < s.con.length) : s.con[i] = (s.D i).con := by simp [SlA.con]
/-- An alarm comes before another one. -/
def bfA (a b : C) : Bool := decide (ccmp a b < 0)
theorem bfA_tm {a b : C} (h : a.tm ≠ b.tm) : bfA a b = decide (a.tm < b.tm) := by
  unfold bfA ccmp thn
  have : Lib.compareInt a.tm b.tm ≠ 0 := fun e => h (cmp_zero.1 e)
  simp only [if_neg this, cmp_lt]
theorem bfA_nd {a b : C} (h : a.tm = b.tm) (h2 : a.nd ≠ b.nd) : bfA a b = Op.bytesLess a.nd.toList b.nd.toList := by
  rw [bytes_lt]
  unfold bfA ccmp thn
  have e1 : Lib.compareInt a.tm b.tm = 0 := cmp_zero.2 h
  have e2 : cmpS a.nd b.nd ≠ 0 := fun e => h2 (Gd.str.zero _ _ e)
  simp only [if_pos e1, if_neg e2]
theorem bfA_kd {a b : C} (h : a.tm = b.tm) (h2 : a.nd = b.nd) (h3 : a.kd ≠ b.kd) : bfA a b = decide (a.kd < b.kd) := by
  unfold bfA ccmp thn
  have e1 : Lib.compareInt a.tm b.tm = 0 := cmp_zero.2 h
  have e2 : cmpS a.nd b.nd = 0 := by rw [h2]; exact Gd.str.self _
  have e3 : Lib.compareInt a.kd b.kd ≠ 0 := fun e => h3 (cmp_zero.1 e)
  simp only [if_pos e1, if_pos e2, if_neg e3, cmp_lt]
theorem bfA_bc {a b : C} (h : a.tm = b.tm) (h2 : a.nd = b.nd) (h3 : a.kd = b.kd) : bfA a b = decide (cmpL a.bc b.bc < 0) := by
  unfold bfA ccmp thn
  have e1 : Lib.compareInt a.tm b.tm = 0 := cmp_zero.2 h
  have e2 : cmpS a.nd b.nd = 0 := by rw [h2]; exact Gd.str.self _
  have e3 : Lib.compareInt a.kd b.kd = 0 := cmp_zero.2 h3
  simp only [if_pos e1, if_pos e2, if_pos e3]
end Al
set_option maxRecDepth 100000 in
set_option maxHeartbeats 4000000 in
theorem rsame_ints (A A2 : Option Addr) (n c m c2 b b2 o o2 : Nat) (X Y : Nat → Int) (w : World) (hn : n ≤ 9223372036854775807) (hm : m ≤ 9223372036854775807) (hA : 0 < n → A = some ⟨b, o, none⟩) (hX : ∀ i, i < n → w.cell? ⟨b, o + i, none⟩ = some (.int .i64 (X i))) (hA2 : 0 < m → A2 = some ⟨b2, o2, none⟩) (hY : ∀ i, i < m → w.cell? ⟨b2, o2 + i, none⟩ = some (.int .i64 (Y i))) :
    Calls Tryz.prog 49 #[.slice A n c, .slice A2 m c2] w fun e w' => e = .returned (.bool (decide (Al.lst X n = Al.lst Y m))) ∧ Gr w w' := by
  by_cases hnm : n = m
  · subst hnm
    have HA := Lib.hid hA; have HA2 := Lib.hid hA2; have HX := Lib.hid hX; have HY := Lib.hid hY
    have HE := Lib.hid (fun (h : ∀ i, i < n → X i = Y i) => show decide (Al.lst X n = Al.lst Y n) = true from by
      rw [decide_eq_true_eq]; unfold Al.lst
      exact List.map_congr_left fun i hi => h i (List.mem_range.1 hi))
    have HS := Lib.hid (fun i (hi : i < n) (h : X i ≠ Y i) => show decide (Al.lst X n = Al.lst Y n) = false from by
      rw [decide_eq_false_iff_not]
      intro e
      have := congrArg (fun l : List Int => l[i]?) e
      simp [Al.lst, hi] at this
      exact h this)
    clear hA hA2 hX hY
    generalize decide (Al.lst X n = Al.lst Y n) = r at *
    go_enter Tryz.func49, Tryz.ntmps49
    go_wp2_with fail
    go_loopw [5] (fun x wr => ∃ i : Nat, i ≤ n ∧ x = .int .i64 (i : Int) ∧ Hid (∀ j, j < i → X j = Y j) ∧ Gr w wr) (fun x _ => n - (intOf x).toNat)
    case atStart => exact ⟨0, Nat.zero_le _, rfl, Lib.hid (fun j hj => absurd hj (Nat.not_lt_zero _)), Gr.refl _⟩
    case round =>
      obtain ⟨i, hi, rfl, HQ, hg⟩ := hrel
      by_cases hlt : i < n
      · obtain rfl := HA.out (by omega)
        obtain rfl := HA2.out (by omega)
        have c0 := Gr.at hg (HX.out i hlt); have c1 := Gr.at hg (HY.out i hlt)
        have ib0 : (0 : Int) ≤ (i : Int) := by omega
        have ib1 : (i : Int) < (n : Int) := by omega
        by_cases hq : X i = Y i
        · have HQ2 := Lib.hid (fun j (hj : j < i + 1) => show X j = Y j from by
            by_cases e : j = i
            · rw [e]; exact hq
            · exact HQ.out j (by omega))
          rw [hq] at c0
          have gw9 := Lib.hid (fun k => hg.drewN k)
          clear HX HY HE HS HQ hq HA HA2 hg
          generalize Y i = y at *
          go_wp2_with fail
          go_quiet (fail)
          go_wp2_with fail
          go_roundw
          case rel => exact ⟨i + 1, by omega, by go_num, HQ2, gw9.out _⟩
          case measure => simp [intOf]; omega
        · have HR := Lib.hid (HS.out i hlt hq)
          have hq2 : (X i == Y i) = false := beq_eq_false_iff_ne.2 hq
          have gw9 := Lib.hid (fun k => hg.drewN k)
          clear HX HY HE HS HQ hq HA HA2 hg
          generalize X i = x at *; generalize Y i = y at *
          go_wp2_with fail
          go_quiet (fail)
          go_wp2_with fail
          go_ret
          exact ⟨ret_bool HR.out.symm, gw9.out _⟩
      · obtain rfl : n = i := by omega
        have HR := Lib.hid (HE.out HQ.out)
        clear HX HY HE HS HQ HA HA2
        go_wp2_with fail
        go_ret
        exact ⟨ret_bool HR.out.symm, hg⟩
  · have e : decide (Al.lst X n = Al.lst Y m) = false := by
      rw [decide_eq_false_iff_not]
      intro q
      have := congrArg List.length q
      rw [Al.lst_len, Al.lst_len] at this
      exact hnm this
    rw [e]
    have hq2 : ((n : Int) == (m : Int)) = false := beq_eq_false_iff_ne.2 (by omega)
    have hq3 : (n == m) = false := beq_eq_false_iff_ne.2 hnm
    clear hA hX hA2 hY e
    go_enter Tryz.func49, Tryz.ntmps49
    go_wp2_with fail
    go_ret
    exact ⟨rfl, Gr.refl _⟩
set_option maxRecDepth 100000 in
set_option maxHeartbeats 4000000 in
theorem rless_any (A A2 : Option Addr) (n c m c2 b b2 o o2 : Nat) (X Y : Nat → Int) (w : World) (hn : n ≤ 9223372036854775807) (hm : m ≤ 9223372036854775807) (hA : 0 < n → A = some ⟨b, o, none⟩) (hX : ∀ i, i < n → w.cell? ⟨b, o + i, none⟩ = some (.int .i64 (X i))) (hA2 : 0 < m → A2 = some ⟨b2, o2, none⟩) (hY : ∀ i, i < m → w.cell? ⟨b2, o2 + i, none⟩ = some (.int .i64 (Y i))) :
    Calls Tryz.prog 50 #[.slice A n c, .slice A2 m c2] w fun e w' => e = .returned (.bool (decide (Al.cmpL (Al.lst X n) (Al.lst Y m) < 0))) ∧ Gr w w' := by
  have HA := Lib.hid hA; have HA2 := Lib.hid hA2; have HX := Lib.hid hX; have HY := Lib.hid hY
  have HR := Lib.hid (show decide (Al.cmpL (Al.lst X n) (Al.lst Y m) < 0) = decide (Al.cmpL ((Al.lst X n).drop 0) ((Al.lst Y m).drop 0) < 0) from rfl)
  clear hA hA2 hX hY
  generalize decide (Al.cmpL (Al.lst X n) (Al.lst Y m) < 0) = r at *
  go_enter Tryz.func50, Tryz.ntmps50
  go_wp2_with fail
  go_loopw [5] (fun x wr => ∃ i : Nat, i ≤ n ∧ i ≤ m ∧ x = .int .i64 (i : Int) ∧ Hid (r = decide (Al.cmpL ((Al.lst X n).drop i) ((Al.lst Y m).drop i) < 0)) ∧ Gr w wr) (fun x _ => n - (intOf x).toNat)
  case atStart => exact ⟨0, Nat.zero_le _, Nat.zero_le _, rfl, HR, Gr.refl _⟩
  case round =>
    clear HR
    obtain ⟨i, hi, hi2, rfl, HQ, hg⟩ := hrel
    by_cases hlt : i < n
    · obtain rfl := HA.out (by omega)
      have ib0 : (0 : Int) ≤ (i : Int) := by omega
      have ib1 : (i : Int) < (n : Int) := by omega
      have jb1 : decide ((i : Int) < (n : Int)) = true := decide_eq_true ib1
      have jb1' : decide (i < n) = true := decide_eq_true hlt
      have c0 := Gr.at hg (HX.out i hlt)
      by_cases hlm : i < m
      · obtain rfl := HA2.out (by omega)
        have ib2 : (i : Int) < (m : Int) := by omega
        have jb2 : decide ((i : Int) < (m : Int)) = true := decide_eq_true ib2
        have jb2' : decide (i < m) = true := decide_eq_true hlm
        have c1 := Gr.at hg (HY.out i hlm)
        have hq := HQ.out
        rw [Al.lst_drop hlt, Al.lst_drop hlm, Al.cmpL] at hq
        have gw9 := Lib.hid (fun k => hg.drewN k)
        by_cases hz : X i = Y i
        · rw [if_pos (cmp_zero.2 hz)] at hq
          have HQ2 := Lib.hid hq
          rw [hz] at c0
          clear HX HY HQ hq hz HA HA2 hg
          generalize Y i = y at *
          go_wp2_with fail
          go_quiet (fail)
          go_wp2_with fail
          go_roundw
          case rel => exact ⟨i + 1, by omega, by omega, by go_num, HQ2, gw9.out _⟩
          case measure => simp [intOf]; omega
        · rw [if_neg (fun e => hz (cmp_zero.1 e))] at hq
          have HQ2 := Lib.hid (show r = decide (X i < Y i) from by rw [hq, Bool.eq_iff_iff, decide_eq_true_eq, decide_eq_true_eq, Al.cmp_lt])
          have hb : (X i == Y i) = false := beq_eq_false_iff_ne.2 hz
          clear HX HY HQ hq hz HA HA2 hg
          generalize X i = x at *; generalize Y i = y at *
          go_wp2_with fail
          go_quiet (fail)
          go_wp2_with fail
          go_quiet (fail)
          go_wp2_with fail
          go_ret
          exact ⟨ret_bool HQ2.out.symm, (gw9.out _).drewN _⟩
      · obtain rfl : m = i := by omega
        have jb2 : decide ((m : Int) < (m : Int)) = false := decide_eq_false (by omega)
        have jb2' : decide (m < m) = false := decide_eq_false (by omega)
        have hq := HQ.out
        rw [Al.lst_drop hlt, Al.lst_end, Al.cmpL] at hq
        have HQ2 := Lib.hid hq
        clear HX HY HQ hq HA HA2
        generalize X m = x at *
        go_wp2_with fail
        all_goals (
          go_ret
          exact ⟨ret_bool (by rw [HQ2.out]; first | rfl | (simp; omega)), hg⟩)
    · obtain rfl : n = i := by omega
      have jb1 : decide ((n : Int) < (n : Int)) = false := decide_eq_false (by omega)
      have jb1' : decide (n < n) = false := decide_eq_false (by omega)
      by_cases hlm : n < m
      · have hq := HQ.out
        rw [Al.lst_end, Al.lst_drop hlm, Al.cmpL] at hq
        have HQ2 := Lib.hid hq
        have ib2 : (n : Int) < (m : Int) := by omega
        clear HX HY HQ hq HA HA2
        go_wp2_with fail
        all_goals (
          go_ret
          exact ⟨ret_bool (by rw [HQ2.out]; first | rfl | (simp; omega)), hg⟩)
      · obtain rfl : n = m := by omega
        have hq := HQ.out
        rw [Al.lst_end, Al.lst_end, Al.cmpL] at hq
        have HQ2 := Lib.hid hq
        clear HX HY HQ hq HA HA2
        go_wp2_with fail
        all_goals (
          go_ret
          exact ⟨ret_bool (by rw [HQ2.out]; first | rfl | (simp; omega)), hg⟩)
set_option maxRecDepth 100000 in
set_option maxHeartbeats 4000000 in
theorem rbefA_any (a b : Al.A) (w : World) (ha : a.At w) (hb : b.At w) : Calls Tryz.prog 19 #[.agg a.enc.toArray, .agg b.enc.toArray] w fun e w' => e = .returned (.bool (Al.bfA a.con b.con)) ∧ Gr w w' := by
  by_cases h1 : a.tm = b.tm
  · by_cases h2 : a.nd = b.nd
    · by_cases h3 : a.kd = b.kd
      · rw [Al.bfA_bc (show a.con.tm = b.con.tm from h1) h2 h3]
        have HL := Lib.hid (fun W (hW : Gr w W) => rless_any a.p b.p a.n a.c b.n b.c a.b b.b a.o b.o a.X b.X W ha.hn hb.hn ha.hp (ha.gr hW).hX hb.hp (hb.gr hW).hX)
        change Calls _ _ _ _ (fun e w' => e = .returned (.bool (decide (Al.cmpL (Al.lst a.X a.n) (Al.lst b.X b.n) < 0))) ∧ _)
        generalize decide (Al.cmpL (Al.lst a.X a.n) (Al.lst b.X b.n) < 0) = r at *
        unfold Al.A.enc
        cases a with | mk ak an at_ ap ab ao az ac aX => cases b with | mk bk bn bt bp bb bo bz bc bX =>
        simp only [] at *
        subst h1
        subst h2
        subst h3
        clear ha hb
        go_enter Tryz.func19, Tryz.ntmps19
        go_wp2_with fail
        refine (HL.out _ gr_auto).mono ?_
        rintro e w1 ⟨rfl, hb1⟩
        go_wp2_with fail
        go_ret
        exact ⟨rfl, gr_auto⟩
      · rw [Al.bfA_kd (show a.con.tm = b.con.tm from h1) h2 h3]
        unfold Al.A.con
        unfold Al.A.enc
        cases a with | mk ak an at_ ap ab ao az ac aX => cases b with | mk bk bn bt bp bb bo bz bc bX =>
        simp only [] at *
        subst h1
        subst h2
        have h9 : (ak == bk) = false := beq_eq_false_iff_ne.2 h3
        clear ha hb
        go_enter Tryz.func19, Tryz.ntmps19
        go_wp2_with fail
        all_goals (
          go_ret
          exact ⟨ret_bool (by first | rfl | (simp; omega)), gr_auto⟩)
    · rw [Al.bfA_nd (show a.con.tm = b.con.tm from h1) h2]
      unfold Al.A.con
      unfold Al.A.enc
      cases a with | mk ak an at_ ap ab ao az ac aX => cases b with | mk bk bn bt bp bb bo bz bc bX =>
      simp only [] at *
      subst h1
      have h9 : (an.toList == bn.toList) = false := beq_eq_false_iff_ne.2 fun e => h2 (Al.tl_inj e)
      clear ha hb
      go_enter Tryz.func19, Tryz.ntmps19
      go_wp2_with fail
      all_goals (
        go_ret
        exact ⟨ret_bool (by first | rfl | (simp; omega)), gr_auto⟩)
  · rw [Al.bfA_tm (show a.con.tm ≠ b.con.tm from h1)]
    unfold Al.A.con
    unfold Al.A.enc
    cases a with | mk ak an at_ ap ab ao az ac aX => cases b with | mk bk bn bt bp bb bo bz bc bX =>
    simp only [] at *
    have h9 : (at_ == bt) = false := beq_eq_false_iff_ne.2 h1
    clear ha hb
    go_enter Tryz.func19, Tryz.ntmps19
    go_wp2_with fail
    all_goals (
      go_ret
      exact ⟨ret_bool (by first | rfl | (simp; omega)), gr_auto⟩)
end Go.Proofs.YtllkiadedaghoaaGreatDoor
