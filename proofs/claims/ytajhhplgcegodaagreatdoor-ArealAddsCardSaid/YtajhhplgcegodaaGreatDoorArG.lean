/-
  Areal: areal.Reduced. (Printed by mkg.py.)
-/
import Derived.Test.YtajhhplgcegodaaGreatDoorArA
import Derived.Test.YtajhhplgcegodaaGreatDoorArE
import Derived.ChangeAlike
set_option linter.unusedVariables false
set_option linter.unusedSimpArgs false
namespace Go.Proofs.YtajhhplgcegodaaGreatDoor
open Go.RowKit
attribute [local go_sem ↓] Go.wp_at_zero Go.wp_at_succ
theorem info_parts {x : Option TypeInfo} {z : Option Value} {k b : Nat} (h : x.map (fun i => (i.zero, i.size, i.bytes)) = some (z, k, b)) : ∃ i, x = some i ∧ i.zero = z ∧ i.size = k ∧ i.bytes = b := by
  cases x with
  | none => cases h
  | some i => simp only [Option.map_some, Option.some.injEq, Prod.mk.injEq] at h; exact ⟨i, rfl, h.1, h.2.1, h.2.2⟩
/-- The numbers of a row. -/
def flatN (X : Nat → Int) : Nat → List Value
  | 0 => []
  | n + 1 => flatN X n ++ [.int .i64 (X n)]
theorem flatN_len (X : Nat → Int) : ∀ n, (flatN X n).length = n
  | 0 => rfl
  | n + 1 => by rw [flatN, List.length_append, flatN_len X n]; rfl
theorem flatN_get (X : Nat → Int) : ∀ {n j : Nat}, j < n → (flatN X n)[j]? = some (.int .i64 (X j))
  | 0, _, h => by omega
  | n + 1, j, h => by
    rw [flatN]
    have hl := flatN_len X n
    by_cases e : j = n
    · subst e
      rw [List.getElem?_append_right (by omega), hl, Nat.sub_self]; rfl
    · rw [List.getElem?_append_left (by omega)]; exact flatN_get X (by omega)
theorem flatN_one (X : Nat → Int) : ∀ n, ∀ u ∈ flatN X n, u.oneCell' = true
  | 0, u, h => by simp [flatN] at h
  | n + 1, u, h => by
    rw [flatN] at h
    rcases List.mem_append.1 h with h | h
    · exact flatN_one X n u h
    · simp at h; subst h; rfl
theorem flatN_at {w : World} {ad : Addr} {n b o : Nat} {X : Nat → Int} (hA : 0 < n → some ad = some ⟨b, o, none⟩) (hX : ∀ j, j < n → w.cell? ⟨b, o + j, none⟩ = some (.int .i64 (X j))) : ∀ (j : Nat) (u : Value), (flatN X n)[j]? = some u → w.cell? (ad.add j) = some u := by
  intro j u hj
  have hjn : j < n := by
    have := (List.getElem?_eq_some_iff.1 hj).1
    rwa [flatN_len] at this
  have e := hA (by omega)
  cases e
  have ha : (⟨b, o, none⟩ : Addr).add j = ⟨b, o + j, none⟩ := by
    by_cases h0 : j = 0
    · subst h0; simp [Addr.add]
    · simp [Addr.add, h0]
  rw [ha]
  rw [flatN_get X hjn] at hj
  cases hj
  exact hX _ hjn
theorem own_rowN {w : World} {base E n : Nat} {v : Value} {X : Nat → Int} (h : w.ownsRow base E 1 v n (flatN X n)) : ∃ (A : Option Addr) (c g : Nat), v = .slice A n c ∧ (0 < n → A = some ⟨g, 0, none⟩) ∧ base ≤ g ∧ n ≤ c ∧ c ≤ 9223372036854775807 ∧ Row w g n (fun j => .int .i64 (X j)) := by
  have h' := h
  obtain ⟨hl, ⟨rfl, rfl⟩ | ⟨g, cap, cur, rfl, hb, hc, hn, hm, hs, hx⟩⟩ := h
  · exact ⟨none, 0, base, rfl, fun h => absurd h (by omega), Nat.le_refl _, Nat.le_refl _, by omega, fun j hj => absurd hj (by omega)⟩
  · refine ⟨_, cap, g, rfl, fun _ => rfl, hb, hn, by unfold maxLen at hm; exact hm, ?_⟩
    rw [Nat.mul_one] at hx
    intro j hj
    have hcv : cur.toList[j]? = some (.int .i64 (X j)) := by
      have := flatN_get X hj
      rw [← hx, List.getElem?_take_of_lt hj] at this; exact this
    refine ⟨?_, ?_⟩
    · simp only [World.cell?, hc]; simpa using hcv
    · simp only [World.frozen?, hc]; simp
/-- What Clone of ints answers: a row of a call's own. -/
def RetCln (n : Nat) (X : Nat → Int) (w : World) (e : Ending) (w' : World) : Prop := ∃ (A : Option Addr) (c g : Nat), e = .returned (.slice A n c) ∧ (0 < n → A = some ⟨g, 0, none⟩) ∧ w.heap.size ≤ g ∧ n ≤ c ∧ c ≤ 9223372036854775807 ∧ Row w' g n (fun j => .int .i64 (X j)) ∧ Gr w w'
theorem info_intz : (Tryz.prog.info? 3).map (fun i => (i.zero, i.size, i.bytes)) = some (some (.int .i64 0), 1, 8) := by kernel_rfl
set_option maxRecDepth 100000 in
set_option maxHeartbeats 4000000 in
theorem clonez_any (s : Ba.SlI) (w : World) (h : s.At w) (hn : s.n ≤ 100000) : Calls Tryz.prog 73 #[.slice s.A s.n s.c] w (RetCln s.n s.X w) := by
  obtain ⟨i0, hi0, hz0, hz1, hz2⟩ := info_parts info_intz
  have HI := Lib.hid hi0; have HZ0 := Lib.hid hz0; have HZ1 := Lib.hid hz1; have HZ2 := Lib.hid hz2
  clear hi0 hz0 hz1 hz2
  have HA := Lib.hid h.hA; have HX := Lib.hid (fun i hi => (h.hX i hi).1)
  clear h
  obtain ⟨A, n, c, b, o, X⟩ := s
  simp only at *
  have qe : ∀ (w : World) (a : Option Addr) (n c n' c' : Nat), (binOp .eql 26 (.slice a n c) (.slice none n' c')).run Tryz.prog w = .ok (.bool a.isNone) w := fun w a n c n' c' => Lib.run_eql_slice_nil w _ _ a n c n' c' Tryz.underlying26
  cases A with
  | none =>
    obtain rfl : n = 0 := by
      by_cases h0 : 0 < n
      · exact absurd (HA.out h0) (by simp)
      · omega
    go_enter Tryz.func73, Tryz.ntmps73
    go_wp2_with fail
    go_ret
    exact ⟨none, 0, w.heap.size, rfl, fun h => absurd h (by omega), Nat.le_refl _, Nat.le_refl _, by omega, fun j hj => absurd hj (by omega), gr_auto⟩
  | some ad =>
    go_enter Tryz.func73, Tryz.ntmps73
    go_wp2_with (at_builtin; refine wpList_append_own _ rfl _ _ 26 rfl w.heap.size 3 i0 (.int .i64 0) 1 8 Tryz.underlying26 HI.out HZ0.out HZ1.out HZ2.out rfl (by decide) _ 0 [] rfl (World.ownsRow_made w #[] 0 (Nat.le_refl _) (Nat.zero_le _) rfl) ad n c (flatN X n) rfl (by rw [flatN_len, Nat.mul_one]) ?c1 ?c2 ?c3 ?c4 ?c5 ?_)
    case c1 => exact flatN_at HA.out (fun j hj => Gr.at (by first | exact Gr.alloc (Gr.refl _) _ | exact gr_auto) (HX.out j hj))
    case c2 => exact flatN_one X n
    case c3 => unfold maxLen; omega
    case c4 => omega
    case c5 => simp
    intro v' w1 hown hgrow hnil'
    have hg1 : Gr w w1 := by
      refine Below.grown (Below.alloc (Below.refl _ w) (Nat.le_refl _) _) hgrow (by simp) ?_
      intro k hk; simp [Value.ownBlock] at hk; omega
    obtain ⟨A', c', g', rfl, h1, h0, h2, h3, h4⟩ := own_rowN (by simpa using hown)
    have HR := Lib.hid (And.intro h1 (And.intro h0 (And.intro h2 (And.intro h3 h4))))
    clear hown hgrow hnil' h0 h1 h2 h3 h4
    go_wp2_with fail
    go_ret
    exact ⟨A', c', g', rfl, HR.out.1, HR.out.2.1, HR.out.2.2.1, HR.out.2.2.2.1, HR.out.2.2.2.2, hg1⟩
namespace Ba
/-- The factor of an area; a depth that is reduced; the error. -/
def rdF (ar : Int) : Int := 1000 - 300 * ar / (ar + 10000000)
def rdX (f x : Int) : Int := if 0 < x then x * f / 1000 else x
def rdE (s : Ser) (ar : Int) : Int := if serB s = true then if 0 ≤ ar ∧ ar ≤ 1073741824 then 0 else 2 else 1
theorem rdF_bd {ar : Int} (h : 0 ≤ ar ∧ ar ≤ 1073741824) : 700 ≤ rdF ar ∧ rdF ar ≤ 1000 := by
  have a : 0 ≤ 300 * ar / (ar + 10000000) := Int.ediv_nonneg (by omega) (by omega)
  have b : 300 * ar / (ar + 10000000) ≤ 300 := Int.ediv_le_of_le_mul (by omega) (by omega)
  unfold rdF; omega
theorem rdX_bd {f x : Int} (hf : 700 ≤ f ∧ f ≤ 1000) (hx : -1 ≤ x ∧ x ≤ 4194304) : -1 ≤ rdX f x ∧ rdX f x ≤ 4194304 ∧ (0 < x → 0 ≤ x * f ∧ x * f ≤ 4194304000) := by
  by_cases c : 0 < x
  · have a : 0 ≤ x * f := Int.mul_nonneg (by omega) (by omega)
    have b : x * f ≤ 4194304 * 1000 := Int.mul_le_mul (by omega) (by omega) (by omega) (by omega)
    unfold rdX
    rw [if_pos c]
    omega
  · unfold rdX
    rw [if_neg c]
    omega
end Ba
/-- What Reduced answers. -/
def RetRd (s : Ba.Ser) (ar : Int) (w : World) (e : Ending) (w' : World) : Prop := ∃ t : Ba.Ser, e = .returned (.tuple #[t.val, .int .i64 (Ba.rdE s ar)]) ∧ t.Ok w' ∧ (Ba.rdE s ar = 0 → t.fr = s.fr ∧ t.st = s.st ∧ t.ds.n = s.ds.n ∧ ∀ i, i < s.ds.n → t.ds.X i = Ba.rdX (Ba.rdF ar) (s.ds.X i)) ∧ (Ba.rdE s ar ≠ 0 → t.fr = 0 ∧ t.st = 0 ∧ t.ds.n = 0) ∧ Gr w w'
theorem nil_ser {w : World} : Ba.Ser.Ok w ⟨0, 0, ⟨none, 0, 0, 0, 0, fun _ => 0⟩⟩ := ⟨by unfold Ba.i64; simp, by unfold Ba.i64; simp, ⟨fun h => absurd h (by simp), Nat.le_refl _, by simp, fun i hi => absurd hi (by simp)⟩⟩

set_option maxRecDepth 100000 in
set_option maxHeartbeats 4000000 in
theorem red_no1 (s : Ba.Ser) (ar : Int) (w : World) (hs : s.Ok w) (hv : Ba.serB s = false) : Calls Tryz.prog 29 #[s.val, .int .i64 ar] w (fun e w' => e = .returned (.tuple #[.agg #[.int .i64 0, .int .i64 0, .slice none 0 0], .int .i64 1]) ∧ Gr w w') := by
  have HV := Lib.hid (fun W (hh : Gr w W) => gvalid_any s W (hs.gr hh))
  rw [hv] at HV
  have hm := Nat.le_trans hs.2.2.hc hs.2.2.hb
  clear hs hv
  unfold Ba.Ser.val at HV ⊢
  obtain ⟨fr, st, ⟨A, n, c, b, o, X⟩⟩ := s
  simp only at *
  go_enter Tryz.func29, Tryz.ntmps29
  go_wp2_with fail
  refine (show (∀ W, W = _ → Calls _ _ _ W _) → Calls _ _ _ _ _ from fun h => h _ rfl) ?_
  intro W1 hW1
  have g1 : Gr w W1 := by rw [hW1]; exact gr_auto
  have k0 : Own W1 (w.heap.size) 0 (.int .i64 fr) := by rw [hW1]; exact ⟨by simp [go_sem], by simp [go_sem]⟩
  have k1 : Own W1 (w.heap.size) 1 (.int .i64 st) := by rw [hW1]; exact ⟨by simp [go_sem], by simp [go_sem]⟩
  have k2 : Own W1 (w.heap.size) 2 (.slice A n c) := by rw [hW1]; exact ⟨by simp [go_sem], by simp [go_sem]⟩
  have k3 : Own W1 (w.heap.size + 1) 0 (.int .i64 0) := by rw [hW1]; exact ⟨by simp [go_sem], by simp [go_sem]⟩
  have k4 : Own W1 (w.heap.size + 1) 1 (.int .i64 0) := by rw [hW1]; exact ⟨by simp [go_sem], by simp [go_sem]⟩
  have k5 : Own W1 (w.heap.size + 1) 2 (.slice none 0 0) := by rw [hW1]; exact ⟨by simp [go_sem], by simp [go_sem]⟩
  clear hW1
  refine (HV.out _ g1).mono ?_
  rintro e w2 ⟨rfl, hb2⟩
  have g2 := g1.trans hb2
  replace k0 := k0.gr hb2; replace k1 := k1.gr hb2; replace k2 := k2.gr hb2; replace k3 := k3.gr hb2; replace k4 := k4.gr hb2; replace k5 := k5.gr hb2
  clear HV
  obtain ⟨x0, f0⟩ := k0; obtain ⟨x1, f1⟩ := k1; obtain ⟨x2, f2⟩ := k2; obtain ⟨x3, f3⟩ := k3; obtain ⟨x4, f4⟩ := k4; obtain ⟨x5, f5⟩ := k5
  go_wp2_with fail
  refine bodyPost_ret (by simp [results, Tryz.results29, go_sem, x3, x4, x5, f3, f4, f5]; try rfl) rfl ?_
  exact ⟨rfl, gr_auto⟩

set_option maxRecDepth 100000 in
set_option maxHeartbeats 4000000 in
theorem red_no2 (s : Ba.Ser) (ar : Int) (w : World) (hs : s.Ok w) (hv : Ba.serB s = true) (ha : ar < 0 ∨ (0 ≤ ar ∧ 1073741824 < ar)) : Calls Tryz.prog 29 #[s.val, .int .i64 ar] w (fun e w' => e = .returned (.tuple #[.agg #[.int .i64 0, .int .i64 0, .slice none 0 0], .int .i64 2]) ∧ Gr w w') := by
  have HV := Lib.hid (fun W (hh : Gr w W) => gvalid_any s W (hs.gr hh))
  rw [hv] at HV
  have hm := Nat.le_trans hs.2.2.hc hs.2.2.hb
  clear hs hv
  unfold Ba.Ser.val at HV ⊢
  obtain ⟨fr, st, ⟨A, n, c, b, o, X⟩⟩ := s
  simp only at *
  go_enter Tryz.func29, Tryz.ntmps29
  go_wp2_with fail
  refine (show (∀ W, W = _ → Calls _ _ _ W _) → Calls _ _ _ _ _ from fun h => h _ rfl) ?_
  intro W1 hW1
  have g1 : Gr w W1 := by rw [hW1]; exact gr_auto
  have k0 : Own W1 (w.heap.size) 0 (.int .i64 fr) := by rw [hW1]; exact ⟨by simp [go_sem], by simp [go_sem]⟩
  have k1 : Own W1 (w.heap.size) 1 (.int .i64 st) := by rw [hW1]; exact ⟨by simp [go_sem], by simp [go_sem]⟩
  have k2 : Own W1 (w.heap.size) 2 (.slice A n c) := by rw [hW1]; exact ⟨by simp [go_sem], by simp [go_sem]⟩
  have k3 : Own W1 (w.heap.size + 1) 0 (.int .i64 0) := by rw [hW1]; exact ⟨by simp [go_sem], by simp [go_sem]⟩
  have k4 : Own W1 (w.heap.size + 1) 1 (.int .i64 0) := by rw [hW1]; exact ⟨by simp [go_sem], by simp [go_sem]⟩
  have k5 : Own W1 (w.heap.size + 1) 2 (.slice none 0 0) := by rw [hW1]; exact ⟨by simp [go_sem], by simp [go_sem]⟩
  clear hW1
  refine (HV.out _ g1).mono ?_
  rintro e w2 ⟨rfl, hb2⟩
  have g2 := g1.trans hb2
  replace k0 := k0.gr hb2; replace k1 := k1.gr hb2; replace k2 := k2.gr hb2; replace k3 := k3.gr hb2; replace k4 := k4.gr hb2; replace k5 := k5.gr hb2
  clear HV
  obtain ⟨x0, f0⟩ := k0; obtain ⟨x1, f1⟩ := k1; obtain ⟨x2, f2⟩ := k2; obtain ⟨x3, f3⟩ := k3; obtain ⟨x4, f4⟩ := k4; obtain ⟨x5, f5⟩ := k5
  rcases ha with h | h
  all_goals
    go_wp2_with fail
    refine bodyPost_ret (by simp [results, Tryz.results29, go_sem, x3, x4, x5, f3, f4, f5]; try rfl) rfl ?_
    exact ⟨rfl, gr_auto⟩

set_option maxRecDepth 100000 in
set_option maxHeartbeats 4000000 in
theorem red_ok (s : Ba.Ser) (ar : Int) (w : World) (hs : s.Ok w) (hv : Ba.serB s = true) (ha : 0 ≤ ar ∧ ar ≤ 1073741824) : Calls Tryz.prog 29 #[s.val, .int .i64 ar] w (fun e w' => ∃ r : Ba.SlI, e = .returned (.tuple #[.agg #[.int .i64 s.fr, .int .i64 s.st, .slice r.A r.n r.c], .int .i64 0]) ∧ r.At w' ∧ r.n = s.ds.n ∧ (∀ i, i < s.ds.n → r.X i = Ba.rdX (Ba.rdF ar) (s.ds.X i)) ∧ Gr w w') := by
  have HV := Lib.hid (fun W (hh : Gr w W) => gvalid_any s W (hs.gr hh))
  have HC := Lib.hid (fun W (hh : Gr w W) hn => clonez_any s.ds W (hs.2.2.gr hh) hn)
  unfold RetCln at HC
  rw [hv] at HV
  obtain ⟨v1, v2, vn, v4, vX⟩ := Ba.ser_nums hv
  have HVX := Lib.hid vX
  have hm := Nat.le_trans hs.2.2.hc hs.2.2.hb
  have hfb := Ba.rdF_bd ha
  have HRB := Lib.hid (fun x hx => Ba.rdX_bd (x := x) hfb hx)
  have HFX := Lib.hid (show Ba.rdF ar = 1000 - 300 * ar / (ar + 10000000) from rfl)
  have HRX := Lib.hid (fun x => show Ba.rdX (Ba.rdF ar) x = if 0 < x then x * Ba.rdF ar / 1000 else x from rfl)
  clear hs hv vX v4
  generalize Ba.rdX (Ba.rdF ar) = rx at *
  unfold Ba.Ser.val at HV ⊢
  obtain ⟨fr, st, ⟨A, n, c, b, o, X⟩⟩ := s
  simp only at *
  go_enter Tryz.func29, Tryz.ntmps29
  go_wp2_with fail
  refine (show (∀ W, W = _ → Calls _ _ _ W _) → Calls _ _ _ _ _ from fun h => h _ rfl) ?_
  intro W1 hW1
  have g1 : Gr w W1 := by rw [hW1]; exact gr_auto
  have k0 : Own W1 (w.heap.size) 0 (.int .i64 fr) := by rw [hW1]; exact ⟨by simp [go_sem], by simp [go_sem]⟩
  have k1 : Own W1 (w.heap.size) 1 (.int .i64 st) := by rw [hW1]; exact ⟨by simp [go_sem], by simp [go_sem]⟩
  have k2 : Own W1 (w.heap.size) 2 (.slice A n c) := by rw [hW1]; exact ⟨by simp [go_sem], by simp [go_sem]⟩
  have k3 : Own W1 (w.heap.size + 1) 0 (.int .i64 0) := by rw [hW1]; exact ⟨by simp [go_sem], by simp [go_sem]⟩
  have k4 : Own W1 (w.heap.size + 1) 1 (.int .i64 0) := by rw [hW1]; exact ⟨by simp [go_sem], by simp [go_sem]⟩
  have k5 : Own W1 (w.heap.size + 1) 2 (.slice none 0 0) := by rw [hW1]; exact ⟨by simp [go_sem], by simp [go_sem]⟩
  clear hW1
  refine (HV.out _ g1).mono ?_
  rintro e w2 ⟨rfl, hb2⟩
  have g2 := g1.trans hb2
  replace k0 := k0.gr hb2; replace k1 := k1.gr hb2; replace k2 := k2.gr hb2; replace k3 := k3.gr hb2; replace k4 := k4.gr hb2; replace k5 := k5.gr hb2
  clear HV
  have db : 0 ≤ 300 * ar / (ar + 10000000) ∧ 300 * ar / (ar + 10000000) ≤ 300 := by have := HFX.out; omega
  have dnz : ((ar + 10000000) == 0) = false := beq_eq_false_iff_ne.2 (by omega)
  have hz1 : w.heap.size + 1 < w2.heap.size := World.block_lt_of_cell? _ _ k3.1
  have x0 := k0.1; have x1 := k1.1; have x2 := k2.1
  -- @a
  go_wp2_with fail
  -- @b
  refine (HC.out _ (by exact g2) (by omega)).mono ?_
  rintro e w3 ⟨A2, c2, g, rfl, hA2, hgb, hc1, hc2, hrow, hb3⟩
  clear HC
  have g3 := g2.trans hb3
  replace k0 := k0.gr hb3; replace k1 := k1.gr hb3; replace k2 := k2.gr hb3; replace k3 := k3.gr hb3; replace k4 := k4.gr hb3; replace k5 := k5.gr hb3
  clear x0 x1 x2
  have hg1 : w.heap.size + 1 < g := by omega
  have y2 := k2.1; have yf := k2.2
  replace hA2 := Lib.hid hA2; replace hrow := Lib.hid hrow
  have HW4 := Lib.hid (fun x => show Row (w3.setCell ⟨w.heap.size, 2, none⟩ x) g n (fun j => .int .i64 (X j)) from fun j hj => (hrow.out j hj).other (Or.inl (by omega)))
  have HK := Lib.hid (fun x => show Own (w3.setCell ⟨w.heap.size, 2, none⟩ x) w.heap.size 0 (.int .i64 fr) ∧ Own (w3.setCell ⟨w.heap.size, 2, none⟩ x) w.heap.size 1 (.int .i64 st) ∧ Own (w3.setCell ⟨w.heap.size, 2, none⟩ x) w.heap.size 2 x ∧ Own (w3.setCell ⟨w.heap.size, 2, none⟩ x) (w.heap.size + 1) 0 (.int .i64 0) ∧ Own (w3.setCell ⟨w.heap.size, 2, none⟩ x) (w.heap.size + 1) 1 (.int .i64 0) ∧ Own (w3.setCell ⟨w.heap.size, 2, none⟩ x) (w.heap.size + 1) 2 (.slice none 0 0) from ⟨k0.other (Or.inr (by decide)), k1.other (Or.inr (by decide)), k2.set, k3.other (Or.inl (by omega)), k4.other (Or.inl (by omega)), k5.other (Or.inl (by omega))⟩)
  have HG4 := Lib.hid (fun x => Gr.setCell (p := ⟨w.heap.size, 2, none⟩) g3 (Nat.le_refl _) x)
  clear k0 k1 k2 k3 k4 k5 hrow
  go_wp2_with fail
  -- @c
  refine name_world ?_
  intro W4 hW4
  have g4 : Gr w W4 := by rw [hW4]; exact HG4.out _
  have row4 := Lib.hid (show Row W4 g n (fun j => .int .i64 (if j < 0 then rx (X j) else X j)) from by rw [hW4]; exact HW4.out _)
  have HK4 := Lib.hid (show Own W4 w.heap.size 0 (.int .i64 fr) ∧ Own W4 w.heap.size 1 (.int .i64 st) ∧ Own W4 w.heap.size 2 (.slice A2 n c2) ∧ Own W4 (w.heap.size + 1) 0 (.int .i64 0) ∧ Own W4 (w.heap.size + 1) 1 (.int .i64 0) ∧ Own W4 (w.heap.size + 1) 2 (.slice none 0 0) from by rw [hW4]; exact HK.out _)
  clear hW4 HW4 HK HG4 y2 yf
  go_loopw [35] (fun x wr => ∃ i : Nat, i ≤ n ∧ x = .int .i64 (i : Int) ∧ Hid (Row wr g n (fun j => .int .i64 (if j < i then rx (X j) else X j))) ∧ GrX g W4 wr) (fun x _ => n - (intOf x).toNat)
  case atStart => exact ⟨0, Nat.zero_le _, rfl, row4, GrX.refl _ _⟩
  case round =>
    clear row4
    obtain ⟨i, hi, rfl, HR, hg⟩ := hrel
    have K := HK4.out
    have x0 := K.1.grx hg (by omega); have x1 := K.2.1.grx hg (by omega); have x2 := K.2.2.1.grx hg (by omega)
    by_cases hlt : i < n
    · obtain rfl := hA2.out (by omega)
      have a0 : wr.cell? ⟨g, i, none⟩ = some (.int .i64 (X i)) := by have z := (HR.out i hlt).1; simp only at z; rw [if_neg (by omega)] at z; exact z
      have af := (HR.out i hlt).2
      have y2 := x2.1
      have ib0 : (0 : Int) ≤ (i : Int) := by omega
      have ib1 : (i : Int) < (n : Int) := by omega
      have xb := HVX.out i hlt
      have rb := HRB.out (X i) xb
      have RX := Lib.hid (HRX.out (X i))
      have HN1 := Lib.hid (fun (h : ¬ 0 < X i) => show Row wr g n (fun j => .int .i64 (if j < i + 1 then rx (X j) else X j)) from by
        rw [show (fun j => Value.int .i64 (if j < i + 1 then rx (X j) else X j)) = (fun j => Value.int .i64 (if j < i then rx (X j) else X j)) from funext fun j => by
          by_cases e : j = i
          · subst e; rw [if_pos (by omega), if_neg (by omega), RX.out, if_neg h]
          · by_cases e2 : j < i
            · rw [if_pos e2, if_pos (by omega)]
            · rw [if_neg e2, if_neg (by omega)]]
        exact HR.out)
      have HN2 := Lib.hid (show Row (wr.setCell ⟨g, i, none⟩ (.int .i64 (rx (X i)))) g n (fun j => .int .i64 (if j < i + 1 then rx (X j) else X j)) from Row.set (k := i) HR.out (by show Value.int .i64 _ = _; rw [if_pos (by omega)]) (fun j _ hj => by
        show Value.int .i64 _ = Value.int .i64 _
        by_cases e : j < i
        · rw [if_pos e, if_pos (by omega)]
        · rw [if_neg e, if_neg (by omega)]))
      have HGx := Lib.hid (fun x => GrX.setCell (p := ⟨g, i, none⟩) hg rfl x)
      have Ff := Lib.hid HFX.out
      clear K x0 x1 x2 HR HVX HRB HRX HK4
      obtain ⟨x, hx⟩ : ∃ z, X i = z := ⟨_, rfl⟩
      rw [hx] at a0 xb rb RX HN1 HN2
      clear hx
      obtain ⟨rxx, hrx⟩ : ∃ z, rx x = z := ⟨_, rfl⟩
      rw [hrx] at rb RX HN2
      clear hrx
      have hfv : 700 ≤ 1000 - 300 * ar / (ar + 10000000) ∧ 1000 - 300 * ar / (ar + 10000000) ≤ 1000 := by have := Ff.out; omega
      by_cases hp : 0 < x
      · have e := RX.out
        rw [if_pos hp, Ff.out] at e
        have mb := rb.2.2 hp
        rw [Ff.out] at mb
        replace e := Lib.hid e
        clear RX HN1 rb
        -- @d
        go_wp2_with fail
        -- @e
        go_roundw
        case rel => exact ⟨i + 1, by omega, by go_num, by rw [← e.out]; exact HN2, HGx.out _⟩
        case measure => simp [intOf]; omega
      · have HNx := Lib.hid (HN1.out hp)
        clear RX HN2 rb HN1
        go_wp2_with fail
        go_roundw
        case rel => exact ⟨i + 1, by omega, by go_num, HNx.out, hg⟩
        case measure => simp [intOf]; omega
    · obtain rfl : n = i := by omega
      have z3 := K.2.2.2.1.grx hg (by omega); have z4 := K.2.2.2.2.1.grx hg (by omega); have z5 := K.2.2.2.2.2.grx hg (by omega)
      obtain ⟨p0, p1⟩ := x0; obtain ⟨p2, p3⟩ := x1; obtain ⟨p4, p5⟩ := x2; obtain ⟨p6, p7⟩ := z3; obtain ⟨p8, p9⟩ := z4; obtain ⟨p10, p11⟩ := z5
      have gz : Gr w wr := GrX.gr g4 (by omega) hg
      have HRF := Lib.hid (fun (W : World) (h : GrX (w.heap.size + 1) wr W) => show Row W g n (fun j => .int .i64 (if j < n then rx (X j) else X j)) from fun j hj => (HR.out j hj).grx h (by omega))
      clear K HR HK4 HRX HFX
      -- @f
      go_wp2_with fail
      -- @g
      refine bodyPost_ret (by simp [results, Tryz.results29, go_sem, p6, p7, p8, p9, p10, p11]; try rfl) rfl ?_
      refine ⟨⟨A2, n, c2, g, 0, fun j => if j < n then rx (X j) else X j⟩, rfl, ⟨hA2.out, hc1, hc2, fun i hi => ?_⟩, rfl, fun i hi => if_pos hi, ?_⟩
      · simp only at hi
        have := HRB.out (X i) (HVX.out i hi)
        refine ⟨by simp only [Nat.zero_add]; exact (HRF.out _ (by exact (by repeat' (first | (with_reducible assumption) | (with_reducible exact GrX.refl _ _) | (with_reducible refine GrX.drew ?_) | (with_reducible refine GrX.drewN ?_ _) | (with_reducible refine GrX.setCell ?_ ?_ _) | (rfl; done) | (with_reducible refine GrX.alloc ?_ _) | (with_reducible refine GrX.grown ?_ (by with_reducible assumption))))) i hi).1, ?_⟩
        simp only
        rw [if_pos hi]
        unfold Ba.i64; omega
      · exact GrX.gr gz (by omega) (show GrX (w.heap.size + 1) wr _ from (by repeat' (first | (with_reducible assumption) | (with_reducible exact GrX.refl _ _) | (with_reducible refine GrX.drew ?_) | (with_reducible refine GrX.drewN ?_ _) | (with_reducible refine GrX.setCell ?_ ?_ _) | (rfl; done) | (with_reducible refine GrX.alloc ?_ _) | (with_reducible refine GrX.grown ?_ (by with_reducible assumption)))))

end Go.Proofs.YtajhhplgcegodaaGreatDoor
