/-
  Areal: slices.Clone of gauges; points; plane.Near. (Printed by mks.py.)
-/
import Derived.Test.YtnfjebfmfjpepaaArC
import Derived.Test.YtnfjebfmfjpepaaArG
import Derived.Deep.AppendLies
set_option linter.unusedVariables false
set_option linter.unusedSimpArgs false
namespace Go.Proofs.Ytnfjebfmfjpepaa
open Go.RowKit
attribute [local go_sem ↓] Go.wp_at_zero Go.wp_at_succ
theorem info_gauge : (Try.prog.info? 66).map (fun i => (i.zero, i.size, i.bytes)) = some (some (.agg #[.string ⟨#[]⟩, .int .i64 0, .int .i64 0]), 3, 32) := by kernel_rfl
/-- The cells of classes, one behind the other. -/
def flatG (D : Nat → Ba.Gauge) : Nat → List Value
  | 0 => []
  | n + 1 => flatG D n ++ [.string (D n).nm, .int .i64 (D n).x, .int .i64 (D n).y]
theorem flatG_len (D : Nat → Ba.Gauge) : ∀ n, (flatG D n).length = n * 3
  | 0 => rfl
  | n + 1 => by rw [flatG, List.length_append, flatG_len D n]; simp; omega
theorem flatG_get (D : Nat → Ba.Gauge) : ∀ {n j : Nat}, j < n → (flatG D n)[j * 3]? = some (.string (D j).nm) ∧ (flatG D n)[j * 3 + 1]? = some (.int .i64 (D j).x) ∧ (flatG D n)[j * 3 + 2]? = some (.int .i64 (D j).y)
  | 0, _, h => by omega
  | n + 1, j, h => by
    rw [flatG]
    by_cases e : j = n
    · subst e
      have hl := flatG_len D j
      refine ⟨?_, ?_, ?_⟩
      · rw [List.getElem?_append_right (by omega), hl, show j * 3 - j * 3 = 0 by omega]; rfl
      · rw [List.getElem?_append_right (by omega), hl, show j * 3 + 1 - j * 3 = 1 by omega]; rfl
      · rw [List.getElem?_append_right (by omega), hl, show j * 3 + 2 - j * 3 = 2 by omega]; rfl
    · obtain ⟨h0, h1, h2⟩ := flatG_get D (n := n) (j := j) (by omega)
      have hl := flatG_len D n
      refine ⟨?_, ?_, ?_⟩
      · rw [List.getElem?_append_left (by omega)]; exact h0
      · rw [List.getElem?_append_left (by omega)]; exact h1
      · rw [List.getElem?_append_left (by omega)]; exact h2
theorem flatG_one (D : Nat → Ba.Gauge) : ∀ n, ∀ u ∈ flatG D n, u.oneCell' = true
  | 0, u, h => by simp [flatG] at h
  | n + 1, u, h => by
    rw [flatG] at h
    rcases List.mem_append.1 h with h | h
    · exact flatG_one D n u h
    · simp at h
      rcases h with rfl | rfl | rfl <;> rfl
theorem flatG_congr {D E : Nat → Ba.Gauge} : ∀ {n}, (∀ i, i < n → D i = E i) → flatG D n = flatG E n
  | 0, _ => rfl
  | n + 1, h => by rw [flatG, flatG, flatG_congr fun i hi => h i (by omega), h n (by omega)]
theorem flatG_at {w : World} {ad : Addr} {n b o : Nat} {D : Nat → Ba.Gauge} (hA : 0 < n → some ad = some ⟨b, o, none⟩) (hX : ∀ j, j < n → (D j).Cells w b (o + j * 3)) : ∀ (j : Nat) (u : Value), (flatG D n)[j]? = some u → w.cell? (ad.add j) = some u := by
  intro j u hj
  have hjn : j < n * 3 := by
    have := (List.getElem?_eq_some_iff.1 hj).1
    rwa [flatG_len] at this
  obtain ⟨q, hq5⟩ : ∃ q, j = q * 3 ∨ j = q * 3 + 1 ∨ j = q * 3 + 2 := ⟨j / 3, by omega⟩
  have hq : q < n := by omega
  have e := hA (by omega)
  cases e
  obtain ⟨g0, g1, g2⟩ := flatG_get D hq
  obtain ⟨c0, c1, c2⟩ := hX _ hq
  have ha : (⟨b, o, none⟩ : Addr).add j = ⟨b, o + j, none⟩ := by
    by_cases h0 : j = 0
    · subst h0; simp [Addr.add]
    · simp [Addr.add, h0]
  rw [ha]
  rcases hq5 with rfl | rfl | rfl
  · rw [g0] at hj; cases hj; exact c0
  · rw [g1] at hj; cases hj; rw [← Nat.add_assoc]; exact c1
  · rw [g2] at hj; cases hj; rw [← Nat.add_assoc]; exact c2
/-- A row of classes of a call's own, as a slice. -/
theorem own_slg {w : World} {base E n : Nat} {v : Value} {D : Nat → Ba.Gauge} (h : w.ownsRow base E 3 v n (flatG D n)) (hok : ∀ i, i < n → (D i).Ok w) : ∃ s : Ba.SlGauge, v = .slice s.A s.n s.c ∧ s.At w ∧ s.n = n ∧ s.D = D := by
  have h' := h
  obtain ⟨hl, ⟨rfl, rfl⟩ | ⟨g, cap, cur, rfl, hb, hc, hn, hm, hs, hx⟩⟩ := h
  · exact ⟨⟨none, 0, 0, 0, 0, D⟩, rfl, ⟨fun h => absurd h (by simp), Nat.le_refl _, by simp, fun j hj => absurd hj (by simp)⟩, rfl, rfl⟩
  · refine ⟨⟨some ⟨g, 0, none⟩, n, cap, g, 0, D⟩, rfl, ⟨fun _ => rfl, hn, by unfold maxLen at hm; exact hm, fun j hj => ?_⟩, rfl, rfl⟩
    have own : ∀ i v, i < n * 3 → (flatG D n)[i]? = some v → w.cell? ⟨g, i, none⟩ = some v := fun i v hi hv => by
      have hcv : cur.toList[i]? = some v := by
        rw [← hx, List.getElem?_take_of_lt hi] at hv; exact hv
      simp only [World.cell?, hc]; simpa using hcv
    simp only at hj
    obtain ⟨g0, g1, g2⟩ := flatG_get D hj
    refine ⟨?_, hok j hj⟩
    simp only [Nat.zero_add]
    exact ⟨own _ _ (by omega) g0, own _ _ (by omega) g1, own _ _ (by omega) g2⟩
/-- What Clone answers: a row of the call's own. -/
def RetOwn (E size n : Nat) (xs : List Value) (w : World) (e : Ending) (w' : World) : Prop := ∃ (A : Option Addr) (c : Nat), e = .returned (.slice A n c) ∧ w'.ownsRow w.heap.size E size (.slice A n c) n xs ∧ Gr w w'
theorem own_form {w : World} {base E size n : Nat} {v : Value} {xs : List Value} (h : w.ownsRow base E size v n xs) : ∃ (A : Option Addr) (c : Nat), v = .slice A n c := by
  obtain ⟨hl, ⟨rfl, rfl⟩ | ⟨g, cap, cur, rfl, hb, hc, hn, hm, hs, hx⟩⟩ := h
  · exact ⟨none, 0, rfl⟩
  · exact ⟨_, cap, rfl⟩

set_option maxRecDepth 100000 in
set_option maxHeartbeats 4000000 in
theorem cloneg_any (s : Ba.SlGauge) (w : World) (h : s.At w) (hn0 : 0 < s.n) (hn : s.n ≤ 1000) : Calls Try.prog 33 #[.slice s.A s.n s.c] w (RetOwn 66 3 s.n (flatG s.D s.n) w) := by
  obtain ⟨i0, hi0, hz0, hz1, hz2⟩ := info_parts info_gauge
  have HI := Lib.hid hi0; have HZ0 := Lib.hid hz0; have HZ1 := Lib.hid hz1; have HZ2 := Lib.hid hz2
  clear hi0 hz0 hz1 hz2
  have HA := Lib.hid h.hA; have HX := Lib.hid (fun i hi => (h.hD i hi).1)
  clear h
  obtain ⟨A, n, c, b, o, D⟩ := s
  simp only at *
  have qe : ∀ (w : World) (a : Option Addr) (n c n' c' : Nat), (binOp .eql 22 (.slice a n c) (.slice none n' c')).run Try.prog w = .ok (.bool a.isNone) w := fun w a n c n' c' => Lib.run_eql_slice_nil w _ _ a n c n' c' Try.underlying22
  obtain ⟨ad, rfl⟩ : ∃ ad, A = some ad := ⟨_, HA.out hn0⟩
  go_enter Try.func33, Try.ntmps33
  go_wp2_with (at_builtin; refine wpList_append_own _ rfl _ _ 22 rfl w.heap.size 66 i0 (.agg #[.string ⟨#[]⟩, .int .i64 0, .int .i64 0]) 3 32 Try.underlying22 HI.out HZ0.out HZ1.out HZ2.out rfl (by decide) _ 0 [] rfl (World.ownsRow_made w #[] 0 (Nat.le_refl _) (Nat.zero_le _) rfl) ad n c (flatG D n) rfl (flatG_len D n) ?c1 ?c2 ?c3 ?c4 ?c5 ?_)
  case c1 => exact flatG_at HA.out (fun j hj => (HX.out j hj).gr (by first | exact Gr.alloc (Gr.refl _) _ | exact gr_auto))
  case c2 => exact flatG_one D n
  case c3 => unfold maxLen; omega
  case c4 => omega
  case c5 => simp
  intro v' w1 hown hgrow hnil'
  have hg1 : Gr w w1 := by
    refine Below.grown (Below.alloc (Below.refl _ w) (Nat.le_refl _) _) hgrow (by simp) ?_
    intro k hk; simp [Value.ownBlock] at hk; omega
  replace hown := (show w1.ownsRow w.heap.size 66 3 v' n (flatG D n) from by simpa using hown)
  obtain ⟨A', c', rfl⟩ := own_form hown
  have HR := Lib.hid hown
  clear hown hgrow hnil'
  go_wp2_with fail
  go_ret
  exact ⟨A', c', rfl, HR.out, hg1⟩

namespace Ba
structure Point where
  x : Int
  y : Int
def Point.val (d : Point) : Value := .agg #[.int .i64 d.x, .int .i64 d.y]
/-- The cells. -/
def Point.Cells (w : World) (b o : Nat) (d : Point) : Prop := w.cell? ⟨b, o, none⟩ = some (.int .i64 d.x) ∧ w.cell? ⟨b, o + 1, none⟩ = some (.int .i64 d.y)
def Point.Ok (w : World) (d : Point) : Prop := i64 d.x ∧ i64 d.y
theorem Point.Cells.gr {w w1 : World} {b o : Nat} {d : Point} (h : d.Cells w b o) (hg : Gr w w1) : d.Cells w1 b o := by
  obtain ⟨h0, h1⟩ := h
  exact ⟨Gr.at hg h0, Gr.at hg h1⟩
structure SlPoint where
  A : Option Addr
  n : Nat
  c : Nat
  b : Nat
  o : Nat
  D : Nat → Point
structure SlPoint.At (w : World) (s : SlPoint) : Prop where
  hA : 0 < s.n → s.A = some ⟨s.b, s.o, none⟩
  hc : s.n ≤ s.c
  hb : s.c ≤ 9223372036854775807
  hD : ∀ i, i < s.n → (s.D i).Cells w s.b (s.o + i * 2) ∧ (s.D i).Ok w
theorem Point.Ok.gr {w w1 : World} {d : Point} (h : d.Ok w) (hg : Gr w w1) : d.Ok w1 := by
  obtain ⟨h0, h1⟩ := h
  exact ⟨h0, h1⟩
theorem SlPoint.At.gr {w w1 : World} {s : SlPoint} (h : s.At w) (hg : Gr w w1) : s.At w1 := ⟨h.hA, h.hc, h.hb, fun i hi => ⟨(h.hD i hi).1.gr hg, (h.hD i hi).2.gr hg⟩⟩
end Ba
set_option maxRecDepth 100000 in
set_option maxHeartbeats 2000000 in
theorem idx_point (f : FuncId) (cap : Array Value) (s : Ba.SlPoint) (p : Nat → Bool) (w : World) (h : s.At w) (hen : ∀ args w, (callFunc f args).run Try.prog w = .ok (.enter f args) w)
    (hp : ∀ i, i < s.n → ∀ W, Gr w W → Calls Try.prog f (#[(s.D i).val] ++ cap) W fun e w' => e = .returned (.bool (p i)) ∧ Gr W w') :
    Calls Try.prog 105 #[.slice s.A s.n s.c, .func (.func f) #[] cap] w fun e w' => e = .returned (.int .i64 (Ba.fstI p s.n)) ∧ Gr w w' := by
  have HA := Lib.hid h.hA; have HX := Lib.hid h.hD; have HP := Lib.hid hp
  have hn : s.n ≤ 9223372036854775807 := Nat.le_trans h.hc h.hb
  clear h hp
  obtain ⟨A, hAe⟩ : ∃ A, s.A = A := ⟨_, rfl⟩
  obtain ⟨n, hne⟩ : ∃ n, s.n = n := ⟨_, rfl⟩
  obtain ⟨b, hbe⟩ : ∃ b, s.b = b := ⟨_, rfl⟩
  obtain ⟨o, hoe⟩ : ∃ o, s.o = o := ⟨_, rfl⟩
  rw [hAe, hne, hbe, hoe] at HA
  rw [hne, hbe, hoe] at HX
  rw [hne] at HP hn
  rw [hAe, hne]
  clear hAe hne hbe hoe
  go_enter Try.func105, Try.ntmps105
  go_wp2_with fail
  go_loopw [8] (fun s8 wr => ∃ i : Nat, i ≤ n ∧ s8 = .int .i64 (i : Int) ∧ Gr w wr ∧ Hid (Ba.fst p i = none)) (fun s8 _ => n - (intOf s8).toNat)
  case atStart => exact ⟨0, Nat.zero_le _, rfl, Gr.refl _, rfl⟩
  case round =>
    obtain ⟨i, hi, rfl, hg, hf⟩ := hrel
    by_cases hlt : i < n
    · obtain rfl := HA.out (by omega)
      have HC := Lib.hid (HP.out i hlt)
      obtain ⟨a0, a1⟩ := (HX.out i hlt).1.gr hg
      unfold Ba.Point.val at HC
      generalize s.D i = d at *
      cases hpi : p i
      · rw [hpi] at HC
        have HF := Lib.hid (Ba.fst_miss hf.out hpi)
        clear hpi hi
        go_wp2_with fail
        refine (HC.out _ gr_auto).mono ?_
        rintro e w1 ⟨rfl, hb1⟩
        go_wp2_with fail
        go_roundw
        case rel => exact ⟨i + 1, by omega, by go_num, gr_auto, HF⟩
        case measure => simp [intOf]; omega
      · rw [hpi] at HC
        have HF := Lib.hid (Ba.fstI_hit hf.out hpi hlt)
        clear hpi hi
        go_wp2_with fail
        refine (HC.out _ gr_auto).mono ?_
        rintro e w1 ⟨rfl, hb1⟩
        go_wp2_with fail
        go_ret
        exact ⟨ret_int HF.out.symm, gr_auto⟩
    · obtain rfl : i = n := by omega
      have HF := Lib.hid (Ba.fstI_none hf.out)
      go_wp2_with fail
      go_ret
      exact ⟨ret_int HF.out.symm, hg⟩

theorem has_point (f : FuncId) (cap : Array Value) (s : Ba.SlPoint) (p : Nat → Bool) (w : World) (h : s.At w) (hen : ∀ args w, (callFunc f args).run Try.prog w = .ok (.enter f args) w)
    (hp : ∀ i, i < s.n → ∀ W, Gr w W → Calls Try.prog f (#[(s.D i).val] ++ cap) W fun e w' => e = .returned (.bool (p i)) ∧ Gr W w') :
    Calls Try.prog 83 #[.slice s.A s.n s.c, .func (.func f) #[] cap] w fun e w' => e = .returned (.bool (Ba.any p s.n)) ∧ Gr w w' := by
  have HI := Lib.hid (idx_point f cap s p w h hen hp)
  have HG := Lib.hid (Ba.fstI_ge p s.n)
  clear hp h
  generalize Ba.fstI p s.n = r at *
  generalize Ba.any p s.n = q at *
  generalize s.A = A at *
  generalize s.n = n at *
  generalize s.c = c at *
  go_enter Try.func83, Try.ntmps83
  go_wp2_with fail
  refine HI.out.mono ?_
  rintro e w1 ⟨rfl, hb1⟩
  go_wp2
  go_ret
  exact ⟨ret_bool HG.out, hb1⟩

namespace Ba
/-- Compared distances. -/
def cmI (a b : Int) : Int := if a < b then -1 else if b < a then 1 else 0
end Ba
set_option maxRecDepth 100000 in
set_option maxHeartbeats 4000000 in
theorem nan_any (x : Int) (w : World) : Calls Try.prog 85 #[.int .i64 x] w fun e w' => e = .returned (.bool false) ∧ w = w' := by
  go_enter Try.func85, Try.ntmps85
  go_wp2_with fail
  go_ret
  exact ⟨rfl, rfl⟩
set_option maxRecDepth 100000 in
set_option maxHeartbeats 4000000 in
theorem cmp_any (a b : Int) (w : World) : Calls Try.prog 58 #[.int .i64 a, .int .i64 b] w fun e w' => e = .returned (.int .i64 (Ba.cmI a b)) ∧ Gr w w' := by
  have HA := Lib.hid (fun W => nan_any a W); have HB := Lib.hid (fun W => nan_any b W)
  have c : (a < b ∧ Ba.cmI a b = -1) ∨ (b < a ∧ Ba.cmI a b = 1) ∨ (a = b ∧ Ba.cmI a b = 0) := by
    unfold Ba.cmI
    by_cases h : a < b
    · rw [if_pos h]; exact .inl ⟨h, rfl⟩
    · rw [if_neg h]
      by_cases k : b < a
      · rw [if_pos k]; exact .inr (.inl ⟨k, rfl⟩)
      · rw [if_neg k]; exact .inr (.inr ⟨by omega, rfl⟩)
  rcases c with ⟨h, e⟩ | ⟨h, e⟩ | ⟨h, e⟩
  · rw [e]
    clear e
    go_enter Try.func58, Try.ntmps58
    go_wp2_with fail
    refine (HA.out _).mono ?_
    rintro e w1 ⟨rfl, rfl⟩
    go_wp2_with fail
    refine (HB.out _).mono ?_
    rintro e w1 ⟨rfl, rfl⟩
    go_wp2_with fail
    go_ret
    exact ⟨rfl, gr_auto⟩
  · rw [e]
    clear e
    have h2 : ¬ a < b := by omega
    go_enter Try.func58, Try.ntmps58
    go_wp2_with fail
    refine (HA.out _).mono ?_
    rintro e w1 ⟨rfl, rfl⟩
    go_wp2_with fail
    refine (HB.out _).mono ?_
    rintro e w1 ⟨rfl, rfl⟩
    go_wp2_with fail
    go_ret
    exact ⟨rfl, gr_auto⟩
  · rw [e]
    clear e
    subst h
    go_enter Try.func58, Try.ntmps58
    go_wp2_with fail
    refine (HA.out _).mono ?_
    rintro e w1 ⟨rfl, rfl⟩
    go_wp2_with fail
    refine (HB.out _).mono ?_
    rintro e w1 ⟨rfl, rfl⟩
    go_wp2_with fail
    go_ret
    exact ⟨rfl, gr_auto⟩

set_option maxRecDepth 100000 in
set_option maxHeartbeats 4000000 in
theorem psq_any (ax ay bx by_ : Int) (w : World) (h : Ba.ptB ax ay = true) (k : Ba.ptB bx by_ = true) : Calls Try.prog 59 #[.agg #[.int .i64 ax, .int .i64 ay], .agg #[.int .i64 bx, .int .i64 by_]] w fun e w' => e = .returned (.int .i64 (Ba.sqI ax ay bx by_)) ∧ Gr w w' := by
  rw [Ba.ptB_iff] at h k
  obtain ⟨⟨h1, h2⟩, h3, h4⟩ := h
  obtain ⟨⟨p1, p2⟩, p3, p4⟩ := k
  have a := Ba.sq_bd (a := ax - bx) (by omega); have b := Ba.sq_bd (a := ay - by_) (by omega)
  obtain ⟨a1, a2⟩ := a
  obtain ⟨b1, b2⟩ := b
  unfold Ba.sqI
  go_enter Try.func59, Try.ntmps59
  go_wp2_with fail
  go_ret
  exact ⟨rfl, gr_auto⟩

set_option maxRecDepth 100000 in
set_option maxHeartbeats 4000000 in
theorem allf_any (d : Ba.Point) (w : World) : Calls Try.prog 84 #[d.val] w fun e w' => e = .returned (.bool (!Ba.ptB d.x d.y)) ∧ Gr w w' := by
  have HP := Lib.hid (fun W => pvalid_any d.x d.y W)
  unfold Ba.Point.val
  obtain ⟨x, y⟩ := d
  simp only at *
  generalize Ba.ptB x y = q at *
  go_enter Try.func84, Try.ntmps84
  go_wp2_with fail
  refine (HP.out _).mono ?_
  rintro e w2 ⟨rfl, hb2⟩
  clear HP
  go_wp2_with fail
  go_ret
  exact ⟨rfl, gr_auto⟩

set_option maxRecDepth 100000 in
set_option maxHeartbeats 4000000 in
theorem all3_any (b : Nat) (x y x1 y1 x2 y2 : Int) (w : World) (c0 : w.cell? ⟨b, 0, none⟩ = some (.int .i64 x)) (c1 : w.cell? ⟨b, 1, none⟩ = some (.int .i64 y)) (c2 : w.cell? ⟨b, 2, none⟩ = some (.int .i64 x1)) (c3 : w.cell? ⟨b, 3, none⟩ = some (.int .i64 y1)) (c4 : w.cell? ⟨b, 4, none⟩ = some (.int .i64 x2)) (c5 : w.cell? ⟨b, 5, none⟩ = some (.int .i64 y2)) (h : Ba.ptB x y = true) (h1 : Ba.ptB x1 y1 = true) (h2 : Ba.ptB x2 y2 = true) : Calls Try.prog 57 #[.slice (some ⟨b, 0, none⟩) 3 3] w fun e w' => e = .returned (.bool true) ∧ Gr w w' := by
  have i64of : ∀ {a c : Int}, Ba.ptB a c = true → Ba.i64 a ∧ Ba.i64 c := fun {a c} h => by
    rw [Ba.ptB_iff] at h; unfold Ba.i64; omega
  have HC := Lib.hid (has_point 84 #[] ⟨some ⟨b, 0, none⟩, 3, 3, b, 0, fun i => if i = 0 then ⟨x, y⟩ else if i = 1 then ⟨x1, y1⟩ else ⟨x2, y2⟩⟩ (fun i => !Ba.ptB ((if i = 0 then (⟨x, y⟩ : Ba.Point) else if i = 1 then ⟨x1, y1⟩ else ⟨x2, y2⟩).x) ((if i = 0 then (⟨x, y⟩ : Ba.Point) else if i = 1 then ⟨x1, y1⟩ else ⟨x2, y2⟩).y)) w ⟨fun _ => rfl, Nat.le_refl _, by simp only; omega, fun i hi => by
    rcases (by simp only at hi; omega : i = 0 ∨ i = 1 ∨ i = 2) with rfl | rfl | rfl
    · exact ⟨⟨c0, c1⟩, i64of h⟩
    · exact ⟨⟨c2, c3⟩, i64of h1⟩
    · exact ⟨⟨c4, c5⟩, i64of h2⟩⟩ (enter_of Try.func84 (by kernel_rfl) (by kernel_rfl)) fun i hi W' hW => allf_any _ W')
  have e : Ba.any (fun i => !Ba.ptB ((if i = 0 then (⟨x, y⟩ : Ba.Point) else if i = 1 then ⟨x1, y1⟩ else ⟨x2, y2⟩).x) ((if i = 0 then (⟨x, y⟩ : Ba.Point) else if i = 1 then ⟨x1, y1⟩ else ⟨x2, y2⟩).y)) 3 = false := by
    cases q : Ba.any (fun i => !Ba.ptB ((if i = 0 then (⟨x, y⟩ : Ba.Point) else if i = 1 then ⟨x1, y1⟩ else ⟨x2, y2⟩).x) ((if i = 0 then (⟨x, y⟩ : Ba.Point) else if i = 1 then ⟨x1, y1⟩ else ⟨x2, y2⟩).y)) 3
    · rfl
    · obtain ⟨i, hi, hp⟩ := (Ba.any_iff _ _).1 q
      rcases (by omega : i = 0 ∨ i = 1 ∨ i = 2) with rfl | rfl | rfl
      · simp [h] at hp
      · simp [h1] at hp
      · simp [h2] at hp
  rw [e] at HC
  clear e h h1 h2 c0 c1 c2 c3 c4 c5 i64of
  simp only at HC
  go_enter Try.func57, Try.ntmps57
  go_wp2_with fail
  refine HC.out.mono ?_
  rintro e w1 ⟨rfl, hb1⟩
  clear HC
  go_wp2_with fail
  go_ret
  exact ⟨rfl, hb1⟩

set_option maxRecDepth 100000 in
set_option maxHeartbeats 4000000 in
theorem nearp_any (ax ay bx by_ cx cy : Int) (w : World) (h : Ba.ptB ax ay = true) (k : Ba.ptB bx by_ = true) (l : Ba.ptB cx cy = true) : Calls Try.prog 32 #[.agg #[.int .i64 ax, .int .i64 ay], .agg #[.int .i64 bx, .int .i64 by_], .agg #[.int .i64 cx, .int .i64 cy]] w fun e w' => e = .returned (.tuple #[.int .i64 (Ba.cmI (Ba.sqI ax ay bx by_) (Ba.sqI ax ay cx cy)), .int .i64 0]) ∧ Gr w w' := by
  have H1 := Lib.hid (fun W => psq_any ax ay bx by_ W h k); have H2 := Lib.hid (fun W => psq_any ax ay cx cy W h l)
  have H3 := Lib.hid (fun W => cmp_any (Ba.sqI ax ay bx by_) (Ba.sqI ax ay cx cy) W)
  have HA := Lib.hid (fun B W c0 c1 c2 c3 c4 c5 => all3_any B ax ay bx by_ cx cy W c0 c1 c2 c3 c4 c5 h k l)
  clear h k l
  generalize Ba.sqI ax ay bx by_ = d1 at *
  generalize Ba.sqI ax ay cx cy = d2 at *
  generalize Ba.cmI d1 d2 = r at *
  go_enter Try.func32, Try.ntmps32
  go_wp2_with fail
  (first | refine name_world ?_ | refine (show (∀ W, W = _ → Calls _ _ _ W _) → Calls _ _ _ _ _ from fun h => h _ rfl) ?_); intro W1 hW1
  have g1 : Gr w W1 := by rw [hW1]; exact gr_auto
  have k1_0 : W1.cell? ⟨w.heap.size, 0, none⟩ = some (.int .i64 ax) := by rw [hW1]; first | (simp [go_sem, *]; done) | (refine Gr.at ?_ (by assumption); exact gr_auto)
  have b1_0 : w.heap.size < W1.heap.size := World.block_lt_of_cell? _ _ k1_0
  have k1_1 : W1.cell? ⟨w.heap.size, 1, none⟩ = some (.int .i64 ay) := by rw [hW1]; first | (simp [go_sem, *]; done) | (refine Gr.at ?_ (by assumption); exact gr_auto)
  have k1_2 : W1.cell? ⟨w.heap.size + 1, 0, none⟩ = some (.int .i64 bx) := by rw [hW1]; first | (simp [go_sem, *]; done) | (refine Gr.at ?_ (by assumption); exact gr_auto)
  have b1_2 : w.heap.size + 1 < W1.heap.size := World.block_lt_of_cell? _ _ k1_2
  have k1_3 : W1.cell? ⟨w.heap.size + 1, 1, none⟩ = some (.int .i64 by_) := by rw [hW1]; first | (simp [go_sem, *]; done) | (refine Gr.at ?_ (by assumption); exact gr_auto)
  have k1_4 : W1.cell? ⟨w.heap.size + 1 + 1, 0, none⟩ = some (.int .i64 cx) := by rw [hW1]; first | (simp [go_sem, *]; done) | (refine Gr.at ?_ (by assumption); exact gr_auto)
  have b1_4 : w.heap.size + 1 + 1 < W1.heap.size := World.block_lt_of_cell? _ _ k1_4
  have k1_5 : W1.cell? ⟨w.heap.size + 1 + 1, 1, none⟩ = some (.int .i64 cy) := by rw [hW1]; first | (simp [go_sem, *]; done) | (refine Gr.at ?_ (by assumption); exact gr_auto)
  have k1_6 : W1.cell? ⟨w.heap.size + 1 + 1 + 1, 0, none⟩ = some (.int .i64 ax) := by rw [hW1]; first | (simp [go_sem, *]; done) | (refine Gr.at ?_ (by assumption); exact gr_auto)
  have b1_6 : w.heap.size + 1 + 1 + 1 < W1.heap.size := World.block_lt_of_cell? _ _ k1_6
  have k1_7 : W1.cell? ⟨w.heap.size + 1 + 1 + 1, 1, none⟩ = some (.int .i64 ay) := by rw [hW1]; first | (simp [go_sem, *]; done) | (refine Gr.at ?_ (by assumption); exact gr_auto)
  have k1_8 : W1.cell? ⟨w.heap.size + 1 + 1 + 1, 2, none⟩ = some (.int .i64 bx) := by rw [hW1]; first | (simp [go_sem, *]; done) | (refine Gr.at ?_ (by assumption); exact gr_auto)
  have k1_9 : W1.cell? ⟨w.heap.size + 1 + 1 + 1, 3, none⟩ = some (.int .i64 by_) := by rw [hW1]; first | (simp [go_sem, *]; done) | (refine Gr.at ?_ (by assumption); exact gr_auto)
  have k1_10 : W1.cell? ⟨w.heap.size + 1 + 1 + 1, 4, none⟩ = some (.int .i64 cx) := by rw [hW1]; first | (simp [go_sem, *]; done) | (refine Gr.at ?_ (by assumption); exact gr_auto)
  have k1_11 : W1.cell? ⟨w.heap.size + 1 + 1 + 1, 5, none⟩ = some (.int .i64 cy) := by rw [hW1]; first | (simp [go_sem, *]; done) | (refine Gr.at ?_ (by assumption); exact gr_auto)
  clear hW1
  refine (HA.out _ _ k1_6 k1_7 k1_8 k1_9 k1_10 k1_11).mono ?_
  rintro e w2 ⟨rfl, hb2⟩
  have g2 := g1.trans hb2
  have c0 := Gr.at hb2 k1_0; have c1 := Gr.at hb2 k1_1; have c2 := Gr.at hb2 k1_2; have c3 := Gr.at hb2 k1_3; have c4 := Gr.at hb2 k1_4; have c5 := Gr.at hb2 k1_5
  clear HA k1_0 k1_1 k1_2 k1_3 k1_4 k1_5 k1_6 k1_7 k1_8 k1_9 k1_10 k1_11
  go_wp2_with fail
  (first | refine name_world ?_ | refine (show (∀ W, W = _ → Calls _ _ _ W _) → Calls _ _ _ _ _ from fun h => h _ rfl) ?_); intro W3 hW3
  have g3 : Gr w W3 := by rw [hW3]; exact gr_auto
  have gb3_w2 : Gr w2 W3 := by (try clear g3); rw [hW3]; exact gr_auto
  have k3_0 : W3.cell? ⟨w.heap.size, 0, none⟩ = some (.int .i64 ax) := by rw [hW3]; first | (simp [go_sem, *]; done) | (refine Gr.at ?_ (by assumption); exact gr_auto)
  have b3_0 : w.heap.size < W3.heap.size := World.block_lt_of_cell? _ _ k3_0
  have k3_1 : W3.cell? ⟨w.heap.size, 1, none⟩ = some (.int .i64 ay) := by rw [hW3]; first | (simp [go_sem, *]; done) | (refine Gr.at ?_ (by assumption); exact gr_auto)
  have k3_2 : W3.cell? ⟨w.heap.size + 1, 0, none⟩ = some (.int .i64 bx) := by rw [hW3]; first | (simp [go_sem, *]; done) | (refine Gr.at ?_ (by assumption); exact gr_auto)
  have b3_2 : w.heap.size + 1 < W3.heap.size := World.block_lt_of_cell? _ _ k3_2
  have k3_3 : W3.cell? ⟨w.heap.size + 1, 1, none⟩ = some (.int .i64 by_) := by rw [hW3]; first | (simp [go_sem, *]; done) | (refine Gr.at ?_ (by assumption); exact gr_auto)
  have k3_4 : W3.cell? ⟨w.heap.size + 1 + 1, 0, none⟩ = some (.int .i64 cx) := by rw [hW3]; first | (simp [go_sem, *]; done) | (refine Gr.at ?_ (by assumption); exact gr_auto)
  have b3_4 : w.heap.size + 1 + 1 < W3.heap.size := World.block_lt_of_cell? _ _ k3_4
  have k3_5 : W3.cell? ⟨w.heap.size + 1 + 1, 1, none⟩ = some (.int .i64 cy) := by rw [hW3]; first | (simp [go_sem, *]; done) | (refine Gr.at ?_ (by assumption); exact gr_auto)
  clear hW3
  have s3_0 : ∀ gw : GW W3, gw.1.cell? ⟨w.heap.size, 0, none⟩ = some (.int .i64 ax) := fun gw => Gr.at gw.2 k3_0
  have s3_1 : ∀ gw : GW W3, gw.1.cell? ⟨w.heap.size, 1, none⟩ = some (.int .i64 ay) := fun gw => Gr.at gw.2 k3_1
  have s3_2 : ∀ gw : GW W3, gw.1.cell? ⟨w.heap.size + 1, 0, none⟩ = some (.int .i64 bx) := fun gw => Gr.at gw.2 k3_2
  have s3_3 : ∀ gw : GW W3, gw.1.cell? ⟨w.heap.size + 1, 1, none⟩ = some (.int .i64 by_) := fun gw => Gr.at gw.2 k3_3
  have s3_4 : ∀ gw : GW W3, gw.1.cell? ⟨w.heap.size + 1 + 1, 0, none⟩ = some (.int .i64 cx) := fun gw => Gr.at gw.2 k3_4
  have s3_5 : ∀ gw : GW W3, gw.1.cell? ⟨w.heap.size + 1 + 1, 1, none⟩ = some (.int .i64 cy) := fun gw => Gr.at gw.2 k3_5
  have S1 := Lib.hid (fun gw : GW W3 => gw_call (H1.out gw.1))
  have S2 := Lib.hid (fun gw : GW W3 => gw_call (H2.out gw.1))
  have S3 := Lib.hid (fun gw : GW W3 => gw_call (H3.out gw.1))
  refine wp_region_gr (by kernel_rfl) (by kernel_rfl) ?_
  repeat (go_big_quiet_step (first | (go_at_call 59; with_reducible exact S1.out _) | (go_at_call 59; with_reducible exact S2.out _) | (go_at_call 58; exact S3.out _)))
  refine wpQuiet_nil ?_
  intro w4 hb4
  clear s3_0 s3_1 s3_2 s3_3 s3_4 s3_5
  have g4 : Gr w w4 := g3.trans hb4
  have k3_0 := Gr.at hb4 k3_0
  have k3_1 := Gr.at hb4 k3_1
  have k3_2 := Gr.at hb4 k3_2
  have k3_3 := Gr.at hb4 k3_3
  have k3_4 := Gr.at hb4 k3_4
  have k3_5 := Gr.at hb4 k3_5
  go_wp2_with fail
  refine bodyPost_ret (by simp [results, Try.results32, go_sem]; try rfl) rfl ?_
  exact ⟨rfl, g4⟩
end Go.Proofs.Ytnfjebfmfjpepaa
