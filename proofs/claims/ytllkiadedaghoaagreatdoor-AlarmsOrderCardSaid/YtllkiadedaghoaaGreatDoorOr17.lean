/-
  Alarms: ordered. Typed.
  Alarms: slices.Values at messages, its closure. Typed.
-/
import Derived.Test.YtllkiadedaghoaaGreatDoorOr16
import Derived.Test.YtllkiadedaghoaaGreatDoorOr12
import Derived.RangeFuncBox
import Derived.RangeFuncLeaves
import Derived.RangeFuncGives
import Derived.Shelf.Abstract
import Derived.WalkKit
import Derived.OwnWalkIn
import Derived.TacticsInMore
import Derived.LoopNIn
import Derived.LoopIn
set_option linter.unusedVariables false
set_option linter.unusedSimpArgs false
namespace Go.Proofs.YtllkiadedaghoaaGreatDoor
open Go.RowKit Go.Sort Go.Shelf
attribute [local go_sem ↓] Go.wp_at_zero Go.wp_at_succ
set_option maxRecDepth 100000 in
theorem ordered_any (R c : Nat) (d : List Al.A) (w : World) (hR : R < w.heap.size) (hV : ∀ a ∈ d, a.At w ∧ a.b ≠ R) (hne : d ≠ []) (hH : Al.RowE Al.A.enc 4 w R d) (hsz : d.length ≤ 1000000) :
    Calls Tryz.prog 68 #[.slice (some ⟨R, 0, none⟩) d.length c] w fun e w' => e = .returned (.slice (some ⟨R, 0, none⟩) d.length c) ∧ ∃ d' : List Al.A, d.Perm d' ∧ d'.Pairwise (fun a b => Al.ccmp a.con b.con ≤ 0) ∧ Al.RowE Al.A.enc 4 w' R d' ∧ GrX R w w' := by
  have HS := Lib.hid (sortA_any R c d w hR hV hne hH hsz)
  clear hR hV hne hH hsz
  generalize hn : d.length = n at *
  clear hn
  go_enter Tryz.func68, Tryz.ntmps68
  go_wp2_with fail
  refine HS.out.mono ?_
  rintro e w1 ⟨rfl, h⟩
  clear HS
  go_wp2_with fail
  go_ret
  exact ⟨rfl, h⟩
theorem ordered_none (p : Option Addr) (c : Nat) (w : World) :
    Calls Tryz.prog 68 #[.slice p 0 c] w fun e w' => e = .returned (.slice p 0 c) ∧ w' = w := by
  have HS := Lib.hid (show Calls Tryz.prog 107 #[.slice p 0 c, .func (.func 35) #[] #[]] w (fun e w' => e = .returned (.tuple #[]) ∧ w' = w) from AnyF.slices_SortFunc_none Tryz.sortAlarms p c _ w)
  go_enter Tryz.func68, Tryz.ntmps68
  go_wp2_with fail
  refine HS.out.mono ?_
  rintro e w1 ⟨rfl, rfl⟩
  clear HS
  go_wp2_with fail
  go_ret
  exact ⟨rfl, rfl⟩
end Go.Proofs.YtllkiadedaghoaaGreatDoor
set_option linter.unusedVariables false
set_option linter.unusedSimpArgs false
namespace Go.Proofs.YtllkiadedaghoaaGreatDoor
open Go.RowKit Go.Shelf
attribute [local go_sem] Oper.semAt_some
namespace Al
def upto {α : Type} (f : Nat → α) (k : Nat) : List α := (List.range k).map f
theorem upto_succ {α : Type} (f : Nat → α) (k : Nat) : upto f (k + 1) = upto f k ++ [f k] := by simp [upto, List.range_succ]
theorem upto_length {α : Type} (f : Nat → α) (k : Nat) : (upto f k).length = k := by simp [upto]
def M.one (m : M) : Value := .agg #[.string m.nd, .int .i64 m.nu, .int .i64 m.tm, .int .i64 m.ar, .int .i64 m.lv]
end Al
set_option maxRecDepth 100000 in
set_option maxHeartbeats 4000000 in
/-- The closure of slices.Values: for every loop body that keeps what lay below n₀. -/
theorem values1_in (F : Fence) (n : Nat) (h7 : F.fn 204) (hro : F.round = none) (hn : 1 ≤ n) (l Bs n₀ b off len cap : Nat) (D : Nat → Al.M) (hreach : len ≤ 1000000) (hb : b < n₀) (J Jx : List Al.M → World → Prop)
    (hY : ∀ pre x W, J pre W → pre.length < len → YieldAt F (n - 1) Tryz.prog l #[x.one] W fun e W' =>
      (e = .returned (.bool true) ∧ J (pre ++ [x]) W' ∧ Below n₀ W W') ∨ (e = .returned (.bool false) ∧ Jx (pre ++ [x]) W'))
    (W : World) (hJ : AbidesFrom W.heap.size J) (hn₀ : n₀ ≤ W.heap.size) (hBs : W.cell? ⟨Bs, 0, none⟩ = some (.slice (some ⟨b, off, none⟩) len cap)) (hc : ∀ j, j < len → (D j).Cells W b (off + j * 5)) (h0 : J [] W) :
    CallsIn F n Tryz.prog 204 #[.func (.yield l) #[] #[], .pointer (some ⟨Bs, 0, none⟩)] W fun e W' => (∃ v, e = .returned v) ∧
      ((∃ ys, ys = Al.upto D len ∧ J ys W') ∨ (∃ pre, (∃ k, k ≤ len ∧ pre = Al.upto D k) ∧ Jx pre W')) := by
  refine callsIn_of_wp Tryz.func204 rfl h7 ?_ hro
  simp only [Tryz.ntmps204, List.size_toArray, List.length_cons, List.length_nil, Nat.reduceAdd, Nat.reduceSub, Array.replicate_succ, Array.replicate_zero, List.push_toArray, List.append_toArray, List.nil_append, List.cons_append]
  gi_wp2
  gi_loopw [7] (fun i wr => ∃ k : Nat, k ≤ len ∧ i = .int .i64 k ∧ J (Al.upto D k) wr ∧ Below n₀ W wr)
    (fun i _ => len - (intOf i).toNat)
  case atStart => exact ⟨0, Nat.zero_le _, rfl, h0, Below.refl _ _⟩
  case round =>
    obtain ⟨k, hk, rfl, hJs, hnx⟩ := hrel
    by_cases hlt : k < len
    · obtain ⟨c0, c1, c2, c3, c4⟩ := hc k hlt
      have ib0 : (0 : Int) ≤ (k : Int) := by omega
      have ib1 : (k : Int) < (len : Int) := by omega
      have d0 := (hnx.cell (p := ⟨b, off + k * 5, none⟩) hb).trans c0
      have d1 := (hnx.cell (p := ⟨b, off + k * 5 + 1, none⟩) hb).trans c1
      have d2 := (hnx.cell (p := ⟨b, off + k * 5 + 2, none⟩) hb).trans c2
      have d3 := (hnx.cell (p := ⟨b, off + k * 5 + 3, none⟩) hb).trans c3
      have d4 := (hnx.cell (p := ⟨b, off + k * 5 + 4, none⟩) hb).trans c4
      obtain ⟨W2, hW2⟩ : ∃ W2, W2 = wr.alloc (.cells #[.string (D k).nd, .int .i64 (D k).nu, .int .i64 (D k).tm, .int .i64 (D k).ar, .int .i64 (D k).lv] 53) := ⟨_, rfl⟩
      have hg2 : wr.grownBy W2 none := by rw [hW2]; exact World.grownBy_alloc _ _ none
      obtain ⟨fn, tmps, assign, body, hy, hR⟩ := hY _ (D k) W2 (hJ _ _ _ _ hJs hg2 (fun r e => by cases e)) (by rw [Al.upto_length]; exact hlt)
      have hbw : Below n₀ W W2 := by rw [hW2]; exact hnx.alloc (Nat.le_trans hn₀ hnx.size) _
      unfold Al.M.one at hy
      subst hW2
      gi_wp2
      refine hR.mono ?_
      rintro e W3 (⟨rfl, hJ3, hk3⟩ | ⟨rfl, hJx3⟩)
      · gi_wp2
        go_roundw
        case rel => exact ⟨k + 1, by omega, by simp, by rw [Al.upto_succ]; exact hJ3, hbw.trans hk3⟩
        case measure => simp [intOf]; omega
      · gi_wp2
        refine bodyPost_ret (results_none rfl _ _ _) rfl ?_
        exact ⟨⟨_, rfl⟩, .inr ⟨_, ⟨k + 1, by omega, (Al.upto_succ _ _).symm⟩, hJx3⟩⟩
    · obtain rfl : k = len := by omega
      gi_wp2
      go_end0
      exact ⟨⟨_, rfl⟩, .inl ⟨_, rfl, hJs⟩⟩
/-- The nil slice: no round. -/
theorem values1_nil_in (F : Fence) (n : Nat) (h7 : F.fn 204) (hro : F.round = none) (l Bs : Nat) (A : Option Addr) (cap : Nat) (J : List Al.M → World → Prop) (W : World) (hBs : W.cell? ⟨Bs, 0, none⟩ = some (.slice A 0 cap)) (h0 : J [] W) :
    CallsIn F n Tryz.prog 204 #[.func (.yield l) #[] #[], .pointer (some ⟨Bs, 0, none⟩)] W fun e W' => (∃ v, e = .returned v) ∧ J [] W' := by
  refine callsIn_of_wp Tryz.func204 rfl h7 ?_ hro
  simp only [Tryz.ntmps204, List.size_toArray, List.length_cons, List.length_nil, Nat.reduceAdd, Nat.reduceSub, Array.replicate_succ, Array.replicate_zero, List.push_toArray, List.append_toArray, List.nil_append, List.cons_append]
  gi_wp2
  gi_loopw [7] (fun i wr => i = .int .i64 0 ∧ J [] wr) (fun _ _ => 0)
  case atStart => exact ⟨rfl, h0⟩
  case round =>
    obtain ⟨rfl, hJs⟩ := hrel
    gi_wp2
    go_end0
    exact ⟨⟨_, rfl⟩, hJs⟩
/-- slices.Values. -/
theorem values_in (F : Fence) (n : Nat) (h5 : F.fn 189) (hro : F.round = none) (a : Option Addr) (len cap : Nat) (w : World) :
    CallsIn F n Tryz.prog 189 #[.slice a len cap] w fun e w' => e = .returned (.func (.func 204) #[] #[.pointer (some ⟨w.heap.size, 0, none⟩)]) ∧ ∃ t, w' = w.alloc (.cells #[.slice a len cap] t) := by
  refine callsIn_of_wp Tryz.func189 rfl h5 ?_ hro
  simp only [Tryz.ntmps189, List.size_toArray, List.length_cons, List.length_nil, Nat.reduceAdd, Nat.reduceSub, Array.replicate_succ, Array.replicate_zero, List.push_toArray, List.append_toArray, List.nil_append, List.cons_append]
  gi_wp2
  go_ret
  exact ⟨rfl, _, rfl⟩
/-- What slices.Values hands back gives the slice's messages, in order; a loop may leave early. -/
theorem values_stops (F : Fence) (n : Nat) (h7 : F.fn 204) (hro : F.round = none) (hn : 1 ≤ n) (Bs n₀ : Nat) (s : Al.SlM) (hreach : s.n ≤ 1000000) (w : World) (hBs : Bs < w.heap.size) (hn₀ : n₀ ≤ w.heap.size) (hs0 : 0 < s.n → s.b < n₀)
    (hc : w.cell? ⟨Bs, 0, none⟩ = some (.slice s.A s.n s.c)) (hI : s.At w) :
    SeqStopsK F n Tryz.prog 204 #[.pointer (some ⟨Bs, 0, none⟩)] (fun x : Al.M => #[x.one]) (Below n₀) (fun ys => ys = s.lst) (fun pre => pre <+: s.lst) s.n w := fun l J Jx W hW hJ _ hY h0 => by
  have hc' := (hW.cell (p := ⟨Bs, 0, none⟩) hBs).trans hc
  have hWs : w.heap.size ≤ W.heap.size := hW.size
  rcases Nat.eq_zero_or_pos s.n with z | z
  · rw [z] at hc'
    refine (values1_nil_in F n h7 hro l Bs s.A s.c J W hc' h0).mono fun e W' ⟨he, hj⟩ => ⟨he, .inl ⟨_, ?_, hj⟩⟩
    unfold Al.SlM.lst; rw [z]; rfl
  · rw [hI.hA z] at hc'
    have hI' : ∀ j, j < s.n → (s.D j).Cells W s.b (s.o + j * 5) := fun j hj => by
      obtain ⟨h0, h1, h2, h3, h4⟩ := (hI.hD j hj).1
      have up : ∀ {o : Nat} {v : Value}, w.cell? ⟨s.b, o, none⟩ = some v → W.cell? ⟨s.b, o, none⟩ = some v := fun {o v} h => (hW.cell (p := ⟨s.b, o, none⟩) (Nat.lt_of_lt_of_le (hs0 z) hn₀)).trans h
      exact ⟨up h0, up h1, up h2, up h3, up h4⟩
    refine (values1_in F n h7 hro hn l Bs n₀ s.b s.o s.n s.c s.D hreach (hs0 z) J Jx hY W hJ (Nat.le_trans hn₀ hWs) hc' hI' h0).mono ?_
    rintro e W' ⟨he, ⟨ys, rfl, hj⟩ | ⟨pre, ⟨k, hk, rfl⟩, hj⟩⟩
    · exact ⟨he, .inl ⟨_, rfl, hj⟩⟩
    · refine ⟨he, .inr ⟨_, ?_, hj⟩⟩
      unfold Al.SlM.lst Al.upto
      rw [show s.n = k + (s.n - k) by omega, List.range_add, List.map_append]
      exact List.prefix_append _ _
end Go.Proofs.YtllkiadedaghoaaGreatDoor
