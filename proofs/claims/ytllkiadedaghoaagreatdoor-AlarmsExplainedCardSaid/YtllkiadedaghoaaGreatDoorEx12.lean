/-
  Alarms: ordered. Typed.
  Alarms: slices.Values at messages, its closure. Typed.
  Alarms: slices.AppendSeq over slices.Values at messages. Typed.
  Alarms: slices.Collect and slices.SortedFunc over slices.Values at messages. Typed.
  Alarms: slices.SortedFunc over slices.Values at messages: the messages in order. Typed.
-/
import Derived.Test.YtllkiadedaghoaaGreatDoorEx11
import Derived.Test.YtllkiadedaghoaaGreatDoorEx08
import Derived.Test.YtllkiadedaghoaaGreatDoorEx09
import Derived.RangeFuncBox
import Derived.RangeFuncLeaves
import Derived.RangeFuncGives
import Derived.Shelf.Abstract
import Derived.WalkKit
import Derived.OwnWalkIn
import Derived.TacticsInMore
import Derived.LoopNIn
import Derived.LoopIn
import Derived.RangeFuncNested
import Derived.RangeFuncBound
import Derived.RangeFuncCalls
import Derived.Maps.AppendAt
set_option linter.unusedVariables false
set_option linter.unusedSimpArgs false
namespace Go.Proofs.YtllkiadedaghoaaGreatDoor
open Go.RowKit Go.Sort Go.Shelf
attribute [local go_sem ↓] Go.wp_at_zero Go.wp_at_succ
set_option maxRecDepth 100000 in
theorem ordered_any (R c : Nat) (d : List Al.A) (w : World) (hR : R < w.heap.size) (hV : ∀ a ∈ d, a.At w ∧ a.b ≠ R) (hne : d ≠ []) (hH : Al.RowE Al.A.enc 4 w R d) (hsz : d.length ≤ 1000000) :
    Calls Tryz.prog 68 #[.slice (some ⟨R, 0, none⟩) d.length c] w fun e w' => e = .returned (.slice (some ⟨R, 0, none⟩) d.length c) ∧ ∃ d' : List Al.A, d.Perm d' ∧ d'.Pairwise (fun a b => Al.ccmp a.con b.con ≤ 0) ∧ Al.RowE Al.A.enc 4 w' R d' ∧ GrX R w w' := by
  have HS := Lib.hid (sortA_any R c d w hR hV hne hH hsz)
  clear hR hV hne hH hsz
  generalize hn : d.length = n at *
  clear hn
  go_enter Tryz.func68, Tryz.ntmps68
  go_wp2_with fail
  refine HS.out.mono ?_
  rintro e w1 ⟨rfl, h⟩
  clear HS
  go_wp2_with fail
  go_ret
  exact ⟨rfl, h⟩
theorem ordered_none (p : Option Addr) (c : Nat) (w : World) :
    Calls Tryz.prog 68 #[.slice p 0 c] w fun e w' => e = .returned (.slice p 0 c) ∧ w' = w := by
  have HS := Lib.hid (show Calls Tryz.prog 107 #[.slice p 0 c, .func (.func 35) #[] #[]] w (fun e w' => e = .returned (.tuple #[]) ∧ w' = w) from AnyF.slices_SortFunc_none Tryz.sortAlarms p c _ w)
  go_enter Tryz.func68, Tryz.ntmps68
  go_wp2_with fail
  refine HS.out.mono ?_
  rintro e w1 ⟨rfl, rfl⟩
  clear HS
  go_wp2_with fail
  go_ret
  exact ⟨rfl, rfl⟩
end Go.Proofs.YtllkiadedaghoaaGreatDoor
set_option linter.unusedVariables false
set_option linter.unusedSimpArgs false
namespace Go.Proofs.YtllkiadedaghoaaGreatDoor
open Go.RowKit Go.Shelf
attribute [local go_sem] Oper.semAt_some
namespace Al
def upto {α : Type} (f : Nat → α) (k : Nat) : List α := (List.range k).map f
theorem upto_succ {α : Type} (f : Nat → α) (k : Nat) : upto f (k + 1) = upto f k ++ [f k] := by simp [upto, List.range_succ]
theorem upto_length {α : Type} (f : Nat → α) (k : Nat) : (upto f k).length = k := by simp [upto]
def M.one (m : M) : Value := .agg #[.string m.nd, .int .i64 m.nu, .int .i64 m.tm, .int .i64 m.ar, .int .i64 m.lv]
end Al
set_option maxRecDepth 100000 in
set_option maxHeartbeats 4000000 in
/-- The closure of slices.Values: for every loop body that keeps what lay below n₀. -/
theorem values1_in (F : Fence) (n : Nat) (h7 : F.fn 204) (hro : F.round = none) (hn : 1 ≤ n) (l Bs n₀ b off len cap : Nat) (D : Nat → Al.M) (hreach : len ≤ 1000000) (hb : b < n₀) (J Jx : List Al.M → World → Prop)
    (hY : ∀ pre x W, J pre W → pre.length < len → YieldAt F (n - 1) Tryz.prog l #[x.one] W fun e W' =>
      (e = .returned (.bool true) ∧ J (pre ++ [x]) W' ∧ Below n₀ W W') ∨ (e = .returned (.bool false) ∧ Jx (pre ++ [x]) W'))
    (W : World) (hJ : AbidesFrom W.heap.size J) (hn₀ : n₀ ≤ W.heap.size) (hBs : W.cell? ⟨Bs, 0, none⟩ = some (.slice (some ⟨b, off, none⟩) len cap)) (hc : ∀ j, j < len → (D j).Cells W b (off + j * 5)) (h0 : J [] W) :
    CallsIn F n Tryz.prog 204 #[.func (.yield l) #[] #[], .pointer (some ⟨Bs, 0, none⟩)] W fun e W' => (∃ v, e = .returned v) ∧
      ((∃ ys, ys = Al.upto D len ∧ J ys W') ∨ (∃ pre, (∃ k, k ≤ len ∧ pre = Al.upto D k) ∧ Jx pre W')) := by
  refine callsIn_of_wp Tryz.func204 rfl h7 ?_ hro
  simp only [Tryz.ntmps204, List.size_toArray, List.length_cons, List.length_nil, Nat.reduceAdd, Nat.reduceSub, Array.replicate_succ, Array.replicate_zero, List.push_toArray, List.append_toArray, List.nil_append, List.cons_append]
  gi_wp2
  gi_loopw [7] (fun i wr => ∃ k : Nat, k ≤ len ∧ i = .int .i64 k ∧ J (Al.upto D k) wr ∧ Below n₀ W wr)
    (fun i _ => len - (intOf i).toNat)
  case atStart => exact ⟨0, Nat.zero_le _, rfl, h0, Below.refl _ _⟩
  case round =>
    obtain ⟨k, hk, rfl, hJs, hnx⟩ := hrel
    by_cases hlt : k < len
    · obtain ⟨c0, c1, c2, c3, c4⟩ := hc k hlt
      have ib0 : (0 : Int) ≤ (k : Int) := by omega
      have ib1 : (k : Int) < (len : Int) := by omega
      have d0 := (hnx.cell (p := ⟨b, off + k * 5, none⟩) hb).trans c0
      have d1 := (hnx.cell (p := ⟨b, off + k * 5 + 1, none⟩) hb).trans c1
      have d2 := (hnx.cell (p := ⟨b, off + k * 5 + 2, none⟩) hb).trans c2
      have d3 := (hnx.cell (p := ⟨b, off + k * 5 + 3, none⟩) hb).trans c3
      have d4 := (hnx.cell (p := ⟨b, off + k * 5 + 4, none⟩) hb).trans c4
      obtain ⟨W2, hW2⟩ : ∃ W2, W2 = wr.alloc (.cells #[.string (D k).nd, .int .i64 (D k).nu, .int .i64 (D k).tm, .int .i64 (D k).ar, .int .i64 (D k).lv] 53) := ⟨_, rfl⟩
      have hg2 : wr.grownBy W2 none := by rw [hW2]; exact World.grownBy_alloc _ _ none
      obtain ⟨fn, tmps, assign, body, hy, hR⟩ := hY _ (D k) W2 (hJ _ _ _ _ hJs hg2 (fun r e => by cases e)) (by rw [Al.upto_length]; exact hlt)
      have hbw : Below n₀ W W2 := by rw [hW2]; exact hnx.alloc (Nat.le_trans hn₀ hnx.size) _
      unfold Al.M.one at hy
      subst hW2
      gi_wp2
      refine hR.mono ?_
      rintro e W3 (⟨rfl, hJ3, hk3⟩ | ⟨rfl, hJx3⟩)
      · gi_wp2
        go_roundw
        case rel => exact ⟨k + 1, by omega, by simp, by rw [Al.upto_succ]; exact hJ3, hbw.trans hk3⟩
        case measure => simp [intOf]; omega
      · gi_wp2
        refine bodyPost_ret (results_none rfl _ _ _) rfl ?_
        exact ⟨⟨_, rfl⟩, .inr ⟨_, ⟨k + 1, by omega, (Al.upto_succ _ _).symm⟩, hJx3⟩⟩
    · obtain rfl : k = len := by omega
      gi_wp2
      go_end0
      exact ⟨⟨_, rfl⟩, .inl ⟨_, rfl, hJs⟩⟩
/-- The nil slice: no round. -/
theorem values1_nil_in (F : Fence) (n : Nat) (h7 : F.fn 204) (hro : F.round = none) (l Bs : Nat) (A : Option Addr) (cap : Nat) (J : List Al.M → World → Prop) (W : World) (hBs : W.cell? ⟨Bs, 0, none⟩ = some (.slice A 0 cap)) (h0 : J [] W) :
    CallsIn F n Tryz.prog 204 #[.func (.yield l) #[] #[], .pointer (some ⟨Bs, 0, none⟩)] W fun e W' => (∃ v, e = .returned v) ∧ J [] W' := by
  refine callsIn_of_wp Tryz.func204 rfl h7 ?_ hro
  simp only [Tryz.ntmps204, List.size_toArray, List.length_cons, List.length_nil, Nat.reduceAdd, Nat.reduceSub, Array.replicate_succ, Array.replicate_zero, List.push_toArray, List.append_toArray, List.nil_append, List.cons_append]
  gi_wp2
  gi_loopw [7] (fun i wr => i = .int .i64 0 ∧ J [] wr) (fun _ _ => 0)
  case atStart => exact ⟨rfl, h0⟩
  case round =>
    obtain ⟨rfl, hJs⟩ := hrel
    gi_wp2
    go_end0
    exact ⟨⟨_, rfl⟩, hJs⟩
/-- slices.Values. -/
theorem values_in (F : Fence) (n : Nat) (h5 : F.fn 189) (hro : F.round = none) (a : Option Addr) (len cap : Nat) (w : World) :
    CallsIn F n Tryz.prog 189 #[.slice a len cap] w fun e w' => e = .returned (.func (.func 204) #[] #[.pointer (some ⟨w.heap.size, 0, none⟩)]) ∧ ∃ t, w' = w.alloc (.cells #[.slice a len cap] t) := by
  refine callsIn_of_wp Tryz.func189 rfl h5 ?_ hro
  simp only [Tryz.ntmps189, List.size_toArray, List.length_cons, List.length_nil, Nat.reduceAdd, Nat.reduceSub, Array.replicate_succ, Array.replicate_zero, List.push_toArray, List.append_toArray, List.nil_append, List.cons_append]
  gi_wp2
  go_ret
  exact ⟨rfl, _, rfl⟩
/-- What slices.Values hands back gives the slice's messages, in order; a loop may leave early. -/
theorem values_stops (F : Fence) (n : Nat) (h7 : F.fn 204) (hro : F.round = none) (hn : 1 ≤ n) (Bs n₀ : Nat) (s : Al.SlM) (hreach : s.n ≤ 1000000) (w : World) (hBs : Bs < w.heap.size) (hn₀ : n₀ ≤ w.heap.size) (hs0 : 0 < s.n → s.b < n₀)
    (hc : w.cell? ⟨Bs, 0, none⟩ = some (.slice s.A s.n s.c)) (hI : s.At w) :
    SeqStopsK F n Tryz.prog 204 #[.pointer (some ⟨Bs, 0, none⟩)] (fun x : Al.M => #[x.one]) (Below n₀) (fun ys => ys = s.lst) (fun pre => pre <+: s.lst) s.n w := fun l J Jx W hW hJ _ hY h0 => by
  have hc' := (hW.cell (p := ⟨Bs, 0, none⟩) hBs).trans hc
  have hWs : w.heap.size ≤ W.heap.size := hW.size
  rcases Nat.eq_zero_or_pos s.n with z | z
  · rw [z] at hc'
    refine (values1_nil_in F n h7 hro l Bs s.A s.c J W hc' h0).mono fun e W' ⟨he, hj⟩ => ⟨he, .inl ⟨_, ?_, hj⟩⟩
    unfold Al.SlM.lst; rw [z]; rfl
  · rw [hI.hA z] at hc'
    have hI' : ∀ j, j < s.n → (s.D j).Cells W s.b (s.o + j * 5) := fun j hj => by
      obtain ⟨h0, h1, h2, h3, h4⟩ := (hI.hD j hj).1
      have up : ∀ {o : Nat} {v : Value}, w.cell? ⟨s.b, o, none⟩ = some v → W.cell? ⟨s.b, o, none⟩ = some v := fun {o v} h => (hW.cell (p := ⟨s.b, o, none⟩) (Nat.lt_of_lt_of_le (hs0 z) hn₀)).trans h
      exact ⟨up h0, up h1, up h2, up h3, up h4⟩
    refine (values1_in F n h7 hro hn l Bs n₀ s.b s.o s.n s.c s.D hreach (hs0 z) J Jx hY W hJ (Nat.le_trans hn₀ hWs) hc' hI' h0).mono ?_
    rintro e W' ⟨he, ⟨ys, rfl, hj⟩ | ⟨pre, ⟨k, hk, rfl⟩, hj⟩⟩
    · exact ⟨he, .inl ⟨_, rfl, hj⟩⟩
    · refine ⟨he, .inr ⟨_, ?_, hj⟩⟩
      unfold Al.SlM.lst Al.upto
      rw [show s.n = k + (s.n - k) by omega, List.range_add, List.map_append]
      exact List.prefix_append _ _
end Go.Proofs.YtllkiadedaghoaaGreatDoor
set_option linter.unusedVariables false
set_option linter.unusedSimpArgs false
namespace Go.Proofs.YtllkiadedaghoaaGreatDoor
open Go.RowKit Go.Shelf
attribute [local go_sem] Oper.semAt_some
namespace Al
/-- The cells of messages, one behind the other. -/
def flat (l : List M) : List Value := l.flatMap M.enc
theorem flat_snoc (l : List M) (x : M) : flat (l ++ [x]) = flat l ++ x.enc := by simp [flat]
end Al
theorem cells_new (w : World) (a : Array Value) (t : TypeId) : ∀ j u, a.toList[j]? = some u → (w.alloc (.cells a t)).cell? ((⟨w.heap.size, 0, none⟩ : Addr).add j) = some u := by
  intro j u hj
  have := World.alloc_heap_new w (.cells a t)
  have e : ((⟨w.heap.size, 0, none⟩ : Addr).add j) = ⟨w.heap.size, j, none⟩ := by
    unfold Addr.add
    split
    · rename_i h; rw [h]
    · simp
  rw [e]
  simp only [World.cell?, this]
  simpa using hj
theorem infoM : (Tryz.prog.info? 53).map (fun i => (i.zero, i.size, i.bytes)) = some (some (.agg #[.string ⟨#[]⟩, .int .i64 0, .int .i64 0, .int .i64 0, .int .i64 0]), 5, 48) := by kernel_rfl
/-- The loop variable's box. -/
def BoxM (W : World) (B : Nat) (x : Al.M) : Prop := W.heap[B]? = some (.cells x.enc.toArray 53 (0, 0))
theorem BoxM.cells {W : World} {B : Nat} {x : Al.M} (h : BoxM W B x) : x.Cells W B 0 := by
  unfold BoxM Al.M.enc at h
  refine ⟨?_, ?_, ?_, ?_, ?_⟩ <;> simp [World.cell?, h]
set_option maxRecDepth 100000 in
set_option maxHeartbeats 4000000 in
/-- slices.AppendSeq of nothing and slices.Values of a slice: a slice of its own with the same messages. -/
theorem appendSeq_in (F : Fence) (n : Nat) (h11 : F.fn 207) (h7 : F.fn 204) (hro : F.round = none) (hn : 3 ≤ n) (Bs : Nat) (s : Al.SlM) (hreach : s.n ≤ 1000000) (w : World) (hBs : Bs < w.heap.size) (hs0 : 0 < s.n → s.b < w.heap.size)
    (hc : w.cell? ⟨Bs, 0, none⟩ = some (.slice s.A s.n s.c)) (hI : s.At w) :
    CallsIn F n Tryz.prog 207 #[.slice none 0 0, .func (.func 204) #[] #[.pointer (some ⟨Bs, 0, none⟩)]] w fun e w' => ∃ v, e = .returned v ∧ w'.ownsRow w.heap.size 53 5 v s.lst.length (Al.flat s.lst) ∧ (v = .slice none 0 0 ↔ s.lst = []) ∧ Below w.heap.size w w' := by
  have h1 : 1 ≤ n := by omega
  have hlen : s.lst.length = s.n := by simp [Al.SlM.lst]
  refine callsIn_of_wp_marks Tryz.func207 rfl h11 ?_ hro
  simp only [Tryz.ntmps207, List.size_toArray, List.length_cons, List.length_nil, Nat.reduceAdd, Nat.reduceSub, Array.replicate_succ, Array.replicate_zero, List.push_toArray, List.append_toArray, List.nil_append, List.cons_append]
  obtain ⟨W0, hW0⟩ : ∃ W0, w.alloc (.cells #[.slice none 0 0] 26) = W0 := ⟨_, rfl⟩
  have hs1 : W0.heap.size = w.heap.size + 1 := by rw [← hW0]; simp
  have hB0 : Below w.heap.size w W0 := by rw [← hW0]; exact (Below.refl _ w).alloc (Nat.le_refl _) _
  have bS : Boxed W0 w.heap.size 26 (.slice none 0 0) := by rw [← hW0]; exact Boxed.new w _ _
  have hst := values_stops F (n - 1) h7 hro (by omega) Bs w.heap.size s hreach W0 (by omega) (by omega) hs0 ((hB0.cell (p := ⟨Bs, 0, none⟩) hBs).trans hc) (hI.gr hB0)
  gi_wp2
  refine wpIn_rangeFunc_ownH hro h1 (gf := 204) (lb := #[.pointer (some ⟨Bs, 0, none⟩)]) rfl h7 (enters_of Tryz.func204 (by kernel_rfl) rfl)
    hst belowK_t (belowK_b (by omega)) (Below.refl _ _) (fun _ => rfl)
    (fun pre W => (∃ v, Boxed W w.heap.size 26 v ∧ W.ownsRow w.heap.size 53 5 v pre.length (Al.flat pre) ∧ (v = .slice none 0 0 ↔ pre = [])) ∧ Below w.heap.size w W)
    (fun _ _ _ => False)
    (OwnFrom.and (Own.from (holdsRow_own w.heap.size w.heap.size 26 53 5 (fun pre : List Al.M => pre.length) (fun pre => Al.flat pre) (fun pre v => v = .slice none 0 0 ↔ pre = [])) _) (ownFrom_below (Nat.le_refl _) (by omega)))
    (fun _ _ _ _ _ hs _ _ => hs)
    ⟨⟨_, bS, World.ownsRow_nil _ _ _ _, by simp⟩, hB0⟩
    (fun x a' W => ∃ Bx, w.heap.size < Bx ∧ BoxM W Bx x ∧ a' = { tmps := #[.slice none 0 0, .func (.func 204) #[] #[.pointer (some ⟨Bs, 0, none⟩)], .pointer (some ⟨w.heap.size, 0, none⟩), undef, .slice none 0 0, .pointer (some ⟨Bx, 0, none⟩), .func (.func 204) #[] #[.pointer (some ⟨Bs, 0, none⟩)], x.one, undef, undef, undef, undef, undef], defers := [] })
    (fun x a' _ X Y row hs hg hr => by
      obtain ⟨Bx, h1, h2, h3⟩ := hs
      refine ⟨Bx, h1, ?_, h3⟩
      unfold BoxM at h2 ⊢
      refine (hg.block Bx (Array.getElem?_eq_some_iff.1 h2).1 ?_).trans h2
      intro e
      obtain ⟨_, o, ho, hcell⟩ := hr Bx e.symm
      rw [h2] at ho; cases ho; cases hcell)
    ?assign ?body ?done ?stop
  case assign =>
    rintro l pre x W K ⟨⟨v, bS1, hr1, hnil⟩, hB1⟩ hK
    unfold Al.M.one
    gi_wp2
    exact hK _ _ ((KeepsOthers.alloc _ _).from _) ((Below.refl _ W).alloc hB1.size _) ⟨⟨v, bS1.alloc _, hr1.alloc _, hnil⟩, hB1.alloc hB1.size _⟩ ⟨W.heap.size, bS1.lt, World.alloc_heap_new W _, rfl⟩
  case body =>
    rintro l pre x a' W hl ⟨r, hr⟩ ⟨⟨v, bS1, hr1, hnil⟩, hB1⟩ ⟨Bx, hBx, bX, rfl⟩ hlt
    obtain ⟨i0, hi, hz0, hz1, hz2⟩ := info_parts infoM
    obtain ⟨x0, x1, x2, x3, x4⟩ := bX.cells
    simp only [Nat.zero_add] at x1 x2 x3 x4
    have hv := bS1.cell
    have hle := hB1.size
    unfold Al.M.one
    gi_wp2_with (gi_at_builtin; refine wpListIn_append_own _ rfl _ _ 26 rfl w.heap.size 53 i0 (.agg #[.string ⟨#[]⟩, .int .i64 0, .int .i64 0, .int .i64 0, .int .i64 0]) 5 48 Tryz.underlying26 hi hz0 hz1 hz2 rfl (by decide) _ _ _ rfl (hr1.alloc _) ⟨W.heap.size, 0, none⟩ 1 1 x.enc rfl rfl (cells_new _ _ _) (by simp [Al.M.enc, Value.oneCell']) (by unfold maxLen; omega) (by omega) (by simp; omega) ?_; intro v' w1 hown' hgrow _; obtain ⟨g', cap', rfl⟩ := ownsRow_succ hown'; obtain ⟨hv1, hv2, hr2, hk2, hb2⟩ := bS1.appended (by decide) hr1 hle (Nat.le_refl _) hown' hgrow; have hc1 := hv1.cell; have hf1 := hv1.frozen)
    exact ⟨hk2.from _, hb2, ⟨_, hv2, by rw [Al.flat_snoc]; simpa using hr2, by simp⟩, hB1.trans hb2⟩
  case done =>
    rintro D2 ys W hD rfl ⟨⟨v, bS1, hr1, hnil⟩, hB1⟩ hK
    have hv := bS1.cell
    gi_wp2
    refine ⟨by simp, .inl ⟨_, _, rfl, run_takeDeferred hK, ?_⟩⟩
    exact ⟨_, results_tmp rfl _ _ _, v, rfl, ownsRow_putObj hr1 _ hK rfl, hnil, hB1.trans (belowK_b (w := w) (Nat.le_refl _) W D2 _ _ (by omega) hK rfl rfl)⟩
  case stop =>
    rintro D2 c pre W _ _ h _
    exact h.elim
end Go.Proofs.YtllkiadedaghoaaGreatDoor
set_option linter.unusedVariables false
set_option linter.unusedSimpArgs false
namespace Go.Proofs.YtllkiadedaghoaaGreatDoor
open Go.RowKit Go.Shelf
theorem collect_in (F : Fence) (n : Nat) (h8 : F.fn 202) (h11 : F.fn 207) (h7 : F.fn 204) (hro : F.round = none) (hn : 4 ≤ n) (Bs : Nat) (s : Al.SlM) (hreach : s.n ≤ 1000000) (w : World) (hBs : Bs < w.heap.size) (hs0 : 0 < s.n → s.b < w.heap.size)
    (hc : w.cell? ⟨Bs, 0, none⟩ = some (.slice s.A s.n s.c)) (hI : s.At w) :
    CallsIn F n Tryz.prog 202 #[.func (.func 204) #[] #[.pointer (some ⟨Bs, 0, none⟩)]] w fun e w' => ∃ v, e = .returned v ∧ w'.ownsRow w.heap.size 53 5 v s.lst.length (Al.flat s.lst) ∧ (v = .slice none 0 0 ↔ s.lst = []) ∧ Below w.heap.size w w' := by
  have h1 : 1 ≤ n := by omega
  have HC := Lib.hid (appendSeq_in F (n - 1) h11 h7 hro (by omega) Bs s hreach w hBs hs0 hc hI)
  clear hBs hs0 hc hI hreach
  generalize s.lst = L at *
  refine callsIn_of_wp Tryz.func202 rfl h8 ?_ hro
  simp only [Tryz.ntmps202, List.size_toArray, List.length_cons, List.length_nil, Nat.reduceAdd, Nat.reduceSub, Array.replicate_succ, Array.replicate_zero, List.push_toArray, List.append_toArray, List.nil_append, List.cons_append]
  gi_wp2_with (gi_at_call 207; refine HC.out.mono ?_; rintro e w' ⟨v, rfl, hrow, hnil, hb⟩)
  go_ret
  exact ⟨v, rfl, hrow, hnil, hb⟩
theorem collect_any (Bs : Nat) (s : Al.SlM) (hreach : s.n ≤ 1000000) (w : World) (hBs : Bs < w.heap.size) (hs0 : 0 < s.n → s.b < w.heap.size)
    (hc : w.cell? ⟨Bs, 0, none⟩ = some (.slice s.A s.n s.c)) (hI : s.At w) :
    Calls Tryz.prog 202 #[.func (.func 204) #[] #[.pointer (some ⟨Bs, 0, none⟩)]] w fun e w' => ∃ v, e = .returned v ∧ w'.ownsRow w.heap.size 53 5 v s.lst.length (Al.flat s.lst) ∧ (v = .slice none 0 0 ↔ s.lst = []) ∧ Below w.heap.size w w' :=
  callsIn_wide.1 (collect_in Fence.wide 4 trivial trivial trivial rfl (Nat.le_refl _) Bs s hreach w hBs hs0 hc hI)
theorem values_any (a : Option Addr) (len cap : Nat) (w : World) :
    Calls Tryz.prog 189 #[.slice a len cap] w fun e w' => e = .returned (.func (.func 204) #[] #[.pointer (some ⟨w.heap.size, 0, none⟩)]) ∧ ∃ t, w' = w.alloc (.cells #[.slice a len cap] t) :=
  callsIn_wide.1 (values_in Fence.wide 1 trivial rfl a len cap w)
end Go.Proofs.YtllkiadedaghoaaGreatDoor
set_option linter.unusedVariables false
set_option linter.unusedSimpArgs false
namespace Go.Proofs.YtllkiadedaghoaaGreatDoor
open Go.RowKit Go.Shelf Go.Sort
attribute [local go_sem ↓] Go.wp_at_zero Go.wp_at_succ
namespace Al
theorem flat_get {α : Type} [Inhabited α] (enc : α → List Value) (k : Nat) (hk : ∀ x, (enc x).length = k) : ∀ (l : List α) (i c : Nat), i < l.length → c < k → (l.flatMap enc)[i * k + c]? = some (enc l[i]!)[c]!
  | [], i, c, hi, _ => by simp at hi
  | x :: l, 0, c, _, hc => by
    rw [List.flatMap_cons, Nat.zero_mul, Nat.zero_add, List.getElem?_append_left (by rw [hk]; exact hc)]
    rw [List.getElem?_eq_getElem (by rw [hk]; exact hc)]
    simp [hk, hc]
  | x :: l, i + 1, c, hi, hc => by
    rw [List.flatMap_cons, List.getElem?_append_right (by rw [hk, Nat.add_mul]; omega)]
    rw [show (i + 1) * k + c - (enc x).length = i * k + c by rw [hk, Nat.add_mul]; omega]
    rw [flat_get enc k hk l i c (by simpa using hi) hc]
    simp
theorem rowE_of {α : Type} [Inhabited α] {enc : α → List Value} {k : Nat} (hk : ∀ x, (enc x).length = k) {w : World} {base e : Nat} {v : Value} {l : List α} (h : w.ownsRow base e k v l.length (l.flatMap enc)) (hne : l ≠ []) : ∃ g cap, v = .slice (some ⟨g, 0, none⟩) l.length cap ∧ base ≤ g ∧ g < w.heap.size ∧ l.length ≤ cap ∧ cap ≤ maxLen ∧ RowE enc k w g l := by
  have h' := h
  obtain ⟨hl, ⟨rfl, z⟩ | ⟨g, cap, cur, rfl, hb, hc, hn, hm, hs, r⟩⟩ := h
  · exact absurd (List.length_eq_zero_iff.1 z) hne
  · refine ⟨g, cap, rfl, hb, (Array.getElem?_eq_some_iff.1 hc).1, hn, hm, fun i hi c hcc => ?_⟩
    have hlt : i * k + c < l.length * k := by
      have := Nat.mul_le_mul_right k (show i + 1 ≤ l.length from hi); rw [Nat.add_mul, Nat.one_mul] at this; omega
    have e := flat_get enc k hk l i c hi hcc
    rw [← r, List.getElem?_take_of_lt hlt, Array.getElem?_toList] at e
    exact ⟨by simp only [World.cell?, hc]; simpa using e, by simp [World.frozen?, hc]⟩
/-- The slice of a row. -/
def ofRow (g cap : Nat) (l : List M) : SlM := ⟨if l = [] then none else some ⟨g, 0, none⟩, l.length, if l = [] then 0 else cap, g, 0, fun i => l[i]!⟩
theorem rowE_at {w : World} {g cap : Nat} {l : List M} (hr : l ≠ [] → RowE M.enc 5 w g l) (hok : ∀ x ∈ l, x.Ok) (hc : l.length ≤ cap) (hm : cap ≤ maxLen) : (ofRow g cap l).At w := by
  refine ⟨fun h => ?_, ?_, ?_, fun i hi => ?_⟩
  · have : l ≠ [] := fun e => by simp [ofRow, e] at h
    simp [ofRow, this]
  · by_cases e : l = []
    · simp [ofRow, e]
    · simp [ofRow, e, hc]
  · unfold maxLen at hm
    by_cases e : l = []
    · simp [ofRow, e]
    · simp only [ofRow, e, if_false]; exact hm
  · have hi' : i < l.length := hi
    have hne : l ≠ [] := fun e => by rw [e] at hi'; simp at hi'
    have R := hr hne i hi'
    have key : ∀ c, c < 5 → w.cell? ⟨g, i * 5 + c, none⟩ = some (l[i]!.enc)[c]! := fun c h => (R c h).1
    refine ⟨⟨?_, ?_, ?_, ?_, ?_⟩, hok _ ?_⟩
    · show w.cell? ⟨g, 0 + i * 5, none⟩ = _
      rw [Nat.zero_add]
      exact key 0 (by omega)
    · show w.cell? ⟨g, 0 + i * 5 + 1, none⟩ = _
      rw [Nat.zero_add]
      exact key 1 (by omega)
    · show w.cell? ⟨g, 0 + i * 5 + 2, none⟩ = _
      rw [Nat.zero_add]
      exact key 2 (by omega)
    · show w.cell? ⟨g, 0 + i * 5 + 3, none⟩ = _
      rw [Nat.zero_add]
      exact key 3 (by omega)
    · show w.cell? ⟨g, 0 + i * 5 + 4, none⟩ = _
      rw [Nat.zero_add]
      exact key 4 (by omega)
    · show l[i]! ∈ l
      rw [getElem!_pos l i hi']; exact List.getElem_mem _
end Al
set_option maxRecDepth 100000 in
set_option maxHeartbeats 4000000 in
theorem sortedF_any (Bs : Nat) (s : Al.SlM) (hreach : s.n ≤ 1000000) (w : World) (hBs : Bs < w.heap.size) (hs0 : 0 < s.n → s.b < w.heap.size)
    (hc : w.cell? ⟨Bs, 0, none⟩ = some (.slice s.A s.n s.c)) (hI : s.At w) :
    Calls Tryz.prog 188 #[.func (.func 204) #[] #[.pointer (some ⟨Bs, 0, none⟩)], .func (.func 190) #[] #[]] w fun e w' => ∃ (g cap : Nat) (d' : List Al.M), e = .returned (.slice (Al.ofRow g cap d').A (Al.ofRow g cap d').n (Al.ofRow g cap d').c) ∧ s.lst.Perm d' ∧ d'.Pairwise (fun a b => Al.kcmp a.key b.key ≤ 0) ∧ (Al.ofRow g cap d').At w' ∧ (d' ≠ [] → w.heap.size ≤ g) ∧ Gr w w' := by
  have HC := Lib.hid (collect_any Bs s hreach w hBs hs0 hc hI)
  have hlen : s.lst.length = s.n := by simp [Al.SlM.lst]
  have HK := Lib.hid (show ∀ x ∈ s.lst, x.Ok from fun x hx => by
    unfold Al.SlM.lst at hx
    obtain ⟨i, hi, rfl⟩ := List.mem_map.1 hx
    exact (hI.hD i (List.mem_range.1 hi)).2)
  have hsz : s.lst.length ≤ 1000000 := by omega
  clear hBs hs0 hc hI hreach hlen
  generalize s.lst = L at *
  go_enter Tryz.func188, Tryz.ntmps188
  go_wp2_with fail
  refine HC.out.mono ?_
  clear HC
  rintro e w1 ⟨v, rfl, hrow, hnil, hb⟩
  by_cases hL : L = []
  · obtain rfl := hnil.2 hL
    subst hL
    go_wp2_with fail
    refine (show Calls Tryz.prog 203 #[.slice none 0 0, .func (.func 190) #[] #[]] w1 (fun e w' => e = .returned (.tuple #[]) ∧ w' = w1) from AnyF.slices_SortFunc_none Tryz.sortMsgs none 0 _ w1).mono ?_
    rintro e w2 ⟨rfl, rfl⟩
    go_wp2_with fail
    go_ret
    exact ⟨0, 0, [], rfl, .nil, .nil, Al.rowE_at (fun h => absurd rfl h) (fun x hx => by simp at hx) (by simp) (by unfold maxLen; omega), fun h => absurd rfl h, hb⟩
  · obtain ⟨g, cap, rfl, hg0, hg1, hn, hm, hE⟩ := Al.rowE_of (enc := Al.M.enc) (k := 5) (fun x => rfl) (show w1.ownsRow w.heap.size 53 5 v L.length (L.flatMap Al.M.enc) from hrow) hL
    have HS := Lib.hid (sortM_any g cap L w1 hg1 hL hE hsz)
    clear hrow hnil hE
    obtain ⟨n, hn'⟩ : ∃ n, n = L.length := ⟨_, rfl⟩
    rw [← hn'] at HS ⊢
    have HN := Lib.hid hn'
    clear hn'
    go_wp2_with fail
    refine HS.out.mono ?_
    clear HS
    rintro e w2 ⟨rfl, d', hp, hsd, hR, hX⟩
    go_wp2_with fail
    go_ret
    have hd : d' ≠ [] := fun e => hL (by rw [e] at hp; exact hp.eq_nil)
    have hl2 : d'.length = n := by rw [HN.out]; exact hp.length_eq.symm
    refine ⟨g, cap, d', ?_, hp, hsd, Al.rowE_at (fun _ => hR) (fun x hx => HK.out x (hp.mem_iff.2 hx)) (by have := HN.out; omega) hm, fun _ => hg0, GrX.gr hb hg0 hX⟩
    simp only [Al.ofRow, hd, if_false, hl2]
    rfl
end Go.Proofs.YtllkiadedaghoaaGreatDoor
