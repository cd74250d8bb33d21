/-
  Alarms: slices.AppendSeq over slices.Values at messages. Typed.
  Alarms: slices.Collect and slices.SortedFunc over slices.Values at messages. Typed.
  Alarms: slices.SortedFunc over slices.Values at messages: the messages in order. Typed.
-/
import Derived.Test.YtllkiadedaghoaaGreatDoorOr17
import Derived.Test.YtllkiadedaghoaaGreatDoorOr16
import Derived.Test.YtllkiadedaghoaaGreatDoorOr14
import Derived.RangeFuncNested
import Derived.RangeFuncBound
import Derived.RangeFuncCalls
import Derived.Maps.AppendAt
set_option linter.unusedVariables false
set_option linter.unusedSimpArgs false
namespace Go.Proofs.YtllkiadedaghoaaGreatDoor
open Go.RowKit Go.Shelf
attribute [local go_sem] Oper.semAt_some
namespace Al
/-- The cells of messages, one behind the other. -/
def flat (l : List M) : List Value := l.flatMap M.enc
theorem flat_snoc (l : List M) (x : M) : flat (l ++ [x]) = flat l ++ x.enc := by simp [flat]
end Al
theorem cells_new (w : World) (a : Array Value) (t : TypeId) : ∀ j u, a.toList[j]? = some u → (w.alloc (.cells a t)).cell? ((⟨w.heap.size, 0, none⟩ : Addr).add j) = some u := by
  intro j u hj
  have := World.alloc_heap_new w (.cells a t)
  have e : ((⟨w.heap.size, 0, none⟩ : Addr).add j) = ⟨w.heap.size, j, none⟩ := by
    unfold Addr.add
    split
    · rename_i h; rw [h]
    · simp
  rw [e]
  simp only [World.cell?, this]
  simpa using hj
theorem infoM : (Tryz.prog.info? 53).map (fun i => (i.zero, i.size, i.bytes)) = some (some (.agg #[.string ⟨#[]⟩, .int .i64 0, .int .i64 0, .int .i64 0, .int .i64 0]), 5, 48) := by kernel_rfl
/-- The loop variable's box. -/
def BoxM (W : World) (B : Nat) (x : Al.M) : Prop := W.heap[B]? = some (.cells x.enc.toArray 53 (0, 0))
theorem BoxM.cells {W : World} {B : Nat} {x : Al.M} (h : BoxM W B x) : x.Cells W B 0 := by
  unfold BoxM Al.M.enc at h
  refine ⟨?_, ?_, ?_, ?_, ?_⟩ <;> simp [World.cell?, h]
set_option maxRecDepth 100000 in
set_option maxHeartbeats 4000000 in
/-- slices.AppendSeq of nothing and slices.Values of a slice: a slice of its own with the same messages. -/
theorem appendSeq_in (F : Fence) (n : Nat) (h11 : F.fn 207) (h7 : F.fn 204) (hro : F.round = none) (hn : 3 ≤ n) (Bs : Nat) (s : Al.SlM) (hreach : s.n ≤ 1000000) (w : World) (hBs : Bs < w.heap.size) (hs0 : 0 < s.n → s.b < w.heap.size)
    (hc : w.cell? ⟨Bs, 0, none⟩ = some (.slice s.A s.n s.c)) (hI : s.At w) :
    CallsIn F n Tryz.prog 207 #[.slice none 0 0, .func (.func 204) #[] #[.pointer (some ⟨Bs, 0, none⟩)]] w fun e w' => ∃ v, e = .returned v ∧ w'.ownsRow w.heap.size 53 5 v s.lst.length (Al.flat s.lst) ∧ (v = .slice none 0 0 ↔ s.lst = []) ∧ Below w.heap.size w w' := by
  have h1 : 1 ≤ n := by omega
  have hlen : s.lst.length = s.n := by simp [Al.SlM.lst]
  refine callsIn_of_wp_marks Tryz.func207 rfl h11 ?_ hro
  simp only [Tryz.ntmps207, List.size_toArray, List.length_cons, List.length_nil, Nat.reduceAdd, Nat.reduceSub, Array.replicate_succ, Array.replicate_zero, List.push_toArray, List.append_toArray, List.nil_append, List.cons_append]
  obtain ⟨W0, hW0⟩ : ∃ W0, w.alloc (.cells #[.slice none 0 0] 26) = W0 := ⟨_, rfl⟩
  have hs1 : W0.heap.size = w.heap.size + 1 := by rw [← hW0]; simp
  have hB0 : Below w.heap.size w W0 := by rw [← hW0]; exact (Below.refl _ w).alloc (Nat.le_refl _) _
  have bS : Boxed W0 w.heap.size 26 (.slice none 0 0) := by rw [← hW0]; exact Boxed.new w _ _
  have hst := values_stops F (n - 1) h7 hro (by omega) Bs w.heap.size s hreach W0 (by omega) (by omega) hs0 ((hB0.cell (p := ⟨Bs, 0, none⟩) hBs).trans hc) (hI.gr hB0)
  gi_wp2
  refine wpIn_rangeFunc_ownH hro h1 (gf := 204) (lb := #[.pointer (some ⟨Bs, 0, none⟩)]) rfl h7 (enters_of Tryz.func204 (by kernel_rfl) rfl)
    hst belowK_t (belowK_b (by omega)) (Below.refl _ _) (fun _ => rfl)
    (fun pre W => (∃ v, Boxed W w.heap.size 26 v ∧ W.ownsRow w.heap.size 53 5 v pre.length (Al.flat pre) ∧ (v = .slice none 0 0 ↔ pre = [])) ∧ Below w.heap.size w W)
    (fun _ _ _ => False)
    (OwnFrom.and (Own.from (holdsRow_own w.heap.size w.heap.size 26 53 5 (fun pre : List Al.M => pre.length) (fun pre => Al.flat pre) (fun pre v => v = .slice none 0 0 ↔ pre = [])) _) (ownFrom_below (Nat.le_refl _) (by omega)))
    (fun _ _ _ _ _ hs _ _ => hs)
    ⟨⟨_, bS, World.ownsRow_nil _ _ _ _, by simp⟩, hB0⟩
    (fun x a' W => ∃ Bx, w.heap.size < Bx ∧ BoxM W Bx x ∧ a' = { tmps := #[.slice none 0 0, .func (.func 204) #[] #[.pointer (some ⟨Bs, 0, none⟩)], .pointer (some ⟨w.heap.size, 0, none⟩), undef, .slice none 0 0, .pointer (some ⟨Bx, 0, none⟩), .func (.func 204) #[] #[.pointer (some ⟨Bs, 0, none⟩)], x.one, undef, undef, undef, undef, undef], defers := [] })
    (fun x a' _ X Y row hs hg hr => by
      obtain ⟨Bx, h1, h2, h3⟩ := hs
      refine ⟨Bx, h1, ?_, h3⟩
      unfold BoxM at h2 ⊢
      refine (hg.block Bx (Array.getElem?_eq_some_iff.1 h2).1 ?_).trans h2
      intro e
      obtain ⟨_, o, ho, hcell⟩ := hr Bx e.symm
      rw [h2] at ho; cases ho; cases hcell)
    ?assign ?body ?done ?stop
  case assign =>
    rintro l pre x W K ⟨⟨v, bS1, hr1, hnil⟩, hB1⟩ hK
    unfold Al.M.one
    gi_wp2
    exact hK _ _ ((KeepsOthers.alloc _ _).from _) ((Below.refl _ W).alloc hB1.size _) ⟨⟨v, bS1.alloc _, hr1.alloc _, hnil⟩, hB1.alloc hB1.size _⟩ ⟨W.heap.size, bS1.lt, World.alloc_heap_new W _, rfl⟩
  case body =>
    rintro l pre x a' W hl ⟨r, hr⟩ ⟨⟨v, bS1, hr1, hnil⟩, hB1⟩ ⟨Bx, hBx, bX, rfl⟩ hlt
    obtain ⟨i0, hi, hz0, hz1, hz2⟩ := info_parts infoM
    obtain ⟨x0, x1, x2, x3, x4⟩ := bX.cells
    simp only [Nat.zero_add] at x1 x2 x3 x4
    have hv := bS1.cell
    have hle := hB1.size
    unfold Al.M.one
    gi_wp2_with (gi_at_builtin; refine wpListIn_append_own _ rfl _ _ 26 rfl w.heap.size 53 i0 (.agg #[.string ⟨#[]⟩, .int .i64 0, .int .i64 0, .int .i64 0, .int .i64 0]) 5 48 Tryz.underlying26 hi hz0 hz1 hz2 rfl (by decide) _ _ _ rfl (hr1.alloc _) ⟨W.heap.size, 0, none⟩ 1 1 x.enc rfl rfl (cells_new _ _ _) (by simp [Al.M.enc, Value.oneCell']) (by unfold maxLen; omega) (by omega) (by simp; omega) ?_; intro v' w1 hown' hgrow _; obtain ⟨g', cap', rfl⟩ := ownsRow_succ hown'; obtain ⟨hv1, hv2, hr2, hk2, hb2⟩ := bS1.appended (by decide) hr1 hle (Nat.le_refl _) hown' hgrow; have hc1 := hv1.cell; have hf1 := hv1.frozen)
    exact ⟨hk2.from _, hb2, ⟨_, hv2, by rw [Al.flat_snoc]; simpa using hr2, by simp⟩, hB1.trans hb2⟩
  case done =>
    rintro D2 ys W hD rfl ⟨⟨v, bS1, hr1, hnil⟩, hB1⟩ hK
    have hv := bS1.cell
    gi_wp2
    refine ⟨by simp, .inl ⟨_, _, rfl, run_takeDeferred hK, ?_⟩⟩
    exact ⟨_, results_tmp rfl _ _ _, v, rfl, ownsRow_putObj hr1 _ hK rfl, hnil, hB1.trans (belowK_b (w := w) (Nat.le_refl _) W D2 _ _ (by omega) hK rfl rfl)⟩
  case stop =>
    rintro D2 c pre W _ _ h _
    exact h.elim
end Go.Proofs.YtllkiadedaghoaaGreatDoor
set_option linter.unusedVariables false
set_option linter.unusedSimpArgs false
namespace Go.Proofs.YtllkiadedaghoaaGreatDoor
open Go.RowKit Go.Shelf
theorem collect_in (F : Fence) (n : Nat) (h8 : F.fn 202) (h11 : F.fn 207) (h7 : F.fn 204) (hro : F.round = none) (hn : 4 ≤ n) (Bs : Nat) (s : Al.SlM) (hreach : s.n ≤ 1000000) (w : World) (hBs : Bs < w.heap.size) (hs0 : 0 < s.n → s.b < w.heap.size)
    (hc : w.cell? ⟨Bs, 0, none⟩ = some (.slice s.A s.n s.c)) (hI : s.At w) :
    CallsIn F n Tryz.prog 202 #[.func (.func 204) #[] #[.pointer (some ⟨Bs, 0, none⟩)]] w fun e w' => ∃ v, e = .returned v ∧ w'.ownsRow w.heap.size 53 5 v s.lst.length (Al.flat s.lst) ∧ (v = .slice none 0 0 ↔ s.lst = []) ∧ Below w.heap.size w w' := by
  have h1 : 1 ≤ n := by omega
  have HC := Lib.hid (appendSeq_in F (n - 1) h11 h7 hro (by omega) Bs s hreach w hBs hs0 hc hI)
  clear hBs hs0 hc hI hreach
  generalize s.lst = L at *
  refine callsIn_of_wp Tryz.func202 rfl h8 ?_ hro
  simp only [Tryz.ntmps202, List.size_toArray, List.length_cons, List.length_nil, Nat.reduceAdd, Nat.reduceSub, Array.replicate_succ, Array.replicate_zero, List.push_toArray, List.append_toArray, List.nil_append, List.cons_append]
  gi_wp2_with (gi_at_call 207; refine HC.out.mono ?_; rintro e w' ⟨v, rfl, hrow, hnil, hb⟩)
  go_ret
  exact ⟨v, rfl, hrow, hnil, hb⟩
theorem collect_any (Bs : Nat) (s : Al.SlM) (hreach : s.n ≤ 1000000) (w : World) (hBs : Bs < w.heap.size) (hs0 : 0 < s.n → s.b < w.heap.size)
    (hc : w.cell? ⟨Bs, 0, none⟩ = some (.slice s.A s.n s.c)) (hI : s.At w) :
    Calls Tryz.prog 202 #[.func (.func 204) #[] #[.pointer (some ⟨Bs, 0, none⟩)]] w fun e w' => ∃ v, e = .returned v ∧ w'.ownsRow w.heap.size 53 5 v s.lst.length (Al.flat s.lst) ∧ (v = .slice none 0 0 ↔ s.lst = []) ∧ Below w.heap.size w w' :=
  callsIn_wide.1 (collect_in Fence.wide 4 trivial trivial trivial rfl (Nat.le_refl _) Bs s hreach w hBs hs0 hc hI)
theorem values_any (a : Option Addr) (len cap : Nat) (w : World) :
    Calls Tryz.prog 189 #[.slice a len cap] w fun e w' => e = .returned (.func (.func 204) #[] #[.pointer (some ⟨w.heap.size, 0, none⟩)]) ∧ ∃ t, w' = w.alloc (.cells #[.slice a len cap] t) :=
  callsIn_wide.1 (values_in Fence.wide 1 trivial rfl a len cap w)
end Go.Proofs.YtllkiadedaghoaaGreatDoor
set_option linter.unusedVariables false
set_option linter.unusedSimpArgs false
namespace Go.Proofs.YtllkiadedaghoaaGreatDoor
open Go.RowKit Go.Shelf Go.Sort
attribute [local go_sem ↓] Go.wp_at_zero Go.wp_at_succ
namespace Al
theorem flat_get {α : Type} [Inhabited α] (enc : α → List Value) (k : Nat) (hk : ∀ x, (enc x).length = k) : ∀ (l : List α) (i c : Nat), i < l.length → c < k → (l.flatMap enc)[i * k + c]? = some (enc l[i]!)[c]!
  | [], i, c, hi, _ => by simp at hi
  | x :: l, 0, c, _, hc => by
    rw [List.flatMap_cons, Nat.zero_mul, Nat.zero_add, List.getElem?_append_left (by rw [hk]; exact hc)]
    rw [List.getElem?_eq_getElem (by rw [hk]; exact hc)]
    simp [hk, hc]
  | x :: l, i + 1, c, hi, hc => by
    rw [List.flatMap_cons, List.getElem?_append_right (by rw [hk, Nat.add_mul]; omega)]
    rw [show (i + 1) * k + c - (enc x).length = i * k + c by rw [hk, Nat.add_mul]; omega]
    rw [flat_get enc k hk l i c (by simpa using hi) hc]
    simp
theorem rowE_of {α : Type} [Inhabited α] {enc : α → List Value} {k : Nat} (hk : ∀ x, (enc x).length = k) {w : World} {base e : Nat} {v : Value} {l : List α} (h : w.ownsRow base e k v l.length (l.flatMap enc)) (hne : l ≠ []) : ∃ g cap, v = .slice (some ⟨g, 0, none⟩) l.length cap ∧ base ≤ g ∧ g < w.heap.size ∧ l.length ≤ cap ∧ cap ≤ maxLen ∧ RowE enc k w g l := by
  have h' := h
  obtain ⟨hl, ⟨rfl, z⟩ | ⟨g, cap, cur, rfl, hb, hc, hn, hm, hs, r⟩⟩ := h
  · exact absurd (List.length_eq_zero_iff.1 z) hne
  · refine ⟨g, cap, rfl, hb, (Array.getElem?_eq_some_iff.1 hc).1, hn, hm, fun i hi c hcc => ?_⟩
    have hlt : i * k + c < l.length * k := by
      have := Nat.mul_le_mul_right k (show i + 1 ≤ l.length from hi); rw [Nat.add_mul, Nat.one_mul] at this; omega
    have e := flat_get enc k hk l i c hi hcc
    rw [← r, List.getElem?_take_of_lt hlt, Array.getElem?_toList] at e
    exact ⟨by simp only [World.cell?, hc]; simpa using e, by simp [World.frozen?, hc]⟩
/-- The slice of a row. -/
def ofRow (g cap : Nat) (l : List M) : SlM := ⟨if l = [] then none else some ⟨g, 0, none⟩, l.length, if l = [] then 0 else cap, g, 0, fun i => l[i]!⟩
theorem rowE_at {w : World} {g cap : Nat} {l : List M} (hr : l ≠ [] → RowE M.enc 5 w g l) (hok : ∀ x ∈ l, x.Ok) (hc : l.length ≤ cap) (hm : cap ≤ maxLen) : (ofRow g cap l).At w := by
  refine ⟨fun h => ?_, ?_, ?_, fun i hi => ?_⟩
  · have : l ≠ [] := fun e => by simp [ofRow, e] at h
    simp [ofRow, this]
  · by_cases e : l = []
    · simp [ofRow, e]
    · simp [ofRow, e, hc]
  · unfold maxLen at hm
    by_cases e : l = []
    · simp [ofRow, e]
    · simp only [ofRow, e, if_false]; exact hm
  · have hi' : i < l.length := hi
    have hne : l ≠ [] := fun e => by rw [e] at hi'; simp at hi'
    have R := hr hne i hi'
    have key : ∀ c, c < 5 → w.cell? ⟨g, i * 5 + c, none⟩ = some (l[i]!.enc)[c]! := fun c h => (R c h).1
    refine ⟨⟨?_, ?_, ?_, ?_, ?_⟩, hok _ ?_⟩
    · show w.cell? ⟨g, 0 + i * 5, none⟩ = _
      rw [Nat.zero_add]
      exact key 0 (by omega)
    · show w.cell? ⟨g, 0 + i * 5 + 1, none⟩ = _
      rw [Nat.zero_add]
      exact key 1 (by omega)
    · show w.cell? ⟨g, 0 + i * 5 + 2, none⟩ = _
      rw [Nat.zero_add]
      exact key 2 (by omega)
    · show w.cell? ⟨g, 0 + i * 5 + 3, none⟩ = _
      rw [Nat.zero_add]
      exact key 3 (by omega)
    · show w.cell? ⟨g, 0 + i * 5 + 4, none⟩ = _
      rw [Nat.zero_add]
      exact key 4 (by omega)
    · show l[i]! ∈ l
      rw [getElem!_pos l i hi']; exact List.getElem_mem _
end Al
set_option maxRecDepth 100000 in
set_option maxHeartbeats 4000000 in
theorem sortedF_any (Bs : Nat) (s : Al.SlM) (hreach : s.n ≤ 1000000) (w : World) (hBs : Bs < w.heap.size) (hs0 : 0 < s.n → s.b < w.heap.size)
    (hc : w.cell? ⟨Bs, 0, none⟩ = some (.slice s.A s.n s.c)) (hI : s.At w) :
    Calls Tryz.prog 188 #[.func (.func 204) #[] #[.pointer (some ⟨Bs, 0, none⟩)], .func (.func 190) #[] #[]] w fun e w' => ∃ (g cap : Nat) (d' : List Al.M), e = .returned (.slice (Al.ofRow g cap d').A (Al.ofRow g cap d').n (Al.ofRow g cap d').c) ∧ s.lst.Perm d' ∧ d'.Pairwise (fun a b => Al.kcmp a.key b.key ≤ 0) ∧ (Al.ofRow g cap d').At w' ∧ (d' ≠ [] → w.heap.size ≤ g) ∧ Gr w w' := by
  have HC := Lib.hid (collect_any Bs s hreach w hBs hs0 hc hI)
  have hlen : s.lst.length = s.n := by simp [Al.SlM.lst]
  have HK := Lib.hid (show ∀ x ∈ s.lst, x.Ok from fun x hx => by
    unfold Al.SlM.lst at hx
    obtain ⟨i, hi, rfl⟩ := List.mem_map.1 hx
    exact (hI.hD i (List.mem_range.1 hi)).2)
  have hsz : s.lst.length ≤ 1000000 := by omega
  clear hBs hs0 hc hI hreach hlen
  generalize s.lst = L at *
  go_enter Tryz.func188, Tryz.ntmps188
  go_wp2_with fail
  refine HC.out.mono ?_
  clear HC
  rintro e w1 ⟨v, rfl, hrow, hnil, hb⟩
  by_cases hL : L = []
  · obtain rfl := hnil.2 hL
    subst hL
    go_wp2_with fail
    refine (show Calls Tryz.prog 203 #[.slice none 0 0, .func (.func 190) #[] #[]] w1 (fun e w' => e = .returned (.tuple #[]) ∧ w' = w1) from AnyF.slices_SortFunc_none Tryz.sortMsgs none 0 _ w1).mono ?_
    rintro e w2 ⟨rfl, rfl⟩
    go_wp2_with fail
    go_ret
    exact ⟨0, 0, [], rfl, .nil, .nil, Al.rowE_at (fun h => absurd rfl h) (fun x hx => by simp at hx) (by simp) (by unfold maxLen; omega), fun h => absurd rfl h, hb⟩
  · obtain ⟨g, cap, rfl, hg0, hg1, hn, hm, hE⟩ := Al.rowE_of (enc := Al.M.enc) (k := 5) (fun x => rfl) (show w1.ownsRow w.heap.size 53 5 v L.length (L.flatMap Al.M.enc) from hrow) hL
    have HS := Lib.hid (sortM_any g cap L w1 hg1 hL hE hsz)
    clear hrow hnil hE
    obtain ⟨n, hn'⟩ : ∃ n, n = L.length := ⟨_, rfl⟩
    rw [← hn'] at HS ⊢
    have HN := Lib.hid hn'
    clear hn'
    go_wp2_with fail
    refine HS.out.mono ?_
    clear HS
    rintro e w2 ⟨rfl, d', hp, hsd, hR, hX⟩
    go_wp2_with fail
    go_ret
    have hd : d' ≠ [] := fun e => hL (by rw [e] at hp; exact hp.eq_nil)
    have hl2 : d'.length = n := by rw [HN.out]; exact hp.length_eq.symm
    refine ⟨g, cap, d', ?_, hp, hsd, Al.rowE_at (fun _ => hR) (fun x hx => HK.out x (hp.mem_iff.2 hx)) (by have := HN.out; omega) hm, fun _ => hg0, GrX.gr hb hg0 hX⟩
    simp only [Al.ofRow, hd, if_false, hl2]
    rfl
end Go.Proofs.YtllkiadedaghoaaGreatDoor
