/-
  slices.EqualFunc on two rows of tokens whose kinds and texts are the same.
-/
import Derived.Test.YtagfgnpjljaefaaDoorDcTokens
import Derived.Test.YtagfgnpjljaefaaDoorDcSplit
set_option linter.unusedVariables false
set_option linter.unusedSimpArgs false
namespace Go.Proofs.YtagfgnpjljaefaaDoor
open Go.RowKit
namespace Dc
theorem TokL.row {cs : List Value} {ts : List (Int × List UInt8 × Int × Int)} (h : TokL cs ts) : TokRow cs ts.length := by
  induction h with
  | nil => exact .nil
  | snoc k t ln col _ ih => rw [List.length_append]; exact .snoc k t ln col ih
theorem TokL.get {cs : List Value} {ts : List (Int × List UInt8 × Int × Int)} (h : TokL cs ts) : ∀ i x, ts[i]? = some x → cs[i * 4]? = some (.int .i64 x.1) ∧ cs[i * 4 + 1]? = some (.string ⟨x.2.1.toArray⟩) ∧ cs[i * 4 + 2]? = some (.int .i64 x.2.2.1) ∧ cs[i * 4 + 3]? = some (.int .i64 x.2.2.2) := by
  induction h with
  | nil => intro i x hx; simp at hx
  | @snoc cs ts k t ln col h ih =>
    intro i x hx
    have hl := h.row.len
    by_cases e : i < ts.length
    · rw [List.getElem?_append_left e] at hx
      obtain ⟨a, b, c, d⟩ := ih i x hx
      exact ⟨by rw [List.getElem?_append_left (by omega)]; exact a, by rw [List.getElem?_append_left (by omega)]; exact b, by rw [List.getElem?_append_left (by omega)]; exact c, by rw [List.getElem?_append_left (by omega)]; exact d⟩
    · rw [List.getElem?_append_right (by omega)] at hx
      have e0 : i = ts.length := by
        rcases Nat.eq_zero_or_pos (i - ts.length) with q | q
        · omega
        · obtain ⟨j, hj⟩ : ∃ j, i - ts.length = j + 1 := ⟨i - ts.length - 1, by omega⟩
          rw [hj] at hx; simp at hx
      subst e0
      rw [Nat.sub_self] at hx
      simp at hx
      subst hx
      refine ⟨?_, ?_, ?_, ?_⟩
      · rw [List.getElem?_append_right (by omega), hl, Nat.sub_self]; rfl
      · rw [List.getElem?_append_right (by omega), hl, show ts.length * 4 + 1 - ts.length * 4 = 1 by omega]; rfl
      · rw [List.getElem?_append_right (by omega), hl, show ts.length * 4 + 2 - ts.length * 4 = 2 by omega]; rfl
      · rw [List.getElem?_append_right (by omega), hl, show ts.length * 4 + 3 - ts.length * 4 = 3 by omega]; rfl
end Dc
theorem same_any (k a b c d : Int) (t : ByteArray) (w : World) :
    Calls Tryd.prog 26 #[.agg #[.int .i64 k, .string t, .int .i64 a, .int .i64 b], .agg #[.int .i64 k, .string t, .int .i64 c, .int .i64 d]] w fun e w' => e = .returned (.bool true) ∧ Gr w w' := by
  go_enter Tryd.func26, Tryd.ntmps26
  go_wp2
  go_ret
  exact ⟨rfl, (by repeat' (first | (with_reducible exact Gr.refl _) | (with_reducible assumption) | (with_reducible refine Gr.alloc ?_ _) | (with_reducible refine Gr.drew ?_) | (with_reducible refine Gr.drewN ?_ _) | (with_reducible refine Gr.setCell ?_ ?_ _) | (with_reducible refine Gr.trans ?_ (by with_reducible assumption)) | go_size))⟩
set_option maxRecDepth 100000 in
set_option maxHeartbeats 1000000 in
theorem eqfunc_any (g g' cap cap' n : Nat) (cs cs' : List Value) (ts ts' : List (Int × List UInt8 × Int × Int)) (w : World) (h : Dc.TokL cs ts) (h' : Dc.TokL cs' ts') (hn : ts.length = n) (hm : ts.map (fun x => (x.1, x.2.1)) = ts'.map (fun x => (x.1, x.2.1))) (hb : n ≤ 262145)
    (hc : ∀ j u, cs[j]? = some u → w.cell? ⟨g, j, none⟩ = some u) (hc' : ∀ j u, cs'[j]? = some u → w.cell? ⟨g', j, none⟩ = some u) :
    Calls Tryd.prog 25 #[.slice (some ⟨g, 0, none⟩) n cap, .slice (some ⟨g', 0, none⟩) n cap', .func (.func 26) #[] #[]] w fun e w' => e = .returned (.bool true) ∧ Gr w w' := by
  have HS := Lib.hid same_any
  have HR : Hid (∀ i, i < n → ∃ (k a b c d : Int) (t : ByteArray), (w.cell? ⟨g, i * 4, none⟩ = some (.int .i64 k) ∧ w.cell? ⟨g, i * 4 + 1, none⟩ = some (.string t) ∧ w.cell? ⟨g, i * 4 + 2, none⟩ = some (.int .i64 a) ∧ w.cell? ⟨g, i * 4 + 3, none⟩ = some (.int .i64 b)) ∧
      (w.cell? ⟨g', i * 4, none⟩ = some (.int .i64 k) ∧ w.cell? ⟨g', i * 4 + 1, none⟩ = some (.string t) ∧ w.cell? ⟨g', i * 4 + 2, none⟩ = some (.int .i64 c) ∧ w.cell? ⟨g', i * 4 + 3, none⟩ = some (.int .i64 d))) := by
    intro i hi
    obtain ⟨x, hx⟩ : ∃ x, ts[i]? = some x := ⟨_, List.getElem?_eq_getElem (by omega)⟩
    have hlm := congrArg List.length hm
    rw [List.length_map, List.length_map] at hlm
    obtain ⟨y, hy⟩ : ∃ y, ts'[i]? = some y := ⟨_, List.getElem?_eq_getElem (by omega)⟩
    have e := congrArg (fun l => l[i]?) hm
    simp only [List.getElem?_map, hx, hy, Option.map_some, Option.some.injEq, Prod.mk.injEq] at e
    obtain ⟨a0, a1, a2, a3⟩ := h.get i x hx
    obtain ⟨b0, b1, b2, b3⟩ := h'.get i y hy
    rw [← e.1] at b0
    rw [← e.2] at b1
    exact ⟨_, _, _, _, _, _, ⟨hc _ _ a0, hc _ _ a1, hc _ _ a2, hc _ _ a3⟩, hc' _ _ b0, hc' _ _ b1, hc' _ _ b2, hc' _ _ b3⟩
  clear hc hc' h h' hm hn
  go_enter Tryd.func25, Tryd.ntmps25
  go_wp2_with fail
  go_loopw [17] (fun s17 wr => ∃ i : Nat, i ≤ n ∧ s17 = .int .i64 (i : Int) ∧ Gr w wr) (fun s17 _ => n - (intOf s17).toNat)
  case atStart => exact ⟨0, Nat.zero_le _, rfl, Gr.refl _⟩
  case round =>
    obtain ⟨i, hi, rfl, hg⟩ := hrel
    by_cases hlt : i < n
    · obtain ⟨k, a, b, c, d, t, ⟨a0, a1, a2, a3⟩, b0, b1, b2, b3⟩ := HR.out i hlt
      have g0 : g < wr.heap.size := Nat.lt_of_lt_of_le (World.block_lt_of_cell? w _ a0) (Gr.size hg)
      have g1 : g' < wr.heap.size := Nat.lt_of_lt_of_le (World.block_lt_of_cell? w _ b0) (Gr.size hg)
      have ne0 : g ≠ wr.heap.size := by omega
      have ne1 : g' ≠ wr.heap.size := by omega
      have a0 := Gr.at hg a0; have a1 := Gr.at hg a1; have a2 := Gr.at hg a2; have a3 := Gr.at hg a3
      have b0 := Gr.at hg b0; have b1 := Gr.at hg b1; have b2 := Gr.at hg b2; have b3 := Gr.at hg b3
      clear hi
      go_wp2_with fail
      refine (HS.out _ _ _ _ _ _ _).mono ?_
      rintro e w1 ⟨rfl, hb1⟩
      go_wp2_with fail
      go_roundw
      case rel => exact ⟨i + 1, by omega, by go_num, (by repeat' (first | (with_reducible exact Gr.refl _) | (with_reducible assumption) | (with_reducible refine Gr.alloc ?_ _) | (with_reducible refine Gr.drew ?_) | (with_reducible refine Gr.drewN ?_ _) | (with_reducible refine Gr.setCell ?_ ?_ _) | (with_reducible refine Gr.trans ?_ (by with_reducible assumption)) | go_size))⟩
      case measure => simp [intOf]; omega
    · go_wp2_with fail
      go_ret
      exact ⟨rfl, hg⟩
end Go.Proofs.YtagfgnpjljaefaaDoor
