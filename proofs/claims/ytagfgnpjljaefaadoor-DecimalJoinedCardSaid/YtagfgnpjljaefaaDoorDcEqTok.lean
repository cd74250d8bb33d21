import Derived.Test.YtagfgnpjljaefaaDoorDcRow
set_option linter.unusedVariables false
set_option linter.unusedSimpArgs false
namespace Go.Proofs.YtagfgnpjljaefaaDoor
open Go.RowKit
set_option maxRecDepth 100000 in
theorem eqtok_any (g g' cap cap' n : Nat) (cs : List Value) (w : World) (h : TokRow cs n) (hn : n ≤ 262145) (hc : ∀ j u, cs[j]? = some u → w.cell? ⟨g, j, none⟩ = some u) (hc' : ∀ j u, cs[j]? = some u → w.cell? ⟨g', j, none⟩ = some u) :
    Calls Tryd.prog 19 #[.slice (some ⟨g, 0, none⟩) n cap, .slice (some ⟨g', 0, none⟩) n cap'] w fun e w' => e = .returned (.bool true) ∧ Gr w w' := by
  have HC := Lib.hid hc
  have HD := Lib.hid hc'
  have HR := Lib.hid h.get
  clear hc hc' h
  go_enter Tryd.func19, Tryd.ntmps19
  go_wp2_with fail
  go_loopw [13] (fun s13 wr => ∃ i : Nat, i ≤ n ∧ s13 = .int .i64 (i : Int) ∧ Gr w wr) (fun s13 _ => n - (intOf s13).toNat)
  case atStart => exact ⟨0, Nat.zero_le _, rfl, Gr.refl _⟩
  case round =>
    obtain ⟨i, hi, rfl, hg⟩ := hrel
    by_cases hlt : i < n
    · obtain ⟨k, t, ln, col, e0, e1, e2, e3⟩ := HR.out i hlt
      have a0 := Gr.at hg (HC.out _ _ e0); have a1 := Gr.at hg (HC.out _ _ e1); have a2 := Gr.at hg (HC.out _ _ e2); have a3 := Gr.at hg (HC.out _ _ e3)
      have b0 := Gr.at hg (HD.out _ _ e0); have b1 := Gr.at hg (HD.out _ _ e1); have b2 := Gr.at hg (HD.out _ _ e2); have b3 := Gr.at hg (HD.out _ _ e3)
      clear e0 e1 e2 e3
      go_wp2_with fail
      go_quiet (fail)
      go_wp2_with fail
      go_roundw
      case rel => exact ⟨i + 1, by omega, by go_num, (by repeat' (first | (with_reducible exact Gr.refl _) | (with_reducible assumption) | (with_reducible refine Gr.alloc ?_ _) | (with_reducible refine Gr.drew ?_) | (with_reducible refine Gr.drewN ?_ _) | (with_reducible refine Gr.setCell ?_ ?_ _) | (with_reducible refine Gr.trans ?_ (by with_reducible assumption)) | go_size))⟩
      case measure => simp [intOf]; omega
    · go_wp2_with fail
      go_ret
      exact ⟨rfl, hg⟩
theorem eqtok_nil (w : World) :
    Calls Tryd.prog 19 #[.slice none 0 0, .slice none 0 0] w fun e w' => e = .returned (.bool true) ∧ Gr w w' := by
  go_enter Tryd.func19, Tryd.ntmps19
  go_wp2_with fail
  refine wp_loop_rounds 1 ?_
  rw [rounds_succ]
  go_wp2_with fail
  go_ret
  exact ⟨rfl, Gr.refl _⟩
end Go.Proofs.YtagfgnpjljaefaaDoor
