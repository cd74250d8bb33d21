import Derived.Test.YtbaahlofabmljaaWdUse
set_option linter.unusedVariables false
set_option linter.unusedSimpArgs false
namespace Go.Proofs.Ytbaahlofabmljaa
open Go.RowKit
theorem add_bad_w (h l k m : Int) (w : World) (hv : Wd.vld h l = false ∨ Wd.vld k m = false) :
    Calls Try.prog 28 #[.agg #[.int .i64 h, .int .i64 l], .agg #[.int .i64 k, .int .i64 m]] w fun e w' => e = .returned (.tuple #[.agg #[.int .i64 0, .int .i64 0], .int .i64 1]) ∧ Gr w w' := by
  cases h1 : Wd.vld h l
  · exact add_bad h l k m w (Or.inl h1)
  · refine add_bad h l k m w (Or.inr ⟨h1, ?_⟩)
    rcases hv with hv | hv
    · rw [h1] at hv; cases hv
    · exact hv
namespace Wd
theorem ord_add (x y z : Int) : ord (x + z) (y + z) = ord x y := by
  unfold ord
  by_cases h : x < y
  · rw [if_pos h, if_pos (by omega)]
  · by_cases h2 : y < x
    · rw [if_neg h, if_pos h2, if_neg (by omega), if_pos (by omega)]
    · rw [if_neg h, if_neg h2, if_neg (by omega), if_neg (by omega)]
end Wd
set_option maxRecDepth 100000 in
set_option maxHeartbeats 1000000 in
theorem undone_bad (h l k m i j : Int) (w : World) (hv : Wd.vld h l = false ∨ Wd.vld k m = false) :
    Calls Try.prog 8 #[.agg #[.int .i64 h, .int .i64 l], .agg #[.int .i64 k, .int .i64 m], .agg #[.int .i64 i, .int .i64 j]] w fun e w' => e = .returned (.bool true) ∧ Gr w w' := by
  have HV := Lib.hid hv
  have HW := Lib.hid hv.symm
  clear hv
  go_enter Try.func8, Try.ntmps8
  go_wp2_with fail; refine (awake_any _).mono ?_; rintro e w1 ⟨rfl, hb1⟩; obtain ⟨hc1, hf1⟩ := Gr.cells hb1; have hz1 := Gr.size hb1; (try simp at hz1); (try have hy1_0 : w.heap.size < w1.heap.size := by omega); (try have hy1_1 : w.heap.size + 1 < w1.heap.size := by omega); (try have hy1_2 : w.heap.size + 1 + 1 < w1.heap.size := by omega); (try have hy1_3 : w.heap.size + 1 + 1 + 1 < w1.heap.size := by omega)
  go_wp2_with fail; refine (add_bad_w _ _ _ _ _ HV.out).mono ?_; rintro e w2 ⟨rfl, hb2⟩; obtain ⟨hc2, hf2⟩ := Gr.cells hb2; have hz2 := Gr.size hb2; (try simp at hz2); (try have hy2_0 : w.heap.size < w2.heap.size := by omega); (try have hy2_1 : w.heap.size + 1 < w2.heap.size := by omega); (try have hy2_2 : w.heap.size + 1 + 1 < w2.heap.size := by omega); (try have hy2_3 : w.heap.size + 1 + 1 + 1 < w2.heap.size := by omega); (try have hy2_1_0 : w1.heap.size < w2.heap.size := by omega); (try have hy2_1_1 : w1.heap.size + 1 < w2.heap.size := by omega)
  go_wp2_with fail; refine (add_bad_w _ _ _ _ _ HW.out).mono ?_; rintro e w3 ⟨rfl, hb3⟩; obtain ⟨hc3, hf3⟩ := Gr.cells hb3; have hz3 := Gr.size hb3; (try simp at hz3); (try have hy3_0 : w.heap.size < w3.heap.size := by omega); (try have hy3_1 : w.heap.size + 1 < w3.heap.size := by omega); (try have hy3_2 : w.heap.size + 1 + 1 < w3.heap.size := by omega); (try have hy3_3 : w.heap.size + 1 + 1 + 1 < w3.heap.size := by omega); (try have hy3_1_0 : w1.heap.size < w3.heap.size := by omega); (try have hy3_1_1 : w1.heap.size + 1 < w3.heap.size := by omega); (try have hy3_2_0 : w2.heap.size < w3.heap.size := by omega); (try have hy3_2_1 : w2.heap.size + 1 < w3.heap.size := by omega)
  go_wp2
  go_ret
  exact ⟨rfl, (by repeat' (first | (with_reducible exact Gr.refl _) | (with_reducible assumption) | (with_reducible refine Gr.alloc ?_ _) | (with_reducible refine Gr.drew ?_) | (with_reducible refine Gr.drewN ?_ _) | (with_reducible refine Gr.setCell ?_ ?_ _) | (with_reducible refine Gr.trans ?_ (by with_reducible assumption)) | go_size))⟩
set_option maxRecDepth 100000 in
set_option maxHeartbeats 1000000 in
theorem undone_big (x y i j : Int) (w : World) (hx : Wd.has x = true) (hy : Wd.has y = true) (hxy : Wd.has (x + y) = false) :
    Calls Try.prog 8 #[.agg #[.int .i64 (Wd.wH x), .int .i64 (Wd.wL x)], .agg #[.int .i64 (Wd.wH y), .int .i64 (Wd.wL y)], .agg #[.int .i64 i, .int .i64 j]] w fun e w' => e = .returned (.bool true) ∧ Gr w w' := by
  obtain ⟨e1, e2, e3⟩ := Wd.wE_not hxy
  have ha : ∀ W : World, Calls Try.prog 28 #[.agg #[.int .i64 (Wd.wH x), .int .i64 (Wd.wL x)], .agg #[.int .i64 (Wd.wH y), .int .i64 (Wd.wL y)]] W fun e w' => e = .returned (.tuple #[.agg #[.int .i64 0, .int .i64 0], .int .i64 5]) ∧ Gr W w' := fun W => by
    have := add_w x y W hx hy; rw [e1, e2, e3] at this; exact this
  have hb : ∀ W : World, Calls Try.prog 28 #[.agg #[.int .i64 (Wd.wH y), .int .i64 (Wd.wL y)], .agg #[.int .i64 (Wd.wH x), .int .i64 (Wd.wL x)]] W fun e w' => e = .returned (.tuple #[.agg #[.int .i64 0, .int .i64 0], .int .i64 5]) ∧ Gr W w' := fun W => by
    have := add_w y x W hy hx; rw [Int.add_comm y x, e1, e2, e3] at this; exact this
  have HA := Lib.hid ha; have HB := Lib.hid hb
  clear ha hb e1 e2 e3 hx hy hxy
  go_enter Try.func8, Try.ntmps8
  go_wp2_with fail; refine (awake_any _).mono ?_; rintro e w1 ⟨rfl, hb1⟩; obtain ⟨hc1, hf1⟩ := Gr.cells hb1; have hz1 := Gr.size hb1; (try simp at hz1); (try have hy1_0 : w.heap.size < w1.heap.size := by omega); (try have hy1_1 : w.heap.size + 1 < w1.heap.size := by omega); (try have hy1_2 : w.heap.size + 1 + 1 < w1.heap.size := by omega); (try have hy1_3 : w.heap.size + 1 + 1 + 1 < w1.heap.size := by omega)
  go_wp2_with fail; refine (HA.out _).mono ?_; rintro e w2 ⟨rfl, hb2⟩; obtain ⟨hc2, hf2⟩ := Gr.cells hb2; have hz2 := Gr.size hb2; (try simp at hz2); (try have hy2_0 : w.heap.size < w2.heap.size := by omega); (try have hy2_1 : w.heap.size + 1 < w2.heap.size := by omega); (try have hy2_2 : w.heap.size + 1 + 1 < w2.heap.size := by omega); (try have hy2_3 : w.heap.size + 1 + 1 + 1 < w2.heap.size := by omega); (try have hy2_1_0 : w1.heap.size < w2.heap.size := by omega); (try have hy2_1_1 : w1.heap.size + 1 < w2.heap.size := by omega)
  go_wp2_with fail; refine (HB.out _).mono ?_; rintro e w3 ⟨rfl, hb3⟩; obtain ⟨hc3, hf3⟩ := Gr.cells hb3; have hz3 := Gr.size hb3; (try simp at hz3); (try have hy3_0 : w.heap.size < w3.heap.size := by omega); (try have hy3_1 : w.heap.size + 1 < w3.heap.size := by omega); (try have hy3_2 : w.heap.size + 1 + 1 < w3.heap.size := by omega); (try have hy3_3 : w.heap.size + 1 + 1 + 1 < w3.heap.size := by omega); (try have hy3_1_0 : w1.heap.size < w3.heap.size := by omega); (try have hy3_1_1 : w1.heap.size + 1 < w3.heap.size := by omega); (try have hy3_2_0 : w2.heap.size < w3.heap.size := by omega); (try have hy3_2_1 : w2.heap.size + 1 < w3.heap.size := by omega)
  go_wp2
  go_ret
  exact ⟨rfl, (by repeat' (first | (with_reducible exact Gr.refl _) | (with_reducible assumption) | (with_reducible refine Gr.alloc ?_ _) | (with_reducible refine Gr.drew ?_) | (with_reducible refine Gr.drewN ?_ _) | (with_reducible refine Gr.setCell ?_ ?_ _) | (with_reducible refine Gr.trans ?_ (by with_reducible assumption)) | go_size))⟩
set_option maxRecDepth 100000 in
set_option maxHeartbeats 1000000 in
/-- The third number has an answer of its own: whatever it is, or no sum. -/
theorem undone_third (x y i j p q e f : Int) (r s : Int) (w : World) (hx : Wd.has x = true) (hy : Wd.has y = true) (hxy : Wd.has (x + y) = true)
    (hd : e = 1 ∨ e = 5 ∨ e = 0 ∧ (f = 1 ∨ f = 5))
    (HA : ∀ W : World, Calls Try.prog 28 #[.agg #[.int .i64 (Wd.wH x), .int .i64 (Wd.wL x)], .agg #[.int .i64 i, .int .i64 j]] W fun z w' => z = .returned (.tuple #[.agg #[.int .i64 p, .int .i64 q], .int .i64 e]) ∧ Gr W w')
    (HB : ∀ W : World, Calls Try.prog 28 #[.agg #[.int .i64 (Wd.wH y), .int .i64 (Wd.wL y)], .agg #[.int .i64 i, .int .i64 j]] W fun z w' => z = .returned (.tuple #[.agg #[.int .i64 r, .int .i64 s], .int .i64 f]) ∧ Gr W w') :
    Calls Try.prog 8 #[.agg #[.int .i64 (Wd.wH x), .int .i64 (Wd.wL x)], .agg #[.int .i64 (Wd.wH y), .int .i64 (Wd.wL y)], .agg #[.int .i64 i, .int .i64 j]] w fun e w' => e = .returned (.bool true) ∧ Gr w w' := by
  have ha : ∀ W : World, Calls Try.prog 28 #[.agg #[.int .i64 (Wd.wH x), .int .i64 (Wd.wL x)], .agg #[.int .i64 (Wd.wH y), .int .i64 (Wd.wL y)]] W fun e w' => e = .returned (.tuple #[.agg #[.int .i64 (Wd.wH (x + y)), .int .i64 (Wd.wL (x + y))], .int .i64 0]) ∧ Gr W w' := fun W => by
    have := add_w x y W hx hy; rw [Wd.wE_has hxy] at this; exact this
  have hb : ∀ W : World, Calls Try.prog 28 #[.agg #[.int .i64 (Wd.wH y), .int .i64 (Wd.wL y)], .agg #[.int .i64 (Wd.wH x), .int .i64 (Wd.wL x)]] W fun e w' => e = .returned (.tuple #[.agg #[.int .i64 (Wd.wH (x + y)), .int .i64 (Wd.wL (x + y))], .int .i64 0]) ∧ Gr W w' := fun W => by
    have := add_w y x W hy hx; rw [Int.add_comm y x, Wd.wE_has hxy] at this; exact this
  have hs : ∀ W : World, Calls Try.prog 29 #[.agg #[.int .i64 (Wd.wH (x + y)), .int .i64 (Wd.wL (x + y))], .agg #[.int .i64 (Wd.wH y), .int .i64 (Wd.wL y)]] W fun e w' => e = .returned (.tuple #[.agg #[.int .i64 (Wd.wH x), .int .i64 (Wd.wL x)], .int .i64 0]) ∧ Gr W w' := fun W => by
    have := sub_w (x + y) y W hxy hy
    rw [show x + y - y = x by omega, Wd.wE_has hx] at this; exact this
  have H1 := Lib.hid ha; have H2 := Lib.hid hb; have H3 := Lib.hid hs; have HA := Lib.hid HA; have HB := Lib.hid HB
  clear ha hb hs hx hy hxy
  generalize x + y = u at *
  rcases hd with rfl | rfl | ⟨rfl, rfl | rfl⟩
  all_goals
    go_enter Try.func8, Try.ntmps8
    go_wp2_with fail; refine (awake_any _).mono ?_; rintro e w1 ⟨rfl, hb1⟩; obtain ⟨hc1, hf1⟩ := Gr.cells hb1; have hz1 := Gr.size hb1; (try simp at hz1); (try have hy1_0 : w.heap.size < w1.heap.size := by omega); (try have hy1_1 : w.heap.size + 1 < w1.heap.size := by omega); (try have hy1_2 : w.heap.size + 1 + 1 < w1.heap.size := by omega); (try have hy1_3 : w.heap.size + 1 + 1 + 1 < w1.heap.size := by omega)
    go_wp2_with fail; refine (H1.out _).mono ?_; rintro e w2 ⟨rfl, hb2⟩; obtain ⟨hc2, hf2⟩ := Gr.cells hb2; have hz2 := Gr.size hb2; (try simp at hz2); (try have hy2_0 : w.heap.size < w2.heap.size := by omega); (try have hy2_1 : w.heap.size + 1 < w2.heap.size := by omega); (try have hy2_2 : w.heap.size + 1 + 1 < w2.heap.size := by omega); (try have hy2_3 : w.heap.size + 1 + 1 + 1 < w2.heap.size := by omega); (try have hy2_1_0 : w1.heap.size < w2.heap.size := by omega); (try have hy2_1_1 : w1.heap.size + 1 < w2.heap.size := by omega)
    go_wp2_with fail; refine (H2.out _).mono ?_; rintro e w3 ⟨rfl, hb3⟩; obtain ⟨hc3, hf3⟩ := Gr.cells hb3; have hz3 := Gr.size hb3; (try simp at hz3); (try have hy3_0 : w.heap.size < w3.heap.size := by omega); (try have hy3_1 : w.heap.size + 1 < w3.heap.size := by omega); (try have hy3_2 : w.heap.size + 1 + 1 < w3.heap.size := by omega); (try have hy3_3 : w.heap.size + 1 + 1 + 1 < w3.heap.size := by omega); (try have hy3_1_0 : w1.heap.size < w3.heap.size := by omega); (try have hy3_1_1 : w1.heap.size + 1 < w3.heap.size := by omega); (try have hy3_2_0 : w2.heap.size < w3.heap.size := by omega); (try have hy3_2_1 : w2.heap.size + 1 < w3.heap.size := by omega)
    go_wp2_with fail; refine (H3.out _).mono ?_; rintro e w4 ⟨rfl, hb4⟩; obtain ⟨hc4, hf4⟩ := Gr.cells hb4; have hz4 := Gr.size hb4; (try simp at hz4); (try have hy4_0 : w.heap.size < w4.heap.size := by omega); (try have hy4_1 : w.heap.size + 1 < w4.heap.size := by omega); (try have hy4_2 : w.heap.size + 1 + 1 < w4.heap.size := by omega); (try have hy4_3 : w.heap.size + 1 + 1 + 1 < w4.heap.size := by omega); (try have hy4_1_0 : w1.heap.size < w4.heap.size := by omega); (try have hy4_1_1 : w1.heap.size + 1 < w4.heap.size := by omega); (try have hy4_2_0 : w2.heap.size < w4.heap.size := by omega); (try have hy4_2_1 : w2.heap.size + 1 < w4.heap.size := by omega); (try have hy4_3_0 : w3.heap.size < w4.heap.size := by omega); (try have hy4_3_1 : w3.heap.size + 1 < w4.heap.size := by omega)
    go_wp2_with fail; refine (HA.out _).mono ?_; rintro e w5 ⟨rfl, hb5⟩; obtain ⟨hc5, hf5⟩ := Gr.cells hb5; have hz5 := Gr.size hb5; (try simp at hz5); (try have hy5_0 : w.heap.size < w5.heap.size := by omega); (try have hy5_1 : w.heap.size + 1 < w5.heap.size := by omega); (try have hy5_2 : w.heap.size + 1 + 1 < w5.heap.size := by omega); (try have hy5_3 : w.heap.size + 1 + 1 + 1 < w5.heap.size := by omega); (try have hy5_1_0 : w1.heap.size < w5.heap.size := by omega); (try have hy5_1_1 : w1.heap.size + 1 < w5.heap.size := by omega); (try have hy5_2_0 : w2.heap.size < w5.heap.size := by omega); (try have hy5_2_1 : w2.heap.size + 1 < w5.heap.size := by omega); (try have hy5_3_0 : w3.heap.size < w5.heap.size := by omega); (try have hy5_3_1 : w3.heap.size + 1 < w5.heap.size := by omega); (try have hy5_4_0 : w4.heap.size < w5.heap.size := by omega); (try have hy5_4_1 : w4.heap.size + 1 < w5.heap.size := by omega)
    go_wp2_with fail; refine (HB.out _).mono ?_; rintro e w6 ⟨rfl, hb6⟩; obtain ⟨hc6, hf6⟩ := Gr.cells hb6; have hz6 := Gr.size hb6; (try simp at hz6); (try have hy6_0 : w.heap.size < w6.heap.size := by omega); (try have hy6_1 : w.heap.size + 1 < w6.heap.size := by omega); (try have hy6_2 : w.heap.size + 1 + 1 < w6.heap.size := by omega); (try have hy6_3 : w.heap.size + 1 + 1 + 1 < w6.heap.size := by omega); (try have hy6_1_0 : w1.heap.size < w6.heap.size := by omega); (try have hy6_1_1 : w1.heap.size + 1 < w6.heap.size := by omega); (try have hy6_2_0 : w2.heap.size < w6.heap.size := by omega); (try have hy6_2_1 : w2.heap.size + 1 < w6.heap.size := by omega); (try have hy6_3_0 : w3.heap.size < w6.heap.size := by omega); (try have hy6_3_1 : w3.heap.size + 1 < w6.heap.size := by omega); (try have hy6_4_0 : w4.heap.size < w6.heap.size := by omega); (try have hy6_4_1 : w4.heap.size + 1 < w6.heap.size := by omega); (try have hy6_5_0 : w5.heap.size < w6.heap.size := by omega); (try have hy6_5_1 : w5.heap.size + 1 < w6.heap.size := by omega)
    go_wp2
    go_ret
    exact ⟨rfl, (by repeat' (first | (with_reducible exact Gr.refl _) | (with_reducible assumption) | (with_reducible refine Gr.alloc ?_ _) | (with_reducible refine Gr.drew ?_) | (with_reducible refine Gr.drewN ?_ _) | (with_reducible refine Gr.setCell ?_ ?_ _) | (with_reducible refine Gr.trans ?_ (by with_reducible assumption)) | go_size))⟩
set_option maxRecDepth 100000 in
set_option maxHeartbeats 1000000 in
theorem undone_all (x y z : Int) (w : World) (hx : Wd.has x = true) (hy : Wd.has y = true) (hz : Wd.has z = true) (hxy : Wd.has (x + y) = true) (hxz : Wd.has (x + z) = true) (hyz : Wd.has (y + z) = true) :
    Calls Try.prog 8 #[.agg #[.int .i64 (Wd.wH x), .int .i64 (Wd.wL x)], .agg #[.int .i64 (Wd.wH y), .int .i64 (Wd.wL y)], .agg #[.int .i64 (Wd.wH z), .int .i64 (Wd.wL z)]] w fun e w' => e = .returned (.bool true) ∧ Gr w w' := by
  have ha : ∀ W : World, Calls Try.prog 28 #[.agg #[.int .i64 (Wd.wH x), .int .i64 (Wd.wL x)], .agg #[.int .i64 (Wd.wH y), .int .i64 (Wd.wL y)]] W fun e w' => e = .returned (.tuple #[.agg #[.int .i64 (Wd.wH (x + y)), .int .i64 (Wd.wL (x + y))], .int .i64 0]) ∧ Gr W w' := fun W => by
    have := add_w x y W hx hy; rw [Wd.wE_has hxy] at this; exact this
  have hb : ∀ W : World, Calls Try.prog 28 #[.agg #[.int .i64 (Wd.wH y), .int .i64 (Wd.wL y)], .agg #[.int .i64 (Wd.wH x), .int .i64 (Wd.wL x)]] W fun e w' => e = .returned (.tuple #[.agg #[.int .i64 (Wd.wH (x + y)), .int .i64 (Wd.wL (x + y))], .int .i64 0]) ∧ Gr W w' := fun W => by
    have := add_w y x W hy hx; rw [Int.add_comm y x, Wd.wE_has hxy] at this; exact this
  have hs : ∀ W : World, Calls Try.prog 29 #[.agg #[.int .i64 (Wd.wH (x + y)), .int .i64 (Wd.wL (x + y))], .agg #[.int .i64 (Wd.wH y), .int .i64 (Wd.wL y)]] W fun e w' => e = .returned (.tuple #[.agg #[.int .i64 (Wd.wH x), .int .i64 (Wd.wL x)], .int .i64 0]) ∧ Gr W w' := fun W => by
    have := sub_w (x + y) y W hxy hy
    rw [show x + y - y = x by omega, Wd.wE_has hx] at this; exact this
  have hc : ∀ W : World, Calls Try.prog 28 #[.agg #[.int .i64 (Wd.wH x), .int .i64 (Wd.wL x)], .agg #[.int .i64 (Wd.wH z), .int .i64 (Wd.wL z)]] W fun e w' => e = .returned (.tuple #[.agg #[.int .i64 (Wd.wH (x + z)), .int .i64 (Wd.wL (x + z))], .int .i64 0]) ∧ Gr W w' := fun W => by
    have := add_w x z W hx hz; rw [Wd.wE_has hxz] at this; exact this
  have hd : ∀ W : World, Calls Try.prog 28 #[.agg #[.int .i64 (Wd.wH y), .int .i64 (Wd.wL y)], .agg #[.int .i64 (Wd.wH z), .int .i64 (Wd.wL z)]] W fun e w' => e = .returned (.tuple #[.agg #[.int .i64 (Wd.wH (y + z)), .int .i64 (Wd.wL (y + z))], .int .i64 0]) ∧ Gr W w' := fun W => by
    have := add_w y z W hy hz; rw [Wd.wE_has hyz] at this; exact this
  have he : ∀ W : World, Calls Try.prog 27 #[.agg #[.int .i64 (Wd.wH x), .int .i64 (Wd.wL x)], .agg #[.int .i64 (Wd.wH y), .int .i64 (Wd.wL y)]] W fun e w' => e = .returned (.tuple #[.int .i64 (Wd.ord x y), .int .i64 0]) ∧ Gr W w' := fun W => cmp_w x y W hx hy
  have hf : ∀ W : World, Calls Try.prog 27 #[.agg #[.int .i64 (Wd.wH (x + z)), .int .i64 (Wd.wL (x + z))], .agg #[.int .i64 (Wd.wH (y + z)), .int .i64 (Wd.wL (y + z))]] W fun e w' => e = .returned (.tuple #[.int .i64 (Wd.ord x y), .int .i64 0]) ∧ Gr W w' := fun W => by
    have := cmp_w (x + z) (y + z) W hxz hyz; rw [Wd.ord_add] at this; exact this
  have H1 := Lib.hid ha; have H2 := Lib.hid hb; have H3 := Lib.hid hs; have H4 := Lib.hid hc; have H5 := Lib.hid hd; have H6 := Lib.hid he; have H7 := Lib.hid hf
  clear ha hb hs hc hd he hf hx hy hz hxy hxz hyz
  generalize x + y = u at *
  generalize x + z = u1 at *
  generalize y + z = u2 at *
  generalize Wd.ord x y = o at *
  go_enter Try.func8, Try.ntmps8
  go_wp2_with fail; refine (awake_any _).mono ?_; rintro e w1 ⟨rfl, hb1⟩; obtain ⟨hc1, hf1⟩ := Gr.cells hb1; have hz1 := Gr.size hb1; (try simp at hz1); (try have hy1_0 : w.heap.size < w1.heap.size := by omega); (try have hy1_1 : w.heap.size + 1 < w1.heap.size := by omega); (try have hy1_2 : w.heap.size + 1 + 1 < w1.heap.size := by omega); (try have hy1_3 : w.heap.size + 1 + 1 + 1 < w1.heap.size := by omega)
  go_wp2_with fail; refine (H1.out _).mono ?_; rintro e w2 ⟨rfl, hb2⟩; obtain ⟨hc2, hf2⟩ := Gr.cells hb2; have hz2 := Gr.size hb2; (try simp at hz2); (try have hy2_0 : w.heap.size < w2.heap.size := by omega); (try have hy2_1 : w.heap.size + 1 < w2.heap.size := by omega); (try have hy2_2 : w.heap.size + 1 + 1 < w2.heap.size := by omega); (try have hy2_3 : w.heap.size + 1 + 1 + 1 < w2.heap.size := by omega); (try have hy2_1_0 : w1.heap.size < w2.heap.size := by omega); (try have hy2_1_1 : w1.heap.size + 1 < w2.heap.size := by omega)
  go_wp2_with fail; refine (H2.out _).mono ?_; rintro e w3 ⟨rfl, hb3⟩; obtain ⟨hc3, hf3⟩ := Gr.cells hb3; have hz3 := Gr.size hb3; (try simp at hz3); (try have hy3_0 : w.heap.size < w3.heap.size := by omega); (try have hy3_1 : w.heap.size + 1 < w3.heap.size := by omega); (try have hy3_2 : w.heap.size + 1 + 1 < w3.heap.size := by omega); (try have hy3_3 : w.heap.size + 1 + 1 + 1 < w3.heap.size := by omega); (try have hy3_1_0 : w1.heap.size < w3.heap.size := by omega); (try have hy3_1_1 : w1.heap.size + 1 < w3.heap.size := by omega); (try have hy3_2_0 : w2.heap.size < w3.heap.size := by omega); (try have hy3_2_1 : w2.heap.size + 1 < w3.heap.size := by omega)
  go_wp2_with fail; refine (H3.out _).mono ?_; rintro e w4 ⟨rfl, hb4⟩; obtain ⟨hc4, hf4⟩ := Gr.cells hb4; have hz4 := Gr.size hb4; (try simp at hz4); (try have hy4_0 : w.heap.size < w4.heap.size := by omega); (try have hy4_1 : w.heap.size + 1 < w4.heap.size := by omega); (try have hy4_2 : w.heap.size + 1 + 1 < w4.heap.size := by omega); (try have hy4_3 : w.heap.size + 1 + 1 + 1 < w4.heap.size := by omega); (try have hy4_1_0 : w1.heap.size < w4.heap.size := by omega); (try have hy4_1_1 : w1.heap.size + 1 < w4.heap.size := by omega); (try have hy4_2_0 : w2.heap.size < w4.heap.size := by omega); (try have hy4_2_1 : w2.heap.size + 1 < w4.heap.size := by omega); (try have hy4_3_0 : w3.heap.size < w4.heap.size := by omega); (try have hy4_3_1 : w3.heap.size + 1 < w4.heap.size := by omega)
  go_wp2_with fail; refine (H4.out _).mono ?_; rintro e w5 ⟨rfl, hb5⟩; obtain ⟨hc5, hf5⟩ := Gr.cells hb5; have hz5 := Gr.size hb5; (try simp at hz5); (try have hy5_0 : w.heap.size < w5.heap.size := by omega); (try have hy5_1 : w.heap.size + 1 < w5.heap.size := by omega); (try have hy5_2 : w.heap.size + 1 + 1 < w5.heap.size := by omega); (try have hy5_3 : w.heap.size + 1 + 1 + 1 < w5.heap.size := by omega); (try have hy5_1_0 : w1.heap.size < w5.heap.size := by omega); (try have hy5_1_1 : w1.heap.size + 1 < w5.heap.size := by omega); (try have hy5_2_0 : w2.heap.size < w5.heap.size := by omega); (try have hy5_2_1 : w2.heap.size + 1 < w5.heap.size := by omega); (try have hy5_3_0 : w3.heap.size < w5.heap.size := by omega); (try have hy5_3_1 : w3.heap.size + 1 < w5.heap.size := by omega); (try have hy5_4_0 : w4.heap.size < w5.heap.size := by omega); (try have hy5_4_1 : w4.heap.size + 1 < w5.heap.size := by omega)
  go_wp2_with fail; refine (H5.out _).mono ?_; rintro e w6 ⟨rfl, hb6⟩; obtain ⟨hc6, hf6⟩ := Gr.cells hb6; have hz6 := Gr.size hb6; (try simp at hz6); (try have hy6_0 : w.heap.size < w6.heap.size := by omega); (try have hy6_1 : w.heap.size + 1 < w6.heap.size := by omega); (try have hy6_2 : w.heap.size + 1 + 1 < w6.heap.size := by omega); (try have hy6_3 : w.heap.size + 1 + 1 + 1 < w6.heap.size := by omega); (try have hy6_1_0 : w1.heap.size < w6.heap.size := by omega); (try have hy6_1_1 : w1.heap.size + 1 < w6.heap.size := by omega); (try have hy6_2_0 : w2.heap.size < w6.heap.size := by omega); (try have hy6_2_1 : w2.heap.size + 1 < w6.heap.size := by omega); (try have hy6_3_0 : w3.heap.size < w6.heap.size := by omega); (try have hy6_3_1 : w3.heap.size + 1 < w6.heap.size := by omega); (try have hy6_4_0 : w4.heap.size < w6.heap.size := by omega); (try have hy6_4_1 : w4.heap.size + 1 < w6.heap.size := by omega); (try have hy6_5_0 : w5.heap.size < w6.heap.size := by omega); (try have hy6_5_1 : w5.heap.size + 1 < w6.heap.size := by omega)
  go_wp2_with fail; refine (H6.out _).mono ?_; rintro e w7 ⟨rfl, hb7⟩; obtain ⟨hc7, hf7⟩ := Gr.cells hb7; have hz7 := Gr.size hb7; (try simp at hz7); (try have hy7_0 : w.heap.size < w7.heap.size := by omega); (try have hy7_1 : w.heap.size + 1 < w7.heap.size := by omega); (try have hy7_2 : w.heap.size + 1 + 1 < w7.heap.size := by omega); (try have hy7_3 : w.heap.size + 1 + 1 + 1 < w7.heap.size := by omega); (try have hy7_1_0 : w1.heap.size < w7.heap.size := by omega); (try have hy7_1_1 : w1.heap.size + 1 < w7.heap.size := by omega); (try have hy7_2_0 : w2.heap.size < w7.heap.size := by omega); (try have hy7_2_1 : w2.heap.size + 1 < w7.heap.size := by omega); (try have hy7_3_0 : w3.heap.size < w7.heap.size := by omega); (try have hy7_3_1 : w3.heap.size + 1 < w7.heap.size := by omega); (try have hy7_4_0 : w4.heap.size < w7.heap.size := by omega); (try have hy7_4_1 : w4.heap.size + 1 < w7.heap.size := by omega); (try have hy7_5_0 : w5.heap.size < w7.heap.size := by omega); (try have hy7_5_1 : w5.heap.size + 1 < w7.heap.size := by omega); (try have hy7_6_0 : w6.heap.size < w7.heap.size := by omega); (try have hy7_6_1 : w6.heap.size + 1 < w7.heap.size := by omega)
  go_wp2_with fail; refine (H7.out _).mono ?_; rintro e w8 ⟨rfl, hb8⟩; obtain ⟨hc8, hf8⟩ := Gr.cells hb8; have hz8 := Gr.size hb8; (try simp at hz8); (try have hy8_0 : w.heap.size < w8.heap.size := by omega); (try have hy8_1 : w.heap.size + 1 < w8.heap.size := by omega); (try have hy8_2 : w.heap.size + 1 + 1 < w8.heap.size := by omega); (try have hy8_3 : w.heap.size + 1 + 1 + 1 < w8.heap.size := by omega); (try have hy8_1_0 : w1.heap.size < w8.heap.size := by omega); (try have hy8_1_1 : w1.heap.size + 1 < w8.heap.size := by omega); (try have hy8_2_0 : w2.heap.size < w8.heap.size := by omega); (try have hy8_2_1 : w2.heap.size + 1 < w8.heap.size := by omega); (try have hy8_3_0 : w3.heap.size < w8.heap.size := by omega); (try have hy8_3_1 : w3.heap.size + 1 < w8.heap.size := by omega); (try have hy8_4_0 : w4.heap.size < w8.heap.size := by omega); (try have hy8_4_1 : w4.heap.size + 1 < w8.heap.size := by omega); (try have hy8_5_0 : w5.heap.size < w8.heap.size := by omega); (try have hy8_5_1 : w5.heap.size + 1 < w8.heap.size := by omega); (try have hy8_6_0 : w6.heap.size < w8.heap.size := by omega); (try have hy8_6_1 : w6.heap.size + 1 < w8.heap.size := by omega); (try have hy8_7_0 : w7.heap.size < w8.heap.size := by omega); (try have hy8_7_1 : w7.heap.size + 1 < w8.heap.size := by omega)
  go_wp2
  go_ret
  exact ⟨by simp, (by repeat' (first | (with_reducible exact Gr.refl _) | (with_reducible assumption) | (with_reducible refine Gr.alloc ?_ _) | (with_reducible refine Gr.drew ?_) | (with_reducible refine Gr.drewN ?_ _) | (with_reducible refine Gr.setCell ?_ ?_ _) | (with_reducible refine Gr.trans ?_ (by with_reducible assumption)) | go_size))⟩
theorem undone_any (h l k m i j : Int) (w : World) :
    Calls Try.prog 8 #[.agg #[.int .i64 h, .int .i64 l], .agg #[.int .i64 k, .int .i64 m], .agg #[.int .i64 i, .int .i64 j]] w fun e w' => e = .returned (.bool true) ∧ Gr w w' := by
  cases h1 : Wd.vld h l
  · exact undone_bad _ _ _ _ _ _ w (Or.inl h1)
  cases h2 : Wd.vld k m
  · exact undone_bad _ _ _ _ _ _ w (Or.inr h2)
  obtain ⟨x, hx, rfl, rfl⟩ := Wd.w_val h1
  obtain ⟨y, hy, rfl, rfl⟩ := Wd.w_val h2
  cases hxy : Wd.has (x + y)
  · exact undone_big x y i j w hx hy hxy
  cases h3 : Wd.vld i j
  · exact undone_third x y i j 0 0 1 1 0 0 w hx hy hxy (Or.inl rfl) (fun W => add_bad_w _ _ _ _ W (Or.inr h3)) (fun W => add_bad_w _ _ _ _ W (Or.inr h3))
  obtain ⟨z, hz, rfl, rfl⟩ := Wd.w_val h3
  cases hxz : Wd.has (x + z)
  · obtain ⟨e1, e2, e3⟩ := Wd.wE_not hxz
    exact undone_third x y _ _ _ _ _ _ _ _ w hx hy hxy (Or.inr (Or.inl e1)) (fun W => add_w x z W hx hz) (fun W => add_w y z W hy hz)
  cases hyz : Wd.has (y + z)
  · obtain ⟨e1, e2, e3⟩ := Wd.wE_not hyz
    exact undone_third x y _ _ _ _ _ _ _ _ w hx hy hxy (Or.inr (Or.inr ⟨Wd.wE_has hxz, Or.inr e1⟩)) (fun W => add_w x z W hx hz) (fun W => add_w y z W hy hz)
  exact undone_all x y z w hx hy hz hxy hxz hyz
end Go.Proofs.Ytbaahlofabmljaa
