import Derived.Test.YtbaahlofabmljaaDoorWdRoot
set_option linter.unusedVariables false
set_option linter.unusedSimpArgs false
namespace Go.Proofs.YtbaahlofabmljaaDoor
open Go.RowKit
namespace Wd
theorem has_bounds {v : Int} (hv : has v = true) : -1329227995784915872903807060280344576 ≤ v ∧ v ≤ 1329227995784915872903807060280344575 := by
  unfold has at hv; simp only [Bool.and_eq_true, decide_eq_true_eq] at hv; exact hv
theorem has_of {v : Int} (h0 : -1329227995784915872903807060280344576 ≤ v) (h1 : v ≤ 1329227995784915872903807060280344575) : has v = true := by
  unfold has; rw [decide_eq_true h0, decide_eq_true h1]; rfl
theorem val_w {v : Int} (hv : has v = true) : vld (wH v) (wL v) = true ∧ val (wH v) (wL v) = v := by
  obtain ⟨a, b⟩ := has_bounds hv
  obtain ⟨e1, e2, e3⟩ := has_true a b
  rw [e1, e2]
  refine ⟨vld_mk (by omega) (by omega) (by omega) (by omega), by unfold val; omega⟩
theorem w_val {h l : Int} (hv : vld h l = true) : ∃ v, has v = true ∧ h = wH v ∧ l = wL v := by
  obtain ⟨a, b⟩ := val_bounds hv
  obtain ⟨c, d⟩ := val_div hv
  obtain ⟨e1, e2, e3⟩ := has_true a b
  exact ⟨val h l, has_of a b, by rw [e1, c], by rw [e2, d]⟩
theorem wE_has {v : Int} (hv : has v = true) : wE v = 0 := by unfold wE; rw [hv]; rfl
theorem wE_not {v : Int} (hv : has v = false) : wE v = 5 ∧ wH v = 0 ∧ wL v = 0 := by unfold wE wH wL; rw [hv]; exact ⟨rfl, rfl, rfl⟩
theorem root_uniq {v r : Int} (h0 : 0 ≤ r) (h1 : r * r ≤ v) (h2 : v < (r + 1) * (r + 1)) (hv : v ≤ 1329227995784915872903807060280344575) : root v = r := by
  have v0 : 0 ≤ v := by have := Int.mul_nonneg h0 h0; omega
  obtain ⟨a, b, c, d⟩ := root_spec v0 hv
  generalize root v = s at *
  by_cases hlt : s < r
  · have := Int.mul_le_mul (show s + 1 ≤ r by omega) (show s + 1 ≤ r by omega) (by omega) h0; omega
  · by_cases hgt : r < s
    · have := Int.mul_le_mul (show r + 1 ≤ s by omega) (show r + 1 ≤ s by omega) (by omega) a; omega
    · omega
theorem root_sq {r : Int} (h0 : 0 ≤ r) (hv : r * r ≤ 1329227995784915872903807060280344575) : root (r * r) = r :=
  root_uniq h0 (Int.le_refl _) (by have := Int.mul_add (r + 1) r 1; have := Int.add_mul r 1 r; omega) hv
theorem root_ex : root 1267650600228229401496703205376 = 1125899906842624 := root_uniq (by decide) (by decide) (by decide) (by decide)
theorem has_ex : has (1099511627776 * -1073741824) = true ∧ wH (1099511627776 * -1073741824) = -1024 ∧ wL (1099511627776 * -1073741824) = 0 := by decide
theorem sc_ex : scLo (7 * -3) 2 = -11 ∧ scHi (7 * -3) 2 = -10 ∧ scE (7 * -3) 2 = 0 := by decide
end Wd
theorem cmp_w (x y : Int) (w : World) (hx : Wd.has x = true) (hy : Wd.has y = true) :
    Calls Tryd.prog 12 #[.agg #[.int .i64 (Wd.wH x), .int .i64 (Wd.wL x)], .agg #[.int .i64 (Wd.wH y), .int .i64 (Wd.wL y)]] w fun e w' => e = .returned (.tuple #[.int .i64 (Wd.ord x y), .int .i64 0]) ∧ Gr w w' := by
  obtain ⟨a, b⟩ := Wd.val_w hx; obtain ⟨c, d⟩ := Wd.val_w hy
  have := cmp_any _ _ _ _ w a c; rw [b, d] at this; exact this
theorem valid_w (x : Int) (w : World) (hx : Wd.has x = true) :
    Calls Tryd.prog 11 #[.agg #[.int .i64 (Wd.wH x), .int .i64 (Wd.wL x)]] w fun e w' => e = .returned (.bool true) ∧ Gr w w' := valid_true _ _ w (Wd.val_w hx).1
theorem root_w (x : Int) (w : World) (hx : Wd.has x = true) (hn : 0 ≤ x) :
    Calls Tryd.prog 6 #[.agg #[.int .i64 (Wd.wH x), .int .i64 (Wd.wL x)]] w fun e w' => e = .returned (.tuple #[.int .i64 (Wd.root x), .int .i64 0]) ∧ Gr w w' := by
  obtain ⟨a, b⟩ := Wd.val_w hx
  have := root_any _ _ w a (by rw [b]; exact hn); rw [b] at this; exact this
theorem rootn_w (x : Int) (w : World) (hx : Wd.has x = true) (hn : x < 0) :
    Calls Tryd.prog 6 #[.agg #[.int .i64 (Wd.wH x), .int .i64 (Wd.wL x)]] w fun e w' => e = .returned (.tuple #[.int .i64 0, .int .i64 2]) ∧ Gr w w' := by
  obtain ⟨a, b⟩ := Wd.val_w hx
  exact root_neg _ _ w a (by rw [b]; exact hn)
set_option maxHeartbeats 1000000 in
theorem awake_any (w : World) : Calls Tryd.prog 5 #[] w fun e w' => e = .returned (.bool true) ∧ Gr w w' := by
  have hp : ∀ W : World, Calls Tryd.prog 16 #[.int .i64 1099511627776, .int .i64 (-1073741824)] W fun e w' => e = .returned (.tuple #[.agg #[.int .i64 (-1024), .int .i64 0], .int .i64 0]) ∧ Gr W w' := fun W => by
    obtain ⟨a, b, c⟩ := Wd.has_ex
    have := product_any 1099511627776 (-1073741824) W (by decide) (by decide) (by decide) (by decide)
    rw [b, c, Wd.wE_has a] at this; exact this
  have hs : ∀ W : World, Calls Tryd.prog 17 #[.int .i64 7, .int .i64 (-3), .int .i64 2] W fun e w' => e = .returned (.tuple #[.int .i64 (-11), .int .i64 (-10), .int .i64 0]) ∧ Gr W w' := fun W => by
    obtain ⟨a, b, c⟩ := Wd.sc_ex
    have := scale_any 7 (-3) 2 W (by decide) (by decide) (by decide) (by decide) (by decide) (by decide)
    rw [a, b, c] at this; exact this
  have hr : ∀ W : World, Calls Tryd.prog 6 #[.agg #[.int .i64 1099511627776, .int .i64 0]] W fun e w' => e = .returned (.tuple #[.int .i64 1125899906842624, .int .i64 0]) ∧ Gr W w' := fun W => by
    have := root_any 1099511627776 0 W (by decide) (by decide)
    have e : Wd.val 1099511627776 0 = 1267650600228229401496703205376 := by decide
    rw [e, Wd.root_ex] at this; exact this
  have hv : ∀ W : World, Calls Tryd.prog 11 #[.agg #[.int .i64 (-1024), .int .i64 0]] W fun e w' => e = .returned (.bool true) ∧ Gr W w' := fun W => valid_true _ _ W (by decide)
  have HP := Lib.hid hp; have HS := Lib.hid hs; have HR := Lib.hid hr; have HV := Lib.hid hv
  clear hp hs hr hv
  go_enter Tryd.func5, Tryd.ntmps5
  go_wp2_with (first | (go_at_call 16; refine (HP.out _).mono ?_; rintro e w1 ⟨rfl, hb1⟩; obtain ⟨hc1, hf1⟩ := Gr.cells hb1; have hz1 := Gr.size hb1; (try simp at hz1); (try have hy1_0 : w.heap.size < w1.heap.size := by omega); (try have hy1_1 : w.heap.size + 1 < w1.heap.size := by omega); (try have hy1_2 : w.heap.size + 1 + 1 < w1.heap.size := by omega); (try have hy1_3 : w.heap.size + 1 + 1 + 1 < w1.heap.size := by omega); (try have hy1_4 : w.heap.size + 1 + 1 + 1 + 1 < w1.heap.size := by omega); (try have hy1_5 : w.heap.size + 1 + 1 + 1 + 1 + 1 < w1.heap.size := by omega)) | (go_at_call 17; refine (HS.out _).mono ?_; rintro e w2 ⟨rfl, hb2⟩; obtain ⟨hc2, hf2⟩ := Gr.cells hb2; have hz2 := Gr.size hb2; (try simp at hz2); (try have hy2_0 : w.heap.size < w2.heap.size := by omega); (try have hy2_1 : w.heap.size + 1 < w2.heap.size := by omega); (try have hy2_2 : w.heap.size + 1 + 1 < w2.heap.size := by omega); (try have hy2_3 : w.heap.size + 1 + 1 + 1 < w2.heap.size := by omega); (try have hy2_4 : w.heap.size + 1 + 1 + 1 + 1 < w2.heap.size := by omega); (try have hy2_5 : w.heap.size + 1 + 1 + 1 + 1 + 1 < w2.heap.size := by omega); (try have hy2_1_0 : w1.heap.size < w2.heap.size := by omega); (try have hy2_1_1 : w1.heap.size + 1 < w2.heap.size := by omega)) | (go_at_call 6; refine (HR.out _).mono ?_; rintro e w3 ⟨rfl, hb3⟩; obtain ⟨hc3, hf3⟩ := Gr.cells hb3; have hz3 := Gr.size hb3; (try simp at hz3); (try have hy3_0 : w.heap.size < w3.heap.size := by omega); (try have hy3_1 : w.heap.size + 1 < w3.heap.size := by omega); (try have hy3_2 : w.heap.size + 1 + 1 < w3.heap.size := by omega); (try have hy3_3 : w.heap.size + 1 + 1 + 1 < w3.heap.size := by omega); (try have hy3_4 : w.heap.size + 1 + 1 + 1 + 1 < w3.heap.size := by omega); (try have hy3_5 : w.heap.size + 1 + 1 + 1 + 1 + 1 < w3.heap.size := by omega); (try have hy3_1_0 : w1.heap.size < w3.heap.size := by omega); (try have hy3_1_1 : w1.heap.size + 1 < w3.heap.size := by omega)) | (go_at_call 11; refine (HV.out _).mono ?_; rintro e w4 ⟨rfl, hb4⟩; obtain ⟨hc4, hf4⟩ := Gr.cells hb4; have hz4 := Gr.size hb4; (try simp at hz4); (try have hy4_0 : w.heap.size < w4.heap.size := by omega); (try have hy4_1 : w.heap.size + 1 < w4.heap.size := by omega); (try have hy4_2 : w.heap.size + 1 + 1 < w4.heap.size := by omega); (try have hy4_3 : w.heap.size + 1 + 1 + 1 < w4.heap.size := by omega); (try have hy4_4 : w.heap.size + 1 + 1 + 1 + 1 < w4.heap.size := by omega); (try have hy4_5 : w.heap.size + 1 + 1 + 1 + 1 + 1 < w4.heap.size := by omega); (try have hy4_1_0 : w1.heap.size < w4.heap.size := by omega); (try have hy4_1_1 : w1.heap.size + 1 < w4.heap.size := by omega)))
  go_ret
  exact ⟨rfl, (by repeat' (first | (with_reducible exact Gr.refl _) | (with_reducible assumption) | (with_reducible refine Gr.alloc ?_ _) | (with_reducible refine Gr.drew ?_) | (with_reducible refine Gr.drewN ?_ _) | (with_reducible refine Gr.setCell ?_ ?_ _) | (with_reducible refine Gr.trans ?_ (by with_reducible assumption)) | go_size))⟩
end Go.Proofs.YtbaahlofabmljaaDoor
