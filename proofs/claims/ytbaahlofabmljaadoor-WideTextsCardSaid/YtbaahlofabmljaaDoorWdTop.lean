import Derived.Test.YtbaahlofabmljaaDoorWdQuo
set_option linter.unusedVariables false
set_option linter.unusedSimpArgs false
namespace Go.Proofs.YtbaahlofabmljaaDoor
open Go.RowKit
theorem ret_three {k l m : IntKind} {a b c d e f : Int} (h : a = b) (h' : c = d) (h'' : e = f) : Ending.returned (.tuple #[.int k a, .int l c, .int m e]) = .returned (.tuple #[.int k b, .int l d, .int m f]) := by rw [h, h', h'']

namespace Wd
/-- What a division returns: the quotient, and the error number. -/
def dvQ (h l b : Int) (up : Bool) : Int := if vld h l then (if b = 0 then 0 else intQ (rnd (val h l) b up)) else 0
def dvE (h l b : Int) (up : Bool) : Int := if vld h l then (if b = 0 then 16 else intE (rnd (val h l) b up)) else 1
end Wd
namespace Wd
/-- What Scale returns. -/
def scOK (p d : Int) : Bool := fits (flr p d) && fits (cel p d)
def scLo (p d : Int) : Int := if d = 0 then 0 else if scOK p d then flr p d else 0
def scHi (p d : Int) : Int := if d = 0 then 0 else if scOK p d then cel p d else 0
def scE (p d : Int) : Int := if d = 0 then 16 else if scOK p d then 0 else 5
end Wd
set_option maxHeartbeats 400000 in
theorem scale_any (n m d : Int) (w : World) (n0 : -9223372036854775808 ≤ n) (n1 : n ≤ 9223372036854775807) (m0 : -9223372036854775808 ≤ m) (m1 : m ≤ 9223372036854775807) (d0 : -9223372036854775808 ≤ d) (d1 : d ≤ 9223372036854775807) :
    Calls Tryd.prog 17 #[.int .i64 n, .int .i64 m, .int .i64 d] w fun e w' => e = .returned (.tuple #[.int .i64 (Wd.scLo (n * m) d), .int .i64 (Wd.scHi (n * m) d), .int .i64 (Wd.scE (n * m) d)]) ∧ Gr w w' := by
  unfold Wd.scLo Wd.scHi Wd.scE Wd.scOK
  by_cases hd : d = 0
  · subst hd
    simp only [if_true]
    go_enter Tryd.func17, Tryd.ntmps17
    go_wp2
    go_ret3
    exact ⟨rfl, (by repeat' (first | (with_reducible exact Gr.refl _) | (with_reducible assumption) | (with_reducible refine Gr.alloc ?_ _) | (with_reducible refine Gr.drew ?_) | (with_reducible refine Gr.drewN ?_ _) | (with_reducible refine Gr.setCell ?_ ?_ _) | (with_reducible refine Gr.trans ?_ (by with_reducible assumption)) | go_size))⟩
  simp only [hd, if_false]
  have hz : (d == 0) = false := beq_eq_false_iff_ne.2 hd
  have hf : ∀ W : World, Calls Tryd.prog 43 #[.agg #[.int .u64 (Wd.hi (n * m)), .int .u64 (Wd.lo (n * m)), .bool (Wd.neg (n * m))], .int .i64 d, .bool false] W fun e w' => e = .returned (.tuple #[.int .i64 (Wd.intQ (Wd.flr (n * m) d)), .int .i64 (Wd.intE (Wd.flr (n * m) d))]) ∧ Gr W w' := fun W => quo_any _ _ false W d0 d1 hd
  have hc : ∀ W : World, Calls Tryd.prog 43 #[.agg #[.int .u64 (Wd.hi (n * m)), .int .u64 (Wd.lo (n * m)), .bool (Wd.neg (n * m))], .int .i64 d, .bool true] W fun e w' => e = .returned (.tuple #[.int .i64 (Wd.intQ (Wd.cel (n * m) d)), .int .i64 (Wd.intE (Wd.cel (n * m) d))]) ∧ Gr W w' := fun W => quo_any _ _ true W d0 d1 hd
  have ht : ∀ W : World, Calls Tryd.prog 42 #[.int .i64 n, .int .i64 m] W fun e w' => e = .returned (.agg #[.int .u64 (Wd.hi (n * m)), .int .u64 (Wd.lo (n * m)), .bool (Wd.neg (n * m))]) ∧ Gr W w' := fun W => times_any n m W n0 n1 m0 m1
  generalize n * m = p at *
  unfold Wd.intQ Wd.intE at hf hc
  cases h1 : Wd.fits (Wd.flr p d)
  · simp only [h1, Bool.false_and, Bool.false_eq_true, if_false] at hf ⊢
    have HF := Lib.hid hf; have HC := Lib.hid hc; have HT := Lib.hid ht
    clear hf hc ht h1 hd
    go_enter Tryd.func17, Tryd.ntmps17
    go_wp2_with (first | (go_at_call 42; refine (HT.out _).mono ?_; rintro e w1 ⟨rfl, hb1⟩; obtain ⟨hc1, hf1⟩ := Gr.cells hb1; have hz1 := Gr.size hb1; (try simp at hz1); (try have hy1_0 : w.heap.size < w1.heap.size := by omega); (try have hy1_1 : w.heap.size + 1 < w1.heap.size := by omega); (try have hy1_2 : w.heap.size + 1 + 1 < w1.heap.size := by omega); (try have hy1_3 : w.heap.size + 1 + 1 + 1 < w1.heap.size := by omega); (try have hy1_4 : w.heap.size + 1 + 1 + 1 + 1 < w1.heap.size := by omega); (try have hy1_5 : w.heap.size + 1 + 1 + 1 + 1 + 1 < w1.heap.size := by omega)) | (go_at_call 43; refine (HF.out _).mono ?_; rintro e w2 ⟨rfl, hb2⟩; obtain ⟨hc2, hf2⟩ := Gr.cells hb2; have hz2 := Gr.size hb2; (try simp at hz2); (try have hy2_0 : w.heap.size < w2.heap.size := by omega); (try have hy2_1 : w.heap.size + 1 < w2.heap.size := by omega); (try have hy2_2 : w.heap.size + 1 + 1 < w2.heap.size := by omega); (try have hy2_3 : w.heap.size + 1 + 1 + 1 < w2.heap.size := by omega); (try have hy2_4 : w.heap.size + 1 + 1 + 1 + 1 < w2.heap.size := by omega); (try have hy2_5 : w.heap.size + 1 + 1 + 1 + 1 + 1 < w2.heap.size := by omega)))
    go_ret3
    exact ⟨rfl, (by repeat' (first | (with_reducible exact Gr.refl _) | (with_reducible assumption) | (with_reducible refine Gr.alloc ?_ _) | (with_reducible refine Gr.drew ?_) | (with_reducible refine Gr.drewN ?_ _) | (with_reducible refine Gr.setCell ?_ ?_ _) | (with_reducible refine Gr.trans ?_ (by with_reducible assumption)) | go_size))⟩
  · simp only [h1, Bool.true_and, if_true] at hf ⊢
    cases h2 : Wd.fits (Wd.cel p d)
    · simp only [h2, Bool.false_eq_true, if_false] at hc ⊢
      have HF := Lib.hid hf; have HC := Lib.hid hc; have HT := Lib.hid ht
      clear hf hc ht h1 h2 hd
      go_enter Tryd.func17, Tryd.ntmps17
      go_wp2_with fail
      refine (HT.out _).mono ?_; rintro e w1 ⟨rfl, hb1⟩; obtain ⟨hc1, hf1⟩ := Gr.cells hb1; have hz1 := Gr.size hb1; (try simp at hz1); (try have hy1_0 : w.heap.size < w1.heap.size := by omega); (try have hy1_1 : w.heap.size + 1 < w1.heap.size := by omega); (try have hy1_2 : w.heap.size + 1 + 1 < w1.heap.size := by omega); (try have hy1_3 : w.heap.size + 1 + 1 + 1 < w1.heap.size := by omega); (try have hy1_4 : w.heap.size + 1 + 1 + 1 + 1 < w1.heap.size := by omega); (try have hy1_5 : w.heap.size + 1 + 1 + 1 + 1 + 1 < w1.heap.size := by omega)
      go_wp2_with fail
      refine (HF.out _).mono ?_; rintro e w2 ⟨rfl, hb2⟩; obtain ⟨hc2, hf2⟩ := Gr.cells hb2; have hz2 := Gr.size hb2; (try simp at hz2); (try have hy2_0 : w.heap.size < w2.heap.size := by omega); (try have hy2_1 : w.heap.size + 1 < w2.heap.size := by omega); (try have hy2_2 : w.heap.size + 1 + 1 < w2.heap.size := by omega); (try have hy2_3 : w.heap.size + 1 + 1 + 1 < w2.heap.size := by omega); (try have hy2_4 : w.heap.size + 1 + 1 + 1 + 1 < w2.heap.size := by omega); (try have hy2_5 : w.heap.size + 1 + 1 + 1 + 1 + 1 < w2.heap.size := by omega)
      go_wp2_with fail
      refine (HC.out _).mono ?_; rintro e w3 ⟨rfl, hb3⟩; obtain ⟨hc3, hf3⟩ := Gr.cells hb3; have hz3 := Gr.size hb3; (try simp at hz3); (try have hy3_0 : w.heap.size < w3.heap.size := by omega); (try have hy3_1 : w.heap.size + 1 < w3.heap.size := by omega); (try have hy3_2 : w.heap.size + 1 + 1 < w3.heap.size := by omega); (try have hy3_3 : w.heap.size + 1 + 1 + 1 < w3.heap.size := by omega); (try have hy3_4 : w.heap.size + 1 + 1 + 1 + 1 < w3.heap.size := by omega); (try have hy3_5 : w.heap.size + 1 + 1 + 1 + 1 + 1 < w3.heap.size := by omega)
      go_wp2
      go_ret3
      exact ⟨rfl, (by repeat' (first | (with_reducible exact Gr.refl _) | (with_reducible assumption) | (with_reducible refine Gr.alloc ?_ _) | (with_reducible refine Gr.drew ?_) | (with_reducible refine Gr.drewN ?_ _) | (with_reducible refine Gr.setCell ?_ ?_ _) | (with_reducible refine Gr.trans ?_ (by with_reducible assumption)) | go_size))⟩
    · simp only [h2, if_true] at hc ⊢
      have HF := Lib.hid hf; have HC := Lib.hid hc; have HT := Lib.hid ht
      clear hf hc ht h1 h2 hd
      go_enter Tryd.func17, Tryd.ntmps17
      go_wp2_with fail
      refine (HT.out _).mono ?_; rintro e w1 ⟨rfl, hb1⟩; obtain ⟨hc1, hf1⟩ := Gr.cells hb1; have hz1 := Gr.size hb1; (try simp at hz1); (try have hy1_0 : w.heap.size < w1.heap.size := by omega); (try have hy1_1 : w.heap.size + 1 < w1.heap.size := by omega); (try have hy1_2 : w.heap.size + 1 + 1 < w1.heap.size := by omega); (try have hy1_3 : w.heap.size + 1 + 1 + 1 < w1.heap.size := by omega); (try have hy1_4 : w.heap.size + 1 + 1 + 1 + 1 < w1.heap.size := by omega); (try have hy1_5 : w.heap.size + 1 + 1 + 1 + 1 + 1 < w1.heap.size := by omega)
      go_wp2_with fail
      refine (HF.out _).mono ?_; rintro e w2 ⟨rfl, hb2⟩; obtain ⟨hc2, hf2⟩ := Gr.cells hb2; have hz2 := Gr.size hb2; (try simp at hz2); (try have hy2_0 : w.heap.size < w2.heap.size := by omega); (try have hy2_1 : w.heap.size + 1 < w2.heap.size := by omega); (try have hy2_2 : w.heap.size + 1 + 1 < w2.heap.size := by omega); (try have hy2_3 : w.heap.size + 1 + 1 + 1 < w2.heap.size := by omega); (try have hy2_4 : w.heap.size + 1 + 1 + 1 + 1 < w2.heap.size := by omega); (try have hy2_5 : w.heap.size + 1 + 1 + 1 + 1 + 1 < w2.heap.size := by omega)
      go_wp2_with fail
      refine (HC.out _).mono ?_; rintro e w3 ⟨rfl, hb3⟩; obtain ⟨hc3, hf3⟩ := Gr.cells hb3; have hz3 := Gr.size hb3; (try simp at hz3); (try have hy3_0 : w.heap.size < w3.heap.size := by omega); (try have hy3_1 : w.heap.size + 1 < w3.heap.size := by omega); (try have hy3_2 : w.heap.size + 1 + 1 < w3.heap.size := by omega); (try have hy3_3 : w.heap.size + 1 + 1 + 1 < w3.heap.size := by omega); (try have hy3_4 : w.heap.size + 1 + 1 + 1 + 1 < w3.heap.size := by omega); (try have hy3_5 : w.heap.size + 1 + 1 + 1 + 1 + 1 < w3.heap.size := by omega)
      go_wp2
      go_ret3
      exact ⟨rfl, (by repeat' (first | (with_reducible exact Gr.refl _) | (with_reducible assumption) | (with_reducible refine Gr.alloc ?_ _) | (with_reducible refine Gr.drew ?_) | (with_reducible refine Gr.drewN ?_ _) | (with_reducible refine Gr.setCell ?_ ?_ _) | (with_reducible refine Gr.trans ?_ (by with_reducible assumption)) | go_size))⟩
end Go.Proofs.YtbaahlofabmljaaDoor
