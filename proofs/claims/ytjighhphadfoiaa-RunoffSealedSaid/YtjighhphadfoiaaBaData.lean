/-
  What classes and inflows are in memory; slices.IndexFunc and slices.ContainsFunc on each. (Printed by mkdata.py.)
-/
import Derived.Test.YtjighhphadfoiaaBaIdx
set_option linter.unusedVariables false
set_option linter.unusedSimpArgs false
namespace Go.Proofs.Ytjighhphadfoiaa
open Go.RowKit
namespace Ba
/-- A slice of ints: where it lies, its length, its numbers. -/
structure SlI where
  A : Option Addr
  n : Nat
  c : Nat
  b : Nat
  o : Nat
  X : Nat → Int
def i64 (x : Int) : Prop := -9223372036854775808 ≤ x ∧ x ≤ 9223372036854775807
structure SlI.At (w : World) (s : SlI) : Prop where
  hA : 0 < s.n → s.A = some ⟨s.b, s.o, none⟩
  hc : s.n ≤ s.c
  hb : s.c ≤ 9223372036854775807
  hX : ∀ i, i < s.n → w.cell? ⟨s.b, s.o + i, none⟩ = some (.int .i64 (s.X i)) ∧ i64 (s.X i)
theorem SlI.At.gr {w w1 : World} {s : SlI} (h : s.At w) (hg : Gr w w1) : s.At w1 := ⟨h.hA, h.hc, h.hb, fun i hi => ⟨Gr.at hg (h.hX i hi).1, (h.hX i hi).2⟩⟩
structure Class where
  nm : ByteArray
  se : Int
  we : Int
  ro : Int
  dr : Int
def Class.val (d : Class) : Value := .agg #[.string d.nm, .int .i64 d.se, .int .i64 d.we, .int .i64 d.ro, .int .i64 d.dr]
/-- The cells. -/
def Class.Cells (w : World) (b o : Nat) (d : Class) : Prop := w.cell? ⟨b, o, none⟩ = some (.string d.nm) ∧ w.cell? ⟨b, o + 1, none⟩ = some (.int .i64 d.se) ∧ w.cell? ⟨b, o + 2, none⟩ = some (.int .i64 d.we) ∧ w.cell? ⟨b, o + 3, none⟩ = some (.int .i64 d.ro) ∧ w.cell? ⟨b, o + 4, none⟩ = some (.int .i64 d.dr)
def Class.Ok (w : World) (d : Class) : Prop := i64 d.se ∧ i64 d.we ∧ i64 d.ro ∧ i64 d.dr ∧ d.nm.size ≤ 9223372036854775807
theorem Class.Cells.gr {w w1 : World} {b o : Nat} {d : Class} (h : d.Cells w b o) (hg : Gr w w1) : d.Cells w1 b o := by
  obtain ⟨h0, h1, h2, h3, h4⟩ := h
  exact ⟨Gr.at hg h0, Gr.at hg h1, Gr.at hg h2, Gr.at hg h3, Gr.at hg h4⟩
structure SlClass where
  A : Option Addr
  n : Nat
  c : Nat
  b : Nat
  o : Nat
  D : Nat → Class
structure SlClass.At (w : World) (s : SlClass) : Prop where
  hA : 0 < s.n → s.A = some ⟨s.b, s.o, none⟩
  hc : s.n ≤ s.c
  hb : s.c ≤ 9223372036854775807
  hD : ∀ i, i < s.n → (s.D i).Cells w s.b (s.o + i * 5) ∧ (s.D i).Ok w
theorem Class.Ok.gr {w w1 : World} {d : Class} (h : d.Ok w) (hg : Gr w w1) : d.Ok w1 := by
  obtain ⟨h0, h1, h2, h3, h4⟩ := h
  exact ⟨h0, h1, h2, h3, h4⟩
theorem SlClass.At.gr {w w1 : World} {s : SlClass} (h : s.At w) (hg : Gr w w1) : s.At w1 := ⟨h.hA, h.hc, h.hb, fun i hi => ⟨(h.hD i hi).1.gr hg, (h.hD i hi).2.gr hg⟩⟩
structure Inflow where
  nm : ByteArray
  vs : SlI
def Inflow.val (d : Inflow) : Value := .agg #[.string d.nm, .slice d.vs.A d.vs.n d.vs.c]
/-- The cells. -/
def Inflow.Cells (w : World) (b o : Nat) (d : Inflow) : Prop := w.cell? ⟨b, o, none⟩ = some (.string d.nm) ∧ w.cell? ⟨b, o + 1, none⟩ = some (.slice d.vs.A d.vs.n d.vs.c)
def Inflow.Ok (w : World) (d : Inflow) : Prop := d.nm.size ≤ 9223372036854775807 ∧ d.vs.At w
theorem Inflow.Cells.gr {w w1 : World} {b o : Nat} {d : Inflow} (h : d.Cells w b o) (hg : Gr w w1) : d.Cells w1 b o := by
  obtain ⟨h0, h1⟩ := h
  exact ⟨Gr.at hg h0, Gr.at hg h1⟩
structure SlInflow where
  A : Option Addr
  n : Nat
  c : Nat
  b : Nat
  o : Nat
  D : Nat → Inflow
structure SlInflow.At (w : World) (s : SlInflow) : Prop where
  hA : 0 < s.n → s.A = some ⟨s.b, s.o, none⟩
  hc : s.n ≤ s.c
  hb : s.c ≤ 9223372036854775807
  hD : ∀ i, i < s.n → (s.D i).Cells w s.b (s.o + i * 2) ∧ (s.D i).Ok w
theorem Inflow.Ok.gr {w w1 : World} {d : Inflow} (h : d.Ok w) (hg : Gr w w1) : d.Ok w1 := by
  obtain ⟨h0, h1⟩ := h
  exact ⟨h0, h1.gr hg⟩
theorem SlInflow.At.gr {w w1 : World} {s : SlInflow} (h : s.At w) (hg : Gr w w1) : s.At w1 := ⟨h.hA, h.hc, h.hb, fun i hi => ⟨(h.hD i hi).1.gr hg, (h.hD i hi).2.gr hg⟩⟩
end Ba
set_option maxRecDepth 100000 in
set_option maxHeartbeats 2000000 in
theorem idx_class (f : FuncId) (cap : Array Value) (s : Ba.SlClass) (p : Nat → Bool) (w : World) (h : s.At w) (hen : ∀ args w, (callFunc f args).run Try.prog w = .ok (.enter f args) w)
    (hp : ∀ i, i < s.n → ∀ W, Gr w W → Calls Try.prog f (#[(s.D i).val] ++ cap) W fun e w' => e = .returned (.bool (p i)) ∧ Gr W w') :
    Calls Try.prog 69 #[.slice s.A s.n s.c, .func (.func f) #[] cap] w fun e w' => e = .returned (.int .i64 (Ba.fstI p s.n)) ∧ Gr w w' := by
  have HA := Lib.hid h.hA; have HX := Lib.hid h.hD; have HP := Lib.hid hp
  have hn : s.n ≤ 9223372036854775807 := Nat.le_trans h.hc h.hb
  clear h hp
  obtain ⟨A, hAe⟩ : ∃ A, s.A = A := ⟨_, rfl⟩
  obtain ⟨n, hne⟩ : ∃ n, s.n = n := ⟨_, rfl⟩
  obtain ⟨b, hbe⟩ : ∃ b, s.b = b := ⟨_, rfl⟩
  obtain ⟨o, hoe⟩ : ∃ o, s.o = o := ⟨_, rfl⟩
  rw [hAe, hne, hbe, hoe] at HA
  rw [hne, hbe, hoe] at HX
  rw [hne] at HP hn
  rw [hAe, hne]
  clear hAe hne hbe hoe
  go_enter Try.func69, Try.ntmps69
  go_wp2_with fail
  go_loopw [8] (fun s8 wr => ∃ i : Nat, i ≤ n ∧ s8 = .int .i64 (i : Int) ∧ Gr w wr ∧ Hid (Ba.fst p i = none)) (fun s8 _ => n - (intOf s8).toNat)
  case atStart => exact ⟨0, Nat.zero_le _, rfl, Gr.refl _, rfl⟩
  case round =>
    obtain ⟨i, hi, rfl, hg, hf⟩ := hrel
    by_cases hlt : i < n
    · obtain rfl := HA.out (by omega)
      have HC := Lib.hid (HP.out i hlt)
      obtain ⟨a0, a1, a2, a3, a4⟩ := (HX.out i hlt).1.gr hg
      unfold Ba.Class.val at HC
      generalize s.D i = d at *
      cases hpi : p i
      · rw [hpi] at HC
        have HF := Lib.hid (Ba.fst_miss hf.out hpi)
        clear hpi hi
        go_wp2_with fail
        refine (HC.out _ gr_auto).mono ?_
        rintro e w1 ⟨rfl, hb1⟩
        go_wp2_with fail
        go_roundw
        case rel => exact ⟨i + 1, by omega, by go_num, gr_auto, HF⟩
        case measure => simp [intOf]; omega
      · rw [hpi] at HC
        have HF := Lib.hid (Ba.fstI_hit hf.out hpi hlt)
        clear hpi hi
        go_wp2_with fail
        refine (HC.out _ gr_auto).mono ?_
        rintro e w1 ⟨rfl, hb1⟩
        go_wp2_with fail
        go_ret
        exact ⟨ret_int HF.out.symm, gr_auto⟩
    · obtain rfl : i = n := by omega
      have HF := Lib.hid (Ba.fstI_none hf.out)
      go_wp2_with fail
      go_ret
      exact ⟨ret_int HF.out.symm, hg⟩

set_option maxRecDepth 100000 in
set_option maxHeartbeats 2000000 in
theorem idx_inflow (f : FuncId) (cap : Array Value) (s : Ba.SlInflow) (p : Nat → Bool) (w : World) (h : s.At w) (hen : ∀ args w, (callFunc f args).run Try.prog w = .ok (.enter f args) w)
    (hp : ∀ i, i < s.n → ∀ W, Gr w W → Calls Try.prog f (#[(s.D i).val] ++ cap) W fun e w' => e = .returned (.bool (p i)) ∧ Gr W w') :
    Calls Try.prog 47 #[.slice s.A s.n s.c, .func (.func f) #[] cap] w fun e w' => e = .returned (.int .i64 (Ba.fstI p s.n)) ∧ Gr w w' := by
  have HA := Lib.hid h.hA; have HX := Lib.hid h.hD; have HP := Lib.hid hp
  have hn : s.n ≤ 9223372036854775807 := Nat.le_trans h.hc h.hb
  clear h hp
  obtain ⟨A, hAe⟩ : ∃ A, s.A = A := ⟨_, rfl⟩
  obtain ⟨n, hne⟩ : ∃ n, s.n = n := ⟨_, rfl⟩
  obtain ⟨b, hbe⟩ : ∃ b, s.b = b := ⟨_, rfl⟩
  obtain ⟨o, hoe⟩ : ∃ o, s.o = o := ⟨_, rfl⟩
  rw [hAe, hne, hbe, hoe] at HA
  rw [hne, hbe, hoe] at HX
  rw [hne] at HP hn
  rw [hAe, hne]
  clear hAe hne hbe hoe
  go_enter Try.func47, Try.ntmps47
  go_wp2_with fail
  go_loopw [8] (fun s8 wr => ∃ i : Nat, i ≤ n ∧ s8 = .int .i64 (i : Int) ∧ Gr w wr ∧ Hid (Ba.fst p i = none)) (fun s8 _ => n - (intOf s8).toNat)
  case atStart => exact ⟨0, Nat.zero_le _, rfl, Gr.refl _, rfl⟩
  case round =>
    obtain ⟨i, hi, rfl, hg, hf⟩ := hrel
    by_cases hlt : i < n
    · obtain rfl := HA.out (by omega)
      have HC := Lib.hid (HP.out i hlt)
      obtain ⟨a0, a1⟩ := (HX.out i hlt).1.gr hg
      unfold Ba.Inflow.val at HC
      generalize s.D i = d at *
      cases hpi : p i
      · rw [hpi] at HC
        have HF := Lib.hid (Ba.fst_miss hf.out hpi)
        clear hpi hi
        go_wp2_with fail
        refine (HC.out _ gr_auto).mono ?_
        rintro e w1 ⟨rfl, hb1⟩
        go_wp2_with fail
        go_roundw
        case rel => exact ⟨i + 1, by omega, by go_num, gr_auto, HF⟩
        case measure => simp [intOf]; omega
      · rw [hpi] at HC
        have HF := Lib.hid (Ba.fstI_hit hf.out hpi hlt)
        clear hpi hi
        go_wp2_with fail
        refine (HC.out _ gr_auto).mono ?_
        rintro e w1 ⟨rfl, hb1⟩
        go_wp2_with fail
        go_ret
        exact ⟨ret_int HF.out.symm, gr_auto⟩
    · obtain rfl : i = n := by omega
      have HF := Lib.hid (Ba.fstI_none hf.out)
      go_wp2_with fail
      go_ret
      exact ⟨ret_int HF.out.symm, hg⟩

theorem has_int (f : FuncId) (cap : Array Value) (s : Ba.SlI) (p : Nat → Bool) (w : World) (h : s.At w) (hen : ∀ args w, (callFunc f args).run Try.prog w = .ok (.enter f args) w)
    (hp : ∀ i, i < s.n → ∀ W, Gr w W → Calls Try.prog f (#[.int .i64 (s.X i)] ++ cap) W fun e w' => e = .returned (.bool (p i)) ∧ Gr W w') :
    Calls Try.prog 29 #[.slice s.A s.n s.c, .func (.func f) #[] cap] w fun e w' => e = .returned (.bool (Ba.any p s.n)) ∧ Gr w w' := by
  have HI := Lib.hid (idx_ints f cap s.A s.n s.c s.b s.o s.X p w (Nat.le_trans h.hc h.hb) hen h.hA (fun i hi => (h.hX i hi).1) hp)
  have HG := Lib.hid (Ba.fstI_ge p s.n)
  clear hp h
  generalize Ba.fstI p s.n = r at *
  generalize Ba.any p s.n = q at *
  generalize s.A = A at *
  generalize s.n = n at *
  generalize s.c = c at *
  go_enter Try.func29, Try.ntmps29
  go_wp2_with fail
  refine HI.out.mono ?_
  rintro e w1 ⟨rfl, hb1⟩
  go_wp2
  go_ret
  exact ⟨ret_bool HG.out, hb1⟩

theorem has_class (f : FuncId) (cap : Array Value) (s : Ba.SlClass) (p : Nat → Bool) (w : World) (h : s.At w) (hen : ∀ args w, (callFunc f args).run Try.prog w = .ok (.enter f args) w)
    (hp : ∀ i, i < s.n → ∀ W, Gr w W → Calls Try.prog f (#[(s.D i).val] ++ cap) W fun e w' => e = .returned (.bool (p i)) ∧ Gr W w') :
    Calls Try.prog 37 #[.slice s.A s.n s.c, .func (.func f) #[] cap] w fun e w' => e = .returned (.bool (Ba.any p s.n)) ∧ Gr w w' := by
  have HI := Lib.hid (idx_class f cap s p w h hen hp)
  have HG := Lib.hid (Ba.fstI_ge p s.n)
  clear hp h
  generalize Ba.fstI p s.n = r at *
  generalize Ba.any p s.n = q at *
  generalize s.A = A at *
  generalize s.n = n at *
  generalize s.c = c at *
  go_enter Try.func37, Try.ntmps37
  go_wp2_with fail
  refine HI.out.mono ?_
  rintro e w1 ⟨rfl, hb1⟩
  go_wp2
  go_ret
  exact ⟨ret_bool HG.out, hb1⟩

theorem has_inflow (f : FuncId) (cap : Array Value) (s : Ba.SlInflow) (p : Nat → Bool) (w : World) (h : s.At w) (hen : ∀ args w, (callFunc f args).run Try.prog w = .ok (.enter f args) w)
    (hp : ∀ i, i < s.n → ∀ W, Gr w W → Calls Try.prog f (#[(s.D i).val] ++ cap) W fun e w' => e = .returned (.bool (p i)) ∧ Gr W w') :
    Calls Try.prog 20 #[.slice s.A s.n s.c, .func (.func f) #[] cap] w fun e w' => e = .returned (.bool (Ba.any p s.n)) ∧ Gr w w' := by
  have HI := Lib.hid (idx_inflow f cap s p w h hen hp)
  have HG := Lib.hid (Ba.fstI_ge p s.n)
  clear hp h
  generalize Ba.fstI p s.n = r at *
  generalize Ba.any p s.n = q at *
  generalize s.A = A at *
  generalize s.n = n at *
  generalize s.c = c at *
  go_enter Try.func20, Try.ntmps20
  go_wp2_with fail
  refine HI.out.mono ?_
  rintro e w1 ⟨rfl, hb1⟩
  go_wp2
  go_ret
  exact ⟨ret_bool HG.out, hb1⟩

end Go.Proofs.Ytjighhphadfoiaa
