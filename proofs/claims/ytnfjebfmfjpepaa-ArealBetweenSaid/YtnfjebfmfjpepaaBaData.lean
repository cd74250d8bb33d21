/-
  What gauges and records are in memory; slices.IndexFunc and slices.ContainsFunc on each. (Printed by mkdata.py.)
-/
import Derived.Test.YtnfjebfmfjpepaaBaIdx
set_option linter.unusedVariables false
set_option linter.unusedSimpArgs false
namespace Go.Proofs.Ytnfjebfmfjpepaa
open Go.RowKit
namespace Ba
/-- A slice of ints: where it lies, its length, its numbers. -/
structure SlI where
  A : Option Addr
  n : Nat
  c : Nat
  b : Nat
  o : Nat
  X : Nat → Int
def i64 (x : Int) : Prop := -9223372036854775808 ≤ x ∧ x ≤ 9223372036854775807
structure SlI.At (w : World) (s : SlI) : Prop where
  hA : 0 < s.n → s.A = some ⟨s.b, s.o, none⟩
  hc : s.n ≤ s.c
  hb : s.c ≤ 9223372036854775807
  hX : ∀ i, i < s.n → w.cell? ⟨s.b, s.o + i, none⟩ = some (.int .i64 (s.X i)) ∧ i64 (s.X i)
theorem SlI.At.gr {w w1 : World} {s : SlI} (h : s.At w) (hg : Gr w w1) : s.At w1 := ⟨h.hA, h.hc, h.hb, fun i hi => ⟨Gr.at hg (h.hX i hi).1, (h.hX i hi).2⟩⟩
structure Gauge where
  nm : ByteArray
  x : Int
  y : Int
def Gauge.val (d : Gauge) : Value := .agg #[.string d.nm, .int .i64 d.x, .int .i64 d.y]
/-- The cells. -/
def Gauge.Cells (w : World) (b o : Nat) (d : Gauge) : Prop := w.cell? ⟨b, o, none⟩ = some (.string d.nm) ∧ w.cell? ⟨b, o + 1, none⟩ = some (.int .i64 d.x) ∧ w.cell? ⟨b, o + 2, none⟩ = some (.int .i64 d.y)
def Gauge.Ok (w : World) (d : Gauge) : Prop := i64 d.x ∧ i64 d.y ∧ d.nm.size ≤ 9223372036854775807
theorem Gauge.Cells.gr {w w1 : World} {b o : Nat} {d : Gauge} (h : d.Cells w b o) (hg : Gr w w1) : d.Cells w1 b o := by
  obtain ⟨h0, h1, h2⟩ := h
  exact ⟨Gr.at hg h0, Gr.at hg h1, Gr.at hg h2⟩
structure SlGauge where
  A : Option Addr
  n : Nat
  c : Nat
  b : Nat
  o : Nat
  D : Nat → Gauge
structure SlGauge.At (w : World) (s : SlGauge) : Prop where
  hA : 0 < s.n → s.A = some ⟨s.b, s.o, none⟩
  hc : s.n ≤ s.c
  hb : s.c ≤ 9223372036854775807
  hD : ∀ i, i < s.n → (s.D i).Cells w s.b (s.o + i * 3) ∧ (s.D i).Ok w
theorem Gauge.Ok.gr {w w1 : World} {d : Gauge} (h : d.Ok w) (hg : Gr w w1) : d.Ok w1 := by
  obtain ⟨h0, h1, h2⟩ := h
  exact ⟨h0, h1, h2⟩
theorem SlGauge.At.gr {w w1 : World} {s : SlGauge} (h : s.At w) (hg : Gr w w1) : s.At w1 := ⟨h.hA, h.hc, h.hb, fun i hi => ⟨(h.hD i hi).1.gr hg, (h.hD i hi).2.gr hg⟩⟩
structure Ser where
  fr : Int
  st : Int
  ds : SlI
def Ser.val (d : Ser) : Value := .agg #[.int .i64 d.fr, .int .i64 d.st, .slice d.ds.A d.ds.n d.ds.c]
/-- The cells. -/
def Ser.Cells (w : World) (b o : Nat) (d : Ser) : Prop := w.cell? ⟨b, o, none⟩ = some (.int .i64 d.fr) ∧ w.cell? ⟨b, o + 1, none⟩ = some (.int .i64 d.st) ∧ w.cell? ⟨b, o + 2, none⟩ = some (.slice d.ds.A d.ds.n d.ds.c)
def Ser.Ok (w : World) (d : Ser) : Prop := i64 d.fr ∧ i64 d.st ∧ d.ds.At w
theorem Ser.Cells.gr {w w1 : World} {b o : Nat} {d : Ser} (h : d.Cells w b o) (hg : Gr w w1) : d.Cells w1 b o := by
  obtain ⟨h0, h1, h2⟩ := h
  exact ⟨Gr.at hg h0, Gr.at hg h1, Gr.at hg h2⟩
structure SlSer where
  A : Option Addr
  n : Nat
  c : Nat
  b : Nat
  o : Nat
  D : Nat → Ser
structure SlSer.At (w : World) (s : SlSer) : Prop where
  hA : 0 < s.n → s.A = some ⟨s.b, s.o, none⟩
  hc : s.n ≤ s.c
  hb : s.c ≤ 9223372036854775807
  hD : ∀ i, i < s.n → (s.D i).Cells w s.b (s.o + i * 3) ∧ (s.D i).Ok w
theorem Ser.Ok.gr {w w1 : World} {d : Ser} (h : d.Ok w) (hg : Gr w w1) : d.Ok w1 := by
  obtain ⟨h0, h1, h2⟩ := h
  exact ⟨h0, h1, h2.gr hg⟩
theorem SlSer.At.gr {w w1 : World} {s : SlSer} (h : s.At w) (hg : Gr w w1) : s.At w1 := ⟨h.hA, h.hc, h.hb, fun i hi => ⟨(h.hD i hi).1.gr hg, (h.hD i hi).2.gr hg⟩⟩
end Ba
set_option maxRecDepth 100000 in
set_option maxHeartbeats 2000000 in
theorem idx_gauge (f : FuncId) (cap : Array Value) (s : Ba.SlGauge) (p : Nat → Bool) (w : World) (h : s.At w) (hen : ∀ args w, (callFunc f args).run Try.prog w = .ok (.enter f args) w)
    (hp : ∀ i, i < s.n → ∀ W, Gr w W → Calls Try.prog f (#[(s.D i).val] ++ cap) W fun e w' => e = .returned (.bool (p i)) ∧ Gr W w') :
    Calls Try.prog 60 #[.slice s.A s.n s.c, .func (.func f) #[] cap] w fun e w' => e = .returned (.int .i64 (Ba.fstI p s.n)) ∧ Gr w w' := by
  have HA := Lib.hid h.hA; have HX := Lib.hid h.hD; have HP := Lib.hid hp
  have hn : s.n ≤ 9223372036854775807 := Nat.le_trans h.hc h.hb
  clear h hp
  obtain ⟨A, hAe⟩ : ∃ A, s.A = A := ⟨_, rfl⟩
  obtain ⟨n, hne⟩ : ∃ n, s.n = n := ⟨_, rfl⟩
  obtain ⟨b, hbe⟩ : ∃ b, s.b = b := ⟨_, rfl⟩
  obtain ⟨o, hoe⟩ : ∃ o, s.o = o := ⟨_, rfl⟩
  rw [hAe, hne, hbe, hoe] at HA
  rw [hne, hbe, hoe] at HX
  rw [hne] at HP hn
  rw [hAe, hne]
  clear hAe hne hbe hoe
  go_enter Try.func60, Try.ntmps60
  go_wp2_with fail
  go_loopw [8] (fun s8 wr => ∃ i : Nat, i ≤ n ∧ s8 = .int .i64 (i : Int) ∧ Gr w wr ∧ Hid (Ba.fst p i = none)) (fun s8 _ => n - (intOf s8).toNat)
  case atStart => exact ⟨0, Nat.zero_le _, rfl, Gr.refl _, rfl⟩
  case round =>
    obtain ⟨i, hi, rfl, hg, hf⟩ := hrel
    by_cases hlt : i < n
    · obtain rfl := HA.out (by omega)
      have HC := Lib.hid (HP.out i hlt)
      obtain ⟨a0, a1, a2⟩ := (HX.out i hlt).1.gr hg
      unfold Ba.Gauge.val at HC
      generalize s.D i = d at *
      cases hpi : p i
      · rw [hpi] at HC
        have HF := Lib.hid (Ba.fst_miss hf.out hpi)
        clear hpi hi
        go_wp2_with fail
        refine (HC.out _ gr_auto).mono ?_
        rintro e w1 ⟨rfl, hb1⟩
        go_wp2_with fail
        go_roundw
        case rel => exact ⟨i + 1, by omega, by go_num, gr_auto, HF⟩
        case measure => simp [intOf]; omega
      · rw [hpi] at HC
        have HF := Lib.hid (Ba.fstI_hit hf.out hpi hlt)
        clear hpi hi
        go_wp2_with fail
        refine (HC.out _ gr_auto).mono ?_
        rintro e w1 ⟨rfl, hb1⟩
        go_wp2_with fail
        go_ret
        exact ⟨ret_int HF.out.symm, gr_auto⟩
    · obtain rfl : i = n := by omega
      have HF := Lib.hid (Ba.fstI_none hf.out)
      go_wp2_with fail
      go_ret
      exact ⟨ret_int HF.out.symm, hg⟩

set_option maxRecDepth 100000 in
set_option maxHeartbeats 2000000 in
theorem idx_ser (f : FuncId) (cap : Array Value) (s : Ba.SlSer) (p : Nat → Bool) (w : World) (h : s.At w) (hen : ∀ args w, (callFunc f args).run Try.prog w = .ok (.enter f args) w)
    (hp : ∀ i, i < s.n → ∀ W, Gr w W → Calls Try.prog f (#[(s.D i).val] ++ cap) W fun e w' => e = .returned (.bool (p i)) ∧ Gr W w') :
    Calls Try.prog 71 #[.slice s.A s.n s.c, .func (.func f) #[] cap] w fun e w' => e = .returned (.int .i64 (Ba.fstI p s.n)) ∧ Gr w w' := by
  have HA := Lib.hid h.hA; have HX := Lib.hid h.hD; have HP := Lib.hid hp
  have hn : s.n ≤ 9223372036854775807 := Nat.le_trans h.hc h.hb
  clear h hp
  obtain ⟨A, hAe⟩ : ∃ A, s.A = A := ⟨_, rfl⟩
  obtain ⟨n, hne⟩ : ∃ n, s.n = n := ⟨_, rfl⟩
  obtain ⟨b, hbe⟩ : ∃ b, s.b = b := ⟨_, rfl⟩
  obtain ⟨o, hoe⟩ : ∃ o, s.o = o := ⟨_, rfl⟩
  rw [hAe, hne, hbe, hoe] at HA
  rw [hne, hbe, hoe] at HX
  rw [hne] at HP hn
  rw [hAe, hne]
  clear hAe hne hbe hoe
  go_enter Try.func71, Try.ntmps71
  go_wp2_with fail
  go_loopw [8] (fun s8 wr => ∃ i : Nat, i ≤ n ∧ s8 = .int .i64 (i : Int) ∧ Gr w wr ∧ Hid (Ba.fst p i = none)) (fun s8 _ => n - (intOf s8).toNat)
  case atStart => exact ⟨0, Nat.zero_le _, rfl, Gr.refl _, rfl⟩
  case round =>
    obtain ⟨i, hi, rfl, hg, hf⟩ := hrel
    by_cases hlt : i < n
    · obtain rfl := HA.out (by omega)
      have HC := Lib.hid (HP.out i hlt)
      obtain ⟨a0, a1, a2⟩ := (HX.out i hlt).1.gr hg
      unfold Ba.Ser.val at HC
      generalize s.D i = d at *
      cases hpi : p i
      · rw [hpi] at HC
        have HF := Lib.hid (Ba.fst_miss hf.out hpi)
        clear hpi hi
        go_wp2_with fail
        refine (HC.out _ gr_auto).mono ?_
        rintro e w1 ⟨rfl, hb1⟩
        go_wp2_with fail
        go_roundw
        case rel => exact ⟨i + 1, by omega, by go_num, gr_auto, HF⟩
        case measure => simp [intOf]; omega
      · rw [hpi] at HC
        have HF := Lib.hid (Ba.fstI_hit hf.out hpi hlt)
        clear hpi hi
        go_wp2_with fail
        refine (HC.out _ gr_auto).mono ?_
        rintro e w1 ⟨rfl, hb1⟩
        go_wp2_with fail
        go_ret
        exact ⟨ret_int HF.out.symm, gr_auto⟩
    · obtain rfl : i = n := by omega
      have HF := Lib.hid (Ba.fstI_none hf.out)
      go_wp2_with fail
      go_ret
      exact ⟨ret_int HF.out.symm, hg⟩

theorem has_int (f : FuncId) (cap : Array Value) (s : Ba.SlI) (p : Nat → Bool) (w : World) (h : s.At w) (hen : ∀ args w, (callFunc f args).run Try.prog w = .ok (.enter f args) w)
    (hp : ∀ i, i < s.n → ∀ W, Gr w W → Calls Try.prog f (#[.int .i64 (s.X i)] ++ cap) W fun e w' => e = .returned (.bool (p i)) ∧ Gr W w') :
    Calls Try.prog 52 #[.slice s.A s.n s.c, .func (.func f) #[] cap] w fun e w' => e = .returned (.bool (Ba.any p s.n)) ∧ Gr w w' := by
  have HI := Lib.hid (idx_ints f cap s.A s.n s.c s.b s.o s.X p w (Nat.le_trans h.hc h.hb) hen h.hA (fun i hi => (h.hX i hi).1) hp)
  have HG := Lib.hid (Ba.fstI_ge p s.n)
  clear hp h
  generalize Ba.fstI p s.n = r at *
  generalize Ba.any p s.n = q at *
  generalize s.A = A at *
  generalize s.n = n at *
  generalize s.c = c at *
  go_enter Try.func52, Try.ntmps52
  go_wp2_with fail
  refine HI.out.mono ?_
  rintro e w1 ⟨rfl, hb1⟩
  go_wp2
  go_ret
  exact ⟨ret_bool HG.out, hb1⟩

theorem has_gauge (f : FuncId) (cap : Array Value) (s : Ba.SlGauge) (p : Nat → Bool) (w : World) (h : s.At w) (hen : ∀ args w, (callFunc f args).run Try.prog w = .ok (.enter f args) w)
    (hp : ∀ i, i < s.n → ∀ W, Gr w W → Calls Try.prog f (#[(s.D i).val] ++ cap) W fun e w' => e = .returned (.bool (p i)) ∧ Gr W w') :
    Calls Try.prog 34 #[.slice s.A s.n s.c, .func (.func f) #[] cap] w fun e w' => e = .returned (.bool (Ba.any p s.n)) ∧ Gr w w' := by
  have HI := Lib.hid (idx_gauge f cap s p w h hen hp)
  have HG := Lib.hid (Ba.fstI_ge p s.n)
  clear hp h
  generalize Ba.fstI p s.n = r at *
  generalize Ba.any p s.n = q at *
  generalize s.A = A at *
  generalize s.n = n at *
  generalize s.c = c at *
  go_enter Try.func34, Try.ntmps34
  go_wp2_with fail
  refine HI.out.mono ?_
  rintro e w1 ⟨rfl, hb1⟩
  go_wp2
  go_ret
  exact ⟨ret_bool HG.out, hb1⟩

theorem has_ser (f : FuncId) (cap : Array Value) (s : Ba.SlSer) (p : Nat → Bool) (w : World) (h : s.At w) (hen : ∀ args w, (callFunc f args).run Try.prog w = .ok (.enter f args) w)
    (hp : ∀ i, i < s.n → ∀ W, Gr w W → Calls Try.prog f (#[(s.D i).val] ++ cap) W fun e w' => e = .returned (.bool (p i)) ∧ Gr W w') :
    Calls Try.prog 46 #[.slice s.A s.n s.c, .func (.func f) #[] cap] w fun e w' => e = .returned (.bool (Ba.any p s.n)) ∧ Gr w w' := by
  have HI := Lib.hid (idx_ser f cap s p w h hen hp)
  have HG := Lib.hid (Ba.fstI_ge p s.n)
  clear hp h
  generalize Ba.fstI p s.n = r at *
  generalize Ba.any p s.n = q at *
  generalize s.A = A at *
  generalize s.n = n at *
  generalize s.c = c at *
  go_enter Try.func46, Try.ntmps46
  go_wp2_with fail
  refine HI.out.mono ?_
  rintro e w1 ⟨rfl, hb1⟩
  go_wp2
  go_ret
  exact ⟨ret_bool HG.out, hb1⟩

end Go.Proofs.Ytnfjebfmfjpepaa
