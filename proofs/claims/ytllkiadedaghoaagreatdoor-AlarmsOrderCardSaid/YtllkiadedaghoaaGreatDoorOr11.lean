/-
  What knots, nodes, links, and ledgers are in memory; slices.IndexFunc and slices.ContainsFunc on each. (Printed by mkdata.py.)
-/
import Derived.Test.YtllkiadedaghoaaGreatDoorOr10

set_option linter.unusedVariables false
set_option linter.unusedSimpArgs false
namespace Go.Proofs.YtllkiadedaghoaaGreatDoor
open Go.RowKit
namespace Ba
/-- A slice of ints: where it lies, its length, its numbers. -/
structure SlI where
  A : Option Addr
  n : Nat
  c : Nat
  b : Nat
  o : Nat
  X : Nat → Int
/-- A table: its knots. -/
structure SlK where
  A : Option Addr
  n : Nat
  c : Nat
  b : Nat
  o : Nat
  X : Nat → Int
  Y : Nat → Int
def i64 (x : Int) : Prop := -9223372036854775808 ≤ x ∧ x ≤ 9223372036854775807
structure SlI.At (w : World) (s : SlI) : Prop where
  hA : 0 < s.n → s.A = some ⟨s.b, s.o, none⟩
  hc : s.n ≤ s.c
  hb : s.c ≤ 9223372036854775807
  hX : ∀ i, i < s.n → w.cell? ⟨s.b, s.o + i, none⟩ = some (.int .i64 (s.X i)) ∧ i64 (s.X i)
structure SlK.At (w : World) (s : SlK) : Prop where
  hA : 0 < s.n → s.A = some ⟨s.b, s.o, none⟩
  hc : s.n ≤ s.c
  hb : s.c ≤ 9223372036854775807
  hX : ∀ i, i < s.n → (w.cell? ⟨s.b, s.o + i * 2, none⟩ = some (.int .i64 (s.X i)) ∧ w.cell? ⟨s.b, s.o + i * 2 + 1, none⟩ = some (.int .i64 (s.Y i))) ∧ i64 (s.X i) ∧ i64 (s.Y i)
theorem SlI.At.gr {w w1 : World} {s : SlI} (h : s.At w) (hg : Gr w w1) : s.At w1 := ⟨h.hA, h.hc, h.hb, fun i hi => ⟨Gr.at hg (h.hX i hi).1, (h.hX i hi).2⟩⟩
theorem SlK.At.gr {w w1 : World} {s : SlK} (h : s.At w) (hg : Gr w w1) : s.At w1 := ⟨h.hA, h.hc, h.hb, fun i hi => ⟨⟨Gr.at hg (h.hX i hi).1.1, Gr.at hg (h.hX i hi).1.2⟩, (h.hX i hi).2⟩⟩
structure Node where
  nm : ByteArray
  kd : Int
  ax : Int
  ay : Int
  iv : Int
  gr : Int
  sh : SlK
  pr : Bool
  rs : Int
def Node.val (d : Node) : Value := .agg #[.string d.nm, .int .i64 d.kd, .int .i64 d.ax, .int .i64 d.ay, .int .i64 d.iv, .int .i64 d.gr, .slice d.sh.A d.sh.n d.sh.c, .bool d.pr, .int .i64 d.rs]
/-- The cells. -/
def Node.Cells (w : World) (b o : Nat) (d : Node) : Prop := w.cell? ⟨b, o, none⟩ = some (.string d.nm) ∧ w.cell? ⟨b, o + 1, none⟩ = some (.int .i64 d.kd) ∧ w.cell? ⟨b, o + 2, none⟩ = some (.int .i64 d.ax) ∧ w.cell? ⟨b, o + 3, none⟩ = some (.int .i64 d.ay) ∧ w.cell? ⟨b, o + 4, none⟩ = some (.int .i64 d.iv) ∧ w.cell? ⟨b, o + 5, none⟩ = some (.int .i64 d.gr) ∧ w.cell? ⟨b, o + 6, none⟩ = some (.slice d.sh.A d.sh.n d.sh.c) ∧ w.cell? ⟨b, o + 7, none⟩ = some (.bool d.pr) ∧ w.cell? ⟨b, o + 8, none⟩ = some (.int .i64 d.rs)
def Node.Ok (w : World) (d : Node) : Prop := i64 d.kd ∧ i64 d.ax ∧ i64 d.ay ∧ i64 d.iv ∧ i64 d.gr ∧ i64 d.rs ∧ d.nm.size ≤ 9223372036854775807 ∧ d.sh.At w
theorem Node.Cells.gr {w w1 : World} {b o : Nat} {d : Node} (h : d.Cells w b o) (hg : Gr w w1) : d.Cells w1 b o := by
  obtain ⟨h0, h1, h2, h3, h4, h5, h6, h7, h8⟩ := h
  exact ⟨Gr.at hg h0, Gr.at hg h1, Gr.at hg h2, Gr.at hg h3, Gr.at hg h4, Gr.at hg h5, Gr.at hg h6, Gr.at hg h7, Gr.at hg h8⟩
structure SlNode where
  A : Option Addr
  n : Nat
  c : Nat
  b : Nat
  o : Nat
  D : Nat → Node
structure SlNode.At (w : World) (s : SlNode) : Prop where
  hA : 0 < s.n → s.A = some ⟨s.b, s.o, none⟩
  hc : s.n ≤ s.c
  hb : s.c ≤ 9223372036854775807
  hD : ∀ i, i < s.n → (s.D i).Cells w s.b (s.o + i * 9) ∧ (s.D i).Ok w
theorem Node.Ok.gr {w w1 : World} {d : Node} (h : d.Ok w) (hg : Gr w w1) : d.Ok w1 := by
  obtain ⟨h0, h1, h2, h3, h4, h5, h6, h7⟩ := h
  exact ⟨h0, h1, h2, h3, h4, h5, h6, h7.gr hg⟩
theorem SlNode.At.gr {w w1 : World} {s : SlNode} (h : s.At w) (hg : Gr w w1) : s.At w1 := ⟨h.hA, h.hc, h.hb, fun i hi => ⟨(h.hD i hi).1.gr hg, (h.hD i hi).2.gr hg⟩⟩
structure Link where
  nm : ByteArray
  fr : ByteArray
  tt : ByteArray
  kd : Int
  ln : Int
  up : Int
  dn : Int
  sc : ByteArray
  wd : Int
  ht : Int
  cv : SlK
def Link.val (d : Link) : Value := .agg #[.string d.nm, .string d.fr, .string d.tt, .int .i64 d.kd, .int .i64 d.ln, .int .i64 d.up, .int .i64 d.dn, .string d.sc, .int .i64 d.wd, .int .i64 d.ht, .slice d.cv.A d.cv.n d.cv.c]
/-- The cells. -/
def Link.Cells (w : World) (b o : Nat) (d : Link) : Prop := w.cell? ⟨b, o, none⟩ = some (.string d.nm) ∧ w.cell? ⟨b, o + 1, none⟩ = some (.string d.fr) ∧ w.cell? ⟨b, o + 2, none⟩ = some (.string d.tt) ∧ w.cell? ⟨b, o + 3, none⟩ = some (.int .i64 d.kd) ∧ w.cell? ⟨b, o + 4, none⟩ = some (.int .i64 d.ln) ∧ w.cell? ⟨b, o + 5, none⟩ = some (.int .i64 d.up) ∧ w.cell? ⟨b, o + 6, none⟩ = some (.int .i64 d.dn) ∧ w.cell? ⟨b, o + 7, none⟩ = some (.string d.sc) ∧ w.cell? ⟨b, o + 8, none⟩ = some (.int .i64 d.wd) ∧ w.cell? ⟨b, o + 9, none⟩ = some (.int .i64 d.ht) ∧ w.cell? ⟨b, o + 10, none⟩ = some (.slice d.cv.A d.cv.n d.cv.c)
def Link.Ok (w : World) (d : Link) : Prop := i64 d.kd ∧ i64 d.ln ∧ i64 d.up ∧ i64 d.dn ∧ i64 d.wd ∧ i64 d.ht ∧ d.nm.size ≤ 9223372036854775807 ∧ d.fr.size ≤ 9223372036854775807 ∧ d.tt.size ≤ 9223372036854775807 ∧ d.sc.size ≤ 9223372036854775807 ∧ d.cv.At w
theorem Link.Cells.gr {w w1 : World} {b o : Nat} {d : Link} (h : d.Cells w b o) (hg : Gr w w1) : d.Cells w1 b o := by
  obtain ⟨h0, h1, h2, h3, h4, h5, h6, h7, h8, h9, h10⟩ := h
  exact ⟨Gr.at hg h0, Gr.at hg h1, Gr.at hg h2, Gr.at hg h3, Gr.at hg h4, Gr.at hg h5, Gr.at hg h6, Gr.at hg h7, Gr.at hg h8, Gr.at hg h9, Gr.at hg h10⟩
structure SlLink where
  A : Option Addr
  n : Nat
  c : Nat
  b : Nat
  o : Nat
  D : Nat → Link
structure SlLink.At (w : World) (s : SlLink) : Prop where
  hA : 0 < s.n → s.A = some ⟨s.b, s.o, none⟩
  hc : s.n ≤ s.c
  hb : s.c ≤ 9223372036854775807
  hD : ∀ i, i < s.n → (s.D i).Cells w s.b (s.o + i * 11) ∧ (s.D i).Ok w
theorem Link.Ok.gr {w w1 : World} {d : Link} (h : d.Ok w) (hg : Gr w w1) : d.Ok w1 := by
  obtain ⟨h0, h1, h2, h3, h4, h5, h6, h7, h8, h9, h10⟩ := h
  exact ⟨h0, h1, h2, h3, h4, h5, h6, h7, h8, h9, h10.gr hg⟩
theorem SlLink.At.gr {w w1 : World} {s : SlLink} (h : s.At w) (hg : Gr w w1) : s.At w1 := ⟨h.hA, h.hc, h.hb, fun i hi => ⟨(h.hD i hi).1.gr hg, (h.hD i hi).2.gr hg⟩⟩
structure Ledger where
  inn : Int
  out : Int
  ps : SlI
def Ledger.val (d : Ledger) : Value := .agg #[.int .i64 d.inn, .int .i64 d.out, .slice d.ps.A d.ps.n d.ps.c]
/-- The cells. -/
def Ledger.Cells (w : World) (b o : Nat) (d : Ledger) : Prop := w.cell? ⟨b, o, none⟩ = some (.int .i64 d.inn) ∧ w.cell? ⟨b, o + 1, none⟩ = some (.int .i64 d.out) ∧ w.cell? ⟨b, o + 2, none⟩ = some (.slice d.ps.A d.ps.n d.ps.c)
def Ledger.Ok (w : World) (d : Ledger) : Prop := i64 d.inn ∧ i64 d.out ∧ d.ps.At w
theorem Ledger.Cells.gr {w w1 : World} {b o : Nat} {d : Ledger} (h : d.Cells w b o) (hg : Gr w w1) : d.Cells w1 b o := by
  obtain ⟨h0, h1, h2⟩ := h
  exact ⟨Gr.at hg h0, Gr.at hg h1, Gr.at hg h2⟩
structure SlLedger where
  A : Option Addr
  n : Nat
  c : Nat
  b : Nat
  o : Nat
  D : Nat → Ledger
structure SlLedger.At (w : World) (s : SlLedger) : Prop where
  hA : 0 < s.n → s.A = some ⟨s.b, s.o, none⟩
  hc : s.n ≤ s.c
  hb : s.c ≤ 9223372036854775807
  hD : ∀ i, i < s.n → (s.D i).Cells w s.b (s.o + i * 3) ∧ (s.D i).Ok w
theorem Ledger.Ok.gr {w w1 : World} {d : Ledger} (h : d.Ok w) (hg : Gr w w1) : d.Ok w1 := by
  obtain ⟨h0, h1, h2⟩ := h
  exact ⟨h0, h1, h2.gr hg⟩
theorem SlLedger.At.gr {w w1 : World} {s : SlLedger} (h : s.At w) (hg : Gr w w1) : s.At w1 := ⟨h.hA, h.hc, h.hb, fun i hi => ⟨(h.hD i hi).1.gr hg, (h.hD i hi).2.gr hg⟩⟩
end Ba
set_option maxRecDepth 100000 in
set_option maxHeartbeats 2000000 in
theorem idx_knot (f : FuncId) (cap : Array Value) (s : Ba.SlK) (p : Nat → Bool) (w : World) (h : s.At w) (hen : ∀ args w, (callFunc f args).run Tryz.prog w = .ok (.enter f args) w)
    (hp : ∀ i, i < s.n → ∀ W, Gr w W → Calls Tryz.prog f (#[.agg #[.int .i64 (s.X i), .int .i64 (s.Y i)]] ++ cap) W fun e w' => e = .returned (.bool (p i)) ∧ Gr W w') :
    Calls Tryz.prog 170 #[.slice s.A s.n s.c, .func (.func f) #[] cap] w fun e w' => e = .returned (.int .i64 (Ba.fstI p s.n)) ∧ Gr w w' := by
  have HA := Lib.hid h.hA; have HX := Lib.hid h.hX; have HP := Lib.hid hp
  have hn : s.n ≤ 9223372036854775807 := Nat.le_trans h.hc h.hb
  clear h hp
  obtain ⟨A, hAe⟩ : ∃ A, s.A = A := ⟨_, rfl⟩
  obtain ⟨n, hne⟩ : ∃ n, s.n = n := ⟨_, rfl⟩
  obtain ⟨b, hbe⟩ : ∃ b, s.b = b := ⟨_, rfl⟩
  obtain ⟨o, hoe⟩ : ∃ o, s.o = o := ⟨_, rfl⟩
  rw [hAe, hne, hbe, hoe] at HA
  rw [hne, hbe, hoe] at HX
  rw [hne] at HP hn
  rw [hAe, hne]
  clear hAe hne hbe hoe
  go_enter Tryz.func170, Tryz.ntmps170
  go_wp2_with fail
  go_loopw [8] (fun s8 wr => ∃ i : Nat, i ≤ n ∧ s8 = .int .i64 (i : Int) ∧ Gr w wr ∧ Hid (Ba.fst p i = none)) (fun s8 _ => n - (intOf s8).toNat)
  case atStart => exact ⟨0, Nat.zero_le _, rfl, Gr.refl _, rfl⟩
  case round =>
    obtain ⟨i, hi, rfl, hg, hf⟩ := hrel
    by_cases hlt : i < n
    · obtain rfl := HA.out (by omega)
      have HC := Lib.hid (HP.out i hlt)
      obtain ⟨⟨a0, a1⟩, -⟩ := HX.out i hlt
      have a0 := Gr.at hg a0; have a1 := Gr.at hg a1
      cases hpi : p i
      · rw [hpi] at HC
        have HF := Lib.hid (Ba.fst_miss hf.out hpi)
        clear hpi hi
        go_wp2_with fail
        refine (HC.out _ gr_auto).mono ?_
        rintro e w1 ⟨rfl, hb1⟩
        go_wp2_with fail
        go_roundw
        case rel => exact ⟨i + 1, by omega, by go_num, gr_auto, HF⟩
        case measure => simp [intOf]; omega
      · rw [hpi] at HC
        have HF := Lib.hid (Ba.fstI_hit hf.out hpi hlt)
        clear hpi hi
        go_wp2_with fail
        refine (HC.out _ gr_auto).mono ?_
        rintro e w1 ⟨rfl, hb1⟩
        go_wp2_with fail
        go_ret
        exact ⟨ret_int HF.out.symm, gr_auto⟩
    · obtain rfl : i = n := by omega
      have HF := Lib.hid (Ba.fstI_none hf.out)
      go_wp2_with fail
      go_ret
      exact ⟨ret_int HF.out.symm, hg⟩
set_option maxRecDepth 100000 in
set_option maxHeartbeats 2000000 in
theorem idx_node (f : FuncId) (cap : Array Value) (s : Ba.SlNode) (p : Nat → Bool) (w : World) (h : s.At w) (hen : ∀ args w, (callFunc f args).run Tryz.prog w = .ok (.enter f args) w)
    (hp : ∀ i, i < s.n → ∀ W, Gr w W → Calls Tryz.prog f (#[(s.D i).val] ++ cap) W fun e w' => e = .returned (.bool (p i)) ∧ Gr W w') :
    Calls Tryz.prog 130 #[.slice s.A s.n s.c, .func (.func f) #[] cap] w fun e w' => e = .returned (.int .i64 (Ba.fstI p s.n)) ∧ Gr w w' := by
  have HA := Lib.hid h.hA; have HX := Lib.hid h.hD; have HP := Lib.hid hp
  have hn : s.n ≤ 9223372036854775807 := Nat.le_trans h.hc h.hb
  clear h hp
  obtain ⟨A, hAe⟩ : ∃ A, s.A = A := ⟨_, rfl⟩
  obtain ⟨n, hne⟩ : ∃ n, s.n = n := ⟨_, rfl⟩
  obtain ⟨b, hbe⟩ : ∃ b, s.b = b := ⟨_, rfl⟩
  obtain ⟨o, hoe⟩ : ∃ o, s.o = o := ⟨_, rfl⟩
  rw [hAe, hne, hbe, hoe] at HA
  rw [hne, hbe, hoe] at HX
  rw [hne] at HP hn
  rw [hAe, hne]
  clear hAe hne hbe hoe
  go_enter Tryz.func130, Tryz.ntmps130
  go_wp2_with fail
  go_loopw [8] (fun s8 wr => ∃ i : Nat, i ≤ n ∧ s8 = .int .i64 (i : Int) ∧ Gr w wr ∧ Hid (Ba.fst p i = none)) (fun s8 _ => n - (intOf s8).toNat)
  case atStart => exact ⟨0, Nat.zero_le _, rfl, Gr.refl _, rfl⟩
  case round =>
    obtain ⟨i, hi, rfl, hg, hf⟩ := hrel
    by_cases hlt : i < n
    · obtain rfl := HA.out (by omega)
      have HC := Lib.hid (HP.out i hlt)
      obtain ⟨a0, a1, a2, a3, a4, a5, a6, a7, a8⟩ := (HX.out i hlt).1.gr hg
      unfold Ba.Node.val at HC
      generalize s.D i = d at *
      cases hpi : p i
      · rw [hpi] at HC
        have HF := Lib.hid (Ba.fst_miss hf.out hpi)
        clear hpi hi
        go_wp2_with fail
        refine (HC.out _ gr_auto).mono ?_
        rintro e w1 ⟨rfl, hb1⟩
        go_wp2_with fail
        go_roundw
        case rel => exact ⟨i + 1, by omega, by go_num, gr_auto, HF⟩
        case measure => simp [intOf]; omega
      · rw [hpi] at HC
        have HF := Lib.hid (Ba.fstI_hit hf.out hpi hlt)
        clear hpi hi
        go_wp2_with fail
        refine (HC.out _ gr_auto).mono ?_
        rintro e w1 ⟨rfl, hb1⟩
        go_wp2_with fail
        go_ret
        exact ⟨ret_int HF.out.symm, gr_auto⟩
    · obtain rfl : i = n := by omega
      have HF := Lib.hid (Ba.fstI_none hf.out)
      go_wp2_with fail
      go_ret
      exact ⟨ret_int HF.out.symm, hg⟩
set_option maxRecDepth 100000 in
set_option maxHeartbeats 2000000 in
theorem idx_link (f : FuncId) (cap : Array Value) (s : Ba.SlLink) (p : Nat → Bool) (w : World) (h : s.At w) (hen : ∀ args w, (callFunc f args).run Tryz.prog w = .ok (.enter f args) w)
    (hp : ∀ i, i < s.n → ∀ W, Gr w W → Calls Tryz.prog f (#[(s.D i).val] ++ cap) W fun e w' => e = .returned (.bool (p i)) ∧ Gr W w') :
    Calls Tryz.prog 137 #[.slice s.A s.n s.c, .func (.func f) #[] cap] w fun e w' => e = .returned (.int .i64 (Ba.fstI p s.n)) ∧ Gr w w' := by
  have HA := Lib.hid h.hA; have HX := Lib.hid h.hD; have HP := Lib.hid hp
  have hn : s.n ≤ 9223372036854775807 := Nat.le_trans h.hc h.hb
  clear h hp
  obtain ⟨A, hAe⟩ : ∃ A, s.A = A := ⟨_, rfl⟩
  obtain ⟨n, hne⟩ : ∃ n, s.n = n := ⟨_, rfl⟩
  obtain ⟨b, hbe⟩ : ∃ b, s.b = b := ⟨_, rfl⟩
  obtain ⟨o, hoe⟩ : ∃ o, s.o = o := ⟨_, rfl⟩
  rw [hAe, hne, hbe, hoe] at HA
  rw [hne, hbe, hoe] at HX
  rw [hne] at HP hn
  rw [hAe, hne]
  clear hAe hne hbe hoe
  go_enter Tryz.func137, Tryz.ntmps137
  go_wp2_with fail
  go_loopw [8] (fun s8 wr => ∃ i : Nat, i ≤ n ∧ s8 = .int .i64 (i : Int) ∧ Gr w wr ∧ Hid (Ba.fst p i = none)) (fun s8 _ => n - (intOf s8).toNat)
  case atStart => exact ⟨0, Nat.zero_le _, rfl, Gr.refl _, rfl⟩
  case round =>
    obtain ⟨i, hi, rfl, hg, hf⟩ := hrel
    by_cases hlt : i < n
    · obtain rfl := HA.out (by omega)
      have HC := Lib.hid (HP.out i hlt)
      obtain ⟨a0, a1, a2, a3, a4, a5, a6, a7, a8, a9, a10⟩ := (HX.out i hlt).1.gr hg
      unfold Ba.Link.val at HC
      generalize s.D i = d at *
      cases hpi : p i
      · rw [hpi] at HC
        have HF := Lib.hid (Ba.fst_miss hf.out hpi)
        clear hpi hi
        go_wp2_with fail
        refine (HC.out _ gr_auto).mono ?_
        rintro e w1 ⟨rfl, hb1⟩
        go_wp2_with fail
        go_roundw
        case rel => exact ⟨i + 1, by omega, by go_num, gr_auto, HF⟩
        case measure => simp [intOf]; omega
      · rw [hpi] at HC
        have HF := Lib.hid (Ba.fstI_hit hf.out hpi hlt)
        clear hpi hi
        go_wp2_with fail
        refine (HC.out _ gr_auto).mono ?_
        rintro e w1 ⟨rfl, hb1⟩
        go_wp2_with fail
        go_ret
        exact ⟨ret_int HF.out.symm, gr_auto⟩
    · obtain rfl : i = n := by omega
      have HF := Lib.hid (Ba.fstI_none hf.out)
      go_wp2_with fail
      go_ret
      exact ⟨ret_int HF.out.symm, hg⟩
theorem has_int (f : FuncId) (cap : Array Value) (s : Ba.SlI) (p : Nat → Bool) (w : World) (h : s.At w) (hen : ∀ args w, (callFunc f args).run Tryz.prog w = .ok (.enter f args) w)
    (hp : ∀ i, i < s.n → ∀ W, Gr w W → Calls Tryz.prog f (#[.int .i64 (s.X i)] ++ cap) W fun e w' => e = .returned (.bool (p i)) ∧ Gr W w') :
    Calls Tryz.prog 166 #[.slice s.A s.n s.c, .func (.func f) #[] cap] w fun e w' => e = .returned (.bool (Ba.any p s.n)) ∧ Gr w w' := by
  have HI := Lib.hid (idx_ints f cap s.A s.n s.c s.b s.o s.X p w (Nat.le_trans h.hc h.hb) hen h.hA (fun i hi => (h.hX i hi).1) hp)
  have HG := Lib.hid (Ba.fstI_ge p s.n)
  clear hp h
  generalize Ba.fstI p s.n = r at *
  generalize Ba.any p s.n = q at *
  generalize s.A = A at *
  generalize s.n = n at *
  generalize s.c = c at *
  go_enter Tryz.func166, Tryz.ntmps166
  go_wp2_with fail
  refine HI.out.mono ?_
  rintro e w1 ⟨rfl, hb1⟩
  go_wp2
  go_ret
  exact ⟨ret_bool HG.out, hb1⟩
theorem has_knot (f : FuncId) (cap : Array Value) (s : Ba.SlK) (p : Nat → Bool) (w : World) (h : s.At w) (hen : ∀ args w, (callFunc f args).run Tryz.prog w = .ok (.enter f args) w)
    (hp : ∀ i, i < s.n → ∀ W, Gr w W → Calls Tryz.prog f (#[.agg #[.int .i64 (s.X i), .int .i64 (s.Y i)]] ++ cap) W fun e w' => e = .returned (.bool (p i)) ∧ Gr W w') :
    Calls Tryz.prog 135 #[.slice s.A s.n s.c, .func (.func f) #[] cap] w fun e w' => e = .returned (.bool (Ba.any p s.n)) ∧ Gr w w' := by
  have HI := Lib.hid (idx_knot f cap s p w h hen hp)
  have HG := Lib.hid (Ba.fstI_ge p s.n)
  clear hp h
  generalize Ba.fstI p s.n = r at *
  generalize Ba.any p s.n = q at *
  generalize s.A = A at *
  generalize s.n = n at *
  generalize s.c = c at *
  go_enter Tryz.func135, Tryz.ntmps135
  go_wp2_with fail
  refine HI.out.mono ?_
  rintro e w1 ⟨rfl, hb1⟩
  go_wp2
  go_ret
  exact ⟨ret_bool HG.out, hb1⟩
end Go.Proofs.YtllkiadedaghoaaGreatDoor
