/-
  What knots, nodes, links, and ledgers are in memory; slices.IndexFunc and slices.ContainsFunc on each. (Printed by mkdata.py.)
  Alarms: slices of messages in memory. Typed.
  Seat .ZD: Explain: the closure; the reference's Index; the words. Typed.
-/
import Derived.Test.YtllkiadedaghoaaGreatDoorEx07
import Derived.Lib.Join
set_option linter.unusedVariables false
set_option linter.unusedSimpArgs false
namespace Go.Proofs.YtllkiadedaghoaaGreatDoor
open Go.RowKit
namespace Ba
/-- A slice of ints: where it lies, its length, its numbers. -/
structure SlI where
  A : Option Addr
  n : Nat
  c : Nat
  b : Nat
  o : Nat
  X : Nat → Int
/-- A table: its knots. -/
structure SlK where
  A : Option Addr
  n : Nat
  c : Nat
  b : Nat
  o : Nat
  X : Nat → Int
  Y : Nat → Int
def i64 (x : Int) : Prop := -9223372036854775808 ≤ x ∧ x ≤ 9223372036854775807
structure SlI.At (w : World) (s : SlI) : Prop where
  hA : 0 < s.n → s.A = some ⟨s.b, s.o, none⟩
  hc : s.n ≤ s.c
  hb : s.c ≤ 9223372036854775807
  hX : ∀ i, i < s.n → w.cell? ⟨s.b, s.o + i, none⟩ = some (.int .i64 (s.X i)) ∧ i64 (s.X i)
structure SlK.At (w : World) (s : SlK) : Prop where
  hA : 0 < s.n → s.A = some ⟨s.b, s.o, none⟩
  hc : s.n ≤ s.c
  hb : s.c ≤ 9223372036854775807
  hX : ∀ i, i < s.n → (w.cell? ⟨s.b, s.o + i * 2, none⟩ = some (.int .i64 (s.X i)) ∧ w.cell? ⟨s.b, s.o + i * 2 + 1, none⟩ = some (.int .i64 (s.Y i))) ∧ i64 (s.X i) ∧ i64 (s.Y i)
theorem SlI.At.gr {w w1 : World} {s : SlI} (h : s.At w) (hg : Gr w w1) : s.At w1 := ⟨h.hA, h.hc, h.hb, fun i hi => ⟨Gr.at hg (h.hX i hi).1, (h.hX i hi).2⟩⟩
theorem SlK.At.gr {w w1 : World} {s : SlK} (h : s.At w) (hg : Gr w w1) : s.At w1 := ⟨h.hA, h.hc, h.hb, fun i hi => ⟨⟨Gr.at hg (h.hX i hi).1.1, Gr.at hg (h.hX i hi).1.2⟩, (h.hX i hi).2⟩⟩
structure Node where
  nm : ByteArray
  kd : Int
  ax : Int
  ay : Int
  iv : Int
  gr : Int
  sh : SlK
  pr : Bool
  rs : Int
def Node.val (d : Node) : Value := .agg #[.string d.nm, .int .i64 d.kd, .int .i64 d.ax, .int .i64 d.ay, .int .i64 d.iv, .int .i64 d.gr, .slice d.sh.A d.sh.n d.sh.c, .bool d.pr, .int .i64 d.rs]
/-- The cells. -/
def Node.Cells (w : World) (b o : Nat) (d : Node) : Prop := w.cell? ⟨b, o, none⟩ = some (.string d.nm) ∧ w.cell? ⟨b, o + 1, none⟩ = some (.int .i64 d.kd) ∧ w.cell? ⟨b, o + 2, none⟩ = some (.int .i64 d.ax) ∧ w.cell? ⟨b, o + 3, none⟩ = some (.int .i64 d.ay) ∧ w.cell? ⟨b, o + 4, none⟩ = some (.int .i64 d.iv) ∧ w.cell? ⟨b, o + 5, none⟩ = some (.int .i64 d.gr) ∧ w.cell? ⟨b, o + 6, none⟩ = some (.slice d.sh.A d.sh.n d.sh.c) ∧ w.cell? ⟨b, o + 7, none⟩ = some (.bool d.pr) ∧ w.cell? ⟨b, o + 8, none⟩ = some (.int .i64 d.rs)
def Node.Ok (w : World) (d : Node) : Prop := i64 d.kd ∧ i64 d.ax ∧ i64 d.ay ∧ i64 d.iv ∧ i64 d.gr ∧ i64 d.rs ∧ d.nm.size ≤ 9223372036854775807 ∧ d.sh.At w
theorem Node.Cells.gr {w w1 : World} {b o : Nat} {d : Node} (h : d.Cells w b o) (hg : Gr w w1) : d.Cells w1 b o := by
  obtain ⟨h0, h1, h2, h3, h4, h5, h6, h7, h8⟩ := h
  exact ⟨Gr.at hg h0, Gr.at hg h1, Gr.at hg h2, Gr.at hg h3, Gr.at hg h4, Gr.at hg h5, Gr.at hg h6, Gr.at hg h7, Gr.at hg h8⟩
structure SlNode where
  A : Option Addr
  n : Nat
  c : Nat
  b : Nat
  o : Nat
  D : Nat → Node
structure SlNode.At (w : World) (s : SlNode) : Prop where
  hA : 0 < s.n → s.A = some ⟨s.b, s.o, none⟩
  hc : s.n ≤ s.c
  hb : s.c ≤ 9223372036854775807
  hD : ∀ i, i < s.n → (s.D i).Cells w s.b (s.o + i * 9) ∧ (s.D i).Ok w
theorem Node.Ok.gr {w w1 : World} {d : Node} (h : d.Ok w) (hg : Gr w w1) : d.Ok w1 := by
  obtain ⟨h0, h1, h2, h3, h4, h5, h6, h7⟩ := h
  exact ⟨h0, h1, h2, h3, h4, h5, h6, h7.gr hg⟩
theorem SlNode.At.gr {w w1 : World} {s : SlNode} (h : s.At w) (hg : Gr w w1) : s.At w1 := ⟨h.hA, h.hc, h.hb, fun i hi => ⟨(h.hD i hi).1.gr hg, (h.hD i hi).2.gr hg⟩⟩
structure Link where
  nm : ByteArray
  fr : ByteArray
  tt : ByteArray
  kd : Int
  ln : Int
  up : Int
  dn : Int
  sc : ByteArray
  wd : Int
  ht : Int
  cv : SlK
def Link.val (d : Link) : Value := .agg #[.string d.nm, .string d.fr, .string d.tt, .int .i64 d.kd, .int .i64 d.ln, .int .i64 d.up, .int .i64 d.dn, .string d.sc, .int .i64 d.wd, .int .i64 d.ht, .slice d.cv.A d.cv.n d.cv.c]
/-- The cells. -/
def Link.Cells (w : World) (b o : Nat) (d : Link) : Prop := w.cell? ⟨b, o, none⟩ = some (.string d.nm) ∧ w.cell? ⟨b, o + 1, none⟩ = some (.string d.fr) ∧ w.cell? ⟨b, o + 2, none⟩ = some (.string d.tt) ∧ w.cell? ⟨b, o + 3, none⟩ = some (.int .i64 d.kd) ∧ w.cell? ⟨b, o + 4, none⟩ = some (.int .i64 d.ln) ∧ w.cell? ⟨b, o + 5, none⟩ = some (.int .i64 d.up) ∧ w.cell? ⟨b, o + 6, none⟩ = some (.int .i64 d.dn) ∧ w.cell? ⟨b, o + 7, none⟩ = some (.string d.sc) ∧ w.cell? ⟨b, o + 8, none⟩ = some (.int .i64 d.wd) ∧ w.cell? ⟨b, o + 9, none⟩ = some (.int .i64 d.ht) ∧ w.cell? ⟨b, o + 10, none⟩ = some (.slice d.cv.A d.cv.n d.cv.c)
def Link.Ok (w : World) (d : Link) : Prop := i64 d.kd ∧ i64 d.ln ∧ i64 d.up ∧ i64 d.dn ∧ i64 d.wd ∧ i64 d.ht ∧ d.nm.size ≤ 9223372036854775807 ∧ d.fr.size ≤ 9223372036854775807 ∧ d.tt.size ≤ 9223372036854775807 ∧ d.sc.size ≤ 9223372036854775807 ∧ d.cv.At w
theorem Link.Cells.gr {w w1 : World} {b o : Nat} {d : Link} (h : d.Cells w b o) (hg : Gr w w1) : d.Cells w1 b o := by
  obtain ⟨h0, h1, h2, h3, h4, h5, h6, h7, h8, h9, h10⟩ := h
  exact ⟨Gr.at hg h0, Gr.at hg h1, Gr.at hg h2, Gr.at hg h3, Gr.at hg h4, Gr.at hg h5, Gr.at hg h6, Gr.at hg h7, Gr.at hg h8, Gr.at hg h9, Gr.at hg h10⟩
structure SlLink where
  A : Option Addr
  n : Nat
  c : Nat
  b : Nat
  o : Nat
  D : Nat → Link
structure SlLink.At (w : World) (s : SlLink) : Prop where
  hA : 0 < s.n → s.A = some ⟨s.b, s.o, none⟩
  hc : s.n ≤ s.c
  hb : s.c ≤ 9223372036854775807
  hD : ∀ i, i < s.n → (s.D i).Cells w s.b (s.o + i * 11) ∧ (s.D i).Ok w
theorem Link.Ok.gr {w w1 : World} {d : Link} (h : d.Ok w) (hg : Gr w w1) : d.Ok w1 := by
  obtain ⟨h0, h1, h2, h3, h4, h5, h6, h7, h8, h9, h10⟩ := h
  exact ⟨h0, h1, h2, h3, h4, h5, h6, h7, h8, h9, h10.gr hg⟩
theorem SlLink.At.gr {w w1 : World} {s : SlLink} (h : s.At w) (hg : Gr w w1) : s.At w1 := ⟨h.hA, h.hc, h.hb, fun i hi => ⟨(h.hD i hi).1.gr hg, (h.hD i hi).2.gr hg⟩⟩
structure Ledger where
  inn : Int
  out : Int
  ps : SlI
def Ledger.val (d : Ledger) : Value := .agg #[.int .i64 d.inn, .int .i64 d.out, .slice d.ps.A d.ps.n d.ps.c]
/-- The cells. -/
def Ledger.Cells (w : World) (b o : Nat) (d : Ledger) : Prop := w.cell? ⟨b, o, none⟩ = some (.int .i64 d.inn) ∧ w.cell? ⟨b, o + 1, none⟩ = some (.int .i64 d.out) ∧ w.cell? ⟨b, o + 2, none⟩ = some (.slice d.ps.A d.ps.n d.ps.c)
def Ledger.Ok (w : World) (d : Ledger) : Prop := i64 d.inn ∧ i64 d.out ∧ d.ps.At w
theorem Ledger.Cells.gr {w w1 : World} {b o : Nat} {d : Ledger} (h : d.Cells w b o) (hg : Gr w w1) : d.Cells w1 b o := by
  obtain ⟨h0, h1, h2⟩ := h
  exact ⟨Gr.at hg h0, Gr.at hg h1, Gr.at hg h2⟩
structure SlLedger where
  A : Option Addr
  n : Nat
  c : Nat
  b : Nat
  o : Nat
  D : Nat → Ledger
structure SlLedger.At (w : World) (s : SlLedger) : Prop where
  hA : 0 < s.n → s.A = some ⟨s.b, s.o, none⟩
  hc : s.n ≤ s.c
  hb : s.c ≤ 9223372036854775807
  hD : ∀ i, i < s.n → (s.D i).Cells w s.b (s.o + i * 3) ∧ (s.D i).Ok w
theorem Ledger.Ok.gr {w w1 : World} {d : Ledger} (h : d.Ok w) (hg : Gr w w1) : d.Ok w1 := by
  obtain ⟨h0, h1, h2⟩ := h
  exact ⟨h0, h1, h2.gr hg⟩
theorem SlLedger.At.gr {w w1 : World} {s : SlLedger} (h : s.At w) (hg : Gr w w1) : s.At w1 := ⟨h.hA, h.hc, h.hb, fun i hi => ⟨(h.hD i hi).1.gr hg, (h.hD i hi).2.gr hg⟩⟩
end Ba
set_option maxRecDepth 100000 in
set_option maxHeartbeats 2000000 in
theorem idx_knot (f : FuncId) (cap : Array Value) (s : Ba.SlK) (p : Nat → Bool) (w : World) (h : s.At w) (hen : ∀ args w, (callFunc f args).run Tryz.prog w = .ok (.enter f args) w)
    (hp : ∀ i, i < s.n → ∀ W, Gr w W → Calls Tryz.prog f (#[.agg #[.int .i64 (s.X i), .int .i64 (s.Y i)]] ++ cap) W fun e w' => e = .returned (.bool (p i)) ∧ Gr W w') :
    Calls Tryz.prog 170 #[.slice s.A s.n s.c, .func (.func f) #[] cap] w fun e w' => e = .returned (.int .i64 (Ba.fstI p s.n)) ∧ Gr w w' := by
  have HA := Lib.hid h.hA; have HX := Lib.hid h.hX; have HP := Lib.hid hp
  have hn : s.n ≤ 9223372036854775807 := Nat.le_trans h.hc h.hb
  clear h hp
  obtain ⟨A, hAe⟩ : ∃ A, s.A = A := ⟨_, rfl⟩
  obtain ⟨n, hne⟩ : ∃ n, s.n = n := ⟨_, rfl⟩
  obtain ⟨b, hbe⟩ : ∃ b, s.b = b := ⟨_, rfl⟩
  obtain ⟨o, hoe⟩ : ∃ o, s.o = o := ⟨_, rfl⟩
  rw [hAe, hne, hbe, hoe] at HA
  rw [hne, hbe, hoe] at HX
  rw [hne] at HP hn
  rw [hAe, hne]
  clear hAe hne hbe hoe
  go_enter Tryz.func170, Tryz.ntmps170
  go_wp2_with fail
  go_loopw [8] (fun s8 wr => ∃ i : Nat, i ≤ n ∧ s8 = .int .i64 (i : Int) ∧ Gr w wr ∧ Hid (Ba.fst p i = none)) (fun s8 _ => n - (intOf s8).toNat)
  case atStart => exact ⟨0, Nat.zero_le _, rfl, Gr.refl _, rfl⟩
  case round =>
    obtain ⟨i, hi, rfl, hg, hf⟩ := hrel
    by_cases hlt : i < n
    · obtain rfl := HA.out (by omega)
      have HC := Lib.hid (HP.out i hlt)
      obtain ⟨⟨a0, a1⟩, -⟩ := HX.out i hlt
      have a0 := Gr.at hg a0; have a1 := Gr.at hg a1
      cases hpi : p i
      · rw [hpi] at HC
        have HF := Lib.hid (Ba.fst_miss hf.out hpi)
        clear hpi hi
        go_wp2_with fail
        refine (HC.out _ gr_auto).mono ?_
        rintro e w1 ⟨rfl, hb1⟩
        go_wp2_with fail
        go_roundw
        case rel => exact ⟨i + 1, by omega, by go_num, gr_auto, HF⟩
        case measure => simp [intOf]; omega
      · rw [hpi] at HC
        have HF := Lib.hid (Ba.fstI_hit hf.out hpi hlt)
        clear hpi hi
        go_wp2_with fail
        refine (HC.out _ gr_auto).mono ?_
        rintro e w1 ⟨rfl, hb1⟩
        go_wp2_with fail
        go_ret
        exact ⟨ret_int HF.out.symm, gr_auto⟩
    · obtain rfl : i = n := by omega
      have HF := Lib.hid (Ba.fstI_none hf.out)
      go_wp2_with fail
      go_ret
      exact ⟨ret_int HF.out.symm, hg⟩
set_option maxRecDepth 100000 in
set_option maxHeartbeats 2000000 in
theorem idx_node (f : FuncId) (cap : Array Value) (s : Ba.SlNode) (p : Nat → Bool) (w : World) (h : s.At w) (hen : ∀ args w, (callFunc f args).run Tryz.prog w = .ok (.enter f args) w)
    (hp : ∀ i, i < s.n → ∀ W, Gr w W → Calls Tryz.prog f (#[(s.D i).val] ++ cap) W fun e w' => e = .returned (.bool (p i)) ∧ Gr W w') :
    Calls Tryz.prog 130 #[.slice s.A s.n s.c, .func (.func f) #[] cap] w fun e w' => e = .returned (.int .i64 (Ba.fstI p s.n)) ∧ Gr w w' := by
  have HA := Lib.hid h.hA; have HX := Lib.hid h.hD; have HP := Lib.hid hp
  have hn : s.n ≤ 9223372036854775807 := Nat.le_trans h.hc h.hb
  clear h hp
  obtain ⟨A, hAe⟩ : ∃ A, s.A = A := ⟨_, rfl⟩
  obtain ⟨n, hne⟩ : ∃ n, s.n = n := ⟨_, rfl⟩
  obtain ⟨b, hbe⟩ : ∃ b, s.b = b := ⟨_, rfl⟩
  obtain ⟨o, hoe⟩ : ∃ o, s.o = o := ⟨_, rfl⟩
  rw [hAe, hne, hbe, hoe] at HA
  rw [hne, hbe, hoe] at HX
  rw [hne] at HP hn
  rw [hAe, hne]
  clear hAe hne hbe hoe
  go_enter Tryz.func130, Tryz.ntmps130
  go_wp2_with fail
  go_loopw [8] (fun s8 wr => ∃ i : Nat, i ≤ n ∧ s8 = .int .i64 (i : Int) ∧ Gr w wr ∧ Hid (Ba.fst p i = none)) (fun s8 _ => n - (intOf s8).toNat)
  case atStart => exact ⟨0, Nat.zero_le _, rfl, Gr.refl _, rfl⟩
  case round =>
    obtain ⟨i, hi, rfl, hg, hf⟩ := hrel
    by_cases hlt : i < n
    · obtain rfl := HA.out (by omega)
      have HC := Lib.hid (HP.out i hlt)
      obtain ⟨a0, a1, a2, a3, a4, a5, a6, a7, a8⟩ := (HX.out i hlt).1.gr hg
      unfold Ba.Node.val at HC
      generalize s.D i = d at *
      cases hpi : p i
      · rw [hpi] at HC
        have HF := Lib.hid (Ba.fst_miss hf.out hpi)
        clear hpi hi
        go_wp2_with fail
        refine (HC.out _ gr_auto).mono ?_
        rintro e w1 ⟨rfl, hb1⟩
        go_wp2_with fail
        go_roundw
        case rel => exact ⟨i + 1, by omega, by go_num, gr_auto, HF⟩
        case measure => simp [intOf]; omega
      · rw [hpi] at HC
        have HF := Lib.hid (Ba.fstI_hit hf.out hpi hlt)
        clear hpi hi
        go_wp2_with fail
        refine (HC.out _ gr_auto).mono ?_
        rintro e w1 ⟨rfl, hb1⟩
        go_wp2_with fail
        go_ret
        exact ⟨ret_int HF.out.symm, gr_auto⟩
    · obtain rfl : i = n := by omega
      have HF := Lib.hid (Ba.fstI_none hf.out)
      go_wp2_with fail
      go_ret
      exact ⟨ret_int HF.out.symm, hg⟩
set_option maxRecDepth 100000 in
set_option maxHeartbeats 2000000 in
theorem idx_link (f : FuncId) (cap : Array Value) (s : Ba.SlLink) (p : Nat → Bool) (w : World) (h : s.At w) (hen : ∀ args w, (callFunc f args).run Tryz.prog w = .ok (.enter f args) w)
    (hp : ∀ i, i < s.n → ∀ W, Gr w W → Calls Tryz.prog f (#[(s.D i).val] ++ cap) W fun e w' => e = .returned (.bool (p i)) ∧ Gr W w') :
    Calls Tryz.prog 137 #[.slice s.A s.n s.c, .func (.func f) #[] cap] w fun e w' => e = .returned (.int .i64 (Ba.fstI p s.n)) ∧ Gr w w' := by
  have HA := Lib.hid h.hA; have HX := Lib.hid h.hD; have HP := Lib.hid hp
  have hn : s.n ≤ 9223372036854775807 := Nat.le_trans h.hc h.hb
  clear h hp
  obtain ⟨A, hAe⟩ : ∃ A, s.A = A := ⟨_, rfl⟩
  obtain ⟨n, hne⟩ : ∃ n, s.n = n := ⟨_, rfl⟩
  obtain ⟨b, hbe⟩ : ∃ b, s.b = b := ⟨_, rfl⟩
  obtain ⟨o, hoe⟩ : ∃ o, s.o = o := ⟨_, rfl⟩
  rw [hAe, hne, hbe, hoe] at HA
  rw [hne, hbe, hoe] at HX
  rw [hne] at HP hn
  rw [hAe, hne]
  clear hAe hne hbe hoe
  go_enter Tryz.func137, Tryz.ntmps137
  go_wp2_with fail
  go_loopw [8] (fun s8 wr => ∃ i : Nat, i ≤ n ∧ s8 = .int .i64 (i : Int) ∧ Gr w wr ∧ Hid (Ba.fst p i = none)) (fun s8 _ => n - (intOf s8).toNat)
  case atStart => exact ⟨0, Nat.zero_le _, rfl, Gr.refl _, rfl⟩
  case round =>
    obtain ⟨i, hi, rfl, hg, hf⟩ := hrel
    by_cases hlt : i < n
    · obtain rfl := HA.out (by omega)
      have HC := Lib.hid (HP.out i hlt)
      obtain ⟨a0, a1, a2, a3, a4, a5, a6, a7, a8, a9, a10⟩ := (HX.out i hlt).1.gr hg
      unfold Ba.Link.val at HC
      generalize s.D i = d at *
      cases hpi : p i
      · rw [hpi] at HC
        have HF := Lib.hid (Ba.fst_miss hf.out hpi)
        clear hpi hi
        go_wp2_with fail
        refine (HC.out _ gr_auto).mono ?_
        rintro e w1 ⟨rfl, hb1⟩
        go_wp2_with fail
        go_roundw
        case rel => exact ⟨i + 1, by omega, by go_num, gr_auto, HF⟩
        case measure => simp [intOf]; omega
      · rw [hpi] at HC
        have HF := Lib.hid (Ba.fstI_hit hf.out hpi hlt)
        clear hpi hi
        go_wp2_with fail
        refine (HC.out _ gr_auto).mono ?_
        rintro e w1 ⟨rfl, hb1⟩
        go_wp2_with fail
        go_ret
        exact ⟨ret_int HF.out.symm, gr_auto⟩
    · obtain rfl : i = n := by omega
      have HF := Lib.hid (Ba.fstI_none hf.out)
      go_wp2_with fail
      go_ret
      exact ⟨ret_int HF.out.symm, hg⟩
theorem has_int (f : FuncId) (cap : Array Value) (s : Ba.SlI) (p : Nat → Bool) (w : World) (h : s.At w) (hen : ∀ args w, (callFunc f args).run Tryz.prog w = .ok (.enter f args) w)
    (hp : ∀ i, i < s.n → ∀ W, Gr w W → Calls Tryz.prog f (#[.int .i64 (s.X i)] ++ cap) W fun e w' => e = .returned (.bool (p i)) ∧ Gr W w') :
    Calls Tryz.prog 166 #[.slice s.A s.n s.c, .func (.func f) #[] cap] w fun e w' => e = .returned (.bool (Ba.any p s.n)) ∧ Gr w w' := by
  have HI := Lib.hid (idx_ints f cap s.A s.n s.c s.b s.o s.X p w (Nat.le_trans h.hc h.hb) hen h.hA (fun i hi => (h.hX i hi).1) hp)
  have HG := Lib.hid (Ba.fstI_ge p s.n)
  clear hp h
  generalize Ba.fstI p s.n = r at *
  generalize Ba.any p s.n = q at *
  generalize s.A = A at *
  generalize s.n = n at *
  generalize s.c = c at *
  go_enter Tryz.func166, Tryz.ntmps166
  go_wp2_with fail
  refine HI.out.mono ?_
  rintro e w1 ⟨rfl, hb1⟩
  go_wp2
  go_ret
  exact ⟨ret_bool HG.out, hb1⟩
theorem has_knot (f : FuncId) (cap : Array Value) (s : Ba.SlK) (p : Nat → Bool) (w : World) (h : s.At w) (hen : ∀ args w, (callFunc f args).run Tryz.prog w = .ok (.enter f args) w)
    (hp : ∀ i, i < s.n → ∀ W, Gr w W → Calls Tryz.prog f (#[.agg #[.int .i64 (s.X i), .int .i64 (s.Y i)]] ++ cap) W fun e w' => e = .returned (.bool (p i)) ∧ Gr W w') :
    Calls Tryz.prog 135 #[.slice s.A s.n s.c, .func (.func f) #[] cap] w fun e w' => e = .returned (.bool (Ba.any p s.n)) ∧ Gr w w' := by
  have HI := Lib.hid (idx_knot f cap s p w h hen hp)
  have HG := Lib.hid (Ba.fstI_ge p s.n)
  clear hp h
  generalize Ba.fstI p s.n = r at *
  generalize Ba.any p s.n = q at *
  generalize s.A = A at *
  generalize s.n = n at *
  generalize s.c = c at *
  go_enter Tryz.func135, Tryz.ntmps135
  go_wp2_with fail
  refine HI.out.mono ?_
  rintro e w1 ⟨rfl, hb1⟩
  go_wp2
  go_ret
  exact ⟨ret_bool HG.out, hb1⟩
end Go.Proofs.YtllkiadedaghoaaGreatDoor
set_option linter.unusedVariables false
set_option linter.unusedSimpArgs false
namespace Go.Proofs.YtllkiadedaghoaaGreatDoor
open Go.RowKit
namespace Al
/-- A message as Go holds it. -/
structure M.Ok (m : M) : Prop where
  nd : m.nd.size ≤ 9223372036854775807
  nu : Ba.i64 m.nu
  tm : Ba.i64 m.tm
  ar : Ba.i64 m.ar
  lv : Ba.i64 m.lv
def M.Cells (w : World) (b o : Nat) (d : M) : Prop := w.cell? ⟨b, o, none⟩ = some (.string d.nd) ∧ w.cell? ⟨b, o + 1, none⟩ = some (.int .i64 d.nu) ∧ w.cell? ⟨b, o + 2, none⟩ = some (.int .i64 d.tm) ∧ w.cell? ⟨b, o + 3, none⟩ = some (.int .i64 d.ar) ∧ w.cell? ⟨b, o + 4, none⟩ = some (.int .i64 d.lv)
theorem M.Cells.gr {w w1 : World} {b o : Nat} {d : M} (h : d.Cells w b o) (hg : Gr w w1) : d.Cells w1 b o := by
  obtain ⟨h0, h1, h2, h3, h4⟩ := h
  exact ⟨Gr.at hg h0, Gr.at hg h1, Gr.at hg h2, Gr.at hg h3, Gr.at hg h4⟩
structure SlM where
  A : Option Addr
  n : Nat
  c : Nat
  b : Nat
  o : Nat
  D : Nat → M
structure SlM.At (w : World) (s : SlM) : Prop where
  hA : 0 < s.n → s.A = some ⟨s.b, s.o, none⟩
  hc : s.n ≤ s.c
  hb : s.c ≤ 9223372036854775807
  hD : ∀ i, i < s.n → (s.D i).Cells w s.b (s.o + i * 5) ∧ (s.D i).Ok
theorem SlM.At.gr {w w1 : World} {s : SlM} (h : s.At w) (hg : Gr w w1) : s.At w1 := ⟨h.hA, h.hc, h.hb, fun i hi => ⟨(h.hD i hi).1.gr hg, (h.hD i hi).2⟩⟩
/-- The messages of a slice, as a list. -/
def SlM.lst (s : SlM) : List M := (List.range s.n).map s.D
end Al
end Go.Proofs.YtllkiadedaghoaaGreatDoor
set_option linter.unusedVariables false
set_option linter.unusedSimpArgs false
namespace Go.Proofs.YtllkiadedaghoaaGreatDoor
open Go.RowKit Go.Shelf Go.Sort
attribute [local go_sem ↓] Go.wp_at_zero Go.wp_at_succ
namespace Al
/-- Is the message of a node and of a number? -/
def isK (nd : ByteArray) (x : Int) (m : M) : Bool := (m.nd.toList == nd.toList) && m.nu == x
/-- The words of the kinds 1 to 6. -/
def wrd : Int → List UInt8
  | 1 => [108, 111, 119]
  | 2 => [104, 105, 103, 104]
  | 3 => [106, 117, 109, 112]
  | 4 => [102, 114, 111, 122, 101, 110]
  | 5 => [98, 97, 108, 97, 110, 99, 101]
  | _ => [117, 110, 107, 110, 111, 119, 110]
def msgW : List UInt8 := [109, 101, 115, 115, 97, 103, 101, 115]
/-- What is joined: the first n numbers. -/
def decs (X : Nat → Int) (n : Nat) : List (List UInt8) := (List.range n).map fun i => Lib.decDigits (X i).toNat
def numT (X : Nat → Int) (n : Nat) : List UInt8 := ((List.range n).map fun i => 32 :: Lib.decDigits (X i).toNat).flatten
/-- The explanation. -/
def expl (kd : Int) (nd : List UInt8) (L : List UInt8) (X : Nat → Int) (n : Nat) : List UInt8 := wrd kd ++ [32] ++ nd ++ [32] ++ L ++ [32] ++ msgW ++ numT X n
theorem numT_succ (X : Nat → Int) (n : Nat) : numT X (n + 1) = numT X n ++ ([32] ++ Lib.decDigits (X n).toNat) := by
  unfold numT
  rw [List.range_succ, List.map_append, List.flatten_append]
  simp
theorem decs_succ (X : Nat → Int) (n : Nat) : decs X (n + 1) = decs X n ++ [Lib.decDigits (X n).toNat] := by
  unfold decs
  rw [List.range_succ, List.map_append]; rfl
theorem inter_cons (s a b : List UInt8) (r : List (List UInt8)) : s.intercalate (a :: b :: r) = a ++ s ++ s.intercalate (b :: r) := by
  simp [List.intercalate, List.intersperse]
theorem inter_snoc (s a c : List UInt8) : ∀ (r : List (List UInt8)), s.intercalate (a :: r ++ [c]) = s.intercalate (a :: r) ++ (s ++ c)
  | [] => by simp [List.intercalate, List.intersperse]
  | b :: r => by
    rw [List.cons_append, List.cons_append, inter_cons, inter_cons, ← List.cons_append, inter_snoc s b c r]
    simp [List.append_assoc]
theorem join_expl (kd : Int) (nd L : List UInt8) (X : Nat → Int) : ∀ n, Lib.join (wrd kd :: nd :: L :: msgW :: decs X n) [32] = expl kd nd L X n
  | 0 => by simp [Lib.join, decs, expl, numT, List.intercalate, List.intersperse]
  | n + 1 => by
    have ih := join_expl kd nd L X n
    unfold Lib.join at ih ⊢
    rw [decs_succ, show wrd kd :: nd :: L :: msgW :: (decs X n ++ [Lib.decDigits (X n).toNat]) = wrd kd :: (nd :: L :: msgW :: decs X n) ++ [Lib.decDigits (X n).toNat] from rfl, inter_snoc, ih]
    unfold expl
    rw [numT_succ]
    simp [List.append_assoc]
end Al
set_option maxRecDepth 100000 in
set_option maxHeartbeats 4000000 in
theorem exp1_any (m : Al.M) (B K : Nat) (nd : ByteArray) (x : Int) (w : World) (h1 : w.cell? ⟨B, 1, none⟩ = some (.string nd)) (h2 : w.cell? ⟨K, 0, none⟩ = some (.int .i64 x)) : Calls Tryz.prog 27 #[.agg #[.string m.nd, .int .i64 m.nu, .int .i64 m.tm, .int .i64 m.ar, .int .i64 m.lv], .pointer (some ⟨B, 0, none⟩), .pointer (some ⟨K, 0, none⟩)] w fun e w' => e = .returned (.bool (Al.isK nd x m)) ∧ Gr w w' := by
  cases m with | mk mnd mnu mtm mar mlv =>
  simp only [] at *
  have hB : B < w.heap.size := World.block_lt_of_cell? _ _ h1
  have hK : K < w.heap.size := World.block_lt_of_cell? _ _ h2
  have HR := Lib.hid (show Al.isK nd x ⟨mnd, mnu, mtm, mar, mlv⟩ = ((mnd.toList == nd.toList) && (mnu == x)) from rfl)
  generalize Al.isK nd x ⟨mnd, mnu, mtm, mar, mlv⟩ = R at *
  go_enter Tryz.func27, Tryz.ntmps27
  cases t0 : (mnd.toList == nd.toList)
  · rw [t0, Bool.false_and] at HR
    go_wp2_with fail
    go_ret
    exact ⟨ret_bool HR.out.symm, gr_auto⟩
  · rw [t0, Bool.true_and] at HR
    cases t1 : (mnu == x)
    · rw [t1] at HR
      go_wp2_with fail
      go_ret
      exact ⟨ret_bool HR.out.symm, gr_auto⟩
    · rw [t1] at HR
      go_wp2_with fail
      go_ret
      exact ⟨ret_bool HR.out.symm, gr_auto⟩
set_option maxRecDepth 100000 in
set_option maxHeartbeats 4000000 in
theorem rindex_any (s : Al.SlM) (nd : ByteArray) (x : Int) (w : World) (h : s.At w) : Calls Tryz.prog 43 #[.slice s.A s.n s.c, .string nd, .int .i64 x] w fun e w' => e = .returned (.int .i64 (Ba.fstI (fun i => Al.isK nd x (s.D i)) s.n)) ∧ Gr w w' := by
  have hnm : s.n ≤ 9223372036854775807 := Nat.le_trans h.hc h.hb
  have HA := Lib.hid h.hA; have HX := Lib.hid h.hD
  have HP := Lib.hid (fun i => show (fun i => Al.isK nd x (s.D i)) i = (((s.D i).nd.toList == nd.toList) && (s.D i).nu == x) from rfl)
  generalize (fun i => Al.isK nd x (s.D i)) = p at *
  clear h
  cases s with | mk A n c b o D =>
  simp only [] at *
  go_enter Tryz.func43, Tryz.ntmps43
  go_wp2_with fail
  go_loopw [7] (fun y wr => ∃ i : Nat, i ≤ n ∧ y = .int .i64 (i : Int) ∧ Hid (Ba.fst p i = none) ∧ wr = w) (fun y _ => n - (intOf y).toNat)
  case atStart => exact ⟨0, Nat.zero_le _, rfl, Lib.hid rfl, rfl⟩
  case round =>
    obtain ⟨i, hi, rfl, hf, rfl⟩ := hrel
    by_cases hlt : i < n
    · obtain rfl := HA.out (by omega)
      obtain ⟨a0, a1, a2, a3, a4⟩ := (HX.out i hlt).1
      have ib0 : (0 : Int) ≤ (i : Int) := by omega
      have ib1 : (i : Int) < (n : Int) := by omega
      have hpi := HP.out i
      have HS := Lib.hid (fun h => Ba.fst_miss (p := p) hf.out h)
      have HT := Lib.hid (fun h => Ba.fstI_hit (p := p) hf.out h hlt)
      clear HX HA HP
      generalize D i = d at *
      cases t0 : (d.nd.toList == nd.toList)
      · rw [t0, Bool.false_and] at hpi
        have HN := Lib.hid (HS.out hpi)
        clear HS HT hpi hf
        go_wp2_with fail
        go_roundw
        case rel => exact ⟨i + 1, by omega, by go_num, HN, by first | rfl | trivial⟩
        case measure => simp [intOf]; omega
      · rw [t0, Bool.true_and] at hpi
        cases t1 : (d.nu == x)
        · rw [t1] at hpi
          have HN := Lib.hid (HS.out hpi)
          clear HS HT hpi hf
          go_wp2_with fail
          go_roundw
          case rel => exact ⟨i + 1, by omega, by go_num, HN, by first | rfl | trivial⟩
          case measure => simp [intOf]; omega
        · rw [t1] at hpi
          have HN := Lib.hid (HT.out hpi)
          clear HS HT hpi hf
          go_wp2_with fail
          go_ret
          exact ⟨ret_int HN.out.symm, Gr.refl _⟩
    · obtain rfl : i = n := by omega
      have HF := Lib.hid (Ba.fstI_none hf.out)
      clear HX HA HP hf
      go_wp2_with fail
      go_ret
      exact ⟨ret_int HF.out.symm, Gr.refl _⟩
end Go.Proofs.YtllkiadedaghoaaGreatDoor
