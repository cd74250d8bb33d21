/-
  What knots, nodes, links, and ledgers are in memory; slices.IndexFunc and slices.ContainsFunc on each. (Printed by mkdata.py.)
  Alarms: slices of messages in memory. Typed.
  Alarms: slices.Values at messages, its closure. Typed.
-/
import Derived.Test.YtllkiadedaghoaaGreatCm03
import Derived.Test.YtllkiadedaghoaaGreatCm02
import Derived.RangeFuncBox
import Derived.RangeFuncLeaves
import Derived.RangeFuncGives
import Derived.Shelf.Abstract
import Derived.WalkKit
import Derived.OwnWalkIn
import Derived.TacticsInMore
import Derived.LoopNIn
import Derived.LoopIn
set_option linter.unusedVariables false
set_option linter.unusedSimpArgs false
namespace Go.Proofs.YtllkiadedaghoaaGreat
open Go.RowKit
namespace Ba
/-- A slice of ints: where it lies, its length, its numbers. -/
structure SlI where
  A : Option Addr
  n : Nat
  c : Nat
  b : Nat
  o : Nat
  X : Nat → Int
/-- A table: its knots. -/
structure SlK where
  A : Option Addr
  n : Nat
  c : Nat
  b : Nat
  o : Nat
  X : Nat → Int
  Y : Nat → Int
def i64 (x : Int) : Prop := -9223372036854775808 ≤ x ∧ x ≤ 9223372036854775807
structure SlI.At (w : World) (s : SlI) : Prop where
  hA : 0 < s.n → s.A = some ⟨s.b, s.o, none⟩
  hc : s.n ≤ s.c
  hb : s.c ≤ 9223372036854775807
  hX : ∀ i, i < s.n → w.cell? ⟨s.b, s.o + i, none⟩ = some (.int .i64 (s.X i)) ∧ i64 (s.X i)
structure SlK.At (w : World) (s : SlK) : Prop where
  hA : 0 < s.n → s.A = some ⟨s.b, s.o, none⟩
  hc : s.n ≤ s.c
  hb : s.c ≤ 9223372036854775807
  hX : ∀ i, i < s.n → (w.cell? ⟨s.b, s.o + i * 2, none⟩ = some (.int .i64 (s.X i)) ∧ w.cell? ⟨s.b, s.o + i * 2 + 1, none⟩ = some (.int .i64 (s.Y i))) ∧ i64 (s.X i) ∧ i64 (s.Y i)
theorem SlI.At.gr {w w1 : World} {s : SlI} (h : s.At w) (hg : Gr w w1) : s.At w1 := ⟨h.hA, h.hc, h.hb, fun i hi => ⟨Gr.at hg (h.hX i hi).1, (h.hX i hi).2⟩⟩
theorem SlK.At.gr {w w1 : World} {s : SlK} (h : s.At w) (hg : Gr w w1) : s.At w1 := ⟨h.hA, h.hc, h.hb, fun i hi => ⟨⟨Gr.at hg (h.hX i hi).1.1, Gr.at hg (h.hX i hi).1.2⟩, (h.hX i hi).2⟩⟩
structure Node where
  nm : ByteArray
  kd : Int
  ax : Int
  ay : Int
  iv : Int
  gr : Int
  sh : SlK
  pr : Bool
  rs : Int
def Node.val (d : Node) : Value := .agg #[.string d.nm, .int .i64 d.kd, .int .i64 d.ax, .int .i64 d.ay, .int .i64 d.iv, .int .i64 d.gr, .slice d.sh.A d.sh.n d.sh.c, .bool d.pr, .int .i64 d.rs]
/-- The cells. -/
def Node.Cells (w : World) (b o : Nat) (d : Node) : Prop := w.cell? ⟨b, o, none⟩ = some (.string d.nm) ∧ w.cell? ⟨b, o + 1, none⟩ = some (.int .i64 d.kd) ∧ w.cell? ⟨b, o + 2, none⟩ = some (.int .i64 d.ax) ∧ w.cell? ⟨b, o + 3, none⟩ = some (.int .i64 d.ay) ∧ w.cell? ⟨b, o + 4, none⟩ = some (.int .i64 d.iv) ∧ w.cell? ⟨b, o + 5, none⟩ = some (.int .i64 d.gr) ∧ w.cell? ⟨b, o + 6, none⟩ = some (.slice d.sh.A d.sh.n d.sh.c) ∧ w.cell? ⟨b, o + 7, none⟩ = some (.bool d.pr) ∧ w.cell? ⟨b, o + 8, none⟩ = some (.int .i64 d.rs)
def Node.Ok (w : World) (d : Node) : Prop := i64 d.kd ∧ i64 d.ax ∧ i64 d.ay ∧ i64 d.iv ∧ i64 d.gr ∧ i64 d.rs ∧ d.nm.size ≤ 9223372036854775807 ∧ d.sh.At w
theorem Node.Cells.gr {w w1 : World} {b o : Nat} {d : Node} (h : d.Cells w b o) (hg : Gr w w1) : d.Cells w1 b o := by
  obtain ⟨h0, h1, h2, h3, h4, h5, h6, h7, h8⟩ := h
  exact ⟨Gr.at hg h0, Gr.at hg h1, Gr.at hg h2, Gr.at hg h3, Gr.at hg h4, Gr.at hg h5, Gr.at hg h6, Gr.at hg h7, Gr.at hg h8⟩
structure SlNode where
  A : Option Addr
  n : Nat
  c : Nat
  b : Nat
  o : Nat
  D : Nat → Node
structure SlNode.At (w : World) (s : SlNode) : Prop where
  hA : 0 < s.n → s.A = some ⟨s.b, s.o, none⟩
  hc : s.n ≤ s.c
  hb : s.c ≤ 9223372036854775807
  hD : ∀ i, i < s.n → (s.D i).Cells w s.b (s.o + i * 9) ∧ (s.D i).Ok w
theorem Node.Ok.gr {w w1 : World} {d : Node} (h : d.Ok w) (hg : Gr w w1) : d.Ok w1 := by
  obtain ⟨h0, h1, h2, h3, h4, h5, h6, h7⟩ := h
  exact ⟨h0, h1, h2, h3, h4, h5, h6, h7.gr hg⟩
theorem SlNode.At.gr {w w1 : World} {s : SlNode} (h : s.At w) (hg : Gr w w1) : s.At w1 := ⟨h.hA, h.hc, h.hb, fun i hi => ⟨(h.hD i hi).1.gr hg, (h.hD i hi).2.gr hg⟩⟩
structure Link where
  nm : ByteArray
  fr : ByteArray
  tt : ByteArray
  kd : Int
  ln : Int
  up : Int
  dn : Int
  sc : ByteArray
  wd : Int
  ht : Int
  cv : SlK
def Link.val (d : Link) : Value := .agg #[.string d.nm, .string d.fr, .string d.tt, .int .i64 d.kd, .int .i64 d.ln, .int .i64 d.up, .int .i64 d.dn, .string d.sc, .int .i64 d.wd, .int .i64 d.ht, .slice d.cv.A d.cv.n d.cv.c]
/-- The cells. -/
def Link.Cells (w : World) (b o : Nat) (d : Link) : Prop := w.cell? ⟨b, o, none⟩ = some (.string d.nm) ∧ w.cell? ⟨b, o + 1, none⟩ = some (.string d.fr) ∧ w.cell? ⟨b, o + 2, none⟩ = some (.string d.tt) ∧ w.cell? ⟨b, o + 3, none⟩ = some (.int .i64 d.kd) ∧ w.cell? ⟨b, o + 4, none⟩ = some (.int .i64 d.ln) ∧ w.cell? ⟨b, o + 5, none⟩ = some (.int .i64 d.up) ∧ w.cell? ⟨b, o + 6, none⟩ = some (.int .i64 d.dn) ∧ w.cell? ⟨b, o + 7, none⟩ = some (.string d.sc) ∧ w.cell? ⟨b, o + 8, none⟩ = some (.int .i64 d.wd) ∧ w.cell? ⟨b, o + 9, none⟩ = some (.int .i64 d.ht) ∧ w.cell? ⟨b, o + 10, none⟩ = some (.slice d.cv.A d.cv.n d.cv.c)
def Link.Ok (w : World) (d : Link) : Prop := i64 d.kd ∧ i64 d.ln ∧ i64 d.up ∧ i64 d.dn ∧ i64 d.wd ∧ i64 d.ht ∧ d.nm.size ≤ 9223372036854775807 ∧ d.fr.size ≤ 9223372036854775807 ∧ d.tt.size ≤ 9223372036854775807 ∧ d.sc.size ≤ 9223372036854775807 ∧ d.cv.At w
theorem Link.Cells.gr {w w1 : World} {b o : Nat} {d : Link} (h : d.Cells w b o) (hg : Gr w w1) : d.Cells w1 b o := by
  obtain ⟨h0, h1, h2, h3, h4, h5, h6, h7, h8, h9, h10⟩ := h
  exact ⟨Gr.at hg h0, Gr.at hg h1, Gr.at hg h2, Gr.at hg h3, Gr.at hg h4, Gr.at hg h5, Gr.at hg h6, Gr.at hg h7, Gr.at hg h8, Gr.at hg h9, Gr.at hg h10⟩
structure SlLink where
  A : Option Addr
  n : Nat
  c : Nat
  b : Nat
  o : Nat
  D : Nat → Link
structure SlLink.At (w : World) (s : SlLink) : Prop where
  hA : 0 < s.n → s.A = some ⟨s.b, s.o, none⟩
  hc : s.n ≤ s.c
  hb : s.c ≤ 9223372036854775807
  hD : ∀ i, i < s.n → (s.D i).Cells w s.b (s.o + i * 11) ∧ (s.D i).Ok w
theorem Link.Ok.gr {w w1 : World} {d : Link} (h : d.Ok w) (hg : Gr w w1) : d.Ok w1 := by
  obtain ⟨h0, h1, h2, h3, h4, h5, h6, h7, h8, h9, h10⟩ := h
  exact ⟨h0, h1, h2, h3, h4, h5, h6, h7, h8, h9, h10.gr hg⟩
theorem SlLink.At.gr {w w1 : World} {s : SlLink} (h : s.At w) (hg : Gr w w1) : s.At w1 := ⟨h.hA, h.hc, h.hb, fun i hi => ⟨(h.hD i hi).1.gr hg, (h.hD i hi).2.gr hg⟩⟩
structure Ledger where
  inn : Int
  out : Int
  ps : SlI
def Ledger.val (d : Ledger) : Value := .agg #[.int .i64 d.inn, .int .i64 d.out, .slice d.ps.A d.ps.n d.ps.c]
/-- The cells. -/
def Ledger.Cells (w : World) (b o : Nat) (d : Ledger) : Prop := w.cell? ⟨b, o, none⟩ = some (.int .i64 d.inn) ∧ w.cell? ⟨b, o + 1, none⟩ = some (.int .i64 d.out) ∧ w.cell? ⟨b, o + 2, none⟩ = some (.slice d.ps.A d.ps.n d.ps.c)
def Ledger.Ok (w : World) (d : Ledger) : Prop := i64 d.inn ∧ i64 d.out ∧ d.ps.At w
theorem Ledger.Cells.gr {w w1 : World} {b o : Nat} {d : Ledger} (h : d.Cells w b o) (hg : Gr w w1) : d.Cells w1 b o := by
  obtain ⟨h0, h1, h2⟩ := h
  exact ⟨Gr.at hg h0, Gr.at hg h1, Gr.at hg h2⟩
structure SlLedger where
  A : Option Addr
  n : Nat
  c : Nat
  b : Nat
  o : Nat
  D : Nat → Ledger
structure SlLedger.At (w : World) (s : SlLedger) : Prop where
  hA : 0 < s.n → s.A = some ⟨s.b, s.o, none⟩
  hc : s.n ≤ s.c
  hb : s.c ≤ 9223372036854775807
  hD : ∀ i, i < s.n → (s.D i).Cells w s.b (s.o + i * 3) ∧ (s.D i).Ok w
theorem Ledger.Ok.gr {w w1 : World} {d : Ledger} (h : d.Ok w) (hg : Gr w w1) : d.Ok w1 := by
  obtain ⟨h0, h1, h2⟩ := h
  exact ⟨h0, h1, h2.gr hg⟩
theorem SlLedger.At.gr {w w1 : World} {s : SlLedger} (h : s.At w) (hg : Gr w w1) : s.At w1 := ⟨h.hA, h.hc, h.hb, fun i hi => ⟨(h.hD i hi).1.gr hg, (h.hD i hi).2.gr hg⟩⟩
end Ba
set_option maxRecDepth 100000 in
set_option maxHeartbeats 2000000 in
theorem idx_knot (f : FuncId) (cap : Array Value) (s : Ba.SlK) (p : Nat → Bool) (w : World) (h : s.At w) (hen : ∀ args w, (callFunc f args).run Tryz.prog w = .ok (.enter f args) w)
    (hp : ∀ i, i < s.n → ∀ W, Gr w W → Calls Tryz.prog f (#[.agg #[.int .i64 (s.X i), .int .i64 (s.Y i)]] ++ cap) W fun e w' => e = .returned (.bool (p i)) ∧ Gr W w') :
    Calls Tryz.prog 173 #[.slice s.A s.n s.c, .func (.func f) #[] cap] w fun e w' => e = .returned (.int .i64 (Ba.fstI p s.n)) ∧ Gr w w' := by
  have HA := Lib.hid h.hA; have HX := Lib.hid h.hX; have HP := Lib.hid hp
  have hn : s.n ≤ 9223372036854775807 := Nat.le_trans h.hc h.hb
  clear h hp
  obtain ⟨A, hAe⟩ : ∃ A, s.A = A := ⟨_, rfl⟩
  obtain ⟨n, hne⟩ : ∃ n, s.n = n := ⟨_, rfl⟩
  obtain ⟨b, hbe⟩ : ∃ b, s.b = b := ⟨_, rfl⟩
  obtain ⟨o, hoe⟩ : ∃ o, s.o = o := ⟨_, rfl⟩
  rw [hAe, hne, hbe, hoe] at HA
  rw [hne, hbe, hoe] at HX
  rw [hne] at HP hn
  rw [hAe, hne]
  clear hAe hne hbe hoe
  go_enter Tryz.func173, Tryz.ntmps173
  go_wp2_with fail
  go_loopw [8] (fun s8 wr => ∃ i : Nat, i ≤ n ∧ s8 = .int .i64 (i : Int) ∧ Gr w wr ∧ Hid (Ba.fst p i = none)) (fun s8 _ => n - (intOf s8).toNat)
  case atStart => exact ⟨0, Nat.zero_le _, rfl, Gr.refl _, rfl⟩
  case round =>
    obtain ⟨i, hi, rfl, hg, hf⟩ := hrel
    by_cases hlt : i < n
    · obtain rfl := HA.out (by omega)
      have HC := Lib.hid (HP.out i hlt)
      obtain ⟨⟨a0, a1⟩, -⟩ := HX.out i hlt
      have a0 := Gr.at hg a0; have a1 := Gr.at hg a1
      cases hpi : p i
      · rw [hpi] at HC
        have HF := Lib.hid (Ba.fst_miss hf.out hpi)
        clear hpi hi
        go_wp2_with fail
        refine (HC.out _ gr_auto).mono ?_
        rintro e w1 ⟨rfl, hb1⟩
        go_wp2_with fail
        go_roundw
        case rel => exact ⟨i + 1, by omega, by go_num, gr_auto, HF⟩
        case measure => simp [intOf]; omega
      · rw [hpi] at HC
        have HF := Lib.hid (Ba.fstI_hit hf.out hpi hlt)
        clear hpi hi
        go_wp2_with fail
        refine (HC.out _ gr_auto).mono ?_
        rintro e w1 ⟨rfl, hb1⟩
        go_wp2_with fail
        go_ret
        exact ⟨ret_int HF.out.symm, gr_auto⟩
    · obtain rfl : i = n := by omega
      have HF := Lib.hid (Ba.fstI_none hf.out)
      go_wp2_with fail
      go_ret
      exact ⟨ret_int HF.out.symm, hg⟩
set_option maxRecDepth 100000 in
set_option maxHeartbeats 2000000 in
theorem idx_node (f : FuncId) (cap : Array Value) (s : Ba.SlNode) (p : Nat → Bool) (w : World) (h : s.At w) (hen : ∀ args w, (callFunc f args).run Tryz.prog w = .ok (.enter f args) w)
    (hp : ∀ i, i < s.n → ∀ W, Gr w W → Calls Tryz.prog f (#[(s.D i).val] ++ cap) W fun e w' => e = .returned (.bool (p i)) ∧ Gr W w') :
    Calls Tryz.prog 125 #[.slice s.A s.n s.c, .func (.func f) #[] cap] w fun e w' => e = .returned (.int .i64 (Ba.fstI p s.n)) ∧ Gr w w' := by
  have HA := Lib.hid h.hA; have HX := Lib.hid h.hD; have HP := Lib.hid hp
  have hn : s.n ≤ 9223372036854775807 := Nat.le_trans h.hc h.hb
  clear h hp
  obtain ⟨A, hAe⟩ : ∃ A, s.A = A := ⟨_, rfl⟩
  obtain ⟨n, hne⟩ : ∃ n, s.n = n := ⟨_, rfl⟩
  obtain ⟨b, hbe⟩ : ∃ b, s.b = b := ⟨_, rfl⟩
  obtain ⟨o, hoe⟩ : ∃ o, s.o = o := ⟨_, rfl⟩
  rw [hAe, hne, hbe, hoe] at HA
  rw [hne, hbe, hoe] at HX
  rw [hne] at HP hn
  rw [hAe, hne]
  clear hAe hne hbe hoe
  go_enter Tryz.func125, Tryz.ntmps125
  go_wp2_with fail
  go_loopw [8] (fun s8 wr => ∃ i : Nat, i ≤ n ∧ s8 = .int .i64 (i : Int) ∧ Gr w wr ∧ Hid (Ba.fst p i = none)) (fun s8 _ => n - (intOf s8).toNat)
  case atStart => exact ⟨0, Nat.zero_le _, rfl, Gr.refl _, rfl⟩
  case round =>
    obtain ⟨i, hi, rfl, hg, hf⟩ := hrel
    by_cases hlt : i < n
    · obtain rfl := HA.out (by omega)
      have HC := Lib.hid (HP.out i hlt)
      obtain ⟨a0, a1, a2, a3, a4, a5, a6, a7, a8⟩ := (HX.out i hlt).1.gr hg
      unfold Ba.Node.val at HC
      generalize s.D i = d at *
      cases hpi : p i
      · rw [hpi] at HC
        have HF := Lib.hid (Ba.fst_miss hf.out hpi)
        clear hpi hi
        go_wp2_with fail
        refine (HC.out _ gr_auto).mono ?_
        rintro e w1 ⟨rfl, hb1⟩
        go_wp2_with fail
        go_roundw
        case rel => exact ⟨i + 1, by omega, by go_num, gr_auto, HF⟩
        case measure => simp [intOf]; omega
      · rw [hpi] at HC
        have HF := Lib.hid (Ba.fstI_hit hf.out hpi hlt)
        clear hpi hi
        go_wp2_with fail
        refine (HC.out _ gr_auto).mono ?_
        rintro e w1 ⟨rfl, hb1⟩
        go_wp2_with fail
        go_ret
        exact ⟨ret_int HF.out.symm, gr_auto⟩
    · obtain rfl : i = n := by omega
      have HF := Lib.hid (Ba.fstI_none hf.out)
      go_wp2_with fail
      go_ret
      exact ⟨ret_int HF.out.symm, hg⟩
set_option maxRecDepth 100000 in
set_option maxHeartbeats 2000000 in
theorem idx_link (f : FuncId) (cap : Array Value) (s : Ba.SlLink) (p : Nat → Bool) (w : World) (h : s.At w) (hen : ∀ args w, (callFunc f args).run Tryz.prog w = .ok (.enter f args) w)
    (hp : ∀ i, i < s.n → ∀ W, Gr w W → Calls Tryz.prog f (#[(s.D i).val] ++ cap) W fun e w' => e = .returned (.bool (p i)) ∧ Gr W w') :
    Calls Tryz.prog 156 #[.slice s.A s.n s.c, .func (.func f) #[] cap] w fun e w' => e = .returned (.int .i64 (Ba.fstI p s.n)) ∧ Gr w w' := by
  have HA := Lib.hid h.hA; have HX := Lib.hid h.hD; have HP := Lib.hid hp
  have hn : s.n ≤ 9223372036854775807 := Nat.le_trans h.hc h.hb
  clear h hp
  obtain ⟨A, hAe⟩ : ∃ A, s.A = A := ⟨_, rfl⟩
  obtain ⟨n, hne⟩ : ∃ n, s.n = n := ⟨_, rfl⟩
  obtain ⟨b, hbe⟩ : ∃ b, s.b = b := ⟨_, rfl⟩
  obtain ⟨o, hoe⟩ : ∃ o, s.o = o := ⟨_, rfl⟩
  rw [hAe, hne, hbe, hoe] at HA
  rw [hne, hbe, hoe] at HX
  rw [hne] at HP hn
  rw [hAe, hne]
  clear hAe hne hbe hoe
  go_enter Tryz.func156, Tryz.ntmps156
  go_wp2_with fail
  go_loopw [8] (fun s8 wr => ∃ i : Nat, i ≤ n ∧ s8 = .int .i64 (i : Int) ∧ Gr w wr ∧ Hid (Ba.fst p i = none)) (fun s8 _ => n - (intOf s8).toNat)
  case atStart => exact ⟨0, Nat.zero_le _, rfl, Gr.refl _, rfl⟩
  case round =>
    obtain ⟨i, hi, rfl, hg, hf⟩ := hrel
    by_cases hlt : i < n
    · obtain rfl := HA.out (by omega)
      have HC := Lib.hid (HP.out i hlt)
      obtain ⟨a0, a1, a2, a3, a4, a5, a6, a7, a8, a9, a10⟩ := (HX.out i hlt).1.gr hg
      unfold Ba.Link.val at HC
      generalize s.D i = d at *
      cases hpi : p i
      · rw [hpi] at HC
        have HF := Lib.hid (Ba.fst_miss hf.out hpi)
        clear hpi hi
        go_wp2_with fail
        refine (HC.out _ gr_auto).mono ?_
        rintro e w1 ⟨rfl, hb1⟩
        go_wp2_with fail
        go_roundw
        case rel => exact ⟨i + 1, by omega, by go_num, gr_auto, HF⟩
        case measure => simp [intOf]; omega
      · rw [hpi] at HC
        have HF := Lib.hid (Ba.fstI_hit hf.out hpi hlt)
        clear hpi hi
        go_wp2_with fail
        refine (HC.out _ gr_auto).mono ?_
        rintro e w1 ⟨rfl, hb1⟩
        go_wp2_with fail
        go_ret
        exact ⟨ret_int HF.out.symm, gr_auto⟩
    · obtain rfl : i = n := by omega
      have HF := Lib.hid (Ba.fstI_none hf.out)
      go_wp2_with fail
      go_ret
      exact ⟨ret_int HF.out.symm, hg⟩
theorem has_int (f : FuncId) (cap : Array Value) (s : Ba.SlI) (p : Nat → Bool) (w : World) (h : s.At w) (hen : ∀ args w, (callFunc f args).run Tryz.prog w = .ok (.enter f args) w)
    (hp : ∀ i, i < s.n → ∀ W, Gr w W → Calls Tryz.prog f (#[.int .i64 (s.X i)] ++ cap) W fun e w' => e = .returned (.bool (p i)) ∧ Gr W w') :
    Calls Tryz.prog 60 #[.slice s.A s.n s.c, .func (.func f) #[] cap] w fun e w' => e = .returned (.bool (Ba.any p s.n)) ∧ Gr w w' := by
  have HI := Lib.hid (idx_ints f cap s.A s.n s.c s.b s.o s.X p w (Nat.le_trans h.hc h.hb) hen h.hA (fun i hi => (h.hX i hi).1) hp)
  have HG := Lib.hid (Ba.fstI_ge p s.n)
  clear hp h
  generalize Ba.fstI p s.n = r at *
  generalize Ba.any p s.n = q at *
  generalize s.A = A at *
  generalize s.n = n at *
  generalize s.c = c at *
  go_enter Tryz.func60, Tryz.ntmps60
  go_wp2_with fail
  refine HI.out.mono ?_
  rintro e w1 ⟨rfl, hb1⟩
  go_wp2
  go_ret
  exact ⟨ret_bool HG.out, hb1⟩
theorem has_knot (f : FuncId) (cap : Array Value) (s : Ba.SlK) (p : Nat → Bool) (w : World) (h : s.At w) (hen : ∀ args w, (callFunc f args).run Tryz.prog w = .ok (.enter f args) w)
    (hp : ∀ i, i < s.n → ∀ W, Gr w W → Calls Tryz.prog f (#[.agg #[.int .i64 (s.X i), .int .i64 (s.Y i)]] ++ cap) W fun e w' => e = .returned (.bool (p i)) ∧ Gr W w') :
    Calls Tryz.prog 154 #[.slice s.A s.n s.c, .func (.func f) #[] cap] w fun e w' => e = .returned (.bool (Ba.any p s.n)) ∧ Gr w w' := by
  have HI := Lib.hid (idx_knot f cap s p w h hen hp)
  have HG := Lib.hid (Ba.fstI_ge p s.n)
  clear hp h
  generalize Ba.fstI p s.n = r at *
  generalize Ba.any p s.n = q at *
  generalize s.A = A at *
  generalize s.n = n at *
  generalize s.c = c at *
  go_enter Tryz.func154, Tryz.ntmps154
  go_wp2_with fail
  refine HI.out.mono ?_
  rintro e w1 ⟨rfl, hb1⟩
  go_wp2
  go_ret
  exact ⟨ret_bool HG.out, hb1⟩
end Go.Proofs.YtllkiadedaghoaaGreat
set_option linter.unusedVariables false
set_option linter.unusedSimpArgs false
namespace Go.Proofs.YtllkiadedaghoaaGreat
open Go.RowKit
namespace Al
/-- A message as Go holds it. -/
structure M.Ok (m : M) : Prop where
  nd : m.nd.size ≤ 9223372036854775807
  nu : Ba.i64 m.nu
  tm : Ba.i64 m.tm
  ar : Ba.i64 m.ar
  lv : Ba.i64 m.lv
def M.Cells (w : World) (b o : Nat) (d : M) : Prop := w.cell? ⟨b, o, none⟩ = some (.string d.nd) ∧ w.cell? ⟨b, o + 1, none⟩ = some (.int .i64 d.nu) ∧ w.cell? ⟨b, o + 2, none⟩ = some (.int .i64 d.tm) ∧ w.cell? ⟨b, o + 3, none⟩ = some (.int .i64 d.ar) ∧ w.cell? ⟨b, o + 4, none⟩ = some (.int .i64 d.lv)
theorem M.Cells.gr {w w1 : World} {b o : Nat} {d : M} (h : d.Cells w b o) (hg : Gr w w1) : d.Cells w1 b o := by
  obtain ⟨h0, h1, h2, h3, h4⟩ := h
  exact ⟨Gr.at hg h0, Gr.at hg h1, Gr.at hg h2, Gr.at hg h3, Gr.at hg h4⟩
structure SlM where
  A : Option Addr
  n : Nat
  c : Nat
  b : Nat
  o : Nat
  D : Nat → M
structure SlM.At (w : World) (s : SlM) : Prop where
  hA : 0 < s.n → s.A = some ⟨s.b, s.o, none⟩
  hc : s.n ≤ s.c
  hb : s.c ≤ 9223372036854775807
  hD : ∀ i, i < s.n → (s.D i).Cells w s.b (s.o + i * 5) ∧ (s.D i).Ok
theorem SlM.At.gr {w w1 : World} {s : SlM} (h : s.At w) (hg : Gr w w1) : s.At w1 := ⟨h.hA, h.hc, h.hb, fun i hi => ⟨(h.hD i hi).1.gr hg, (h.hD i hi).2⟩⟩
/-- The messages of a slice, as a list. -/
def SlM.lst (s : SlM) : List M := (List.range s.n).map s.D
end Al
end Go.Proofs.YtllkiadedaghoaaGreat
set_option linter.unusedVariables false
set_option linter.unusedSimpArgs false
namespace Go.Proofs.YtllkiadedaghoaaGreat
open Go.RowKit Go.Shelf
attribute [local go_sem] Oper.semAt_some
namespace Al
def upto {α : Type} (f : Nat → α) (k : Nat) : List α := (List.range k).map f
theorem upto_succ {α : Type} (f : Nat → α) (k : Nat) : upto f (k + 1) = upto f k ++ [f k] := by simp [upto, List.range_succ]
theorem upto_length {α : Type} (f : Nat → α) (k : Nat) : (upto f k).length = k := by simp [upto]
def M.one (m : M) : Value := .agg #[.string m.nd, .int .i64 m.nu, .int .i64 m.tm, .int .i64 m.ar, .int .i64 m.lv]
end Al
set_option maxRecDepth 100000 in
set_option maxHeartbeats 4000000 in
/-- The closure of slices.Values: for every loop body that keeps what lay below n₀. -/
theorem values1_in (F : Fence) (n : Nat) (h7 : F.fn 160) (hro : F.round = none) (hn : 1 ≤ n) (l Bs n₀ b off len cap : Nat) (D : Nat → Al.M) (hreach : len ≤ 1000000) (hb : b < n₀) (J Jx : List Al.M → World → Prop)
    (hY : ∀ pre x W, J pre W → pre.length < len → YieldAt F (n - 1) Tryz.prog l #[x.one] W fun e W' =>
      (e = .returned (.bool true) ∧ J (pre ++ [x]) W' ∧ Below n₀ W W') ∨ (e = .returned (.bool false) ∧ Jx (pre ++ [x]) W'))
    (W : World) (hJ : AbidesFrom W.heap.size J) (hn₀ : n₀ ≤ W.heap.size) (hBs : W.cell? ⟨Bs, 0, none⟩ = some (.slice (some ⟨b, off, none⟩) len cap)) (hc : ∀ j, j < len → (D j).Cells W b (off + j * 5)) (h0 : J [] W) :
    CallsIn F n Tryz.prog 160 #[.func (.yield l) #[] #[], .pointer (some ⟨Bs, 0, none⟩)] W fun e W' => (∃ v, e = .returned v) ∧
      ((∃ ys, ys = Al.upto D len ∧ J ys W') ∨ (∃ pre, (∃ k, k ≤ len ∧ pre = Al.upto D k) ∧ Jx pre W')) := by
  refine callsIn_of_wp Tryz.func160 rfl h7 ?_ hro
  simp only [Tryz.ntmps160, List.size_toArray, List.length_cons, List.length_nil, Nat.reduceAdd, Nat.reduceSub, Array.replicate_succ, Array.replicate_zero, List.push_toArray, List.append_toArray, List.nil_append, List.cons_append]
  gi_wp2
  gi_loopw [7] (fun i wr => ∃ k : Nat, k ≤ len ∧ i = .int .i64 k ∧ J (Al.upto D k) wr ∧ Below n₀ W wr)
    (fun i _ => len - (intOf i).toNat)
  case atStart => exact ⟨0, Nat.zero_le _, rfl, h0, Below.refl _ _⟩
  case round =>
    obtain ⟨k, hk, rfl, hJs, hnx⟩ := hrel
    by_cases hlt : k < len
    · obtain ⟨c0, c1, c2, c3, c4⟩ := hc k hlt
      have ib0 : (0 : Int) ≤ (k : Int) := by omega
      have ib1 : (k : Int) < (len : Int) := by omega
      have d0 := (hnx.cell (p := ⟨b, off + k * 5, none⟩) hb).trans c0
      have d1 := (hnx.cell (p := ⟨b, off + k * 5 + 1, none⟩) hb).trans c1
      have d2 := (hnx.cell (p := ⟨b, off + k * 5 + 2, none⟩) hb).trans c2
      have d3 := (hnx.cell (p := ⟨b, off + k * 5 + 3, none⟩) hb).trans c3
      have d4 := (hnx.cell (p := ⟨b, off + k * 5 + 4, none⟩) hb).trans c4
      obtain ⟨W2, hW2⟩ : ∃ W2, W2 = wr.alloc (.cells #[.string (D k).nd, .int .i64 (D k).nu, .int .i64 (D k).tm, .int .i64 (D k).ar, .int .i64 (D k).lv] 57) := ⟨_, rfl⟩
      have hg2 : wr.grownBy W2 none := by rw [hW2]; exact World.grownBy_alloc _ _ none
      obtain ⟨fn, tmps, assign, body, hy, hR⟩ := hY _ (D k) W2 (hJ _ _ _ _ hJs hg2 (fun r e => by cases e)) (by rw [Al.upto_length]; exact hlt)
      have hbw : Below n₀ W W2 := by rw [hW2]; exact hnx.alloc (Nat.le_trans hn₀ hnx.size) _
      unfold Al.M.one at hy
      subst hW2
      gi_wp2
      refine hR.mono ?_
      rintro e W3 (⟨rfl, hJ3, hk3⟩ | ⟨rfl, hJx3⟩)
      · gi_wp2
        go_roundw
        case rel => exact ⟨k + 1, by omega, by simp, by rw [Al.upto_succ]; exact hJ3, hbw.trans hk3⟩
        case measure => simp [intOf]; omega
      · gi_wp2
        refine bodyPost_ret (results_none rfl _ _ _) rfl ?_
        exact ⟨⟨_, rfl⟩, .inr ⟨_, ⟨k + 1, by omega, (Al.upto_succ _ _).symm⟩, hJx3⟩⟩
    · obtain rfl : k = len := by omega
      gi_wp2
      go_end0
      exact ⟨⟨_, rfl⟩, .inl ⟨_, rfl, hJs⟩⟩
/-- The nil slice: no round. -/
theorem values1_nil_in (F : Fence) (n : Nat) (h7 : F.fn 160) (hro : F.round = none) (l Bs : Nat) (A : Option Addr) (cap : Nat) (J : List Al.M → World → Prop) (W : World) (hBs : W.cell? ⟨Bs, 0, none⟩ = some (.slice A 0 cap)) (h0 : J [] W) :
    CallsIn F n Tryz.prog 160 #[.func (.yield l) #[] #[], .pointer (some ⟨Bs, 0, none⟩)] W fun e W' => (∃ v, e = .returned v) ∧ J [] W' := by
  refine callsIn_of_wp Tryz.func160 rfl h7 ?_ hro
  simp only [Tryz.ntmps160, List.size_toArray, List.length_cons, List.length_nil, Nat.reduceAdd, Nat.reduceSub, Array.replicate_succ, Array.replicate_zero, List.push_toArray, List.append_toArray, List.nil_append, List.cons_append]
  gi_wp2
  gi_loopw [7] (fun i wr => i = .int .i64 0 ∧ J [] wr) (fun _ _ => 0)
  case atStart => exact ⟨rfl, h0⟩
  case round =>
    obtain ⟨rfl, hJs⟩ := hrel
    gi_wp2
    go_end0
    exact ⟨⟨_, rfl⟩, hJs⟩
/-- slices.Values. -/
theorem values_in (F : Fence) (n : Nat) (h5 : F.fn 128) (hro : F.round = none) (a : Option Addr) (len cap : Nat) (w : World) :
    CallsIn F n Tryz.prog 128 #[.slice a len cap] w fun e w' => e = .returned (.func (.func 160) #[] #[.pointer (some ⟨w.heap.size, 0, none⟩)]) ∧ ∃ t, w' = w.alloc (.cells #[.slice a len cap] t) := by
  refine callsIn_of_wp Tryz.func128 rfl h5 ?_ hro
  simp only [Tryz.ntmps128, List.size_toArray, List.length_cons, List.length_nil, Nat.reduceAdd, Nat.reduceSub, Array.replicate_succ, Array.replicate_zero, List.push_toArray, List.append_toArray, List.nil_append, List.cons_append]
  gi_wp2
  go_ret
  exact ⟨rfl, _, rfl⟩
theorem upto_lst (s : Al.SlM) : Al.upto s.D s.n = s.lst := rfl
/-- What slices.Values hands back gives the slice's messages, in order; a loop may leave early. -/
theorem values_stops (F : Fence) (n : Nat) (h7 : F.fn 160) (hro : F.round = none) (hn : 1 ≤ n) (Bs n₀ : Nat) (s : Al.SlM) (hreach : s.n ≤ 1000000) (w : World) (hBs : Bs < w.heap.size) (hn₀ : n₀ ≤ w.heap.size) (hs0 : 0 < s.n → s.b < n₀)
    (hc : w.cell? ⟨Bs, 0, none⟩ = some (.slice s.A s.n s.c)) (hI : s.At w) :
    SeqStopsK F n Tryz.prog 160 #[.pointer (some ⟨Bs, 0, none⟩)] (fun x : Al.M => #[x.one]) (Below n₀) (fun ys => ys = s.lst) (fun pre => pre <+: s.lst) s.n w := fun l J Jx W hW hJ _ hY h0 => by
  have hc' := (hW.cell (p := ⟨Bs, 0, none⟩) hBs).trans hc
  have hWs : w.heap.size ≤ W.heap.size := hW.size
  rcases Nat.eq_zero_or_pos s.n with z | z
  · rw [z] at hc'
    refine (values1_nil_in F n h7 hro l Bs s.A s.c J W hc' h0).mono fun e W' ⟨he, hj⟩ => ⟨he, .inl ⟨_, ?_, hj⟩⟩
    unfold Al.SlM.lst; rw [z]; rfl
  · rw [hI.hA z] at hc'
    have hI' : ∀ j, j < s.n → (s.D j).Cells W s.b (s.o + j * 5) := fun j hj => by
      obtain ⟨h0, h1, h2, h3, h4⟩ := (hI.hD j hj).1
      have up : ∀ {o : Nat} {v : Value}, w.cell? ⟨s.b, o, none⟩ = some v → W.cell? ⟨s.b, o, none⟩ = some v := fun {o v} h => (hW.cell (p := ⟨s.b, o, none⟩) (Nat.lt_of_lt_of_le (hs0 z) hn₀)).trans h
      exact ⟨up h0, up h1, up h2, up h3, up h4⟩
    refine (values1_in F n h7 hro hn l Bs n₀ s.b s.o s.n s.c s.D hreach (hs0 z) J Jx hY W hJ (Nat.le_trans hn₀ hWs) hc' hI' h0).mono ?_
    rintro e W' ⟨he, ⟨ys, rfl, hj⟩ | ⟨pre, ⟨k, hk, rfl⟩, hj⟩⟩
    · exact ⟨he, .inl ⟨_, rfl, hj⟩⟩
    · refine ⟨he, .inr ⟨_, ?_, hj⟩⟩
      unfold Al.SlM.lst Al.upto
      rw [show s.n = k + (s.n - k) by omega, List.range_add, List.map_append]
      exact List.prefix_append _ _
end Go.Proofs.YtllkiadedaghoaaGreat
