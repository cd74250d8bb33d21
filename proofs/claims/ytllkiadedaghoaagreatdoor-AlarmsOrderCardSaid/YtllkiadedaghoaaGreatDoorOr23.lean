/-
  Nodes and links by name: network.node, network.link (their closures).
  Alarms: telemetry.Valid. Typed. (UNDER WAY: see NOTES.)
  slices.Equal on tables: a table with itself, a table with none; storage.within, storage.holds.
  What networks, states, and ledgers are: the plain words. (No program is in sight.)
-/
import Derived.Test.YtllkiadedaghoaaGreatDoorOr21
import Derived.Test.YtllkiadedaghoaaGreatDoorOr22

set_option linter.unusedVariables false
set_option linter.unusedSimpArgs false
namespace Go.Proofs.YtllkiadedaghoaaGreatDoor
open Go.RowKit
namespace Ba
/-- Are two names the same? -/
def eqS (a b : ByteArray) : Bool := a.toList == b.toList
end Ba
set_option maxRecDepth 100000 in
theorem nodef_any (d : Ba.Node) (t : ByteArray) (B : Nat) (w : World) (hc : w.cell? ⟨B, 0, none⟩ = some (.string t)) : Calls Tryz.prog 131 #[d.val, .pointer (some ⟨B, 0, none⟩)] w fun e w' => e = .returned (.bool (Ba.eqS d.nm t)) ∧ Gr w w' := by
  have hB : B < w.heap.size := World.block_lt_of_cell? _ _ hc
  have hn : B ≠ w.heap.size := by omega
  unfold Ba.Node.val Ba.eqS
  go_enter Tryz.func131, Tryz.ntmps131
  go_wp2_with fail
  go_ret
  exact ⟨rfl, gr_auto⟩
set_option maxRecDepth 100000 in
theorem linkf_any (d : Ba.Link) (t : ByteArray) (B : Nat) (w : World) (hc : w.cell? ⟨B, 0, none⟩ = some (.string t)) : Calls Tryz.prog 138 #[d.val, .pointer (some ⟨B, 0, none⟩)] w fun e w' => e = .returned (.bool (Ba.eqS d.nm t)) ∧ Gr w w' := by
  have hB : B < w.heap.size := World.block_lt_of_cell? _ _ hc
  have hn : B ≠ w.heap.size := by omega
  unfold Ba.Link.val Ba.eqS
  go_enter Tryz.func138, Tryz.ntmps138
  go_wp2_with fail
  go_ret
  exact ⟨rfl, gr_auto⟩
set_option maxRecDepth 100000 in
theorem node_any (s : Ba.SlNode) (A : Option Addr) (n c : Nat) (t : ByteArray) (w : World) (h : s.At w) : Calls Tryz.prog 95 #[.agg #[.slice s.A s.n s.c, .slice A n c], .string t] w fun e w' => e = .returned (.int .i64 (Ba.fstI (fun i => Ba.eqS (s.D i).nm t) s.n)) ∧ Gr w w' := by
  have HI := Lib.hid (fun (B : Nat) (W : World) (hg : Gr w W) (hc : W.cell? ⟨B, 0, none⟩ = some (.string t)) => idx_node 131 #[.pointer (some ⟨B, 0, none⟩)] s (fun i => Ba.eqS (s.D i).nm t) W (h.gr hg) (enter_of Tryz.func131 (by kernel_rfl) (by kernel_rfl)) fun i hi W' hW => nodef_any (s.D i) t B W' (Gr.at hW hc))
  clear h
  generalize Ba.fstI (fun i => Ba.eqS (s.D i).nm t) s.n = r at *
  generalize s.A = A' at *
  generalize s.n = n' at *
  generalize s.c = c' at *
  go_enter Tryz.func95, Tryz.ntmps95
  go_wp2_with fail
  refine (HI.out _ _ gr_auto (by simp [go_sem])).mono ?_
  rintro e w1 ⟨rfl, hb1⟩
  go_wp2_with fail
  go_ret
  exact ⟨rfl, gr_auto⟩
set_option maxRecDepth 100000 in
theorem link_any (s : Ba.SlLink) (A : Option Addr) (n c : Nat) (t : ByteArray) (w : World) (h : s.At w) : Calls Tryz.prog 97 #[.agg #[.slice A n c, .slice s.A s.n s.c], .string t] w fun e w' => e = .returned (.int .i64 (Ba.fstI (fun i => Ba.eqS (s.D i).nm t) s.n)) ∧ Gr w w' := by
  have HI := Lib.hid (fun (B : Nat) (W : World) (hg : Gr w W) (hc : W.cell? ⟨B, 0, none⟩ = some (.string t)) => idx_link 138 #[.pointer (some ⟨B, 0, none⟩)] s (fun i => Ba.eqS (s.D i).nm t) W (h.gr hg) (enter_of Tryz.func138 (by kernel_rfl) (by kernel_rfl)) fun i hi W' hW => linkf_any (s.D i) t B W' (Gr.at hW hc))
  clear h
  generalize Ba.fstI (fun i => Ba.eqS (s.D i).nm t) s.n = r at *
  generalize s.A = A' at *
  generalize s.n = n' at *
  generalize s.c = c' at *
  go_enter Tryz.func97, Tryz.ntmps97
  go_wp2_with fail
  refine (HI.out _ _ gr_auto (by simp [go_sem])).mono ?_
  rintro e w1 ⟨rfl, hb1⟩
  go_wp2_with fail
  go_ret
  exact ⟨rfl, gr_auto⟩
end Go.Proofs.YtllkiadedaghoaaGreatDoor
set_option linter.unusedVariables false
set_option linter.unusedSimpArgs false
namespace Go.Proofs.YtllkiadedaghoaaGreatDoor
open Go.RowKit
namespace Al
/-- The keys of the first i messages. -/
def kP (D : Nat → M) (i : Nat) (key : Value) : Prop := ∃ j, j < i ∧ kM (D j).nd (D j).nu = key
/-- One of the first messages has a node and a number. -/
def hasK (D : Nat → M) (a : ByteArray) (b : Int) : Nat → Bool
  | 0 => false
  | k + 1 => hasK D a b k || (Ba.eqS (D k).nd a && decide ((D k).nu = b))
/-- The first messages are right, each once. -/
def msB (D : Nat → M) : Nat → Bool
  | 0 => true
  | k + 1 => msB D k && (mOk (D k) && !hasK D (D k).nd (D k).nu k)
def SlM.vB (s : SlM) : Bool := decide (s.n ≤ 10000) && msB s.D s.n
theorem eqS_iff' (a b : ByteArray) : Ba.eqS a b = true ↔ a = b := by
  unfold Ba.eqS
  rw [beq_iff_eq]
  exact ⟨fun h => by rw [Lib.toList_data, Lib.toList_data] at h; exact ByteArray.ext (Array.toList_inj.1 h), fun h => by rw [h]⟩
theorem hasK_iff {D : Nat → M} {a : ByteArray} {b : Int} : ∀ {i : Nat}, hasK D a b i = true ↔ ∃ j, j < i ∧ (D j).nd = a ∧ (D j).nu = b
  | 0 => by
    constructor
    · intro h; cases h
    · rintro ⟨j, hj, -⟩; omega
  | i + 1 => by
    rw [hasK, Bool.or_eq_true, hasK_iff, Bool.and_eq_true, eqS_iff', decide_eq_true_eq]
    constructor
    · rintro (⟨j, h, q⟩ | q)
      · exact ⟨j, by omega, q⟩
      · exact ⟨i, by omega, q⟩
    · rintro ⟨j, h, q⟩
      by_cases e : j = i
      · exact Or.inr (e ▸ q)
      · exact Or.inl ⟨j, by omega, q⟩
theorem kP_iff {D : Nat → M} {i : Nat} {a : ByteArray} {b : Int} : hasK D a b i = true ↔ kP D i (kM a b) := by
  rw [hasK_iff]
  exact ⟨fun ⟨j, h, q⟩ => ⟨j, h, by rw [q.1, q.2]⟩, fun ⟨j, h, q⟩ => ⟨j, h, kM_inj q⟩⟩
theorem kP_next {D : Nat → M} {i : Nat} (x : Value) : kP D (i + 1) x ↔ kP D i x ∨ x = kM (D i).nd (D i).nu := by
  constructor
  · rintro ⟨j, h, q⟩
    by_cases e : j = i
    · exact Or.inr (e ▸ q.symm)
    · exact Or.inl ⟨j, by omega, q⟩
  · rintro (⟨j, h, q⟩ | q)
    · exact ⟨j, by omega, q⟩
    · exact ⟨i, by omega, q.symm⟩
open Classical in
noncomputable def setF (P : Value → Prop) (key : Value) : Option Value := if P key then some (.bool true) else none
theorem setF_yes {P : Value → Prop} {key : Value} (h : P key) : setF P key = some (.bool true) := by unfold setF; rw [if_pos h]
theorem setF_no {P : Value → Prop} {key : Value} (h : ¬ P key) : setF P key = none := by unfold setF; rw [if_neg h]
theorem setF_of {P : Value → Prop} {key : Value} {b : Bool} (h : b = true ↔ P key) : (setF P key).getD (.bool false) = .bool b := by
  cases b
  · rw [setF_no (fun q => by cases h.2 q)]; rfl
  · rw [setF_yes (h.1 rfl)]; rfl
theorem setF_nil : (fun _ => none) = setF fun _ => False := funext fun _ => (setF_no (fun h => h)).symm
theorem setF_congr {P Q : Value → Prop} (h : ∀ x, P x ↔ Q x) : setF P = setF Q := by rw [show P = Q from funext fun x => propext (h x)]
theorem setF_add {P : Value → Prop} (key : Value) : (setF fun x => P x ∨ x = key) key = some (.bool true) ∧ ∀ x, x ≠ key → (setF fun x => P x ∨ x = key) x = setF P x := by
  refine ⟨setF_yes (Or.inr rfl), fun x hx => ?_⟩
  by_cases h : P x
  · rw [setF_yes h, setF_yes (Or.inl h)]
  · rw [setF_no h, setF_no (fun q => q.elim h hx)]
theorem kP_nil (D : Nat → M) : setF (kP D 0) = fun _ => none := by
  rw [setF_nil]
  exact setF_congr fun x => ⟨fun ⟨j, h, _⟩ => by omega, fun h => h.elim⟩
theorem msB_no {D : Nat → M} {i n : Nat} (h : msB D (i + 1) = false) : i < n → msB D n = false := by
  intro hi
  induction n with
  | zero => omega
  | succ n ih =>
    by_cases e : i = n
    · subst e; exact h
    · rw [msB, ih (by omega)]; rfl
end Al
end Go.Proofs.YtllkiadedaghoaaGreatDoor
set_option linter.unusedVariables false
set_option linter.unusedSimpArgs false
namespace Go.Proofs.YtllkiadedaghoaaGreatDoor
open Go.RowKit
set_option maxRecDepth 100000 in
theorem eqk_nil (s : Ba.SlK) (w : World) (h : s.At w) : Calls Tryz.prog 168 #[.slice s.A s.n s.c, .slice none 0 0] w fun e w' => e = .returned (.bool (decide (s.n = 0))) ∧ Gr w w' := by
  have hb : s.n ≤ 9223372036854775807 := Nat.le_trans h.hc h.hb
  clear h
  generalize s.A = A at *
  generalize s.n = n at *
  generalize s.c = c at *
  by_cases h0 : n = 0
  · subst h0
    go_enter Tryz.func168, Tryz.ntmps168
    go_wp2_with fail
    refine wp_loop_rounds 1 ?_
    rw [rounds_succ]
    go_wp2_with fail
    go_ret
    exact ⟨rfl, Gr.refl _⟩
  · rw [decide_eq_false h0]
    have t0 : ((n : Int) == 0) = false := by rw [beq_eq_false_iff_ne]; omega
    have t1 : (n == 0) = false := by rw [beq_eq_false_iff_ne]; omega
    go_enter Tryz.func168, Tryz.ntmps168
    go_wp2_with fail
    go_ret
    exact ⟨rfl, Gr.refl _⟩
set_option maxRecDepth 100000 in
theorem eqk_self (s : Ba.SlK) (w : World) (h : s.At w) : Calls Tryz.prog 168 #[.slice s.A s.n s.c, .slice s.A s.n s.c] w fun e w' => e = .returned (.bool true) ∧ Gr w w' := by
  have hb : s.n ≤ 9223372036854775807 := Nat.le_trans h.hc h.hb
  have HA := Lib.hid h.hA; have HX := Lib.hid h.hX
  clear h
  obtain ⟨A, n, c, b, o, X, Y⟩ := s
  simp only at *
  go_enter Tryz.func168, Tryz.ntmps168
  go_wp2_with fail
  go_loopw [13] (fun s13 wr => ∃ i : Nat, i ≤ n ∧ s13 = .int .i64 (i : Int) ∧ Gr w wr) (fun s13 _ => n - (intOf s13).toNat)
  case atStart => exact ⟨0, Nat.zero_le _, rfl, Gr.refl _⟩
  case round =>
    obtain ⟨i, hi, rfl, hg⟩ := hrel
    by_cases hlt : i < n
    · obtain rfl := HA.out (by omega)
      obtain ⟨⟨a0, a1⟩, -, -⟩ := HX.out i hlt
      have a0 := Gr.at hg a0; have a1 := Gr.at hg a1
      generalize X i = x at *
      generalize Y i = y at *
      go_wp2_with fail
      go_quiet (fail)
      go_wp2_with fail
      go_roundw
      case rel => exact ⟨i + 1, by omega, by go_num, gr_auto⟩
      case measure => simp [intOf]; omega
    · go_wp2_with fail
      go_ret
      exact ⟨rfl, hg⟩
end Go.Proofs.YtllkiadedaghoaaGreatDoor
set_option linter.unusedVariables false
set_option linter.unusedSimpArgs false
namespace Go.Proofs.YtllkiadedaghoaaGreatDoor
open Go.RowKit
namespace Ba
/-- All of them have the property. -/
def allB (p : Nat → Bool) : Nat → Bool
  | 0 => true
  | k + 1 => allB p k && p k
theorem allB_no {p : Nat → Bool} {k : Nat} (h : p k = false) : ∀ j, allB p (k + 1 + j) = false
  | 0 => by rw [Nat.add_zero, allB, h, Bool.and_false]
  | j + 1 => by rw [show k + 1 + (j + 1) = k + 1 + j + 1 by omega, allB, allB_no h j, Bool.false_and]
theorem allB_stop {p : Nat → Bool} {k n : Nat} (hk : k < n) (h : p k = false) : allB p n = false := by
  rw [show n = k + 1 + (n - (k + 1)) by omega]; exact allB_no h _
theorem allB_go {p : Nat → Bool} {k : Nat} (h : allB p k = true) (hk : p k = true) : allB p (k + 1) = true := by rw [allB, h, hk]; rfl
theorem allB_at {p : Nat → Bool} : ∀ {n k : Nat}, allB p n = true → k < n → p k = true
  | 0, _, _, h => by omega
  | n + 1, k, h, hk => by
    rw [allB, Bool.and_eq_true] at h
    by_cases e : k = n
    · subst e; exact h.2
    · exact allB_at h.1 (by omega)
/-- A slice of bools. -/
structure SlB where
  A : Option Addr
  n : Nat
  c : Nat
  b : Nat
  o : Nat
  X : Nat → Bool
structure SlB.At (w : World) (s : SlB) : Prop where
  hA : 0 < s.n → s.A = some ⟨s.b, s.o, none⟩
  hc : s.n ≤ s.c
  hb : s.c ≤ 9223372036854775807
  hX : ∀ i, i < s.n → w.cell? ⟨s.b, s.o + i, none⟩ = some (.bool (s.X i))
theorem SlB.At.gr {w w1 : World} {s : SlB} (h : s.At w) (hg : Gr w w1) : s.At w1 := ⟨h.hA, h.hc, h.hb, fun i hi => Gr.at hg (h.hX i hi)⟩
/-- A slice of strings. -/
structure SlS where
  A : Option Addr
  n : Nat
  c : Nat
  b : Nat
  o : Nat
  X : Nat → ByteArray
structure SlS.At (w : World) (s : SlS) : Prop where
  hA : 0 < s.n → s.A = some ⟨s.b, s.o, none⟩
  hc : s.n ≤ s.c
  hb : s.c ≤ 9223372036854775807
  hX : ∀ i, i < s.n → w.cell? ⟨s.b, s.o + i, none⟩ = some (.string (s.X i)) ∧ (s.X i).size ≤ 9223372036854775807
theorem SlS.At.gr {w w1 : World} {s : SlS} (h : s.At w) (hg : Gr w w1) : s.At w1 := ⟨h.hA, h.hc, h.hb, fun i hi => ⟨Gr.at hg (h.hX i hi).1, (h.hX i hi).2⟩⟩
/-- A state. -/
structure State where
  vs : SlI
  ps : SlI
  st : SlI
  on : SlB
def State.val (d : State) : Value := .agg #[.slice d.vs.A d.vs.n d.vs.c, .slice d.ps.A d.ps.n d.ps.c, .slice d.st.A d.st.n d.st.c, .slice d.on.A d.on.n d.on.c]
def State.Ok (w : World) (d : State) : Prop := d.vs.At w ∧ d.ps.At w ∧ d.st.At w ∧ d.on.At w
theorem State.Ok.gr {w w1 : World} {d : State} (h : d.Ok w) (hg : Gr w w1) : d.Ok w1 := ⟨h.1.gr hg, h.2.1.gr hg, h.2.2.1.gr hg, h.2.2.2.gr hg⟩
/-- A network's value. -/
def netVal (N : SlNode) (L : SlLink) : Value := .agg #[.slice N.A N.n N.c, .slice L.A L.n L.c]
/-- A node's number by its name, a link's. -/
def nix (N : SlNode) (t : ByteArray) : Int := fstI (fun i => eqS (N.D i).nm t) N.n
def lix (L : SlLink) (t : ByteArray) : Int := fstI (fun i => eqS (L.D i).nm t) L.n
/-- What all right nodes share. -/
def rnA (d : Node) : Bool := Dc.isName d.nm.data.toList && (bet d.ax (-16777216) 16777216 && (bet d.ay (-16777216) 16777216 && (bet d.iv (-4194304) 4194304 && bet d.gr (-4194304) 4194304)))
/-- .. an outfall. -/
def rnO (iv gr : Int) (n : Nat) (pr : Bool) (rs : Int) : Bool := decide (iv ≤ gr) && (decide (n = 0) && (!pr && (rs == 0)))
/-- .. a manhole, or a tank, with its shape. -/
def rnM (kd : Int) (pr : Bool) (rs y : Int) : Bool := bif pr then (kd == 2) && bet rs 0 y else (rs == 0)
/-- A node is right. -/
def rnode (d : Node) : Bool := rnA d && (if d.kd = 3 then rnO d.iv d.gr d.sh.n d.pr d.rs else if d.kd = 1 ∨ d.kd = 2 then decide (d.iv < d.gr) && (shp d.sh (d.gr - d.iv) && rnM d.kd d.pr d.rs (d.sh.Y (d.sh.n - 1))) else false)
/-- What all right links share. -/
def rlA (d : Link) : Bool := Dc.isName d.nm.data.toList && (Dc.isName d.fr.data.toList && (Dc.isName d.tt.data.toList && (!eqS d.fr d.tt && (bet d.up (-4194304) 4194304 && bet d.dn (-4194304) 4194304))))
def rlP (d : Link) : Bool := bet d.ln 1 16777216 && (Dc.isName d.sc.data.toList && ((d.wd == 0) && ((d.ht == 0) && decide (d.cv.n = 0))))
def rlW (d : Link) : Bool := (d.ln == 0) && ((d.dn == 0) && (d.sc.toList.isEmpty && (bet d.wd 1 1048576 && ((d.ht == 0) && decide (d.cv.n = 0)))))
def rlG (d : Link) : Bool := (d.ln == 0) && ((d.dn == 0) && (d.sc.toList.isEmpty && (bet d.wd 1 32768 && (bet d.ht 1 32768 && decide (d.cv.n = 0)))))
def rlU (d : Link) : Bool := (d.ln == 0) && (decide (d.dn < d.up) && (d.sc.toList.isEmpty && ((d.wd == 0) && ((d.ht == 0) && crv d.cv))))
/-- A link is right. -/
def rlink (d : Link) : Bool := rlA d && (if d.kd = 1 then rlP d else if d.kd = 2 then rlW d else if d.kd = 3 then rlG d else if d.kd = 4 then rlU d else false)
/-- Node k of a network is right, and the first of its name. -/
def nodeB (N : SlNode) (k : Nat) : Bool := rnode (N.D k) && (nix N (N.D k).nm == (k : Int))
def linkB (N : SlNode) (L : SlLink) (k : Nat) : Bool := rlink (L.D k) && ((lix L (L.D k).nm == (k : Int)) && (decide (0 ≤ nix N (L.D k).fr) && (decide (0 ≤ nix N (L.D k).tt) && !((N.D (nix N (L.D k).fr).toNat).kd == 3))))
/-- A network is valid. -/
def netB (N : SlNode) (L : SlLink) : Bool := decide (N.n ≤ 300) && (decide (L.n ≤ 400) && (allB (nodeB N) N.n && allB (linkB N L) L.n))
end Ba
end Go.Proofs.YtllkiadedaghoaaGreatDoor
