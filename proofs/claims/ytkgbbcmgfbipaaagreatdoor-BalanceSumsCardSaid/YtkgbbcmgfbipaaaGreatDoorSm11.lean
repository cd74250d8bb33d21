/-
  What networks, states, and ledgers are: the plain words. (No program is in sight.)
  A region that draws its order, of loads and of calls that make memory: one walk in the order of the text serves every order, if each call answers alike in every world that has grown.
-/
import Derived.Test.YtkgbbcmgfbipaaaGreatDoorSm10
import Derived.Test.YtkgbbcmgfbipaaaGreatDoorSm01
import Derived.Deep.Quiet
import Derived.BigQuiet
set_option linter.unusedVariables false
set_option linter.unusedSimpArgs false
namespace Go.Proofs.YtkgbbcmgfbipaaaGreatDoor
open Go.RowKit
namespace Ba
/-- All of them have the property. -/
def allB (p : Nat → Bool) : Nat → Bool
  | 0 => true
  | k + 1 => allB p k && p k
theorem allB_no {p : Nat → Bool} {k : Nat} (h : p k = false) : ∀ j, allB p (k + 1 + j) = false
  | 0 => by rw [Nat.add_zero, allB, h, Bool.and_false]
  | j + 1 => by rw [show k + 1 + (j + 1) = k + 1 + j + 1 by omega, allB, allB_no h j, Bool.false_and]
theorem allB_stop {p : Nat → Bool} {k n : Nat} (hk : k < n) (h : p k = false) : allB p n = false := by
  rw [show n = k + 1 + (n - (k + 1)) by omega]; exact allB_no h _
theorem allB_go {p : Nat → Bool} {k : Nat} (h : allB p k = true) (hk : p k = true) : allB p (k + 1) = true := by rw [allB, h, hk]; rfl
theorem allB_at {p : Nat → Bool} : ∀ {n k : Nat}, allB p n = true → k < n → p k = true
  | 0, _, _, h => by omega
  | n + 1, k, h, hk => by
    rw [allB, Bool.and_eq_true] at h
    by_cases e : k = n
    · subst e; exact h.2
    · exact allB_at h.1 (by omega)
theorem allB_iff {p : Nat → Bool} {n : Nat} : allB p n = true ↔ ∀ k, k < n → p k = true := by
  constructor
  · intro h k hk; exact allB_at h hk
  · induction n with
    | zero => intro _; rfl
    | succ n ih => intro h; rw [allB, Bool.and_eq_true]; exact ⟨ih fun k hk => h k (by omega), h n (by omega)⟩
theorem any_not {p : Nat → Bool} {n : Nat} : (!any (fun i => !p i) n) = allB p n := by
  rw [Bool.eq_iff_iff, allB_iff]
  have h := any_iff (fun i => !p i) n
  cases e : any (fun i => !p i) n
  · rw [e] at h
    simp only [Bool.not_false, true_iff]
    intro k hk
    cases hp : p k
    · exact absurd (h.2 ⟨k, hk, by simp [hp]⟩) Bool.false_ne_true
    · rfl
  · rw [e] at h
    obtain ⟨i, hi, hp⟩ := h.1 rfl
    simp only [Bool.not_true, Bool.false_eq_true, false_iff]
    intro h2
    have := h2 i hi
    simp [this] at hp
/-- The sum of the first numbers. -/
def sumI (X : Nat → Int) : Nat → Int
  | 0 => 0
  | k + 1 => sumI X k + X k
theorem sumI_le {X : Nat → Int} {lo hi : Int} : ∀ {n : Nat}, (∀ i, i < n → lo ≤ X i ∧ X i ≤ hi) → lo * n ≤ sumI X n ∧ sumI X n ≤ hi * n
  | 0, _ => by simp [sumI]
  | n + 1, h => by
    have a := sumI_le (n := n) fun i hi => h i (by omega)
    have b := h n (by omega)
    rw [sumI]
    constructor
    · rw [show lo * ((n + 1 : Nat) : Int) = lo * n + lo by push_cast; rw [Int.mul_add, Int.mul_one]]; omega
    · rw [show hi * ((n + 1 : Nat) : Int) = hi * n + hi by push_cast; rw [Int.mul_add, Int.mul_one]]; omega
theorem sumI_add (X Y : Nat → Int) : ∀ n, sumI (fun i => X i + Y i) n = sumI X n + sumI Y n
  | 0 => rfl
  | n + 1 => by rw [sumI, sumI, sumI, sumI_add X Y n]; omega
/-- A slice of bools. -/
structure SlB where
  A : Option Addr
  n : Nat
  c : Nat
  b : Nat
  o : Nat
  X : Nat → Bool
structure SlB.At (w : World) (s : SlB) : Prop where
  hA : 0 < s.n → s.A = some ⟨s.b, s.o, none⟩
  hc : s.n ≤ s.c
  hb : s.c ≤ 9223372036854775807
  hX : ∀ i, i < s.n → w.cell? ⟨s.b, s.o + i, none⟩ = some (.bool (s.X i))
theorem SlB.At.gr {w w1 : World} {s : SlB} (h : s.At w) (hg : Gr w w1) : s.At w1 := ⟨h.hA, h.hc, h.hb, fun i hi => Gr.at hg (h.hX i hi)⟩
/-- A slice of strings. -/
structure SlS where
  A : Option Addr
  n : Nat
  c : Nat
  b : Nat
  o : Nat
  X : Nat → ByteArray
structure SlS.At (w : World) (s : SlS) : Prop where
  hA : 0 < s.n → s.A = some ⟨s.b, s.o, none⟩
  hc : s.n ≤ s.c
  hb : s.c ≤ 9223372036854775807
  hX : ∀ i, i < s.n → w.cell? ⟨s.b, s.o + i, none⟩ = some (.string (s.X i)) ∧ (s.X i).size ≤ 9223372036854775807
theorem SlS.At.gr {w w1 : World} {s : SlS} (h : s.At w) (hg : Gr w w1) : s.At w1 := ⟨h.hA, h.hc, h.hb, fun i hi => ⟨Gr.at hg (h.hX i hi).1, (h.hX i hi).2⟩⟩
/-- A state. -/
structure State where
  vs : SlI
  ps : SlI
  st : SlI
  on : SlB
def State.val (d : State) : Value := .agg #[.slice d.vs.A d.vs.n d.vs.c, .slice d.ps.A d.ps.n d.ps.c, .slice d.st.A d.st.n d.st.c, .slice d.on.A d.on.n d.on.c]
def State.Ok (w : World) (d : State) : Prop := d.vs.At w ∧ d.ps.At w ∧ d.st.At w ∧ d.on.At w
theorem State.Ok.gr {w w1 : World} {d : State} (h : d.Ok w) (hg : Gr w w1) : d.Ok w1 := ⟨h.1.gr hg, h.2.1.gr hg, h.2.2.1.gr hg, h.2.2.2.gr hg⟩
/-- A network's value. -/
def netVal (N : SlNode) (L : SlLink) : Value := .agg #[.slice N.A N.n N.c, .slice L.A L.n L.c]
/-- A node's number by its name, a link's. -/
def nix (N : SlNode) (t : ByteArray) : Int := fstI (fun i => eqS (N.D i).nm t) N.n
def lix (L : SlLink) (t : ByteArray) : Int := fstI (fun i => eqS (L.D i).nm t) L.n
/-- What all right nodes share. -/
def rnA (d : Node) : Bool := Dc.isName d.nm.data.toList && (bet d.ax (-16777216) 16777216 && (bet d.ay (-16777216) 16777216 && (bet d.iv (-4194304) 4194304 && bet d.gr (-4194304) 4194304)))
/-- .. an outfall. -/
def rnO (iv gr : Int) (n : Nat) (pr : Bool) (rs : Int) : Bool := decide (iv ≤ gr) && (decide (n = 0) && (!pr && (rs == 0)))
/-- .. a manhole, or a tank, with its shape. -/
def rnM (kd : Int) (pr : Bool) (rs y : Int) : Bool := bif pr then (kd == 2) && bet rs 0 y else (rs == 0)
/-- A node is right. -/
def rnode (d : Node) : Bool := rnA d && (if d.kd = 3 then rnO d.iv d.gr d.sh.n d.pr d.rs else if d.kd = 1 ∨ d.kd = 2 then decide (d.iv < d.gr) && (shp d.sh (d.gr - d.iv) && rnM d.kd d.pr d.rs (d.sh.Y (d.sh.n - 1))) else false)
/-- What all right links share. -/
def rlA (d : Link) : Bool := Dc.isName d.nm.data.toList && (Dc.isName d.fr.data.toList && (Dc.isName d.tt.data.toList && (!eqS d.fr d.tt && (bet d.up (-4194304) 4194304 && bet d.dn (-4194304) 4194304))))
def rlP (d : Link) : Bool := bet d.ln 1 16777216 && (Dc.isName d.sc.data.toList && ((d.wd == 0) && ((d.ht == 0) && decide (d.cv.n = 0))))
def rlW (d : Link) : Bool := (d.ln == 0) && ((d.dn == 0) && (d.sc.toList.isEmpty && (bet d.wd 1 1048576 && ((d.ht == 0) && decide (d.cv.n = 0)))))
def rlG (d : Link) : Bool := (d.ln == 0) && ((d.dn == 0) && (d.sc.toList.isEmpty && (bet d.wd 1 32768 && (bet d.ht 1 32768 && decide (d.cv.n = 0)))))
def rlU (d : Link) : Bool := (d.ln == 0) && (decide (d.dn < d.up) && (d.sc.toList.isEmpty && ((d.wd == 0) && ((d.ht == 0) && crv d.cv))))
/-- A link is right. -/
def rlink (d : Link) : Bool := rlA d && (if d.kd = 1 then rlP d else if d.kd = 2 then rlW d else if d.kd = 3 then rlG d else if d.kd = 4 then rlU d else false)
/-- Node k of a network is right, and the first of its name. -/
def nodeB (N : SlNode) (k : Nat) : Bool := rnode (N.D k) && (nix N (N.D k).nm == (k : Int))
def linkB (N : SlNode) (L : SlLink) (k : Nat) : Bool := rlink (L.D k) && ((lix L (L.D k).nm == (k : Int)) && (decide (0 ≤ nix N (L.D k).fr) && (decide (0 ≤ nix N (L.D k).tt) && !((N.D (nix N (L.D k).fr).toNat).kd == 3))))
/-- A network is valid. -/
def netB (N : SlNode) (L : SlLink) : Bool := decide (N.n ≤ 300) && (decide (L.n ≤ 400) && (allB (nodeB N) N.n && allB (linkB N L) L.n))
/-- A state is valid. -/
def stN (N : SlNode) (s : State) (i : Nat) : Bool := bet (s.vs.X i) 0 (capy (N.D i)) && (bet (s.ps.X i) 0 1125899906842624 && !(((N.D i).kd == 3) && !(s.ps.X i == 0)))
def stL (L : SlLink) (s : State) (i : Nat) : Bool := bet (s.st.X i) 0 1000 && !(s.on.X i && !((L.D i).kd == 4))
def sizB (N : SlNode) (L : SlLink) (s : State) : Bool := decide (s.vs.n = N.n) && (decide (s.ps.n = N.n) && (decide (s.st.n = L.n) && decide (s.on.n = L.n)))
def stateB (N : SlNode) (L : SlLink) (s : State) : Bool := sizB N L s && (allB (stN N s) N.n && allB (stL L s) L.n)
/-- A ledger is valid. -/
def passB (g : SlI) : Bool := allB (fun i => bet (g.X i) 0 9007199254740992) g.n
def ledgB (L : SlLink) (g : Ledger) : Bool := bet g.inn 0 1152921504606846976 && (bet g.out 0 1152921504606846976 && (decide (g.ps.n = L.n) && passB g.ps))
end Ba
end Go.Proofs.YtkgbbcmgfbipaaaGreatDoor
set_option linter.unusedVariables false
set_option linter.unusedSimpArgs false
namespace Go.Proofs.YtkgbbcmgfbipaaaGreatDoor
open Go.RowKit
/-- The worlds that have grown from W. -/
structure GW (W : World) where
  val : World
  property : Gr W val
instance (W : World) : Nonempty (GW W) := ⟨⟨W, Gr.refl W⟩⟩
theorem wp_region_gr {P : Program} {id : Nat} {Q : Exit → Act → World → Prop} {a : Act} {w : World} {l : List Oper} (hm : P.follows .mixedOrders = true) (hB : Region.lexB .any l.toArray = true)
    (h : wpQuiet P l.toArray (fun w' => ∃ x : GW w, w' = x.1) (fun a' => ∀ w', Gr w w' → Q .normal a' w') l a) : (Code.region id l.toArray true).wp P Q a w := by
  have e : (fun a' => ∀ w', Gr w w' → Q .normal a' w') = (fun a' => ∀ w', (∃ x : GW w, w' = x.1) → Q .normal a' w') := by
    funext a'
    apply propext
    constructor
    · rintro h w' ⟨x, rfl⟩; exact h _ x.2
    · intro h w' hg; exact h w' ⟨⟨w', hg⟩, rfl⟩
  rw [e] at h
  exact wp_region_quiet (C := fun w' => ∃ x : GW w, w' = x.1) hm hB ⟨⟨w.drew, Gr.drew (Gr.refl w)⟩, rfl⟩ h
theorem gw_call {P : Program} {f : FuncId} {args : Array Value} {W : World} {x : GW W} {v : Value} (h : Calls P f args x.1 fun e w' => e = .returned v ∧ Gr x.1 w') : Calls P f args x.1 fun e w'' => e = .returned v ∧ ∃ y : GW W, w'' = y.1 :=
  h.mono fun _ w' ⟨he, hg⟩ => ⟨he, ⟨w', x.2.trans hg⟩, rfl⟩
theorem gw_same {P : Program} {f : FuncId} {args : Array Value} {W : World} {x : GW W} {v : Value} (h : Calls P f args x.1 fun e w' => e = .returned v ∧ x.1 = w') : Calls P f args x.1 fun e w'' => e = .returned v ∧ ∃ y : GW W, w'' = y.1 :=
  h.mono fun _ _ ⟨he, hw⟩ => ⟨he, x, hw.symm⟩
end Go.Proofs.YtkgbbcmgfbipaaaGreatDoor
