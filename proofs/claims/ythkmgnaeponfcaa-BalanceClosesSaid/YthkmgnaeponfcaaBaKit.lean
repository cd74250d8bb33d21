/-
  What the walks of this seat share: worlds that have grown.
  Arguments of nested structs and slices, opened at once: what a datum's reading says of the cells.
  Arguments opened: structs and slices.
  A region that draws its order, of loads and of calls that make memory: one walk in the order of the text serves every order, if each call answers alike in every world that has grown.
  A region that draws its order, of reads before one last operation that writes: the reads in the order of the text.
  And worlds in which two blocks alone have turned.
  Slices that a call makes: kept while the world grows; read as they are.
  A row of one-cell elements that a call makes and writes: what it holds.
  Maps that a call makes: what a map's block answers at each key, whatever its elements are.
  Worlds in which, of what was there, the blocks of one range alone have turned.
  The frame that all laws of this seat share: a call that returns true, and in whose world all that was there is as it was, meets a law's row.
-/
import Derived.Test.YthkmgnaeponfcaaRows
import Derived.WalkKit
import Derived.WalkSpells
import Derived.WalkLawsBesides
import Derived.Handy
import Derived.BigQuiet
import Derived.Deep.QuietTactic
import Derived.Deep.DeepCutAuto
import Derived.Lib.Hide
import Derived.RegionTactic
import Derived.BigRegion
import Derived.StillTailTactics
import Derived.Deep.Slices
import Derived.DataReads
import Derived.Lib.SmallJoins
import Derived.Deep.Quiet
import Derived.StillTail
import Derived.OwnWalk
import Derived.Laws.CopyOwn
import Derived.Maps.Own
import Derived.Maps.OwnOps
import Derived.ProofKit
import Derived.OpenShut
import Derived.LaidMore
import Derived.Lay
import Derived.SevenTiedAt
import Derived.Stop.Joined
set_option linter.unusedVariables false
set_option linter.unusedSimpArgs false
namespace Go.Proofs.Ythkmgnaeponfcaa
open Go.RowKit
/-- The world has grown: what was there is as it was. -/
def Gr (w w' : World) : Prop := Below w.heap.size w w'
theorem Gr.refl (w : World) : Gr w w := Below.refl _ _
theorem Gr.size {w w' : World} (h : Gr w w') : w.heap.size ≤ w'.heap.size := Below.size h
theorem Gr.trans {a b c : World} (h : Gr a b) (k : Gr b c) : Gr a c := Below.trans h (Below.mono k (Below.size h))
theorem Gr.alloc {a w : World} (h : Gr a w) (o : Obj) : Gr a (w.alloc o) := Below.alloc h (Below.size h) o
theorem Gr.drew {a w : World} (h : Gr a w) : Gr a w.drew := Below.drew h
theorem Gr.drewN {a w : World} (h : Gr a w) (n : Nat) : Gr a (w.drewN n) := below_drewN h n
theorem Gr.setCell {a w : World} (h : Gr a w) {p : Addr} (hp : a.heap.size ≤ p.block) (u : Value) : Gr a (w.setCell p u) := Below.setCell h hp u
theorem Gr.of {w w' : World} (h : Below w.heap.size w w') : Gr w w' := h
theorem Gr.cells {W w1 : World} (hb : Gr W w1) : (∀ b o, b < W.heap.size → w1.cell? ⟨b, o, none⟩ = W.cell? ⟨b, o, none⟩) ∧ (∀ b o, b < W.heap.size → w1.frozen? ⟨b, o, none⟩ = W.frozen? ⟨b, o, none⟩) :=
  ⟨fun b o h => Below.cell hb (p := ⟨b, o, none⟩) h, fun b o h => Below.frozen hb (p := ⟨b, o, none⟩) h⟩
theorem Gr.at {W w1 : World} (hb : Gr W w1) {b o : Nat} {v : Value} (h : W.cell? ⟨b, o, none⟩ = some v) : w1.cell? ⟨b, o, none⟩ = some v := cell_later (a := ⟨b, o, none⟩) hb h
theorem Gr.free {W w1 : World} (hb : Gr W w1) {b o : Nat} {v : Value} (h : W.cell? ⟨b, o, none⟩ = some v) (hf : W.frozen? ⟨b, o, none⟩ = false) : w1.frozen? ⟨b, o, none⟩ = false := ((Gr.cells hb).2 b o (World.block_lt_of_cell? W ⟨b, o, none⟩ h)).trans hf
/-- The world has grown: shown from what stands here. -/
theorem gr_auto {a b : World} (h : Gr a b := by repeat' (first | (with_reducible exact Gr.refl _) | (with_reducible assumption) | (with_reducible refine Gr.alloc ?_ _) | (with_reducible refine Gr.drew ?_) | (with_reducible refine Gr.drewN ?_ _) | (with_reducible refine Gr.setCell ?_ ?_ _) | (with_reducible refine Gr.trans ?_ (by with_reducible assumption)) | go_size)) : Gr a b := h
theorem ret_int {k : IntKind} {a b : Int} (h : a = b) : Ending.returned (.int k a) = .returned (.int k b) := by rw [h]
/-- What a cell holds. -/
def cellOf (w : World) (b o : Nat) : Value := (w.cell? ⟨b, o, none⟩).getD (.bool false)
/-- The world has grown, and nothing that was there has turned but for what block R holds. -/
structure GrX (R : Nat) (w w' : World) : Prop where
  os : w'.os = w.os
  tape : w'.tape = w.tape
  output : w'.output = w.output
  size : w.heap.size ≤ w'.heap.size
  block : ∀ k, k < w.heap.size → k ≠ R → w'.heap[k]? = w.heap[k]?
  row : ∀ o, (w.cell? ⟨R, o, none⟩).isSome = true → (w'.cell? ⟨R, o, none⟩).isSome = true
  free : ∀ o, (w.cell? ⟨R, o, none⟩).isSome = true → w'.frozen? ⟨R, o, none⟩ = w.frozen? ⟨R, o, none⟩
theorem GrX.refl (R : Nat) (w : World) : GrX R w w := ⟨rfl, rfl, rfl, Nat.le_refl _, fun _ _ _ => rfl, fun _ h => h, fun _ _ => rfl⟩
theorem GrX.grown {R : Nat} {a b c : World} (h : GrX R a b) (k : Gr b c) : GrX R a c := by
  have hcell : ∀ o, (b.cell? ⟨R, o, none⟩).isSome = true → c.cell? ⟨R, o, none⟩ = b.cell? ⟨R, o, none⟩ := fun o ho => by
    obtain ⟨v, hv⟩ := Option.isSome_iff_exists.1 ho
    rw [hv]; exact Gr.at k hv
  refine ⟨k.os.trans h.os, k.tape.trans h.tape, k.output.trans h.output, Nat.le_trans h.size (Gr.size k), fun i hi hR => (Below.block k i (Nat.lt_of_lt_of_le hi h.size)).trans (h.block i hi hR), fun o ho => ?_, fun o ho => ?_⟩
  · rw [hcell o (h.row o ho)]; exact h.row o ho
  · obtain ⟨v, hv⟩ := Option.isSome_iff_exists.1 (h.row o ho)
    exact ((Gr.cells k).2 R o (World.block_lt_of_cell? b ⟨R, o, none⟩ hv)).trans (h.free o ho)
theorem GrX.drew {R : Nat} {a b : World} (h : GrX R a b) : GrX R a b.drew := h.grown (Gr.drew (Gr.refl _))
theorem GrX.drewN {R : Nat} {a b : World} (h : GrX R a b) (n : Nat) : GrX R a (b.drewN n) := h.grown (Gr.drewN (Gr.refl _) n)
theorem GrX.alloc {R : Nat} {a b : World} (h : GrX R a b) (o : Obj) : GrX R a (b.alloc o) := h.grown (Gr.alloc (Gr.refl _) o)
theorem GrX.setCell {R : Nat} {a b : World} (h : GrX R a b) {p : Addr} (hp : p.block = R) (u : Value) : GrX R a (b.setCell p u) := by
  subst hp
  refine ⟨h.os, h.tape, h.output, by simpa [World.setCell] using h.size, fun i hi hR => (Below.heap_setCell _ _ _ _ hR).trans (h.block i hi hR), fun o ho => ?_, fun o ho => ?_⟩
  · by_cases e : (⟨p.block, o, none⟩ : Addr) = p
    · have hr := h.row o ho
      rw [e] at hr ⊢
      rw [World.cell?_setCell_same' _ _ _ hr]; rfl
    · rw [World.cell?_setCell_other _ _ _ _ (Ne.symm e)]; exact h.row o ho
  · rw [← h.free o ho]
    simp [go_sem]
theorem GrX.at {R : Nat} {w w' : World} (h : GrX R w w') {b o : Nat} {v : Value} (hb : b ≠ R) (hc : w.cell? ⟨b, o, none⟩ = some v) : w'.cell? ⟨b, o, none⟩ = some v := by
  have hlt := World.block_lt_of_cell? w ⟨b, o, none⟩ hc
  rw [← hc]; exact World.cell?_of_block (w := w) (h.block b hlt hb)
theorem GrX.own {R : Nat} {w w' : World} (h : GrX R w w') {o : Nat} (hc : (w.cell? ⟨R, o, none⟩).isSome = true) : w'.cell? ⟨R, o, none⟩ = some (cellOf w' R o) := by
  obtain ⟨v, hv⟩ := Option.isSome_iff_exists.1 (h.row o hc)
  unfold cellOf; rw [hv]; rfl
theorem GrX.unfrozen {R : Nat} {w w' : World} (h : GrX R w w') {o : Nat} (hf : (w.cell? ⟨R, o, none⟩).isSome = true ∧ w.frozen? ⟨R, o, none⟩ = false) : w'.frozen? ⟨R, o, none⟩ = false := (h.free o hf.1).trans hf.2
theorem GrX.gr {R : Nat} {w W0 w' : World} (g : Gr w W0) (hR : w.heap.size ≤ R) (h : GrX R W0 w') : Gr w w' :=
  ⟨h.os.trans g.os, h.tape.trans g.tape, h.output.trans g.output, Nat.le_trans (Gr.size g) h.size, fun k hk => (h.block k (Nat.lt_of_lt_of_le hk (Gr.size g)) (by omega)).trans (Below.block g k hk)⟩
theorem name_world {P : Program} {c : Code} {Q : Exit → Act → World → Prop} {a : Act} {w : World} (h : ∀ W, W = w → Code.wp P c Q a W) : Code.wp P c Q a w := h w rfl
end Go.Proofs.Ythkmgnaeponfcaa
namespace Go.Proofs.Ythkmgnaeponfcaa
open Go.RowKit Go.ChangeShapes Go.WideShapes Go.Deep
/-- The kinds of cells: ints, bools, strings, slices; nothing; one thing behind another. -/
inductive Ty
  | int | bool | str | u
  | sl (e : Ty)
  | p (a b : Ty)
def Ty.size : Ty → Nat
  | .u => 0
  | .p a b => a.size + b.size
  | _ => 1
/-- The cells fit a kind. -/
def Fits (w : World) : Ty → List Value → Prop
  | .int, cs => ∃ n : Int, cs = [.int .i64 n] ∧ -9223372036854775808 ≤ n ∧ n ≤ 9223372036854775807
  | .bool, cs => ∃ b : Bool, cs = [.bool b]
  | .str, cs => ∃ s : ByteArray, cs = [.string s] ∧ s.size ≤ 9223372036854775807
  | .u, cs => cs = []
  | .p a b, cs => ∃ x y : List Value, cs = x ++ y ∧ Fits w a x ∧ Fits w b y
  | .sl e, cs => ∃ (A : Option Addr) (n c : Nat), cs = [.slice A n c] ∧ n ≤ c ∧ c ≤ 9223372036854775807 ∧ ∃ b o : Nat, (0 < n → A = some ⟨b, o, none⟩) ∧
      ∀ i, i < n → ∃ es : List Value, es.length = e.size ∧ (∀ (j : Nat) (u : Value), es[j]? = some u → w.cell? ⟨b, o + i * e.size + j, none⟩ = some u) ∧ Fits w e es
theorem Fits.len {w : World} : ∀ {t : Ty} {cs : List Value}, Fits w t cs → cs.length = t.size
  | .int, _, ⟨_, h, _⟩ => by rw [h]; rfl
  | .bool, _, ⟨_, h⟩ => by rw [h]; rfl
  | .str, _, ⟨_, h, _⟩ => by rw [h]; rfl
  | .u, _, h => by rw [show _ = [] from h]; rfl
  | .p a b, _, ⟨x, y, h, hx, hy⟩ => by rw [h, List.length_append, hx.len, hy.len]; rfl
  | .sl e, _, ⟨_, _, _, h, _⟩ => by rw [h]; rfl
mutual
/-- A type of the program is of a kind. -/
inductive Is (P : Program) : TypeId → Ty → Prop
  | int {t : TypeId} : P.underlying t = some (.int .i64) → Is P t .int
  | bool {t : TypeId} : P.underlying t = some .bool → Is P t .bool
  | str {t : TypeId} : P.underlying t = some .string → Is P t .str
  | sl {t e : TypeId} {x : Ty} : P.underlying t = some (.slice e) → P.cellsOf e = x.size → 0 < x.size → Is P e x → Is P t (.sl x)
  | st {t : TypeId} {fs : Array Field} {x : Ty} : P.underlying t = some (.struct fs) → P.cellsOf t = x.size → IsF P fs.toList 0 x → Is P t x
inductive IsF (P : Program) : List Field → Nat → Ty → Prop
  | nil {k : Nat} : IsF P [] k .u
  | cons {f : Field} {fs : List Field} {k : Nat} {a b : Ty} : f.offset = k → P.cellsOf f.type = a.size → Is P f.type a → IsF P fs (k + a.size) b → IsF P (f :: fs) k (.p a b)
end
section
variable {H : Type} {enc : TypeId × Value → H} {P : Program} {w : World} {base : Nat} {spare : Nat → Bool} {held : Bool}
mutual
theorem fits_of : ∀ {t : TypeId} {x : Ty} (_ : Is P t x) {fuel : Nat} {cs : List Value} {y : DataW H × List MemPlace}, DataW.trod enc P w base spare held fuel t cs = some y → Fits w x cs
  | _, _, .int ht, fuel, cs, y, hy => by
    obtain ⟨n, rfl, -, hw⟩ := DataW.trod_int ht hy
    have := bounds_i64 hw
    exact ⟨n, rfl, by omega, by omega⟩
  | _, _, .bool ht, fuel, cs, y, hy => by
    obtain ⟨b, rfl, -⟩ := DataW.trod_bool ht hy
    exact ⟨b, rfl⟩
  | _, _, .str ht, fuel, cs, y, hy => by
    obtain ⟨s, rfl, -, hs⟩ := DataW.trod_string ht hy
    exact ⟨s, rfl, by unfold maxLen at hs; omega⟩
  | _, _, @Is.sl _ _ e x ht hc hp hx, fuel, cs, y, hy => by
    rcases open_slice ht hy with ⟨rfl, -⟩ | ⟨a, len, cap, m, n, D, Pl, rfl, hb, hl, hm, hmm, rfl, hi⟩
    · exact ⟨none, 0, 0, rfl, Nat.le_refl _, by omega, 0, 0, fun h => absurd h (by omega), fun i hi => absurd hi (by omega)⟩
    · have hlm : len ≤ m := by rw [hmm]; split <;> omega
      have hsp : ∀ i, i < len → a.spot = none := fun i hi' => by
        obtain ⟨cs0, g1, -⟩ := hi 0 (by omega)
        obtain ⟨-, g4, g5⟩ := World.cells?_some g1
        have g6 := g5 0 (by omega)
        obtain ⟨u0, hu0⟩ : ∃ u, cs0[0]? = some u := ⟨_, List.getElem?_eq_getElem (by omega)⟩
        rw [hu0] at g6
        have g7 := World.cell?_spot g6
        simpa [Addr.add] using g7
      refine ⟨some a, len, cap, rfl, hl, by unfold maxLen at hm; omega, a.block, a.off, ?_, ?_⟩
      · intro h0
        have := hsp 0 h0
        obtain ⟨b, o, sp⟩ := a
        simp only at this
        rw [this]
      · intro i hi'
        obtain ⟨cs', h1, h2⟩ := hi i (by omega)
        obtain ⟨-, h4, h5⟩ := World.cells?_some h1
        refine ⟨cs', by rw [h4, hc], fun j u hu => ?_, fits_of hx h2⟩
        have hsp' := hsp i hi'
        have h6 := h5 j (by have := (List.getElem?_eq_some_iff.1 hu).1; omega)
        rw [hu, add_add, hc] at h6
        obtain ⟨b, o, sp⟩ := a
        simp only at hsp'
        subst hsp'
        rw [show (⟨b, o, none⟩ : Addr).add (i * x.size + j) = ⟨b, o + (i * x.size + j), none⟩ by unfold Addr.add; split <;> simp_all] at h6
        rw [Nat.add_assoc]; exact h6
  | _, _, @Is.st _ _ fs x ht hc hf, fuel, cs, y, hy => by
    obtain ⟨xs, n, -, -, hlen, hxl, hfs⟩ := DataW.trod_struct ht hy
    have := fits_fields hf cs (by rw [hlen, hc]; omega) (fun f hf' => by
      obtain ⟨i, hi, hv⟩ := List.getElem_of_mem hf'
      have h1 : fs[i]? = some f := by rw [← Array.getElem?_toList, List.getElem?_eq_getElem hi, hv]
      have hi2 : i < xs.length := by rw [hxl]; simpa using hi
      exact ⟨n, xs[i], by rw [hfs i f h1, List.getElem?_eq_getElem hi2]⟩)
    simpa using this
theorem fits_fields : ∀ {fs : List Field} {k : Nat} {x : Ty} (_ : IsF P fs k x) (cs : List Value), k + x.size = cs.length → (∀ f ∈ fs, ∃ (n : Nat) (y : DataW H × List MemPlace), DataW.trod enc P w base spare held n f.type ((cs.drop f.offset).take (P.cellsOf f.type)) = some y) → Fits w x (cs.drop k)
  | _, _, _, .nil, cs, hl, _ => by
    exact List.drop_eq_nil_of_le (by have : Ty.size .u = 0 := rfl; omega)
  | _, _, _, @IsF.cons _ f fs k a b ho hc ha hf, cs, hl, hall => by
    have hs : Ty.size (.p a b) = a.size + b.size := rfl
    obtain ⟨n, y, hy⟩ := hall f (by simp)
    rw [ho, hc] at hy
    have h1 := fits_of ha hy
    have h2 := fits_fields hf cs (by omega) (fun f' hf' => hall f' (by simp [hf']))
    refine ⟨(cs.drop k).take a.size, cs.drop (k + a.size), ?_, h1, h2⟩
    rw [← List.drop_drop, List.take_append_drop]
end
end
end Go.Proofs.Ythkmgnaeponfcaa
namespace Go.Proofs.Ythkmgnaeponfcaa
open Go.RowKit Go.ChangeShapes Go.WideShapes Go.Deep
theorem pick {α : Type} [Nonempty α] {P : Nat → α → Prop} {n : Nat} (h : ∀ i, i < n → ∃ d, P i d) : ∃ D : Nat → α, ∀ i, i < n → P i (D i) := by
  refine ⟨fun i => if hi : i < n then (h i hi).choose else Classical.choice inferInstance, fun i hi => ?_⟩
  simp only [dif_pos hi]
  exact (h i hi).choose_spec
section
variable {H : Type} {enc : TypeId × Value → H} {P : Program} {w : World} {base : Nat} {spare : Nat → Bool} {held : Bool} {r : Reach} {b0 : Nat}
theorem fit_struct {t : TypeId} {x : Ty} {fs : Array Field} {v : Value} {d : DataW H} {p : List MemPlace} (hI : Is P t x) (ht : P.underlying t = some (.struct fs)) (hv : Value.okWide P w r b0 t v) (h : DataW.Trod enc P w base spare held t v d p) : ∃ cs : Array Value, v = .agg cs ∧ Fits w x cs.toList := by
  obtain ⟨cs, rfl, -⟩ := okWide_struct ht hv
  obtain ⟨fuel, hf⟩ := h
  exact ⟨cs, rfl, fits_of hI hf⟩
theorem fit_slice {t e : TypeId} {x : Ty} {v : Value} {d : DataW H} {p : List MemPlace} (hI : Is P t (.sl x)) (ht : P.underlying t = some (.slice e)) (hv : Value.okWide P w r b0 t v) (h : DataW.Trod enc P w base spare held t v d p) : ∃ (A : Option Addr) (n c : Nat), v = .slice A n c ∧ Fits w (.sl x) [.slice A n c] := by
  have hs : ∃ A n c, v = .slice A n c := by
    unfold Value.okWide at hv
    rw [ht] at hv
    simp only [Cell.okWide, Cell.ok, ht] at hv
    split at hv
    all_goals first
      | exact ⟨_, _, _, rfl⟩
      | (split at hv <;> first | exact ⟨_, _, _, rfl⟩ | (exfalso; exact hv) | simp_all)
      | simp_all
  obtain ⟨A, n, c, rfl⟩ := hs
  obtain ⟨fuel, hf⟩ := h
  exact ⟨A, n, c, rfl, fits_of hI hf⟩
end
end Go.Proofs.Ythkmgnaeponfcaa
namespace Go.Proofs.Ythkmgnaeponfcaa
open Go.RowKit
/-- The worlds that have grown from W. -/
structure GW (W : World) where
  val : World
  property : Gr W val
instance (W : World) : Nonempty (GW W) := ⟨⟨W, Gr.refl W⟩⟩
theorem wp_region_gr {P : Program} {id : Nat} {Q : Exit → Act → World → Prop} {a : Act} {w : World} {l : List Oper} (hm : P.follows .mixedOrders = true) (hB : Region.lexB .any l.toArray = true)
    (h : wpQuiet P l.toArray (fun w' => ∃ x : GW w, w' = x.1) (fun a' => ∀ w', Gr w w' → Q .normal a' w') l a) : (Code.region id l.toArray true).wp P Q a w := by
  have e : (fun a' => ∀ w', Gr w w' → Q .normal a' w') = (fun a' => ∀ w', (∃ x : GW w, w' = x.1) → Q .normal a' w') := by
    funext a'
    apply propext
    constructor
    · rintro h w' ⟨x, rfl⟩; exact h _ x.2
    · intro h w' hg; exact h w' ⟨⟨w', hg⟩, rfl⟩
  rw [e] at h
  exact wp_region_quiet (C := fun w' => ∃ x : GW w, w' = x.1) hm hB ⟨⟨w.drew, Gr.drew (Gr.refl w)⟩, rfl⟩ h
theorem gw_call {P : Program} {f : FuncId} {args : Array Value} {W : World} {x : GW W} {v : Value} (h : Calls P f args x.1 fun e w' => e = .returned v ∧ Gr x.1 w') : Calls P f args x.1 fun e w'' => e = .returned v ∧ ∃ y : GW W, w'' = y.1 :=
  h.mono fun _ w' ⟨he, hg⟩ => ⟨he, ⟨w', x.2.trans hg⟩, rfl⟩
theorem gw_same {P : Program} {f : FuncId} {args : Array Value} {W : World} {x : GW W} {v : Value} (h : Calls P f args x.1 fun e w' => e = .returned v ∧ x.1 = w') : Calls P f args x.1 fun e w'' => e = .returned v ∧ ∃ y : GW W, w'' = y.1 :=
  h.mono fun _ _ ⟨he, hw⟩ => ⟨he, x, hw.symm⟩
end Go.Proofs.Ythkmgnaeponfcaa
namespace Go.Proofs.Ythkmgnaeponfcaa
open Go.RowKit
theorem still_of_quiet {P : Program} {o : Oper} {a : Act} {W : World} {K K' : Act → Prop} (hn : ∀ a, K a → K' a) (h : o.quiet P a (fun w' => w' = W) K) : o.still P a W K' := by
  obtain ⟨v, h1, h2⟩ := h
  have h3 := h1 W rfl
  unfold Oper.quietAt at h3
  unfold Oper.still
  generalize (execOp a.eval o).run P W = r at *
  cases r with
  | halt x w' => simp only [Oper.quietUpon] at h3
  | ok n w' =>
    cases n with
    | value u =>
      simp only [Oper.quietUpon] at h3
      simp only [Oper.stillUpon]
      exact ⟨h3.1, by rw [h3.2]; exact hn _ h2⟩
    | skip =>
      simp only [Oper.quietUpon] at h3
      simp only [Oper.stillUpon]
      exact ⟨h3.1, by rw [← h3.2]; exact hn _ h2⟩
    | enter f args =>
      simp only [Oper.quietUpon] at h3
      simp only [Oper.stillUpon]
      exact ⟨h3.1, v, h3.2, hn _ h2⟩
    | _ => simp only [Oper.quietUpon] at h3
theorem wpStill_of_quiet {P : Program} {ops : Array Oper} {W : World} {Q : Act → Prop} : ∀ (l : List Oper) (a : Act), wpQuiet P ops (fun w' => w' = W) Q l a → wpStill P ops W Q l a
  | [], _, h => h
  | o :: l, a, h => by
    unfold wpQuiet at h
    unfold wpStill
    split
    · rename_i hw; rw [if_pos hw] at h; exact still_of_quiet (fun a' => wpStill_of_quiet l a') h
    · rename_i hw; rw [if_neg hw] at h; exact wpStill_of_quiet l _ h
theorem wp_region_tail {P : Program} {id : Nat} {Q : Exit → Act → World → Prop} {a : Act} {w : World} {l : List Oper} (n : Nat) (hm : P.follows .mixedOrders = true) (hB : Region.lexTailB .any l.toArray n = true)
    (h : wpQuiet P l.toArray (fun w' => w' = w.drew) (fun a' => wpList P l.toArray Q (l.drop n) a' w.drew) (l.take n) a) : (Code.region id l.toArray true).wp P Q a w :=
  wp_region_still_tail n hm hB (wpStill_of_quiet _ _ h)
/-- The world has grown; of what was there, the blocks R and M alone have turned. -/
structure GrY (R M : Nat) (w w' : World) : Prop where
  os : w'.os = w.os
  tape : w'.tape = w.tape
  output : w'.output = w.output
  size : w.heap.size ≤ w'.heap.size
  block : ∀ k, k < w.heap.size → k ≠ R → k ≠ M → w'.heap[k]? = w.heap[k]?
theorem GrY.refl (R M : Nat) (w : World) : GrY R M w w := ⟨rfl, rfl, rfl, Nat.le_refl _, fun _ _ _ _ => rfl⟩
theorem GrY.gr {R M : Nat} {a b c : World} (h : GrY R M a b) (k : Gr b c) : GrY R M a c :=
  ⟨k.os.trans h.os, k.tape.trans h.tape, k.output.trans h.output, Nat.le_trans h.size (Gr.size k), fun i hi hR hM => (Below.block k i (Nat.lt_of_lt_of_le hi h.size)).trans (h.block i hi hR hM)⟩
theorem GrY.drew {R M : Nat} {a b : World} (h : GrY R M a b) : GrY R M a b.drew := h.gr (Gr.drew (Gr.refl _))
theorem GrY.drewN {R M : Nat} {a b : World} (h : GrY R M a b) (n : Nat) : GrY R M a (b.drewN n) := h.gr (Gr.drewN (Gr.refl _) n)
theorem GrY.alloc {R M : Nat} {a b : World} (h : GrY R M a b) (o : Obj) : GrY R M a (b.alloc o) := h.gr (Gr.alloc (Gr.refl _) o)
theorem GrY.setCell {R M : Nat} {a b : World} (h : GrY R M a b) {p : Addr} (hp : p.block = R) (u : Value) : GrY R M a (b.setCell p u) := by
  subst hp
  exact ⟨h.os, h.tape, h.output, by simpa [World.setCell] using h.size, fun i hi hR hM => (Below.heap_setCell _ _ _ _ hR).trans (h.block i hi hR hM)⟩
theorem GrY.grx {R M : Nat} {a b c : World} (h : GrY R M a b) (k : GrX M b c) : GrY R M a c :=
  ⟨k.os.trans h.os, k.tape.trans h.tape, k.output.trans h.output, Nat.le_trans h.size k.size, fun i hi hR hM => (k.block i (Nat.lt_of_lt_of_le hi h.size) hM).trans (h.block i hi hR hM)⟩
theorem GrY.at {R M : Nat} {w w' : World} (h : GrY R M w w') {b o : Nat} {v : Value} (hR : b ≠ R) (hM : b ≠ M) (hc : w.cell? ⟨b, o, none⟩ = some v) : w'.cell? ⟨b, o, none⟩ = some v := by
  have hlt := World.block_lt_of_cell? w ⟨b, o, none⟩ hc
  rw [← hc]; exact World.cell?_of_block (w := w) (h.block b hlt hR hM)
theorem GrY.below {R M : Nat} {w W0 w' : World} (g : Gr w W0) (hR : w.heap.size ≤ R) (hM : w.heap.size ≤ M) (h : GrY R M W0 w') : Gr w w' :=
  ⟨h.os.trans g.os, h.tape.trans g.tape, h.output.trans g.output, Nat.le_trans (Gr.size g) h.size, fun k hk => (h.block k (Nat.lt_of_lt_of_le hk (Gr.size g)) (by omega) (by omega)).trans (Below.block g k hk)⟩
/-- A cell holds a value, and may be written. -/
def Own (w : World) (b o : Nat) (v : Value) : Prop := w.cell? ⟨b, o, none⟩ = some v ∧ w.frozen? ⟨b, o, none⟩ = false
theorem Own.gr {w w' : World} {b o : Nat} {v : Value} (h : Own w b o v) (g : Gr w w') : Own w' b o v := ⟨Gr.at g h.1, Gr.free g h.1 h.2⟩
theorem Own.grx {M : Nat} {w w' : World} {b o : Nat} {v : Value} (h : Own w b o v) (g : GrX M w w') (hb : b ≠ M) : Own w' b o v :=
  ⟨GrX.at g hb h.1, by
    have hlt := World.block_lt_of_cell? w ⟨b, o, none⟩ h.1
    have e := g.block b hlt hb
    have := h.2
    simp only [World.frozen?, e] at this ⊢
    exact this⟩
theorem Own.set {w : World} {b o : Nat} {v u : Value} (h : Own w b o v) : Own (w.setCell ⟨b, o, none⟩ u) b o u :=
  ⟨World.cell?_setCell_same' _ _ _ (by rw [h.1]; rfl), by have := h.2; simpa [go_sem] using this⟩
theorem Own.other {w : World} {b o b' o' : Nat} {v u : Value} (h : Own w b o v) (hne : b ≠ b' ∨ o ≠ o') : Own (w.setCell ⟨b', o', none⟩ u) b o v :=
  ⟨by rw [World.cell?_setCell_other _ _ _ _ (fun e => by simp only [Addr.mk.injEq] at e; omega)]; exact h.1, by have := h.2; simpa [go_sem] using this⟩
end Go.Proofs.Ythkmgnaeponfcaa
namespace Go.Proofs.Ythkmgnaeponfcaa
open Go.RowKit
theorem ownsRow_gr {w w' : World} {base e size n : Nat} {v : Value} {xs : List Value} (h : w.ownsRow base e size v n xs) (hg : Gr w w') : w'.ownsRow base e size v n xs := by
  obtain ⟨hl, h | ⟨g, cap, cur, hv, hb, hc, r⟩⟩ := h
  · exact ⟨hl, Or.inl h⟩
  · refine ⟨hl, Or.inr ⟨g, cap, cur, hv, hb, ?_, r⟩⟩
    have hlt : g < w.heap.size := (Array.getElem?_eq_some_iff.1 hc).1
    rw [Below.block hg g hlt]; exact hc
theorem Gr.own {w W W1 : World} {base e size n : Nat} {v : Value} {xs : List Value} (hg : Gr w W) (hb : w.heap.size ≤ base) (ho : W.ownsRow base e size v n xs) (hgr : W.grownBy W1 v.ownBlock) : Gr w W1 :=
  Below.grown hg hgr (Gr.size hg) fun k hk => by have := (ho.lt k hk).1; omega
/-- Where a slice lies that a call has made, with elements of one cell. -/
theorem ownsRow_at {w : World} {base e n : Nat} {v : Value} {xs : List Value} (h : w.ownsRow base e 1 v n xs) : ∃ (A : Option Addr) (c b : Nat), v = .slice A n c ∧ (0 < n → A = some ⟨b, 0, none⟩) ∧ n ≤ c ∧ c ≤ 9223372036854775807 ∧ ∀ i, i < n → w.cell? ⟨b, i, none⟩ = xs[i]? := by
  have h' := h
  obtain ⟨hl, ⟨rfl, rfl⟩ | ⟨g, cap, cur, rfl, hb, hc, hn, hm, r⟩⟩ := h
  · exact ⟨none, 0, 0, rfl, fun h => absurd h (by omega), Nat.le_refl _, by omega, fun i hi => absurd hi (by omega)⟩
  · exact ⟨some ⟨g, 0, none⟩, cap, g, rfl, fun _ => rfl, hn, by unfold maxLen at hm; exact hm, fun i hi => h'.cellAt i (by omega)⟩
end Go.Proofs.Ythkmgnaeponfcaa
namespace Go.Proofs.Ythkmgnaeponfcaa
open Go.RowKit
/-- A row of n cells, each of which may be written. -/
def Row (w : World) (g n : Nat) (X : Nat → Value) : Prop := ∀ j, j < n → Own w g j (X j)
theorem Row.gr {w w' : World} {g n : Nat} {X : Nat → Value} (h : Row w g n X) (hg : Gr w w') : Row w' g n X := fun j hj => (h j hj).gr hg
theorem Row.set {w : World} {g n : Nat} {X Y : Nat → Value} {k : Nat} {u : Value} (h : Row w g n X) (hu : Y k = u) (ho : ∀ j, j < n → j ≠ k → Y j = X j) : Row (w.setCell ⟨g, k, none⟩ u) g n Y := fun j hj => by
  by_cases e : j = k
  · subst e; rw [hu]; exact (h j hj).set
  · rw [ho j hj e]; exact (h j hj).other (Or.inr e)
theorem made_row {w : World} {base e g n : Nat} {z : Value} (h : w.ownsRow base e 1 (.slice (some ⟨g, 0, none⟩) n n) n (madeCells #[z] n).toList) : Row w g n (fun _ => z) := by
  obtain ⟨hl, ⟨h1, -⟩ | ⟨g', cap, cur, hv, hb, hc, h3, h4, h5, h6⟩⟩ := h
  · cases h1
  · simp only [Value.slice.injEq, Option.some.injEq, Addr.mk.injEq] at hv
    obtain ⟨⟨rfl, -, -⟩, -, rfl⟩ := hv
    rw [Nat.mul_one] at h5 h6
    rw [List.take_of_length_le (by simp [h5])] at h6
    intro j hj
    have hz : cur.toList[j]? = some z := by rw [h6]; simp [madeCells, Nat.mod_one, hj]
    refine ⟨?_, ?_⟩
    · simp only [World.cell?, hc]; simpa using hz
    · simp only [World.frozen?, hc]; simp
end Go.Proofs.Ythkmgnaeponfcaa
namespace Go.Proofs.Ythkmgnaeponfcaa
open Go.RowKit Go.Maps Go.ChangeShapes Go.WideShapes Go.MapKept
open Go.ChangeMaps (setBlock heap_setBlock_same heap_setBlock_other modify_eq_set)
/-- Block b is a map of at most n entries that answers f at keys of type k. -/
def MapIs (P : Program) (k : TypeId) (w : World) (b n : Nat) (f : Value → Option Value) : Prop :=
  ∃ es clock, w.heap[b]? = some (.map es clock) ∧ es.size ≤ n ∧ Stamped es clock ∧ (∀ x ∈ es.toList, ∃ l, keyOf P k x.key = some l) ∧
    (∀ key v, f key = some v → ∃ x ∈ es.toList, x.key = key ∧ x.val = v) ∧ (∀ key, f key = none → ∀ x ∈ es.toList, x.key ≠ key)
theorem MapIs.lt {P : Program} {k : TypeId} {w : World} {b n : Nat} {f : Value → Option Value} (h : MapIs P k w b n f) : b < w.heap.size := by
  obtain ⟨es, clock, hb, _⟩ := h
  exact (Array.getElem?_eq_some_iff.1 hb).1
theorem MapIs.made (P : Program) (k : TypeId) (w : World) : MapIs P k (w.alloc (.map #[] 0)) w.heap.size 0 (fun _ => none) :=
  ⟨#[], 0, (MapKept.heap_alloc w _).1, Nat.le_refl _, stamped_empty 0, by simp, by simp, by simp⟩
theorem MapIs.gr {P : Program} {k : TypeId} {w w' : World} {b n : Nat} {f : Value → Option Value} (h : MapIs P k w b n f) (g : Gr w w') : MapIs P k w' b n f := by
  have hlt := h.lt
  obtain ⟨es, clock, hb, r⟩ := h
  exact ⟨es, clock, (Below.block g b hlt).trans hb, r⟩
theorem MapIs.grx {P : Program} {k : TypeId} {w w' : World} {R b n : Nat} {f : Value → Option Value} (h : MapIs P k w b n f) (g : GrX R w w') (hR : b ≠ R) : MapIs P k w' b n f := by
  have hlt := h.lt
  obtain ⟨es, clock, hb, r⟩ := h
  exact ⟨es, clock, (g.block b hlt hR).trans hb, r⟩
theorem MapIs.grownBy {P : Program} {k : TypeId} {w w' : World} {b n : Nat} {row : Option Nat} {f : Value → Option Value} (h : MapIs P k w b n f) (g : w.grownBy w' row) (hR : some b ≠ row) : MapIs P k w' b n f := by
  have hlt := h.lt
  obtain ⟨es, clock, hb, r⟩ := h
  exact ⟨es, clock, (g.block b hlt hR).trans hb, r⟩
theorem MapIs.mono {P : Program} {k : TypeId} {w : World} {b n m : Nat} {f : Value → Option Value} (h : MapIs P k w b n f) (hm : n ≤ m) : MapIs P k w b m f := by
  obtain ⟨es, clock, hb, hs, r⟩ := h
  exact ⟨es, clock, hb, Nat.le_trans hs hm, r⟩
theorem MapIs.as {P : Program} {k : TypeId} {w : World} {b n : Nat} {f g : Value → Option Value} (h : MapIs P k w b n f) (e : ∀ key l, keyOf P k key = some l → f key = g key) (hg : ∀ key, keyOf P k key = none → g key = none) : MapIs P k w b n g := by
  obtain ⟨es, clock, hb, hs, ht, hk, h1, h2⟩ := h
  refine ⟨es, clock, hb, hs, ht, hk, fun key v hv => ?_, fun key hv x hx hxk => ?_⟩
  · cases hl : keyOf P k key with
    | none => rw [hg key hl] at hv; cases hv
    | some l => exact h1 key v ((e key l hl).trans hv)
  · obtain ⟨l, hl⟩ := hk x hx
    rw [hxk] at hl
    exact h2 key ((e key l hl).trans hv) x hx hxk
section
variable {P : Program} {w : World} {t k e : TypeId} {b n : Nat} {f : Value → Option Value}
/-- A look-up. -/
theorem MapIs.look (c : Bool) (h : MapIs P k w b n f) (K : Keyed P k) (ht : P.underlying t = some (.map k e)) {z : Value} (hz : (zeroValue e).run P w = .ok z w) {key : Value} {kl : Lit} (hkey : keyOf P k key = some kl) :
    (Instr.lookup t (.map (some b)) key c).run P w = .ok (if c then .tuple #[(f key).getD z, .bool (f key).isSome] else (f key).getD z) w := by
  obtain ⟨es, clock, hb, hs, hst, hk, h1, h2⟩ := h
  rcases K.find w hkey es.toList hk with ⟨r1, r2⟩ | ⟨j, e0, r1, r2, r3⟩
  · have hf : f key = none := by
      cases hf : f key with
      | none => rfl
      | some v =>
        obtain ⟨x, hx, hxk, -⟩ := h1 key v hf
        exact absurd hxk (r2 x hx)
    rw [hf]
    simp [Instr.lookup, run_underlying ht, MapKept.run_getObj_map hb, K.check w _ hkey, r1, hz, Result.andThen]
  · have hm0 : e0 ∈ es.toList := List.mem_of_getElem? r2
    have hf : f key = some e0.val := by
      cases hf : f key with
      | none => exact absurd r3 (h2 key hf e0 hm0)
      | some v =>
        obtain ⟨x, hx, hxk, hxv⟩ := h1 key v hf
        have hp := ((stamped_iff es clock).1 hst).2.2
        have : x = e0 := by
          obtain ⟨i, hi, hxi⟩ := List.getElem_of_mem hx
          obtain ⟨hj, hej⟩ := List.getElem?_eq_some_iff.1 r2
          rcases Nat.lt_trichotomy i j with q | q | q
          · have := List.pairwise_iff_getElem.1 hp i j hi hj q
            rw [hxi, hej] at this
            exact absurd (hxk.trans r3.symm) this
          · subst q; rw [← hxi, ← hej]
          · have := List.pairwise_iff_getElem.1 hp j i hj hi q
            rw [hxi, hej] at this
            exact absurd (r3.trans hxk.symm) this
        rw [← hxv, this]
    rw [hf]
    simp [Instr.lookup, run_underlying ht, MapKept.run_getObj_map hb, K.check w _ hkey, r1, Result.andThen]
/-- A store. -/
theorem MapIs.store (h : MapIs P k w b n f) (K : Keyed P k) (ht : P.underlying t = some (.map k e)) {key val : Value} {kl : Lit} (hkey : keyOf P k key = some kl) :
    ∃ w', (Instr.mapUpdate t (.map (some b)) key val).run P w = .ok () w' ∧ (∀ g : Value → Option Value, g key = some val → (∀ x, x ≠ key → g x = f x) → MapIs P k w' b (n + 1) g) ∧ w.grownBy w' (some b) ∧ GrX b w w' := by
  obtain ⟨es, clock, hb, hs, hst, hk, h1, h2⟩ := h
  have hgx : ∀ es' clock', GrX b w (setBlock w b (.map es' clock')) := fun es' clock' =>
    ⟨rfl, rfl, rfl, by simp [setBlock], fun i _ hi => heap_setBlock_other hb _ hi, fun o ho => by simp [World.cell?, hb] at ho, fun o ho => by simp [World.cell?, hb] at ho⟩
  have hgb : ∀ es' clock', w.grownBy (setBlock w b (.map es' clock')) (some b) := fun es' clock' =>
    ⟨rfl, rfl, rfl, by simp [setBlock], fun i _ hi => heap_setBlock_other hb _ (fun e => hi (by rw [e]))⟩
  rcases K.find w hkey es.toList hk with ⟨r1, r2⟩ | ⟨j, e0, r1, r2, r3⟩
  · refine ⟨setBlock w b (.map (es.push ⟨key, val, clock⟩) (clock + 1)), ?_, fun g hg hg' => ?_, hgb _ _, hgx _ _⟩
    · simp [Instr.mapUpdate, run_underlying ht, MapKept.run_getObj_map hb, K.check w false hkey, r1, MapKept.run_setObj_map _ hb, Result.andThen, setBlock]
    · refine ⟨_, _, heap_setBlock_same hb _, by simp; omega, stamped_push hst r2, ?_, ?_, ?_⟩
      · intro x hx
        simp only [Array.toList_push, List.mem_append, List.mem_singleton] at hx
        rcases hx with hx | rfl
        · exact hk x hx
        · exact ⟨kl, hkey⟩
      · intro key' v hv
        simp only [Array.toList_push, List.mem_append, List.mem_singleton]
        by_cases q : key' = key
        · subst q
          rw [hg] at hv
          cases hv
          exact ⟨_, Or.inr rfl, rfl, rfl⟩
        · rw [hg' key' q] at hv
          obtain ⟨x, hx, hxx⟩ := h1 key' v hv
          exact ⟨x, Or.inl hx, hxx⟩
      · intro key' hv x hx
        simp only [Array.toList_push, List.mem_append, List.mem_singleton] at hx
        have q : key' ≠ key := fun q => by rw [q, hg] at hv; cases hv
        rw [hg' key' q] at hv
        rcases hx with hx | rfl
        · exact h2 key' hv x hx
        · exact Ne.symm q
  · have hj : es[j]? = some e0 := by simpa using r2
    have hjl : j < es.toList.length := (List.getElem?_eq_some_iff.1 r2).1
    have hkeyf : ∀ e', es[j]? = some e' → ({ e' with key := key, val := val } : MapEntry).key = e'.key := fun e' he' => by rw [hj] at he'; cases he'; exact r3.symm
    have hlist : (es.modify j (fun e' => { e' with key := key, val := val })).toList = es.toList.set j { e0 with key := key, val := val } := by rw [Array.toList_modify, modify_eq_set _ _ _ _ r2]
    have hp := ((stamped_iff es clock).1 hst).2.2
    have other : ∀ (i : Nat) (hi : i < es.toList.length), i ≠ j → (es.toList[i]).key ≠ key := by
      intro i hi hij hkk
      obtain ⟨hj', hej⟩ := List.getElem?_eq_some_iff.1 r2
      rcases Nat.lt_or_gt_of_ne hij with q | q
      · have := List.pairwise_iff_getElem.1 hp i j hi hj' q
        rw [hej] at this
        exact this (hkk.trans r3.symm)
      · have := List.pairwise_iff_getElem.1 hp j i hj' hi q
        rw [hej] at this
        exact this (r3.trans hkk.symm)
    have who : ∀ x ∈ es.toList.set j { e0 with key := key, val := val }, x = { e0 with key := key, val := val } ∨ (x ∈ es.toList ∧ x.key ≠ key) := by
      intro x hx
      obtain ⟨i, hi, ex⟩ := List.getElem_of_mem hx
      rw [List.getElem_set] at ex
      split at ex
      · exact Or.inl ex.symm
      · rename_i hne
        have hi' : i < es.toList.length := by simpa using hi
        exact Or.inr ⟨ex ▸ List.getElem_mem hi', by rw [← ex]; exact other i hi' (Ne.symm hne)⟩
    refine ⟨setBlock w b (.map (es.modify j (fun e' => { e' with key := key, val := val })) clock), ?_, fun g hg hg' => ?_, hgb _ _, hgx _ _⟩
    · simp [Instr.mapUpdate, run_underlying ht, MapKept.run_getObj_map hb, K.check w false hkey, r1, hj, r3, K.stays w hkey, MapKept.run_setObj_map _ hb, Result.andThen, setBlock]
    · refine ⟨_, _, heap_setBlock_same hb _, by simp; omega, stamped_modify hst _ _ (fun _ _ => rfl) (fun e' _ he' => hkeyf e' he'), ?_, ?_, ?_⟩
      · intro x hx
        rw [hlist] at hx
        rcases who x hx with rfl | ⟨hx', -⟩
        · exact ⟨kl, hkey⟩
        · exact hk x hx'
      · intro key' v hv
        rw [hlist]
        by_cases q : key' = key
        · subst q
          rw [hg] at hv
          cases hv
          exact ⟨_, List.mem_iff_getElem.2 ⟨j, by simpa using hjl, by simp; rfl⟩, rfl, rfl⟩
        · rw [hg' key' q] at hv
          obtain ⟨x, hx, hxk, hxv⟩ := h1 key' v hv
          obtain ⟨i, hi, hxi⟩ := List.getElem_of_mem hx
          have hij : i ≠ j := fun q2 => by
            subst q2
            obtain ⟨_, hej⟩ := List.getElem?_eq_some_iff.1 r2
            rw [hej] at hxi
            subst hxi
            exact q (hxk.symm.trans r3)
          refine ⟨x, List.mem_iff_getElem.2 ⟨i, by simpa using hi, ?_⟩, hxk, hxv⟩
          rw [List.getElem_set_ne (Ne.symm hij)]; exact hxi
      · intro key' hv x hx
        rw [hlist] at hx
        have q : key' ≠ key := fun q => by rw [q, hg] at hv; cases hv
        rcases who x hx with rfl | ⟨hx', hxk⟩
        · exact Ne.symm q
        · rw [hg' key' q] at hv
          exact h2 key' hv x hx'
/-- A look-up, at the operation. -/
theorem wpList_lookup_is (w : World) {ops : Array Oper} {rest : List Oper} {o : Oper} {a : Act} {Q : Exit → Act → World → Prop}
    (hg : o.guard = none) (m x : Operand) (t : TypeId) (c : Bool) (hop : o.op = Op.lookup t m x c)
    (k e : TypeId) (K : Keyed P k) (ht : P.underlying t = some (.map k e)) (z : Value) (hz : (zeroValue e).run P w = .ok z w) (b n : Nat) (f : Value → Option Value)
    (hm : a.eval m = .map (some b)) (hown : MapIs P k w b n f) (key : Value) (kl : Lit) (hx : a.eval x = key) (hkey : keyOf P k key = some kl)
    (hK : ∀ v, v = (if c then .tuple #[(f key).getD z, .bool (f key).isSome] else (f key).getD z) → wpList P ops Q rest (a.put o.dst v) w) :
    wpList P ops Q (o :: rest) a w := by
  refine wpList_plain hg fun K' hK' => ?_
  have hrun0 := hown.look c K ht hz hkey
  obtain ⟨v, hv⟩ : ∃ v, v = (if c then .tuple #[(f key).getD z, .bool (f key).isSome] else (f key).getD z) := ⟨_, rfl⟩
  have hrun : (Instr.lookup t (.map (some b)) key c).run P w = .ok v w := by rw [hv]; exact hrun0
  clear hrun0
  unfold Oper.wp
  simp [execOp, hop, hm, hx, hrun, Result.andThen]
  exact hK' _ _ (hK _ hv)
/-- A store, at the operation. -/
theorem wpList_update_is (w : World) {ops : Array Oper} {rest : List Oper} {o : Oper} {a : Act} {Q : Exit → Act → World → Prop}
    (hg : o.guard = none) (m x v : Operand) (t : TypeId) (hop : o.op = Op.mapUpdate t m x v)
    (k e : TypeId) (K : Keyed P k) (ht : P.underlying t = some (.map k e)) (b n : Nat) (f : Value → Option Value)
    (hm : a.eval m = .map (some b)) (hown : MapIs P k w b n f) (key val : Value) (kl : Lit) (hx : a.eval x = key) (hv : a.eval v = val) (hkey : keyOf P k key = some kl)
    (hK : ∀ w', (∀ g : Value → Option Value, g key = some val → (∀ x, x ≠ key → g x = f x) → MapIs P k w' b (n + 1) g) → w.grownBy w' (some b) → GrX b w w' → wpList P ops Q rest (a.put o.dst undef) w') :
    wpList P ops Q (o :: rest) a w := by
  refine wpList_plain hg fun K' hK' => ?_
  obtain ⟨w', hrun, r1, r2, r3⟩ := hown.store (val := val) K ht hkey
  unfold Oper.wp
  simp [execOp, hop, hm, hx, hv, hrun, Result.andThen]
  exact hK' _ _ (hK w' r1 r2 r3)
end
end Go.Proofs.Ythkmgnaeponfcaa
namespace Go.Proofs.Ythkmgnaeponfcaa
open Go.RowKit
/-- The world has grown; of what was there, the blocks from lo to hi, hi left out, alone have turned. -/
structure GrZ (lo hi : Nat) (w w' : World) : Prop where
  os : w'.os = w.os
  tape : w'.tape = w.tape
  output : w'.output = w.output
  size : w.heap.size ≤ w'.heap.size
  block : ∀ k, k < w.heap.size → (k < lo ∨ hi ≤ k) → w'.heap[k]? = w.heap[k]?
theorem GrZ.refl (lo hi : Nat) (w : World) : GrZ lo hi w w := ⟨rfl, rfl, rfl, Nat.le_refl _, fun _ _ _ => rfl⟩
theorem GrZ.gr {lo hi : Nat} {a b c : World} (h : GrZ lo hi a b) (k : Gr b c) : GrZ lo hi a c :=
  ⟨k.os.trans h.os, k.tape.trans h.tape, k.output.trans h.output, Nat.le_trans h.size (Gr.size k), fun i hi' hR => (Below.block k i (Nat.lt_of_lt_of_le hi' h.size)).trans (h.block i hi' hR)⟩
theorem GrZ.drew {lo hi : Nat} {a b : World} (h : GrZ lo hi a b) : GrZ lo hi a b.drew := h.gr (Gr.drew (Gr.refl _))
theorem GrZ.drewN {lo hi : Nat} {a b : World} (h : GrZ lo hi a b) (n : Nat) : GrZ lo hi a (b.drewN n) := h.gr (Gr.drewN (Gr.refl _) n)
theorem GrZ.alloc {lo hi : Nat} {a b : World} (h : GrZ lo hi a b) (o : Obj) : GrZ lo hi a (b.alloc o) := h.gr (Gr.alloc (Gr.refl _) o)
theorem GrZ.setCell {lo hi : Nat} {a b : World} (h : GrZ lo hi a b) {p : Addr} (hp : lo ≤ p.block ∧ p.block < hi) (u : Value) : GrZ lo hi a (b.setCell p u) :=
  ⟨h.os, h.tape, h.output, by simpa [World.setCell] using h.size, fun i hi' hR => (Below.heap_setCell _ _ _ _ (by omega)).trans (h.block i hi' hR)⟩
theorem GrZ.at {lo hi : Nat} {w w' : World} (h : GrZ lo hi w w') {b o : Nat} {v : Value} (hb : b < lo ∨ hi ≤ b) (hc : w.cell? ⟨b, o, none⟩ = some v) : w'.cell? ⟨b, o, none⟩ = some v := by
  have hlt := World.block_lt_of_cell? w ⟨b, o, none⟩ hc
  rw [← hc]; exact World.cell?_of_block (w := w) (h.block b hlt hb)
theorem GrZ.below {lo hi : Nat} {w W0 w' : World} (g : Gr w W0) (hl : w.heap.size ≤ lo) (h : GrZ lo hi W0 w') : Gr w w' :=
  ⟨h.os.trans g.os, h.tape.trans g.tape, h.output.trans g.output, Nat.le_trans (Gr.size g) h.size, fun k hk => (h.block k (Nat.lt_of_lt_of_le hk (Gr.size g)) (by omega)).trans (Below.block g k hk)⟩
end Go.Proofs.Ythkmgnaeponfcaa
namespace Go.Proofs.Ythkmgnaeponfcaa
open Go.ChangeShapes Go.WideShapes Go.ChangeAt Go.RowKit
theorem fr_own : ownKnob Try.prog.godebug = none := by kernel_rfl
theorem fr_laid : laidOutB Try.prog = true := by kernel_rfl
/-- All arguments read behind the call as before. -/
theorem fr_args {H : Type} {enc : TypeId × Value → H} {W W' : World} (hb : Below W.heap.size W W') : ∀ (ts : List TypeId) (vs : List Value) (ds : List (DataW H)) (ps : List MemPlace),
    (∀ t ∈ ts, Try.prog.readableRec t = true ∧ t < Try.prog.types.size) → (∀ x ∈ ps, x.block < W.heap.size) →
    DataW.TrodAll enc Try.prog W 0 (fun _ => true) true ts vs ds ps → DataW.TrodAll enc Try.prog W' 0 (fun b => decide (b < W.heap.size)) true ts vs ds ps
  | [], [], [], [], _, _, h => h
  | [], [], [], _ :: _, _, _, h => by cases h
  | [], [], _ :: _, _, _, _, h => by cases h
  | [], _ :: _, _, _, _, _, h => by cases h
  | t :: ts, vs, ds, ps, hr, hl, h => by
    obtain ⟨v, vs', d, ds', p, q, rfl, rfl, rfl, h0, r0⟩ := trodAll_cons h
    have k1 := Below.trod fr_laid (hr t (by simp)).1 (hr t (by simp)).2 h0 hb (fun x hx => hl x (List.mem_append.2 (.inl hx)))
    have k2 := fr_args hb ts vs' ds' q (fun t' ht' => hr t' (by simp [ht'])) (fun x hx => hl x (List.mem_append.2 (.inr hx))) r0
    exact trodAll_cons_mk k1 k2
end Go.Proofs.Ythkmgnaeponfcaa
