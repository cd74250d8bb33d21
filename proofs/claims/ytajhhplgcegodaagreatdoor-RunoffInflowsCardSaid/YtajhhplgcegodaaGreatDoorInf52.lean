/-
  Arguments of nested structs and slices, opened at once: what a datum's reading says of the cells.
-/
import Derived.Test.YtajhhplgcegodaaGreatDoorInf01
import Derived.Deep.Slices
import Derived.DataReads
set_option linter.unusedVariables false
set_option linter.unusedSimpArgs false
namespace Go.Proofs.YtajhhplgcegodaaGreatDoor
open Go.RowKit Go.ChangeShapes Go.WideShapes Go.Deep
/-- The kinds of cells: ints, bools, strings, slices; nothing; one thing behind another. -/
inductive Ty
  | int | bool | str | u | n32
  | sl (e : Ty)
  | p (a b : Ty)
def Ty.size : Ty → Nat
  | .u => 0
  | .p a b => a.size + b.size
  | _ => 1
/-- The cells fit a kind. -/
def Fits (w : World) : Ty → List Value → Prop
  | .int, cs => ∃ n : Int, cs = [.int .i64 n] ∧ -9223372036854775808 ≤ n ∧ n ≤ 9223372036854775807
  | .bool, cs => ∃ b : Bool, cs = [.bool b]
  | .str, cs => ∃ s : ByteArray, cs = [.string s] ∧ s.size ≤ 9223372036854775807
  | .n32, cs => ∃ n : Int, cs = [.int .u32 n] ∧ 0 ≤ n ∧ n ≤ 4294967295
  | .u, cs => cs = []
  | .p a b, cs => ∃ x y : List Value, cs = x ++ y ∧ Fits w a x ∧ Fits w b y
  | .sl e, cs => ∃ (A : Option Addr) (n c : Nat), cs = [.slice A n c] ∧ n ≤ c ∧ c ≤ 9223372036854775807 ∧ ∃ b o : Nat, (0 < n → A = some ⟨b, o, none⟩) ∧
      ∀ i, i < n → ∃ es : List Value, es.length = e.size ∧ (∀ (j : Nat) (u : Value), es[j]? = some u → w.cell? ⟨b, o + i * e.size + j, none⟩ = some u) ∧ Fits w e es
theorem Fits.len {w : World} : ∀ {t : Ty} {cs : List Value}, Fits w t cs → cs.length = t.size
  | .int, _, ⟨_, h, _⟩ => by rw [h]; rfl
  | .bool, _, ⟨_, h⟩ => by rw [h]; rfl
  | .str, _, ⟨_, h, _⟩ => by rw [h]; rfl
  | .n32, _, ⟨_, h, _⟩ => by rw [h]; rfl
  | .u, _, h => by rw [show _ = [] from h]; rfl
  | .p a b, _, ⟨x, y, h, hx, hy⟩ => by rw [h, List.length_append, hx.len, hy.len]; rfl
  | .sl e, _, ⟨_, _, _, h, _⟩ => by rw [h]; rfl
mutual
/-- A type of the program is of a kind. -/
inductive Is (P : Program) : TypeId → Ty → Prop
  | int {t : TypeId} : P.underlying t = some (.int .i64) → Is P t .int
  | n32 {t : TypeId} : P.underlying t = some (.int .u32) → Is P t .n32
  | bool {t : TypeId} : P.underlying t = some .bool → Is P t .bool
  | str {t : TypeId} : P.underlying t = some .string → Is P t .str
  | sl {t e : TypeId} {x : Ty} : P.underlying t = some (.slice e) → P.cellsOf e = x.size → 0 < x.size → Is P e x → Is P t (.sl x)
  | st {t : TypeId} {fs : Array Field} {x : Ty} : P.underlying t = some (.struct fs) → P.cellsOf t = x.size → IsF P fs.toList 0 x → Is P t x
inductive IsF (P : Program) : List Field → Nat → Ty → Prop
  | nil {k : Nat} : IsF P [] k .u
  | cons {f : Field} {fs : List Field} {k : Nat} {a b : Ty} : f.offset = k → P.cellsOf f.type = a.size → Is P f.type a → IsF P fs (k + a.size) b → IsF P (f :: fs) k (.p a b)
end
section
variable {H : Type} {enc : TypeId × Value → H} {P : Program} {w : World} {base : Nat} {spare : Nat → Bool} {held : Bool}
mutual
theorem fits_of : ∀ {t : TypeId} {x : Ty} (_ : Is P t x) {fuel : Nat} {cs : List Value} {y : DataW H × List MemPlace}, DataW.trod enc P w base spare held fuel t cs = some y → Fits w x cs
  | _, _, .int ht, fuel, cs, y, hy => by
    obtain ⟨n, rfl, -, hw⟩ := DataW.trod_int ht hy
    have := bounds_i64 hw
    exact ⟨n, rfl, by omega, by omega⟩
  | _, _, .n32 ht, fuel, cs, y, hy => by
    obtain ⟨n, rfl, -, hw⟩ := DataW.trod_int ht hy
    have := bounds_u32 hw
    exact ⟨n, rfl, by omega, by omega⟩
  | _, _, .bool ht, fuel, cs, y, hy => by
    obtain ⟨b, rfl, -⟩ := DataW.trod_bool ht hy
    exact ⟨b, rfl⟩
  | _, _, .str ht, fuel, cs, y, hy => by
    obtain ⟨s, rfl, -, hs⟩ := DataW.trod_string ht hy
    exact ⟨s, rfl, by unfold maxLen at hs; omega⟩
  | _, _, @Is.sl _ _ e x ht hc hp hx, fuel, cs, y, hy => by
    rcases open_slice ht hy with ⟨rfl, -⟩ | ⟨a, len, cap, m, n, D, Pl, rfl, hb, hl, hm, hmm, rfl, hi⟩
    · exact ⟨none, 0, 0, rfl, Nat.le_refl _, by omega, 0, 0, fun h => absurd h (by omega), fun i hi => absurd hi (by omega)⟩
    · have hlm : len ≤ m := by rw [hmm]; split <;> omega
      have hsp : ∀ i, i < len → a.spot = none := fun i hi' => by
        obtain ⟨cs0, g1, -⟩ := hi 0 (by omega)
        obtain ⟨-, g4, g5⟩ := World.cells?_some g1
        have g6 := g5 0 (by omega)
        obtain ⟨u0, hu0⟩ : ∃ u, cs0[0]? = some u := ⟨_, List.getElem?_eq_getElem (by omega)⟩
        rw [hu0] at g6
        have g7 := World.cell?_spot g6
        simpa [Addr.add] using g7
      refine ⟨some a, len, cap, rfl, hl, by unfold maxLen at hm; omega, a.block, a.off, ?_, ?_⟩
      · intro h0
        have := hsp 0 h0
        obtain ⟨b, o, sp⟩ := a
        simp only at this
        rw [this]
      · intro i hi'
        obtain ⟨cs', h1, h2⟩ := hi i (by omega)
        obtain ⟨-, h4, h5⟩ := World.cells?_some h1
        refine ⟨cs', by rw [h4, hc], fun j u hu => ?_, fits_of hx h2⟩
        have hsp' := hsp i hi'
        have h6 := h5 j (by have := (List.getElem?_eq_some_iff.1 hu).1; omega)
        rw [hu, add_add, hc] at h6
        obtain ⟨b, o, sp⟩ := a
        simp only at hsp'
        subst hsp'
        rw [show (⟨b, o, none⟩ : Addr).add (i * x.size + j) = ⟨b, o + (i * x.size + j), none⟩ by unfold Addr.add; split <;> simp_all] at h6
        rw [Nat.add_assoc]; exact h6
  | _, _, @Is.st _ _ fs x ht hc hf, fuel, cs, y, hy => by
    obtain ⟨xs, n, -, -, hlen, hxl, hfs⟩ := DataW.trod_struct ht hy
    have := fits_fields hf cs (by rw [hlen, hc]; omega) (fun f hf' => by
      obtain ⟨i, hi, hv⟩ := List.getElem_of_mem hf'
      have h1 : fs[i]? = some f := by rw [← Array.getElem?_toList, List.getElem?_eq_getElem hi, hv]
      have hi2 : i < xs.length := by rw [hxl]; simpa using hi
      exact ⟨n, xs[i], by rw [hfs i f h1, List.getElem?_eq_getElem hi2]⟩)
    simpa using this
theorem fits_fields : ∀ {fs : List Field} {k : Nat} {x : Ty} (_ : IsF P fs k x) (cs : List Value), k + x.size = cs.length → (∀ f ∈ fs, ∃ (n : Nat) (y : DataW H × List MemPlace), DataW.trod enc P w base spare held n f.type ((cs.drop f.offset).take (P.cellsOf f.type)) = some y) → Fits w x (cs.drop k)
  | _, _, _, .nil, cs, hl, _ => by
    exact List.drop_eq_nil_of_le (by have : Ty.size .u = 0 := rfl; omega)
  | _, _, _, @IsF.cons _ f fs k a b ho hc ha hf, cs, hl, hall => by
    have hs : Ty.size (.p a b) = a.size + b.size := rfl
    obtain ⟨n, y, hy⟩ := hall f (by simp)
    rw [ho, hc] at hy
    have h1 := fits_of ha hy
    have h2 := fits_fields hf cs (by omega) (fun f' hf' => hall f' (by simp [hf']))
    refine ⟨(cs.drop k).take a.size, cs.drop (k + a.size), ?_, h1, h2⟩
    rw [← List.drop_drop, List.take_append_drop]
end
end
end Go.Proofs.YtajhhplgcegodaaGreatDoor
