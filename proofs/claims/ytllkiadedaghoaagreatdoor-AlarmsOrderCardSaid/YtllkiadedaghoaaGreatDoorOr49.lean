/-
  Arguments of nested structs and slices, opened at once: what a datum's reading says of the cells.
  Arguments opened: structs and slices.
  The arguments of the laws on alarms, opened. (Printed by mkalfit.py out of balance/XBaFit.)
  The frame that all laws of this seat share: a call that returns true, and in whose world all that was there is as it was, meets a law's row.
  The laid table of powers of ten. (Made of decimal's XDcLaid.)
-/
import Derived.Test.YtllkiadedaghoaaGreatDoorOr01
import Derived.Test.YtllkiadedaghoaaGreatDoorOr12
import Derived.Test.YtllkiadedaghoaaGreatDoorOr42
import Derived.Test.YtllkiadedaghoaaGreatDoorOr08
import Derived.Test.YtllkiadedaghoaaGreatDoorRows
import Derived.Deep.Slices
import Derived.DataReads
import Derived.Lib.SmallJoins
import Derived.ProofKit
import Derived.OpenShut
import Derived.LaidMore
import Derived.Lay
import Derived.SevenTiedAt
import Derived.Stop.Joined
import Derived.LaidSub
import Derived.MakeChecks
import Derived.Lib.LaidTab
set_option linter.unusedVariables false
set_option linter.unusedSimpArgs false
namespace Go.Proofs.YtllkiadedaghoaaGreatDoor
open Go.RowKit Go.ChangeShapes Go.WideShapes Go.Deep
/-- The kinds of cells: ints, bools, strings, slices; nothing; one thing behind another. -/
inductive Ty
  | int | bool | str | u | n32
  | sl (e : Ty)
  | p (a b : Ty)
def Ty.size : Ty → Nat
  | .u => 0
  | .p a b => a.size + b.size
  | _ => 1
/-- The cells fit a kind. -/
def Fits (w : World) : Ty → List Value → Prop
  | .int, cs => ∃ n : Int, cs = [.int .i64 n] ∧ -9223372036854775808 ≤ n ∧ n ≤ 9223372036854775807
  | .bool, cs => ∃ b : Bool, cs = [.bool b]
  | .str, cs => ∃ s : ByteArray, cs = [.string s] ∧ s.size ≤ 9223372036854775807
  | .n32, cs => ∃ n : Int, cs = [.int .u32 n] ∧ 0 ≤ n ∧ n ≤ 4294967295
  | .u, cs => cs = []
  | .p a b, cs => ∃ x y : List Value, cs = x ++ y ∧ Fits w a x ∧ Fits w b y
  | .sl e, cs => ∃ (A : Option Addr) (n c : Nat), cs = [.slice A n c] ∧ n ≤ c ∧ c ≤ 9223372036854775807 ∧ ∃ b o : Nat, (0 < n → A = some ⟨b, o, none⟩) ∧
      ∀ i, i < n → ∃ es : List Value, es.length = e.size ∧ (∀ (j : Nat) (u : Value), es[j]? = some u → w.cell? ⟨b, o + i * e.size + j, none⟩ = some u) ∧ Fits w e es
theorem Fits.len {w : World} : ∀ {t : Ty} {cs : List Value}, Fits w t cs → cs.length = t.size
  | .int, _, ⟨_, h, _⟩ => by rw [h]; rfl
  | .bool, _, ⟨_, h⟩ => by rw [h]; rfl
  | .str, _, ⟨_, h, _⟩ => by rw [h]; rfl
  | .n32, _, ⟨_, h, _⟩ => by rw [h]; rfl
  | .u, _, h => by rw [show _ = [] from h]; rfl
  | .p a b, _, ⟨x, y, h, hx, hy⟩ => by rw [h, List.length_append, hx.len, hy.len]; rfl
  | .sl e, _, ⟨_, _, _, h, _⟩ => by rw [h]; rfl
mutual
/-- A type of the program is of a kind. -/
inductive Is (P : Program) : TypeId → Ty → Prop
  | int {t : TypeId} : P.underlying t = some (.int .i64) → Is P t .int
  | n32 {t : TypeId} : P.underlying t = some (.int .u32) → Is P t .n32
  | bool {t : TypeId} : P.underlying t = some .bool → Is P t .bool
  | str {t : TypeId} : P.underlying t = some .string → Is P t .str
  | sl {t e : TypeId} {x : Ty} : P.underlying t = some (.slice e) → P.cellsOf e = x.size → 0 < x.size → Is P e x → Is P t (.sl x)
  | st {t : TypeId} {fs : Array Field} {x : Ty} : P.underlying t = some (.struct fs) → P.cellsOf t = x.size → IsF P fs.toList 0 x → Is P t x
inductive IsF (P : Program) : List Field → Nat → Ty → Prop
  | nil {k : Nat} : IsF P [] k .u
  | cons {f : Field} {fs : List Field} {k : Nat} {a b : Ty} : f.offset = k → P.cellsOf f.type = a.size → Is P f.type a → IsF P fs (k + a.size) b → IsF P (f :: fs) k (.p a b)
end
section
variable {H : Type} {enc : TypeId × Value → H} {P : Program} {w : World} {base : Nat} {spare : Nat → Bool} {held : Bool}
mutual
theorem fits_of : ∀ {t : TypeId} {x : Ty} (_ : Is P t x) {fuel : Nat} {cs : List Value} {y : DataW H × List MemPlace}, DataW.trod enc P w base spare held fuel t cs = some y → Fits w x cs
  | _, _, .int ht, fuel, cs, y, hy => by
    obtain ⟨n, rfl, -, hw⟩ := DataW.trod_int ht hy
    have := bounds_i64 hw
    exact ⟨n, rfl, by omega, by omega⟩
  | _, _, .n32 ht, fuel, cs, y, hy => by
    obtain ⟨n, rfl, -, hw⟩ := DataW.trod_int ht hy
    have := bounds_u32 hw
    exact ⟨n, rfl, by omega, by omega⟩
  | _, _, .bool ht, fuel, cs, y, hy => by
    obtain ⟨b, rfl, -⟩ := DataW.trod_bool ht hy
    exact ⟨b, rfl⟩
  | _, _, .str ht, fuel, cs, y, hy => by
    obtain ⟨s, rfl, -, hs⟩ := DataW.trod_string ht hy
    exact ⟨s, rfl, by unfold maxLen at hs; omega⟩
  | _, _, @Is.sl _ _ e x ht hc hp hx, fuel, cs, y, hy => by
    rcases open_slice ht hy with ⟨rfl, -⟩ | ⟨a, len, cap, m, n, D, Pl, rfl, hb, hl, hm, hmm, rfl, hi⟩
    · exact ⟨none, 0, 0, rfl, Nat.le_refl _, by omega, 0, 0, fun h => absurd h (by omega), fun i hi => absurd hi (by omega)⟩
    · have hlm : len ≤ m := by rw [hmm]; split <;> omega
      have hsp : ∀ i, i < len → a.spot = none := fun i hi' => by
        obtain ⟨cs0, g1, -⟩ := hi 0 (by omega)
        obtain ⟨-, g4, g5⟩ := World.cells?_some g1
        have g6 := g5 0 (by omega)
        obtain ⟨u0, hu0⟩ : ∃ u, cs0[0]? = some u := ⟨_, List.getElem?_eq_getElem (by omega)⟩
        rw [hu0] at g6
        have g7 := World.cell?_spot g6
        simpa [Addr.add] using g7
      refine ⟨some a, len, cap, rfl, hl, by unfold maxLen at hm; omega, a.block, a.off, ?_, ?_⟩
      · intro h0
        have := hsp 0 h0
        obtain ⟨b, o, sp⟩ := a
        simp only at this
        rw [this]
      · intro i hi'
        obtain ⟨cs', h1, h2⟩ := hi i (by omega)
        obtain ⟨-, h4, h5⟩ := World.cells?_some h1
        refine ⟨cs', by rw [h4, hc], fun j u hu => ?_, fits_of hx h2⟩
        have hsp' := hsp i hi'
        have h6 := h5 j (by have := (List.getElem?_eq_some_iff.1 hu).1; omega)
        rw [hu, add_add, hc] at h6
        obtain ⟨b, o, sp⟩ := a
        simp only at hsp'
        subst hsp'
        rw [show (⟨b, o, none⟩ : Addr).add (i * x.size + j) = ⟨b, o + (i * x.size + j), none⟩ by unfold Addr.add; split <;> simp_all] at h6
        rw [Nat.add_assoc]; exact h6
  | _, _, @Is.st _ _ fs x ht hc hf, fuel, cs, y, hy => by
    obtain ⟨xs, n, -, -, hlen, hxl, hfs⟩ := DataW.trod_struct ht hy
    have := fits_fields hf cs (by rw [hlen, hc]; omega) (fun f hf' => by
      obtain ⟨i, hi, hv⟩ := List.getElem_of_mem hf'
      have h1 : fs[i]? = some f := by rw [← Array.getElem?_toList, List.getElem?_eq_getElem hi, hv]
      have hi2 : i < xs.length := by rw [hxl]; simpa using hi
      exact ⟨n, xs[i], by rw [hfs i f h1, List.getElem?_eq_getElem hi2]⟩)
    simpa using this
theorem fits_fields : ∀ {fs : List Field} {k : Nat} {x : Ty} (_ : IsF P fs k x) (cs : List Value), k + x.size = cs.length → (∀ f ∈ fs, ∃ (n : Nat) (y : DataW H × List MemPlace), DataW.trod enc P w base spare held n f.type ((cs.drop f.offset).take (P.cellsOf f.type)) = some y) → Fits w x (cs.drop k)
  | _, _, _, .nil, cs, hl, _ => by
    exact List.drop_eq_nil_of_le (by have : Ty.size .u = 0 := rfl; omega)
  | _, _, _, @IsF.cons _ f fs k a b ho hc ha hf, cs, hl, hall => by
    have hs : Ty.size (.p a b) = a.size + b.size := rfl
    obtain ⟨n, y, hy⟩ := hall f (by simp)
    rw [ho, hc] at hy
    have h1 := fits_of ha hy
    have h2 := fits_fields hf cs (by omega) (fun f' hf' => hall f' (by simp [hf']))
    refine ⟨(cs.drop k).take a.size, cs.drop (k + a.size), ?_, h1, h2⟩
    rw [← List.drop_drop, List.take_append_drop]
end
end
end Go.Proofs.YtllkiadedaghoaaGreatDoor
set_option linter.unusedVariables false
set_option linter.unusedSimpArgs false
namespace Go.Proofs.YtllkiadedaghoaaGreatDoor
open Go.RowKit Go.ChangeShapes Go.WideShapes Go.Deep
theorem pick {α : Type} [Nonempty α] {P : Nat → α → Prop} {n : Nat} (h : ∀ i, i < n → ∃ d, P i d) : ∃ D : Nat → α, ∀ i, i < n → P i (D i) := by
  refine ⟨fun i => if hi : i < n then (h i hi).choose else Classical.choice inferInstance, fun i hi => ?_⟩
  simp only [dif_pos hi]
  exact (h i hi).choose_spec
section
variable {H : Type} {enc : TypeId × Value → H} {P : Program} {w : World} {base : Nat} {spare : Nat → Bool} {held : Bool} {r : Reach} {b0 : Nat}
theorem fit_struct {t : TypeId} {x : Ty} {fs : Array Field} {v : Value} {d : DataW H} {p : List MemPlace} (hI : Is P t x) (ht : P.underlying t = some (.struct fs)) (hv : Value.okWide P w r b0 t v) (h : DataW.Trod enc P w base spare held t v d p) : ∃ cs : Array Value, v = .agg cs ∧ Fits w x cs.toList := by
  obtain ⟨cs, rfl, -⟩ := okWide_struct ht hv
  obtain ⟨fuel, hf⟩ := h
  exact ⟨cs, rfl, fits_of hI hf⟩
theorem fit_slice {t e : TypeId} {x : Ty} {v : Value} {d : DataW H} {p : List MemPlace} (hI : Is P t (.sl x)) (ht : P.underlying t = some (.slice e)) (hv : Value.okWide P w r b0 t v) (h : DataW.Trod enc P w base spare held t v d p) : ∃ (A : Option Addr) (n c : Nat), v = .slice A n c ∧ Fits w (.sl x) [.slice A n c] := by
  have hs : ∃ A n c, v = .slice A n c := by
    unfold Value.okWide at hv
    rw [ht] at hv
    simp only [Cell.okWide, Cell.ok, ht] at hv
    split at hv
    all_goals first
      | exact ⟨_, _, _, rfl⟩
      | (split at hv <;> first | exact ⟨_, _, _, rfl⟩ | (exfalso; exact hv) | simp_all)
      | simp_all
  obtain ⟨A, n, c, rfl⟩ := hs
  obtain ⟨fuel, hf⟩ := h
  exact ⟨A, n, c, rfl, fits_of hI hf⟩
end
end Go.Proofs.YtllkiadedaghoaaGreatDoor
set_option linter.unusedVariables false
set_option linter.unusedSimpArgs false
namespace Go.Proofs.YtllkiadedaghoaaGreatDoor
open Go.RowKit Go.ChangeShapes Go.WideShapes Go.Deep
def tKnot : Ty := .p .int (.p .int .u)
def tNode : Ty := .p .str (.p .int (.p (.p .int (.p .int .u)) (.p .int (.p .int (.p (.sl tKnot) (.p .bool (.p .int .u)))))))
def tLink : Ty := .p .str (.p .str (.p .str (.p .int (.p .int (.p .int (.p .int (.p .str (.p .int (.p .int (.p (.sl tKnot) .u))))))))))
def tNet : Ty := .p (.sl tNode) (.p (.sl tLink) .u)
theorem is_int : Is Tryz.prog 3 .int := .int Tryz.underlying3
theorem is_bool : Is Tryz.prog 4 .bool := .bool Tryz.underlying4
theorem is_str : Is Tryz.prog 9 .str := .str Tryz.underlying9
theorem is_knot : Is Tryz.prog 93 tKnot := .st Tryz.underlying93 (by kernel_rfl) (.cons rfl (by kernel_rfl) is_int (.cons rfl (by kernel_rfl) is_int .nil))
theorem is_point : Is Tryz.prog 78 tKnot := .st Tryz.underlying78 (by kernel_rfl) (.cons rfl (by kernel_rfl) is_int (.cons rfl (by kernel_rfl) is_int .nil))
theorem is_table : Is Tryz.prog 80 (.sl tKnot) := .sl Tryz.underlying80 (by kernel_rfl) (by decide) is_knot
theorem is_node : Is Tryz.prog 82 tNode := .st Tryz.underlying82 (by kernel_rfl) (.cons rfl (by kernel_rfl) is_str (.cons rfl (by kernel_rfl) is_int (.cons rfl (by kernel_rfl) is_point (.cons rfl (by kernel_rfl) is_int (.cons rfl (by kernel_rfl) is_int (.cons rfl (by kernel_rfl) is_table (.cons rfl (by kernel_rfl) is_bool (.cons rfl (by kernel_rfl) is_int .nil))))))))
theorem is_link : Is Tryz.prog 85 tLink := .st Tryz.underlying85 (by kernel_rfl) (.cons rfl (by kernel_rfl) is_str (.cons rfl (by kernel_rfl) is_str (.cons rfl (by kernel_rfl) is_str (.cons rfl (by kernel_rfl) is_int (.cons rfl (by kernel_rfl) is_int (.cons rfl (by kernel_rfl) is_int (.cons rfl (by kernel_rfl) is_int (.cons rfl (by kernel_rfl) is_str (.cons rfl (by kernel_rfl) is_int (.cons rfl (by kernel_rfl) is_int (.cons rfl (by kernel_rfl) is_table .nil)))))))))))
theorem is_nodes : Is Tryz.prog 22 (.sl tNode) := .sl Tryz.underlying22 (by kernel_rfl) (by decide) is_node
theorem is_links : Is Tryz.prog 23 (.sl tLink) := .sl Tryz.underlying23 (by kernel_rfl) (by decide) is_link
theorem is_net : Is Tryz.prog 25 tNet := .st Tryz.underlying25 (by kernel_rfl) (.cons rfl (by kernel_rfl) is_nodes (.cons rfl (by kernel_rfl) is_links .nil))
theorem agg_eq {cs : Array Value} {l : List Value} (h : cs.toList = l) : Value.agg cs = .agg l.toArray := by subst h; simp
namespace Ba
instance nodeNe : Nonempty Node := ⟨⟨⟨#[]⟩, 0, 0, 0, 0, 0, ⟨none, 0, 0, 0, 0, fun _ => 0, fun _ => 0⟩, false, 0⟩⟩
instance linkNe : Nonempty Link := ⟨⟨⟨#[]⟩, ⟨#[]⟩, ⟨#[]⟩, 0, 0, 0, 0, ⟨#[]⟩, 0, 0, ⟨none, 0, 0, 0, 0, fun _ => 0, fun _ => 0⟩⟩⟩
theorem slk_of {w : World} {cs : List Value} (h : Fits w (.sl tKnot) cs) : ∃ s : SlK, cs = [.slice s.A s.n s.c] ∧ s.At w := by
  obtain ⟨A, n, c, rfl, h1, h2, b, o, h3, h4⟩ := h
  obtain ⟨D, hD⟩ := pick (α := Int × Int) (P := fun i d => (w.cell? ⟨b, o + i * 2, none⟩ = some (.int .i64 d.1) ∧ w.cell? ⟨b, o + i * 2 + 1, none⟩ = some (.int .i64 d.2)) ∧ i64 d.1 ∧ i64 d.2) (n := n) fun i hi => by
    obtain ⟨es, -, hc, hf⟩ := h4 i hi
    simp only [tKnot, Fits] at hf
    obtain ⟨_, _, rfl, ⟨x, rfl, hx1, hx2⟩, _, _, rfl, ⟨y, rfl, hy1, hy2⟩, rfl⟩ := hf
    exact ⟨(x, y), ⟨hc 0 _ rfl, hc 1 _ rfl⟩, ⟨hx1, hx2⟩, hy1, hy2⟩
  exact ⟨⟨A, n, c, b, o, fun i => (D i).1, fun i => (D i).2⟩, rfl, ⟨h3, h1, h2, hD⟩⟩
theorem node_of {w : World} {cs : List Value} (h : Fits w tNode cs) : ∃ d : Node, cs = [.string d.nm, .int .i64 d.kd, .int .i64 d.ax, .int .i64 d.ay, .int .i64 d.iv, .int .i64 d.gr, .slice d.sh.A d.sh.n d.sh.c, .bool d.pr, .int .i64 d.rs] ∧ d.Ok w := by
  unfold tNode at h
  obtain ⟨_, _, rfl, ⟨nm, rfl, hnm⟩, _, _, rfl, ⟨kd, rfl, hk⟩, _, _, rfl, ⟨_, _, rfl, ⟨ax, rfl, hx⟩, _, _, rfl, ⟨ay, rfl, hy⟩, rfl⟩, _, _, rfl, ⟨iv, rfl, hi⟩, _, _, rfl, ⟨gr, rfl, hg⟩, _, _, rfl, hs, _, _, rfl, ⟨pr, rfl⟩, _, _, rfl, ⟨rs, rfl, hr⟩, rfl⟩ := h
  obtain ⟨s, rfl, hs'⟩ := slk_of hs
  exact ⟨⟨nm, kd, ax, ay, iv, gr, s, pr, rs⟩, rfl, hk, hx, hy, hi, hg, hr, hnm, hs'⟩
theorem link_of {w : World} {cs : List Value} (h : Fits w tLink cs) : ∃ d : Link, cs = [.string d.nm, .string d.fr, .string d.tt, .int .i64 d.kd, .int .i64 d.ln, .int .i64 d.up, .int .i64 d.dn, .string d.sc, .int .i64 d.wd, .int .i64 d.ht, .slice d.cv.A d.cv.n d.cv.c] ∧ d.Ok w := by
  unfold tLink at h
  obtain ⟨_, _, rfl, ⟨nm, rfl, hnm⟩, _, _, rfl, ⟨fr, rfl, hfr⟩, _, _, rfl, ⟨tt, rfl, htt⟩, _, _, rfl, ⟨kd, rfl, hk⟩, _, _, rfl, ⟨ln, rfl, hl⟩, _, _, rfl, ⟨up, rfl, hu⟩, _, _, rfl, ⟨dn, rfl, hd⟩, _, _, rfl, ⟨sc, rfl, hsc⟩, _, _, rfl, ⟨wd, rfl, hw⟩, _, _, rfl, ⟨ht, rfl, hh⟩, _, _, rfl, hs, rfl⟩ := h
  obtain ⟨s, rfl, hs'⟩ := slk_of hs
  exact ⟨⟨nm, fr, tt, kd, ln, up, dn, sc, wd, ht, s⟩, rfl, hk, hl, hu, hd, hw, hh, hnm, hfr, htt, hsc, hs'⟩
theorem slnode_of {w : World} {cs : List Value} (h : Fits w (.sl tNode) cs) : ∃ s : SlNode, cs = [.slice s.A s.n s.c] ∧ s.At w := by
  obtain ⟨A, n, c, rfl, h1, h2, b, o, h3, h4⟩ := h
  obtain ⟨D, hD⟩ := pick (α := Node) (P := fun i d => d.Cells w b (o + i * 9) ∧ d.Ok w) (n := n) fun i hi => by
    obtain ⟨es, -, hc, hf⟩ := h4 i hi
    obtain ⟨d, rfl, hd'⟩ := node_of hf
    exact ⟨d, ⟨hc 0 _ rfl, hc 1 _ rfl, hc 2 _ rfl, hc 3 _ rfl, hc 4 _ rfl, hc 5 _ rfl, hc 6 _ rfl, hc 7 _ rfl, hc 8 _ rfl⟩, hd'⟩
  exact ⟨⟨A, n, c, b, o, D⟩, rfl, ⟨h3, h1, h2, hD⟩⟩
theorem sllink_of {w : World} {cs : List Value} (h : Fits w (.sl tLink) cs) : ∃ s : SlLink, cs = [.slice s.A s.n s.c] ∧ s.At w := by
  obtain ⟨A, n, c, rfl, h1, h2, b, o, h3, h4⟩ := h
  obtain ⟨D, hD⟩ := pick (α := Link) (P := fun i d => d.Cells w b (o + i * 11) ∧ d.Ok w) (n := n) fun i hi => by
    obtain ⟨es, -, hc, hf⟩ := h4 i hi
    obtain ⟨d, rfl, hd'⟩ := link_of hf
    exact ⟨d, ⟨hc 0 _ rfl, hc 1 _ rfl, hc 2 _ rfl, hc 3 _ rfl, hc 4 _ rfl, hc 5 _ rfl, hc 6 _ rfl, hc 7 _ rfl, hc 8 _ rfl, hc 9 _ rfl, hc 10 _ rfl⟩, hd'⟩
  exact ⟨⟨A, n, c, b, o, D⟩, rfl, ⟨h3, h1, h2, hD⟩⟩
theorem net_of {w : World} {cs : List Value} (h : Fits w tNet cs) : ∃ (N : SlNode) (L : SlLink), cs = [.slice N.A N.n N.c, .slice L.A L.n L.c] ∧ N.At w ∧ L.At w := by
  unfold tNet at h
  obtain ⟨_, _, rfl, hN, _, _, rfl, hL, rfl⟩ := h
  obtain ⟨N, rfl, hN'⟩ := slnode_of hN
  obtain ⟨L, rfl, hL'⟩ := sllink_of hL
  exact ⟨N, L, rfl, hN', hL'⟩
theorem netv_of {w : World} {cs : Array Value} (h : Fits w tNet cs.toList) : ∃ (N : SlNode) (L : SlLink), .agg cs = netVal N L ∧ N.At w ∧ L.At w := by
  generalize e : cs.toList = l at h
  obtain ⟨N, L, rfl, hN', hL'⟩ := net_of h
  refine ⟨N, L, ?_, hN', hL'⟩
  rw [agg_eq e]
  rfl
theorem sl_val {A A' : Option Addr} {n n' c c' : Nat} (h : [Value.slice A n c] = [Value.slice A' n' c']) : Value.slice A n c = Value.slice A' n' c' := by simpa using h
end Ba
def tMsg : Ty := .p .str (.p .int (.p .int (.p .int (.p .int .u))))
def tLims : Ty := .p .int (.p .int (.p .int .u))
theorem is_msg : Is Tryz.prog 53 tMsg := .st Tryz.underlying53 (by kernel_rfl) (.cons rfl (by kernel_rfl) is_str (.cons rfl (by kernel_rfl) is_int (.cons rfl (by kernel_rfl) is_int (.cons rfl (by kernel_rfl) is_int (.cons rfl (by kernel_rfl) is_int .nil)))))
theorem is_msgs : Is Tryz.prog 26 (.sl tMsg) := .sl Tryz.underlying26 (by kernel_rfl) (by decide) is_msg
theorem is_lims : Is Tryz.prog 28 tLims := .st Tryz.underlying28 (by kernel_rfl) (.cons rfl (by kernel_rfl) is_int (.cons rfl (by kernel_rfl) is_int (.cons rfl (by kernel_rfl) is_int .nil)))
namespace Al
theorem msg_of {w : World} {cs : List Value} (h : Fits w tMsg cs) : ∃ d : M, cs = [.string d.nd, .int .i64 d.nu, .int .i64 d.tm, .int .i64 d.ar, .int .i64 d.lv] ∧ d.Ok := by
  unfold tMsg at h
  obtain ⟨_, _, rfl, ⟨nd, rfl, h0⟩, _, _, rfl, ⟨nu, rfl, h1⟩, _, _, rfl, ⟨tm, rfl, h2⟩, _, _, rfl, ⟨ar, rfl, h3⟩, _, _, rfl, ⟨lv, rfl, h4⟩, rfl⟩ := h
  exact ⟨⟨nd, nu, tm, ar, lv⟩, rfl, ⟨h0, h1, h2, h3, h4⟩⟩
theorem slm_of {w : World} {cs : List Value} (h : Fits w (.sl tMsg) cs) : ∃ s : SlM, cs = [.slice s.A s.n s.c] ∧ s.At w := by
  obtain ⟨A, n, c, rfl, h1, h2, b, o, h3, h4⟩ := h
  obtain ⟨D, hD⟩ := pick (α := M) (P := fun i d => d.Cells w b (o + i * 5) ∧ d.Ok) (n := n) fun i hi => by
    obtain ⟨es, -, hc, hf⟩ := h4 i hi
    obtain ⟨d, rfl, hd'⟩ := msg_of hf
    exact ⟨d, ⟨hc 0 _ rfl, hc 1 _ rfl, hc 2 _ rfl, hc 3 _ rfl, hc 4 _ rfl⟩, hd'⟩
  exact ⟨⟨A, n, c, b, o, D⟩, rfl, ⟨h3, h1, h2, hD⟩⟩
theorem lims_of {w : World} {cs : Array Value} (h : Fits w tLims cs.toList) : ∃ a b c : Int, Value.agg cs = .agg #[.int .i64 a, .int .i64 b, .int .i64 c] ∧ Ba.i64 a ∧ Ba.i64 b ∧ Ba.i64 c := by
  generalize e : cs.toList = l at h
  unfold tLims at h
  obtain ⟨_, _, rfl, ⟨x, rfl, h0⟩, _, _, rfl, ⟨y, rfl, h1⟩, _, _, rfl, ⟨z, rfl, h2⟩, rfl⟩ := h
  exact ⟨x, y, z, by rw [agg_eq e]; rfl, h0, h1, h2⟩
end Al
end Go.Proofs.YtllkiadedaghoaaGreatDoor
set_option linter.unusedVariables false
set_option linter.unusedSimpArgs false
namespace Go.Proofs.YtllkiadedaghoaaGreatDoor
open Go.ChangeShapes Go.WideShapes Go.ChangeAt Go.RowKit
theorem fr_own : ownKnob Tryz.prog.godebug = none := by kernel_rfl
theorem fr_laid : laidOutB Tryz.prog = true := by kernel_rfl
/-- All arguments read behind the call as before. -/
theorem fr_args {H : Type} {enc : TypeId × Value → H} {W W' : World} (hb : Below W.heap.size W W') : ∀ (ts : List TypeId) (vs : List Value) (ds : List (DataW H)) (ps : List MemPlace),
    (∀ t ∈ ts, Tryz.prog.readableRec t = true ∧ t < Tryz.prog.types.size) → (∀ x ∈ ps, x.block < W.heap.size) →
    DataW.TrodAll enc Tryz.prog W 0 (fun _ => true) true ts vs ds ps → DataW.TrodAll enc Tryz.prog W' 0 (fun b => decide (b < W.heap.size)) true ts vs ds ps
  | [], [], [], [], _, _, h => h
  | [], [], [], _ :: _, _, _, h => by cases h
  | [], [], _ :: _, _, _, _, h => by cases h
  | [], _ :: _, _, _, _, _, h => by cases h
  | t :: ts, vs, ds, ps, hr, hl, h => by
    obtain ⟨v, vs', d, ds', p, q, rfl, rfl, rfl, h0, r0⟩ := trodAll_cons h
    have k1 := Below.trod fr_laid (hr t (by simp)).1 (hr t (by simp)).2 h0 hb (fun x hx => hl x (List.mem_append.2 (.inl hx)))
    have k2 := fr_args hb ts vs' ds' q (fun t' ht' => hr t' (by simp [ht'])) (fun x hx => hl x (List.mem_append.2 (.inr hx))) r0
    exact trodAll_cons_mk k1 k2
end Go.Proofs.YtllkiadedaghoaaGreatDoor
set_option linter.unusedVariables false
set_option linter.unusedSimpArgs false
namespace Go.Proofs.YtllkiadedaghoaaGreatDoor
open Go.RowKit
theorem Rows.laid_powZ : (Rows.laid_internal_strconv_uint64pow10 : DataW Unit) = Lib.tabData .u64 Lib.pow10Tab := by kernel_rfl
theorem tab_ofZ {W : World} {L : List (String × DataW Unit)} (h : laidMetH Tryz.prog L W) (e0 : (L.filter fun x => x.1 == "internal/strconv.uint64pow10") = [("internal/strconv.uint64pow10", Rows.laid_internal_strconv_uint64pow10)]) : Tab W := by
  have h1 := laidMetH.filter (fun x => x.1 == "internal/strconv.uint64pow10") h
  rw [e0, Rows.laid_powZ, MakeChecks.laidMetH_plain _ _ _ (by kernel_rfl)] at h1
  exact Lib.tabIs_of_head (g := 1) (by kernel_rfl) (by kernel_rfl) Tryz.underlying180 Tryz.underlying156 (by kernel_rfl) (by kernel_rfl) h1
theorem tab_of_laid {W : World} (h : laidMetH Tryz.prog Rows.alarmsOrderRow.laid W) : Tab W := tab_ofZ h rfl
end Go.Proofs.YtllkiadedaghoaaGreatDoor
