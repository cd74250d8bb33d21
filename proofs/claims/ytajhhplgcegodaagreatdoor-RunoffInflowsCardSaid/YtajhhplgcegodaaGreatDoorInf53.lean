/-
  Arguments opened: structs and slices.
  Law 9's arguments, opened: surfaces. (Printed by mkfit.py.)
  Law 25's arguments, opened: classes, ints, names, unit hydrographs, a record. (Picked out of RoFit; rows of rows are new.)
  The frame that all laws of this seat share: a call that returns true, and in whose world all that was there is as it was, meets a law's row.
-/
import Derived.Test.YtajhhplgcegodaaGreatDoorInf52
import Derived.Test.YtajhhplgcegodaaGreatDoorInf07
import Derived.Test.YtajhhplgcegodaaGreatDoorInf22
import Derived.Test.YtajhhplgcegodaaGreatDoorInf01
import Derived.Lib.SmallJoins
import Derived.ProofKit
import Derived.OpenShut
import Derived.LaidMore
import Derived.Lay
import Derived.SevenTiedAt
import Derived.Stop.Joined
set_option linter.unusedVariables false
set_option linter.unusedSimpArgs false
namespace Go.Proofs.YtajhhplgcegodaaGreatDoor
open Go.RowKit Go.ChangeShapes Go.WideShapes Go.Deep
theorem pick {α : Type} [Nonempty α] {P : Nat → α → Prop} {n : Nat} (h : ∀ i, i < n → ∃ d, P i d) : ∃ D : Nat → α, ∀ i, i < n → P i (D i) := by
  refine ⟨fun i => if hi : i < n then (h i hi).choose else Classical.choice inferInstance, fun i hi => ?_⟩
  simp only [dif_pos hi]
  exact (h i hi).choose_spec
section
variable {H : Type} {enc : TypeId × Value → H} {P : Program} {w : World} {base : Nat} {spare : Nat → Bool} {held : Bool} {r : Reach} {b0 : Nat}
theorem fit_struct {t : TypeId} {x : Ty} {fs : Array Field} {v : Value} {d : DataW H} {p : List MemPlace} (hI : Is P t x) (ht : P.underlying t = some (.struct fs)) (hv : Value.okWide P w r b0 t v) (h : DataW.Trod enc P w base spare held t v d p) : ∃ cs : Array Value, v = .agg cs ∧ Fits w x cs.toList := by
  obtain ⟨cs, rfl, -⟩ := okWide_struct ht hv
  obtain ⟨fuel, hf⟩ := h
  exact ⟨cs, rfl, fits_of hI hf⟩
theorem fit_slice {t e : TypeId} {x : Ty} {v : Value} {d : DataW H} {p : List MemPlace} (hI : Is P t (.sl x)) (ht : P.underlying t = some (.slice e)) (hv : Value.okWide P w r b0 t v) (h : DataW.Trod enc P w base spare held t v d p) : ∃ (A : Option Addr) (n c : Nat), v = .slice A n c ∧ Fits w (.sl x) [.slice A n c] := by
  have hs : ∃ A n c, v = .slice A n c := by
    unfold Value.okWide at hv
    rw [ht] at hv
    simp only [Cell.okWide, Cell.ok, ht] at hv
    split at hv
    all_goals first
      | exact ⟨_, _, _, rfl⟩
      | (split at hv <;> first | exact ⟨_, _, _, rfl⟩ | (exfalso; exact hv) | simp_all)
      | simp_all
  obtain ⟨A, n, c, rfl⟩ := hs
  obtain ⟨fuel, hf⟩ := h
  exact ⟨A, n, c, rfl, fits_of hI hf⟩
end
end Go.Proofs.YtajhhplgcegodaaGreatDoor
set_option linter.unusedVariables false
set_option linter.unusedSimpArgs false
namespace Go.Proofs.YtajhhplgcegodaaGreatDoor
open Go.RowKit Go.ChangeShapes Go.WideShapes Go.Deep
def tSpot : Ty := .p .int (.p .int (.p .int .u))
def tFace : Ty := .p .int (.p .int (.p .int (.p .int .u)))
def tMesh : Ty := .p (.sl tSpot) (.p (.sl tFace) .u)
theorem is_int : Is Tryz.prog 3 .int := .int Tryz.underlying3
theorem is_spot : Is Tryz.prog 77 tSpot := .st Tryz.underlying77 (by kernel_rfl) (.cons rfl (by kernel_rfl) is_int (.cons rfl (by kernel_rfl) is_int (.cons rfl (by kernel_rfl) is_int .nil)))
theorem is_face : Is Tryz.prog 74 tFace := .st Tryz.underlying74 (by kernel_rfl) (.cons rfl (by kernel_rfl) is_int (.cons rfl (by kernel_rfl) is_int (.cons rfl (by kernel_rfl) is_int (.cons rfl (by kernel_rfl) is_int .nil))))
theorem is_spots : Is Tryz.prog 22 (.sl tSpot) := .sl Tryz.underlying22 (by kernel_rfl) (by decide) is_spot
theorem is_faces : Is Tryz.prog 23 (.sl tFace) := .sl Tryz.underlying23 (by kernel_rfl) (by decide) is_face
theorem is_mesh : Is Tryz.prog 25 tMesh := .st Tryz.underlying25 (by kernel_rfl) (.cons rfl (by kernel_rfl) is_spots (.cons rfl (by kernel_rfl) is_faces .nil))
theorem agg_eq {cs : Array Value} {l : List Value} (h : cs.toList = l) : Value.agg cs = .agg l.toArray := by subst h; simp
namespace Ba
instance : Nonempty Spot := ⟨⟨0, 0, 0⟩⟩
instance : Nonempty Face := ⟨⟨0, 0, 0, 0⟩⟩
theorem spot_of {w : World} {cs : List Value} (h : Fits w tSpot cs) : ∃ d : Spot, cs = [.int .i64 d.x, .int .i64 d.y, .int .i64 d.z] ∧ d.Ok w := by
  unfold tSpot at h
  obtain ⟨_, _, rfl, ⟨a, rfl, ha⟩, _, _, rfl, ⟨b, rfl, hb⟩, _, _, rfl, ⟨c, rfl, hc⟩, rfl⟩ := h
  exact ⟨⟨a, b, c⟩, rfl, ha, hb, hc⟩
theorem face_of {w : World} {cs : List Value} (h : Fits w tFace cs) : ∃ d : Face, cs = [.int .i64 d.a, .int .i64 d.b, .int .i64 d.c, .int .i64 d.k] ∧ d.Ok w := by
  unfold tFace at h
  obtain ⟨_, _, rfl, ⟨a, rfl, ha⟩, _, _, rfl, ⟨b, rfl, hb⟩, _, _, rfl, ⟨c, rfl, hc⟩, _, _, rfl, ⟨k, rfl, hk⟩, rfl⟩ := h
  exact ⟨⟨a, b, c, k⟩, rfl, ha, hb, hc, hk⟩
theorem slspot_of {w : World} {cs : List Value} (h : Fits w (.sl tSpot) cs) : ∃ s : SlSpot, cs = [.slice s.A s.n s.c] ∧ s.At w := by
  obtain ⟨A, n, c, rfl, h1, h2, b, o, h3, h4⟩ := h
  obtain ⟨D, hD⟩ := pick (α := Spot) (P := fun i d => d.Cells w b (o + i * 3) ∧ d.Ok w) (n := n) fun i hi => by
    obtain ⟨es, -, hc, hf⟩ := h4 i hi
    obtain ⟨d, rfl, hd'⟩ := spot_of hf
    exact ⟨d, ⟨hc 0 _ rfl, hc 1 _ rfl, hc 2 _ rfl⟩, hd'⟩
  exact ⟨⟨A, n, c, b, o, D⟩, rfl, ⟨h3, h1, h2, hD⟩⟩
theorem slface_of {w : World} {cs : List Value} (h : Fits w (.sl tFace) cs) : ∃ s : SlFace, cs = [.slice s.A s.n s.c] ∧ s.At w := by
  obtain ⟨A, n, c, rfl, h1, h2, b, o, h3, h4⟩ := h
  obtain ⟨D, hD⟩ := pick (α := Face) (P := fun i d => d.Cells w b (o + i * 4) ∧ d.Ok w) (n := n) fun i hi => by
    obtain ⟨es, -, hc, hf⟩ := h4 i hi
    obtain ⟨d, rfl, hd'⟩ := face_of hf
    exact ⟨d, ⟨hc 0 _ rfl, hc 1 _ rfl, hc 2 _ rfl, hc 3 _ rfl⟩, hd'⟩
  exact ⟨⟨A, n, c, b, o, D⟩, rfl, ⟨h3, h1, h2, hD⟩⟩
theorem meshv_of {w : World} {cs : Array Value} (h : Fits w tMesh cs.toList) : ∃ (S : SlSpot) (F : SlFace), Value.agg cs = (Ms.Mesh.mk S F).val ∧ S.At w ∧ F.At w := by
  generalize e : cs.toList = l at h
  unfold tMesh at h
  obtain ⟨_, _, rfl, h1, _, _, rfl, h2, rfl⟩ := h
  obtain ⟨S, rfl, hS⟩ := slspot_of h1
  obtain ⟨F, rfl, hF⟩ := slface_of h2
  exact ⟨S, F, by rw [agg_eq e]; rfl, hS, hF⟩
theorem sl_val {A A' : Option Addr} {n n' c c' : Nat} (h : [Value.slice A n c] = [Value.slice A' n' c']) : Value.slice A n c = Value.slice A' n' c' := by simpa using h
end Ba
end Go.Proofs.YtajhhplgcegodaaGreatDoor
set_option linter.unusedVariables false
set_option linter.unusedSimpArgs false
namespace Go.Proofs.YtajhhplgcegodaaGreatDoor
open Go.RowKit Go.ChangeShapes Go.WideShapes Go.Deep
def tClass : Ty := .p .str (.p .int (.p .int (.p .int (.p .int .u))))
def tSer : Ty := .p .int (.p .int (.p (.sl .int) .u))
theorem is_str : Is Tryz.prog 9 .str := .str Tryz.underlying9
theorem is_ints : Is Tryz.prog 26 (.sl .int) := .sl Tryz.underlying26 (by kernel_rfl) (by decide) is_int
theorem is_class : Is Tryz.prog 89 tClass := .st Tryz.underlying89 (by kernel_rfl) (.cons rfl (by kernel_rfl) is_str (.cons rfl (by kernel_rfl) is_int (.cons rfl (by kernel_rfl) is_int (.cons rfl (by kernel_rfl) is_int (.cons rfl (by kernel_rfl) is_int .nil)))))
theorem is_classes : Is Tryz.prog 44 (.sl tClass) := .sl Tryz.underlying44 (by kernel_rfl) (by decide) is_class
theorem is_series : Is Tryz.prog 47 tSer := .st Tryz.underlying47 (by kernel_rfl) (.cons rfl (by kernel_rfl) is_int (.cons rfl (by kernel_rfl) is_int (.cons rfl (by kernel_rfl) is_ints .nil)))
theorem is_strs : Is Tryz.prog 45 (.sl .str) := .sl Tryz.underlying45 (by kernel_rfl) (by decide) is_str
theorem is_units : Is Tryz.prog 40 (.sl (.sl .int)) := .sl Tryz.underlying40 (by kernel_rfl) (by decide) is_ints
namespace Ba
theorem sli_of {w : World} {cs : List Value} (h : Fits w (.sl .int) cs) : ∃ s : SlI, cs = [.slice s.A s.n s.c] ∧ s.At w := by
  obtain ⟨A, n, c, rfl, h1, h2, b, o, h3, h4⟩ := h
  obtain ⟨D, hD⟩ := pick (α := Int) (P := fun i d => w.cell? ⟨b, o + i, none⟩ = some (.int .i64 d) ∧ i64 d) (n := n) fun i hi => by
    obtain ⟨es, -, hc, hf⟩ := h4 i hi
    simp only [Fits] at hf
    obtain ⟨x, rfl, hx1, hx2⟩ := hf
    have := hc 0 _ rfl
    simp only [Ty.size, Nat.mul_one, Nat.add_zero] at this
    exact ⟨x, this, hx1, hx2⟩
  exact ⟨⟨A, n, c, b, o, D⟩, rfl, ⟨h3, h1, h2, hD⟩⟩
instance : Nonempty SlI := ⟨⟨none, 0, 0, 0, 0, fun _ => 0⟩⟩
instance : Nonempty Class := ⟨⟨⟨#[]⟩, 0, 0, 0, 0⟩⟩
instance : Nonempty ByteArray := ⟨⟨#[]⟩⟩
theorem class_of {w : World} {cs : List Value} (h : Fits w tClass cs) : ∃ d : Class, cs = [.string d.nm, .int .i64 d.se, .int .i64 d.we, .int .i64 d.ro, .int .i64 d.dr] ∧ d.Ok w := by
  unfold tClass at h
  obtain ⟨_, _, rfl, ⟨nm, rfl, hnm⟩, _, _, rfl, ⟨a, rfl, ha⟩, _, _, rfl, ⟨b, rfl, hb⟩, _, _, rfl, ⟨c, rfl, hc⟩, _, _, rfl, ⟨e, rfl, he⟩, rfl⟩ := h
  exact ⟨⟨nm, a, b, c, e⟩, rfl, ha, hb, hc, he, hnm⟩
theorem slclass_of {w : World} {cs : List Value} (h : Fits w (.sl tClass) cs) : ∃ s : SlClass, cs = [.slice s.A s.n s.c] ∧ s.At w := by
  obtain ⟨A, n, c, rfl, h1, h2, b, o, h3, h4⟩ := h
  obtain ⟨D, hD⟩ := pick (α := Class) (P := fun i d => d.Cells w b (o + i * 5) ∧ d.Ok w) (n := n) fun i hi => by
    obtain ⟨es, -, hc, hf⟩ := h4 i hi
    obtain ⟨d, rfl, hd'⟩ := class_of hf
    exact ⟨d, ⟨hc 0 _ rfl, hc 1 _ rfl, hc 2 _ rfl, hc 3 _ rfl, hc 4 _ rfl⟩, hd'⟩
  exact ⟨⟨A, n, c, b, o, D⟩, rfl, ⟨h3, h1, h2, hD⟩⟩
theorem ser_of {w : World} {cs : Array Value} (h : Fits w tSer cs.toList) : ∃ s : Ser, .agg cs = s.val ∧ s.Ok w := by
  generalize e : cs.toList = l at h
  unfold tSer at h
  obtain ⟨_, _, rfl, ⟨a, rfl, ha⟩, _, _, rfl, ⟨b, rfl, hb⟩, _, _, rfl, hs, rfl⟩ := h
  obtain ⟨s, rfl, hs'⟩ := sli_of hs
  refine ⟨⟨a, b, s⟩, ?_, ha, hb, hs'⟩
  rw [agg_eq e]
  rfl
theorem slu_of {w : World} {cs : List Value} (h : Fits w (.sl (.sl .int)) cs) : ∃ s : SlU, cs = [.slice s.A s.n s.c] ∧ s.At w := by
  obtain ⟨A, n, c, rfl, h1, h2, b, o, h3, h4⟩ := h
  obtain ⟨D, hD⟩ := pick (α := SlI) (P := fun i d => w.cell? ⟨b, o + i, none⟩ = some (.slice d.A d.n d.c) ∧ d.At w) (n := n) fun i hi => by
    obtain ⟨es, -, hc, hf⟩ := h4 i hi
    obtain ⟨d, rfl, hd'⟩ := sli_of hf
    have := hc 0 _ rfl
    simp only [Ty.size, Nat.mul_one, Nat.add_zero] at this
    exact ⟨d, this, hd'⟩
  exact ⟨⟨A, n, c, b, o, D⟩, rfl, ⟨h3, h1, h2, hD⟩⟩
theorem sls_of {w : World} {cs : List Value} (h : Fits w (.sl .str) cs) : ∃ s : SlS, cs = [.slice s.A s.n s.c] ∧ s.At w := by
  obtain ⟨A, n, c, rfl, h1, h2, b, o, h3, h4⟩ := h
  obtain ⟨D, hD⟩ := pick (α := ByteArray) (P := fun i d => w.cell? ⟨b, o + i, none⟩ = some (.string d) ∧ d.size ≤ 9223372036854775807) (n := n) fun i hi => by
    obtain ⟨es, -, hc, hf⟩ := h4 i hi
    simp only [Fits] at hf
    obtain ⟨x, rfl, hx⟩ := hf
    have := hc 0 _ rfl
    simp only [Ty.size, Nat.mul_one, Nat.add_zero] at this
    exact ⟨x, this, hx⟩
  exact ⟨⟨A, n, c, b, o, D⟩, rfl, ⟨h3, h1, h2, hD⟩⟩
end Ba
end Go.Proofs.YtajhhplgcegodaaGreatDoor
set_option linter.unusedVariables false
set_option linter.unusedSimpArgs false
namespace Go.Proofs.YtajhhplgcegodaaGreatDoor
open Go.ChangeShapes Go.WideShapes Go.ChangeAt Go.RowKit
theorem fr_own : ownKnob Tryz.prog.godebug = none := by kernel_rfl
theorem fr_laid : laidOutB Tryz.prog = true := by kernel_rfl
/-- All arguments read behind the call as before. -/
theorem fr_args {H : Type} {enc : TypeId × Value → H} {W W' : World} (hb : Below W.heap.size W W') : ∀ (ts : List TypeId) (vs : List Value) (ds : List (DataW H)) (ps : List MemPlace),
    (∀ t ∈ ts, Tryz.prog.readableRec t = true ∧ t < Tryz.prog.types.size) → (∀ x ∈ ps, x.block < W.heap.size) →
    DataW.TrodAll enc Tryz.prog W 0 (fun _ => true) true ts vs ds ps → DataW.TrodAll enc Tryz.prog W' 0 (fun b => decide (b < W.heap.size)) true ts vs ds ps
  | [], [], [], [], _, _, h => h
  | [], [], [], _ :: _, _, _, h => by cases h
  | [], [], _ :: _, _, _, _, h => by cases h
  | [], _ :: _, _, _, _, _, h => by cases h
  | t :: ts, vs, ds, ps, hr, hl, h => by
    obtain ⟨v, vs', d, ds', p, q, rfl, rfl, rfl, h0, r0⟩ := trodAll_cons h
    have k1 := Below.trod fr_laid (hr t (by simp)).1 (hr t (by simp)).2 h0 hb (fun x hx => hl x (List.mem_append.2 (.inl hx)))
    have k2 := fr_args hb ts vs' ds' q (fun t' ht' => hr t' (by simp [ht'])) (fun x hx => hl x (List.mem_append.2 (.inr hx))) r0
    exact trodAll_cons_mk k1 k2
end Go.Proofs.YtajhhplgcegodaaGreatDoor
