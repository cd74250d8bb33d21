/-
  Law 9's arguments, opened: surfaces. (Printed by mkfit.py.)
-/
import Derived.Test.YtajhhplgcegodaaGreatDoorArFit
import Derived.Test.YtajhhplgcegodaaGreatDoorZmA
set_option linter.unusedVariables false
set_option linter.unusedSimpArgs false
namespace Go.Proofs.YtajhhplgcegodaaGreatDoor
open Go.RowKit Go.ChangeShapes Go.WideShapes Go.Deep
def tSpot : Ty := .p .int (.p .int (.p .int .u))
def tFace : Ty := .p .int (.p .int (.p .int (.p .int .u)))
def tMesh : Ty := .p (.sl tSpot) (.p (.sl tFace) .u)
theorem is_spot : Is Tryz.prog 77 tSpot := .st Tryz.underlying77 (by kernel_rfl) (.cons rfl (by kernel_rfl) is_int (.cons rfl (by kernel_rfl) is_int (.cons rfl (by kernel_rfl) is_int .nil)))
theorem is_face : Is Tryz.prog 74 tFace := .st Tryz.underlying74 (by kernel_rfl) (.cons rfl (by kernel_rfl) is_int (.cons rfl (by kernel_rfl) is_int (.cons rfl (by kernel_rfl) is_int (.cons rfl (by kernel_rfl) is_int .nil))))
theorem is_spots : Is Tryz.prog 22 (.sl tSpot) := .sl Tryz.underlying22 (by kernel_rfl) (by decide) is_spot
theorem is_faces : Is Tryz.prog 23 (.sl tFace) := .sl Tryz.underlying23 (by kernel_rfl) (by decide) is_face
theorem is_mesh : Is Tryz.prog 25 tMesh := .st Tryz.underlying25 (by kernel_rfl) (.cons rfl (by kernel_rfl) is_spots (.cons rfl (by kernel_rfl) is_faces .nil))
namespace Ba
instance : Nonempty Spot := ⟨⟨0, 0, 0⟩⟩
instance : Nonempty Face := ⟨⟨0, 0, 0, 0⟩⟩
theorem spot_of {w : World} {cs : List Value} (h : Fits w tSpot cs) : ∃ d : Spot, cs = [.int .i64 d.x, .int .i64 d.y, .int .i64 d.z] ∧ d.Ok w := by
  unfold tSpot at h
  obtain ⟨_, _, rfl, ⟨a, rfl, ha⟩, _, _, rfl, ⟨b, rfl, hb⟩, _, _, rfl, ⟨c, rfl, hc⟩, rfl⟩ := h
  exact ⟨⟨a, b, c⟩, rfl, ha, hb, hc⟩
theorem face_of {w : World} {cs : List Value} (h : Fits w tFace cs) : ∃ d : Face, cs = [.int .i64 d.a, .int .i64 d.b, .int .i64 d.c, .int .i64 d.k] ∧ d.Ok w := by
  unfold tFace at h
  obtain ⟨_, _, rfl, ⟨a, rfl, ha⟩, _, _, rfl, ⟨b, rfl, hb⟩, _, _, rfl, ⟨c, rfl, hc⟩, _, _, rfl, ⟨k, rfl, hk⟩, rfl⟩ := h
  exact ⟨⟨a, b, c, k⟩, rfl, ha, hb, hc, hk⟩
theorem slspot_of {w : World} {cs : List Value} (h : Fits w (.sl tSpot) cs) : ∃ s : SlSpot, cs = [.slice s.A s.n s.c] ∧ s.At w := by
  obtain ⟨A, n, c, rfl, h1, h2, b, o, h3, h4⟩ := h
  obtain ⟨D, hD⟩ := pick (α := Spot) (P := fun i d => d.Cells w b (o + i * 3) ∧ d.Ok w) (n := n) fun i hi => by
    obtain ⟨es, -, hc, hf⟩ := h4 i hi
    obtain ⟨d, rfl, hd'⟩ := spot_of hf
    exact ⟨d, ⟨hc 0 _ rfl, hc 1 _ rfl, hc 2 _ rfl⟩, hd'⟩
  exact ⟨⟨A, n, c, b, o, D⟩, rfl, ⟨h3, h1, h2, hD⟩⟩
theorem slface_of {w : World} {cs : List Value} (h : Fits w (.sl tFace) cs) : ∃ s : SlFace, cs = [.slice s.A s.n s.c] ∧ s.At w := by
  obtain ⟨A, n, c, rfl, h1, h2, b, o, h3, h4⟩ := h
  obtain ⟨D, hD⟩ := pick (α := Face) (P := fun i d => d.Cells w b (o + i * 4) ∧ d.Ok w) (n := n) fun i hi => by
    obtain ⟨es, -, hc, hf⟩ := h4 i hi
    obtain ⟨d, rfl, hd'⟩ := face_of hf
    exact ⟨d, ⟨hc 0 _ rfl, hc 1 _ rfl, hc 2 _ rfl, hc 3 _ rfl⟩, hd'⟩
  exact ⟨⟨A, n, c, b, o, D⟩, rfl, ⟨h3, h1, h2, hD⟩⟩
theorem meshv_of {w : World} {cs : Array Value} (h : Fits w tMesh cs.toList) : ∃ (S : SlSpot) (F : SlFace), Value.agg cs = (Ms.Mesh.mk S F).val ∧ S.At w ∧ F.At w := by
  generalize e : cs.toList = l at h
  unfold tMesh at h
  obtain ⟨_, _, rfl, h1, _, _, rfl, h2, rfl⟩ := h
  obtain ⟨S, rfl, hS⟩ := slspot_of h1
  obtain ⟨F, rfl, hF⟩ := slface_of h2
  exact ⟨S, F, by rw [agg_eq e]; rfl, hS, hF⟩
end Ba
end Go.Proofs.YtajhhplgcegodaaGreatDoor
