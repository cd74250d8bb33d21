/-
  Maps whose keys are pairs of ints: sides, and points. No condition.
-/
import Derived.Test.YtajhhplgcegodaaDoorMsD
import Derived.DeepKeys4
import Derived.WalkArith
set_option linter.unusedVariables false
set_option linter.unusedSimpArgs false
namespace Go.Proofs.YtajhhplgcegodaaDoor
open Go.RowKit Go.Maps Go.WideMaps
namespace Ms
/-- A pair of ints. -/
def k2 (a b : Int) : Value := .agg #[.int .i64 a, .int .i64 b]
theorem k2_inj {a b c d : Int} (h : k2 a b = k2 c d) : a = c ∧ b = d := by
  unfold k2 at h
  simpa using h
end Ms
theorem ms_laid : laidOutB Tryd.prog = true := by as_aux_lemma => kernel_rfl
theorem ms_types : ∃ m, Tryd.prog.types.size = m + 1 := ⟨Tryd.prog.types.size - 1, by have : 0 < Tryd.prog.types.size := of_decide_eq_true (by kernel_rfl); omega⟩
theorem keyed_side : Keyed Tryd.prog 48 := Keyed.of_law (deep_law_laid ms_laid (m := 2) (by omega) (of_decide_eq_true (by kernel_rfl)) (by kernel_rfl) (by rw [Tryd.underlying48]))
theorem keyed_point : Keyed Tryd.prog 76 := Keyed.of_law (deep_law_laid ms_laid (m := 2) (by omega) (of_decide_eq_true (by kernel_rfl)) (by kernel_rfl) (by rw [Tryd.underlying76]))
theorem key_side {a b : Int} (ha : Ba.i64 a) (hb : Ba.i64 b) : ∃ l, keyOf Tryd.prog 48 (Ms.k2 a b) = some l := by
  obtain ⟨m, hm⟩ := ms_types
  unfold Ba.i64 at ha hb
  have w1 : (Lit.int .i64 a).wf = true := WalkArith.wf_i64 (by omega)
  have w2 : (Lit.int .i64 b).wf = true := WalkArith.wf_i64 (by omega)
  have c1 : Tryd.prog.cellsOf 48 = 2 := by as_aux_lemma => kernel_rfl
  have c2 : Tryd.prog.cellsOf 3 = 1 := by as_aux_lemma => kernel_rfl
  have kt : Tryd.prog.keyType 48 = true := by as_aux_lemma => kernel_rfl
  unfold keyOf Ms.k2
  rw [Tryd.underlying48]
  simp [kt, Value.formed, Tryd.underlying48, Tryd.underlying3, c1, c2, Value.cells, hm, Program.keyLits, w1, w2, List.range, List.range.loop]
theorem key_point {a b : Int} (ha : Ba.i64 a) (hb : Ba.i64 b) : ∃ l, keyOf Tryd.prog 76 (Ms.k2 a b) = some l := by
  obtain ⟨m, hm⟩ := ms_types
  unfold Ba.i64 at ha hb
  have w1 : (Lit.int .i64 a).wf = true := WalkArith.wf_i64 (by omega)
  have w2 : (Lit.int .i64 b).wf = true := WalkArith.wf_i64 (by omega)
  have c1 : Tryd.prog.cellsOf 76 = 2 := by as_aux_lemma => kernel_rfl
  have c2 : Tryd.prog.cellsOf 3 = 1 := by as_aux_lemma => kernel_rfl
  have kt : Tryd.prog.keyType 76 = true := by as_aux_lemma => kernel_rfl
  have e1 : Tryd.prog.keyLits (m + 1) 3 [.int .i64 a] = some [.int .i64 a] := by unfold Program.keyLits; rw [Tryd.underlying3]; simp only [w1, and_self, if_true]
  have e2 : Tryd.prog.keyLits (m + 1) 3 [.int .i64 b] = some [.int .i64 b] := by unfold Program.keyLits; rw [Tryd.underlying3]; simp only [w2, and_self, if_true]
  obtain ⟨f1, f2, hu, ha, hf1, hf2, ho1, ho2⟩ : ∃ f1 f2 : Field, Tryd.prog.underlying 76 = some (.struct #[f1, f2]) ∧ (#[f1, f2] : Array Field).all (fun x => x.name != "_") = true ∧ f1.type = 3 ∧ f2.type = 3 ∧ f1.offset = 0 ∧ f2.offset = 1 :=
    ⟨_, _, Tryd.underlying76, by as_aux_lemma => kernel_rfl, rfl, rfl, rfl, rfl⟩
  have e3 : Tryd.prog.keyLits (m + 1 + 1) 76 [.int .i64 a, .int .i64 b] = some [.int .i64 a, .int .i64 b] := by
    unfold Program.keyLits
    rw [hu]
    simp only
    rw [if_pos ⟨by rw [c1]; rfl, ha⟩]
    simp [List.mapM_cons, hf1, hf2, ho1, ho2, c2, e1, e2]
  have hfo : (Value.agg #[.int .i64 a, .int .i64 b]).formed Tryd.prog 76 = true := by
    simp [Value.formed, hu, c1]
  unfold keyOf Ms.k2
  rw [hu]
  simp only
  rw [kt, hfo, hm]
  simp only [Bool.and_self, if_true]
  rw [show (Value.agg #[.int .i64 a, .int .i64 b]).cells.toList = [.int .i64 a, .int .i64 b] from rfl, e3]
  exact ⟨_, rfl⟩
end Go.Proofs.YtajhhplgcegodaaDoor
