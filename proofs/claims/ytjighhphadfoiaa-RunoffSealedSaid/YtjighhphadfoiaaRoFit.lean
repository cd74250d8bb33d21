/-
  Law 25's arguments, opened: classes, records, inflows.
-/
import Derived.Test.YtjighhphadfoiaaFitB
import Derived.Test.YtjighhphadfoiaaRoE
set_option linter.unusedVariables false
set_option linter.unusedSimpArgs false
namespace Go.Proofs.Ytjighhphadfoiaa
open Go.RowKit Go.ChangeShapes Go.WideShapes Go.Deep
def tClass : Ty := .p .str (.p .int (.p .int (.p .int (.p .int .u))))
def tSer : Ty := .p .int (.p .int (.p (.sl .int) .u))
def tInflow : Ty := .p .str (.p (.sl .int) .u)
theorem is_int : Is Try.prog 3 .int := .int Try.underlying3
theorem is_str : Is Try.prog 9 .str := .str Try.underlying9
theorem is_ints : Is Try.prog 23 (.sl .int) := .sl Try.underlying23 (by kernel_rfl) (by decide) is_int
theorem is_class : Is Try.prog 37 tClass := .st Try.underlying37 (by kernel_rfl) (.cons rfl (by kernel_rfl) is_str (.cons rfl (by kernel_rfl) is_int (.cons rfl (by kernel_rfl) is_int (.cons rfl (by kernel_rfl) is_int (.cons rfl (by kernel_rfl) is_int .nil)))))
theorem is_classes : Is Try.prog 22 (.sl tClass) := .sl Try.underlying22 (by kernel_rfl) (by decide) is_class
theorem is_series : Is Try.prog 25 tSer := .st Try.underlying25 (by kernel_rfl) (.cons rfl (by kernel_rfl) is_int (.cons rfl (by kernel_rfl) is_int (.cons rfl (by kernel_rfl) is_ints .nil)))
theorem is_inflow : Is Try.prog 48 tInflow := .st Try.underlying48 (by kernel_rfl) (.cons rfl (by kernel_rfl) is_str (.cons rfl (by kernel_rfl) is_ints .nil))
theorem is_inflows : Is Try.prog 45 (.sl tInflow) := .sl Try.underlying45 (by kernel_rfl) (by decide) is_inflow
theorem agg_eq {cs : Array Value} {l : List Value} (h : cs.toList = l) : Value.agg cs = .agg l.toArray := by subst h; simp
namespace Ba
theorem sli_of {w : World} {cs : List Value} (h : Fits w (.sl .int) cs) : ∃ s : SlI, cs = [.slice s.A s.n s.c] ∧ s.At w := by
  obtain ⟨A, n, c, rfl, h1, h2, b, o, h3, h4⟩ := h
  obtain ⟨D, hD⟩ := pick (α := Int) (P := fun i d => w.cell? ⟨b, o + i, none⟩ = some (.int .i64 d) ∧ i64 d) (n := n) fun i hi => by
    obtain ⟨es, -, hc, hf⟩ := h4 i hi
    simp only [Fits] at hf
    obtain ⟨x, rfl, hx1, hx2⟩ := hf
    have := hc 0 _ rfl
    simp only [Ty.size, Nat.mul_one, Nat.add_zero] at this
    exact ⟨x, this, hx1, hx2⟩
  exact ⟨⟨A, n, c, b, o, D⟩, rfl, ⟨h3, h1, h2, hD⟩⟩
instance : Nonempty SlI := ⟨⟨none, 0, 0, 0, 0, fun _ => 0⟩⟩
instance : Nonempty Class := ⟨⟨⟨#[]⟩, 0, 0, 0, 0⟩⟩
instance : Nonempty Inflow := ⟨⟨⟨#[]⟩, ⟨none, 0, 0, 0, 0, fun _ => 0⟩⟩⟩
theorem class_of {w : World} {cs : List Value} (h : Fits w tClass cs) : ∃ d : Class, cs = [.string d.nm, .int .i64 d.se, .int .i64 d.we, .int .i64 d.ro, .int .i64 d.dr] ∧ d.Ok w := by
  unfold tClass at h
  obtain ⟨_, _, rfl, ⟨nm, rfl, hnm⟩, _, _, rfl, ⟨a, rfl, ha⟩, _, _, rfl, ⟨b, rfl, hb⟩, _, _, rfl, ⟨c, rfl, hc⟩, _, _, rfl, ⟨e, rfl, he⟩, rfl⟩ := h
  exact ⟨⟨nm, a, b, c, e⟩, rfl, ha, hb, hc, he, hnm⟩
theorem inflow_of {w : World} {cs : List Value} (h : Fits w tInflow cs) : ∃ d : Inflow, cs = [.string d.nm, .slice d.vs.A d.vs.n d.vs.c] ∧ d.Ok w := by
  unfold tInflow at h
  obtain ⟨_, _, rfl, ⟨nm, rfl, hnm⟩, _, _, rfl, hs, rfl⟩ := h
  obtain ⟨s, rfl, hs'⟩ := sli_of hs
  exact ⟨⟨nm, s⟩, rfl, hnm, hs'⟩
theorem slclass_of {w : World} {cs : List Value} (h : Fits w (.sl tClass) cs) : ∃ s : SlClass, cs = [.slice s.A s.n s.c] ∧ s.At w := by
  obtain ⟨A, n, c, rfl, h1, h2, b, o, h3, h4⟩ := h
  obtain ⟨D, hD⟩ := pick (α := Class) (P := fun i d => d.Cells w b (o + i * 5) ∧ d.Ok w) (n := n) fun i hi => by
    obtain ⟨es, -, hc, hf⟩ := h4 i hi
    obtain ⟨d, rfl, hd'⟩ := class_of hf
    exact ⟨d, ⟨hc 0 _ rfl, hc 1 _ rfl, hc 2 _ rfl, hc 3 _ rfl, hc 4 _ rfl⟩, hd'⟩
  exact ⟨⟨A, n, c, b, o, D⟩, rfl, ⟨h3, h1, h2, hD⟩⟩
theorem slinflow_of {w : World} {cs : List Value} (h : Fits w (.sl tInflow) cs) : ∃ s : SlInflow, cs = [.slice s.A s.n s.c] ∧ s.At w := by
  obtain ⟨A, n, c, rfl, h1, h2, b, o, h3, h4⟩ := h
  obtain ⟨D, hD⟩ := pick (α := Inflow) (P := fun i d => d.Cells w b (o + i * 2) ∧ d.Ok w) (n := n) fun i hi => by
    obtain ⟨es, -, hc, hf⟩ := h4 i hi
    obtain ⟨d, rfl, hd'⟩ := inflow_of hf
    exact ⟨d, ⟨hc 0 _ rfl, hc 1 _ rfl⟩, hd'⟩
  exact ⟨⟨A, n, c, b, o, D⟩, rfl, ⟨h3, h1, h2, hD⟩⟩
theorem ser_of {w : World} {cs : Array Value} (h : Fits w tSer cs.toList) : ∃ s : Ser, .agg cs = s.val ∧ s.Ok w := by
  generalize e : cs.toList = l at h
  unfold tSer at h
  obtain ⟨_, _, rfl, ⟨a, rfl, ha⟩, _, _, rfl, ⟨b, rfl, hb⟩, _, _, rfl, hs, rfl⟩ := h
  obtain ⟨s, rfl, hs'⟩ := sli_of hs
  refine ⟨⟨a, b, s⟩, ?_, ha, hb, hs'⟩
  rw [agg_eq e]
  rfl
theorem inflowv_of {w : World} {cs : Array Value} (h : Fits w tInflow cs.toList) : ∃ d : Inflow, .agg cs = d.val ∧ d.Ok w := by
  generalize e : cs.toList = l at h
  obtain ⟨d, rfl, hd⟩ := inflow_of h
  refine ⟨d, ?_, hd⟩
  rw [agg_eq e]
  rfl
theorem sl_val {A A' : Option Addr} {n n' c c' : Nat} (h : [Value.slice A n c] = [Value.slice A' n' c']) : Value.slice A n c = Value.slice A' n' c' := by simpa using h
end Ba
end Go.Proofs.Ytjighhphadfoiaa
