/-
  Law 22's arguments, opened: gauges, points, records. (Printed by mkfit.py.)
-/
import Derived.Test.YtajhhplgcegodaaGreatDoorFitB
import Derived.Test.YtajhhplgcegodaaGreatDoorArA
set_option linter.unusedVariables false
set_option linter.unusedSimpArgs false
namespace Go.Proofs.YtajhhplgcegodaaGreatDoor
open Go.RowKit Go.ChangeShapes Go.WideShapes Go.Deep
def tSer : Ty := .p .int (.p .int (.p (.sl .int) .u))
def tPoint : Ty := .p .int (.p .int .u)
def tGauge : Ty := .p .str (.p tPoint .u)
theorem is_int : Is Tryz.prog 3 .int := .int Tryz.underlying3
theorem is_str : Is Tryz.prog 9 .str := .str Tryz.underlying9
theorem is_ints : Is Tryz.prog 26 (.sl .int) := .sl Tryz.underlying26 (by kernel_rfl) (by decide) is_int
theorem is_series : Is Tryz.prog 47 tSer := .st Tryz.underlying47 (by kernel_rfl) (.cons rfl (by kernel_rfl) is_int (.cons rfl (by kernel_rfl) is_int (.cons rfl (by kernel_rfl) is_ints .nil)))
theorem is_serieses : Is Tryz.prog 69 (.sl tSer) := .sl Tryz.underlying69 (by kernel_rfl) (by decide) is_series
theorem is_point : Is Tryz.prog 61 tPoint := .st Tryz.underlying61 (by kernel_rfl) (.cons rfl (by kernel_rfl) is_int (.cons rfl (by kernel_rfl) is_int .nil))
theorem is_gauge : Is Tryz.prog 63 tGauge := .st Tryz.underlying63 (by kernel_rfl) (.cons rfl (by kernel_rfl) is_str (.cons rfl (by kernel_rfl) is_point .nil))
theorem is_gauges : Is Tryz.prog 27 (.sl tGauge) := .sl Tryz.underlying27 (by kernel_rfl) (by decide) is_gauge
theorem agg_eq {cs : Array Value} {l : List Value} (h : cs.toList = l) : Value.agg cs = .agg l.toArray := by subst h; simp
namespace Ba
theorem sli_of {w : World} {cs : List Value} (h : Fits w (.sl .int) cs) : ∃ s : SlI, cs = [.slice s.A s.n s.c] ∧ s.At w := by
  obtain ⟨A, n, c, rfl, h1, h2, b, o, h3, h4⟩ := h
  obtain ⟨D, hD⟩ := pick (α := Int) (P := fun i d => w.cell? ⟨b, o + i, none⟩ = some (.int .i64 d) ∧ i64 d) (n := n) fun i hi => by
    obtain ⟨es, -, hc, hf⟩ := h4 i hi
    simp only [Fits] at hf
    obtain ⟨x, rfl, hx1, hx2⟩ := hf
    have := hc 0 _ rfl
    simp only [Ty.size, Nat.mul_one, Nat.add_zero] at this
    exact ⟨x, this, hx1, hx2⟩
  exact ⟨⟨A, n, c, b, o, D⟩, rfl, ⟨h3, h1, h2, hD⟩⟩
instance : Nonempty SlI := ⟨⟨none, 0, 0, 0, 0, fun _ => 0⟩⟩
instance : Nonempty Gauge := ⟨⟨⟨#[]⟩, 0, 0⟩⟩
instance : Nonempty Ser := ⟨⟨0, 0, ⟨none, 0, 0, 0, 0, fun _ => 0⟩⟩⟩
theorem serl_of {w : World} {cs : List Value} (h : Fits w tSer cs) : ∃ s : Ser, cs = [.int .i64 s.fr, .int .i64 s.st, .slice s.ds.A s.ds.n s.ds.c] ∧ s.Ok w := by
  unfold tSer at h
  obtain ⟨_, _, rfl, ⟨a, rfl, ha⟩, _, _, rfl, ⟨b, rfl, hb⟩, _, _, rfl, hs, rfl⟩ := h
  obtain ⟨s, rfl, hs'⟩ := sli_of hs
  exact ⟨⟨a, b, s⟩, rfl, ha, hb, hs'⟩
theorem ser_of {w : World} {cs : Array Value} (h : Fits w tSer cs.toList) : ∃ s : Ser, Value.agg cs = s.val ∧ s.Ok w := by
  generalize e : cs.toList = l at h
  obtain ⟨s, rfl, hs⟩ := serl_of h
  exact ⟨s, by rw [agg_eq e]; rfl, hs⟩
theorem gauge_of {w : World} {cs : List Value} (h : Fits w tGauge cs) : ∃ d : Gauge, cs = [.string d.nm, .int .i64 d.x, .int .i64 d.y] ∧ d.Ok w := by
  unfold tGauge tPoint at h
  obtain ⟨_, _, rfl, ⟨nm, rfl, hnm⟩, _, _, rfl, ⟨_, _, rfl, ⟨a, rfl, ha⟩, _, _, rfl, ⟨b, rfl, hb⟩, rfl⟩, rfl⟩ := h
  exact ⟨⟨nm, a, b⟩, rfl, ha, hb, hnm⟩
theorem point_of {w : World} {cs : Array Value} (h : Fits w tPoint cs.toList) : ∃ x y : Int, Value.agg cs = .agg #[.int .i64 x, .int .i64 y] ∧ i64 x ∧ i64 y := by
  generalize e : cs.toList = l at h
  unfold tPoint at h
  obtain ⟨_, _, rfl, ⟨a, rfl, ha⟩, _, _, rfl, ⟨b, rfl, hb⟩, rfl⟩ := h
  exact ⟨a, b, by rw [agg_eq e]; rfl, ha, hb⟩
theorem slgauge_of {w : World} {cs : List Value} (h : Fits w (.sl tGauge) cs) : ∃ s : SlGauge, cs = [.slice s.A s.n s.c] ∧ s.At w := by
  obtain ⟨A, n, c, rfl, h1, h2, b, o, h3, h4⟩ := h
  obtain ⟨D, hD⟩ := pick (α := Gauge) (P := fun i d => d.Cells w b (o + i * 3) ∧ d.Ok w) (n := n) fun i hi => by
    obtain ⟨es, -, hc, hf⟩ := h4 i hi
    obtain ⟨d, rfl, hd'⟩ := gauge_of hf
    exact ⟨d, ⟨hc 0 _ rfl, hc 1 _ rfl, hc 2 _ rfl⟩, hd'⟩
  exact ⟨⟨A, n, c, b, o, D⟩, rfl, ⟨h3, h1, h2, hD⟩⟩
theorem slser_of {w : World} {cs : List Value} (h : Fits w (.sl tSer) cs) : ∃ s : SlSer, cs = [.slice s.A s.n s.c] ∧ s.At w := by
  obtain ⟨A, n, c, rfl, h1, h2, b, o, h3, h4⟩ := h
  obtain ⟨D, hD⟩ := pick (α := Ser) (P := fun i d => d.Cells w b (o + i * 3) ∧ d.Ok w) (n := n) fun i hi => by
    obtain ⟨es, -, hc, hf⟩ := h4 i hi
    obtain ⟨d, rfl, hd'⟩ := serl_of hf
    exact ⟨d, ⟨hc 0 _ rfl, hc 1 _ rfl, hc 2 _ rfl⟩, hd'⟩
  exact ⟨⟨A, n, c, b, o, D⟩, rfl, ⟨h3, h1, h2, hD⟩⟩
theorem sl_val {A A' : Option Addr} {n n' c c' : Nat} (h : [Value.slice A n c] = [Value.slice A' n' c']) : Value.slice A n c = Value.slice A' n' c' := by simpa using h
end Ba
end Go.Proofs.YtajhhplgcegodaaGreatDoor
