/-
  Law 36's arguments, opened: networks, states, ledgers, cases, names.
-/
import Derived.Test.YtkgbbcmgfbipaaaGreatDoorSm52
import Derived.Test.YtkgbbcmgfbipaaaGreatDoorSm50

set_option linter.unusedVariables false
set_option linter.unusedSimpArgs false
namespace Go.Proofs.YtkgbbcmgfbipaaaGreatDoor
open Go.RowKit Go.ChangeShapes Go.WideShapes Go.Deep
def tKnot : Ty := .p .int (.p .int .u)
def tNode : Ty := .p .str (.p .int (.p (.p .int (.p .int .u)) (.p .int (.p .int (.p (.sl tKnot) (.p .bool (.p .int .u)))))))
def tLink : Ty := .p .str (.p .str (.p .str (.p .int (.p .int (.p .int (.p .int (.p .str (.p .int (.p .int (.p (.sl tKnot) .u))))))))))
def tNet : Ty := .p (.sl tNode) (.p (.sl tLink) .u)
def tLedger : Ty := .p .int (.p .int (.p (.sl .int) .u))
theorem is_int : Is Tryz.prog 3 .int := .int Tryz.underlying3
theorem is_bool : Is Tryz.prog 4 .bool := .bool Tryz.underlying4
theorem is_str : Is Tryz.prog 9 .str := .str Tryz.underlying9
theorem is_ints : Is Tryz.prog 30 (.sl .int) := .sl Tryz.underlying30 (by kernel_rfl) (by decide) is_int
theorem is_knot : Is Tryz.prog 86 tKnot := .st Tryz.underlying86 (by kernel_rfl) (.cons rfl (by kernel_rfl) is_int (.cons rfl (by kernel_rfl) is_int .nil))
theorem is_point : Is Tryz.prog 60 tKnot := .st Tryz.underlying60 (by kernel_rfl) (.cons rfl (by kernel_rfl) is_int (.cons rfl (by kernel_rfl) is_int .nil))
theorem is_table : Is Tryz.prog 62 (.sl tKnot) := .sl Tryz.underlying62 (by kernel_rfl) (by decide) is_knot
theorem is_node : Is Tryz.prog 64 tNode := .st Tryz.underlying64 (by kernel_rfl) (.cons rfl (by kernel_rfl) is_str (.cons rfl (by kernel_rfl) is_int (.cons rfl (by kernel_rfl) is_point (.cons rfl (by kernel_rfl) is_int (.cons rfl (by kernel_rfl) is_int (.cons rfl (by kernel_rfl) is_table (.cons rfl (by kernel_rfl) is_bool (.cons rfl (by kernel_rfl) is_int .nil))))))))
theorem is_link : Is Tryz.prog 68 tLink := .st Tryz.underlying68 (by kernel_rfl) (.cons rfl (by kernel_rfl) is_str (.cons rfl (by kernel_rfl) is_str (.cons rfl (by kernel_rfl) is_str (.cons rfl (by kernel_rfl) is_int (.cons rfl (by kernel_rfl) is_int (.cons rfl (by kernel_rfl) is_int (.cons rfl (by kernel_rfl) is_int (.cons rfl (by kernel_rfl) is_str (.cons rfl (by kernel_rfl) is_int (.cons rfl (by kernel_rfl) is_int (.cons rfl (by kernel_rfl) is_table .nil)))))))))))
theorem is_nodes : Is Tryz.prog 22 (.sl tNode) := .sl Tryz.underlying22 (by kernel_rfl) (by decide) is_node
theorem is_links : Is Tryz.prog 23 (.sl tLink) := .sl Tryz.underlying23 (by kernel_rfl) (by decide) is_link
theorem is_net : Is Tryz.prog 25 tNet := .st Tryz.underlying25 (by kernel_rfl) (.cons rfl (by kernel_rfl) is_nodes (.cons rfl (by kernel_rfl) is_links .nil))
theorem is_ledger : Is Tryz.prog 32 tLedger := .st Tryz.underlying32 (by kernel_rfl) (.cons rfl (by kernel_rfl) is_int (.cons rfl (by kernel_rfl) is_int (.cons rfl (by kernel_rfl) is_ints .nil)))
theorem is_ledgers : Is Tryz.prog 26 (.sl tLedger) := .sl Tryz.underlying26 (by kernel_rfl) (by decide) is_ledger
theorem agg_eq {cs : Array Value} {l : List Value} (h : cs.toList = l) : Value.agg cs = .agg l.toArray := by subst h; simp
namespace Ba
theorem slk_of {w : World} {cs : List Value} (h : Fits w (.sl tKnot) cs) : ∃ s : SlK, cs = [.slice s.A s.n s.c] ∧ s.At w := by
  obtain ⟨A, n, c, rfl, h1, h2, b, o, h3, h4⟩ := h
  obtain ⟨D, hD⟩ := pick (α := Int × Int) (P := fun i d => (w.cell? ⟨b, o + i * 2, none⟩ = some (.int .i64 d.1) ∧ w.cell? ⟨b, o + i * 2 + 1, none⟩ = some (.int .i64 d.2)) ∧ i64 d.1 ∧ i64 d.2) (n := n) fun i hi => by
    obtain ⟨es, -, hc, hf⟩ := h4 i hi
    simp only [tKnot, Fits] at hf
    obtain ⟨_, _, rfl, ⟨x, rfl, hx1, hx2⟩, _, _, rfl, ⟨y, rfl, hy1, hy2⟩, rfl⟩ := hf
    exact ⟨(x, y), ⟨hc 0 _ rfl, hc 1 _ rfl⟩, ⟨hx1, hx2⟩, hy1, hy2⟩
  exact ⟨⟨A, n, c, b, o, fun i => (D i).1, fun i => (D i).2⟩, rfl, ⟨h3, h1, h2, hD⟩⟩
theorem sli_of {w : World} {cs : List Value} (h : Fits w (.sl .int) cs) : ∃ s : SlI, cs = [.slice s.A s.n s.c] ∧ s.At w := by
  obtain ⟨A, n, c, rfl, h1, h2, b, o, h3, h4⟩ := h
  obtain ⟨D, hD⟩ := pick (α := Int) (P := fun i d => w.cell? ⟨b, o + i, none⟩ = some (.int .i64 d) ∧ i64 d) (n := n) fun i hi => by
    obtain ⟨es, -, hc, hf⟩ := h4 i hi
    simp only [Fits] at hf
    obtain ⟨x, rfl, hx1, hx2⟩ := hf
    have := hc 0 _ rfl
    simp only [Ty.size, Nat.mul_one, Nat.add_zero] at this
    exact ⟨x, this, hx1, hx2⟩
  exact ⟨⟨A, n, c, b, o, D⟩, rfl, ⟨h3, h1, h2, hD⟩⟩
instance : Nonempty SlK := ⟨⟨none, 0, 0, 0, 0, fun _ => 0, fun _ => 0⟩⟩
instance : Nonempty SlI := ⟨⟨none, 0, 0, 0, 0, fun _ => 0⟩⟩
instance : Nonempty Node := ⟨⟨⟨#[]⟩, 0, 0, 0, 0, 0, ⟨none, 0, 0, 0, 0, fun _ => 0, fun _ => 0⟩, false, 0⟩⟩
instance : Nonempty Link := ⟨⟨⟨#[]⟩, ⟨#[]⟩, ⟨#[]⟩, 0, 0, 0, 0, ⟨#[]⟩, 0, 0, ⟨none, 0, 0, 0, 0, fun _ => 0, fun _ => 0⟩⟩⟩
instance : Nonempty Ledger := ⟨⟨0, 0, ⟨none, 0, 0, 0, 0, fun _ => 0⟩⟩⟩
theorem node_of {w : World} {cs : List Value} (h : Fits w tNode cs) : ∃ d : Node, cs = [.string d.nm, .int .i64 d.kd, .int .i64 d.ax, .int .i64 d.ay, .int .i64 d.iv, .int .i64 d.gr, .slice d.sh.A d.sh.n d.sh.c, .bool d.pr, .int .i64 d.rs] ∧ d.Ok w := by
  unfold tNode at h
  obtain ⟨_, _, rfl, ⟨nm, rfl, hnm⟩, _, _, rfl, ⟨kd, rfl, hk⟩, _, _, rfl, ⟨_, _, rfl, ⟨ax, rfl, hx⟩, _, _, rfl, ⟨ay, rfl, hy⟩, rfl⟩, _, _, rfl, ⟨iv, rfl, hi⟩, _, _, rfl, ⟨gr, rfl, hg⟩, _, _, rfl, hs, _, _, rfl, ⟨pr, rfl⟩, _, _, rfl, ⟨rs, rfl, hr⟩, rfl⟩ := h
  obtain ⟨s, rfl, hs'⟩ := slk_of hs
  exact ⟨⟨nm, kd, ax, ay, iv, gr, s, pr, rs⟩, rfl, hk, hx, hy, hi, hg, hr, hnm, hs'⟩
theorem link_of {w : World} {cs : List Value} (h : Fits w tLink cs) : ∃ d : Link, cs = [.string d.nm, .string d.fr, .string d.tt, .int .i64 d.kd, .int .i64 d.ln, .int .i64 d.up, .int .i64 d.dn, .string d.sc, .int .i64 d.wd, .int .i64 d.ht, .slice d.cv.A d.cv.n d.cv.c] ∧ d.Ok w := by
  unfold tLink at h
  obtain ⟨_, _, rfl, ⟨nm, rfl, hnm⟩, _, _, rfl, ⟨fr, rfl, hfr⟩, _, _, rfl, ⟨tt, rfl, htt⟩, _, _, rfl, ⟨kd, rfl, hk⟩, _, _, rfl, ⟨ln, rfl, hl⟩, _, _, rfl, ⟨up, rfl, hu⟩, _, _, rfl, ⟨dn, rfl, hd⟩, _, _, rfl, ⟨sc, rfl, hsc⟩, _, _, rfl, ⟨wd, rfl, hw⟩, _, _, rfl, ⟨ht, rfl, hh⟩, _, _, rfl, hs, rfl⟩ := h
  obtain ⟨s, rfl, hs'⟩ := slk_of hs
  exact ⟨⟨nm, fr, tt, kd, ln, up, dn, sc, wd, ht, s⟩, rfl, hk, hl, hu, hd, hw, hh, hnm, hfr, htt, hsc, hs'⟩
theorem ledger_of {w : World} {cs : List Value} (h : Fits w tLedger cs) : ∃ d : Ledger, cs = [.int .i64 d.inn, .int .i64 d.out, .slice d.ps.A d.ps.n d.ps.c] ∧ d.Ok w := by
  unfold tLedger at h
  obtain ⟨_, _, rfl, ⟨a, rfl, ha⟩, _, _, rfl, ⟨b, rfl, hb⟩, _, _, rfl, hs, rfl⟩ := h
  obtain ⟨s, rfl, hs'⟩ := sli_of hs
  exact ⟨⟨a, b, s⟩, rfl, ha, hb, hs'⟩
theorem slnode_of {w : World} {cs : List Value} (h : Fits w (.sl tNode) cs) : ∃ s : SlNode, cs = [.slice s.A s.n s.c] ∧ s.At w := by
  obtain ⟨A, n, c, rfl, h1, h2, b, o, h3, h4⟩ := h
  obtain ⟨D, hD⟩ := pick (α := Node) (P := fun i d => d.Cells w b (o + i * 9) ∧ d.Ok w) (n := n) fun i hi => by
    obtain ⟨es, -, hc, hf⟩ := h4 i hi
    obtain ⟨d, rfl, hd'⟩ := node_of hf
    exact ⟨d, ⟨hc 0 _ rfl, hc 1 _ rfl, hc 2 _ rfl, hc 3 _ rfl, hc 4 _ rfl, hc 5 _ rfl, hc 6 _ rfl, hc 7 _ rfl, hc 8 _ rfl⟩, hd'⟩
  exact ⟨⟨A, n, c, b, o, D⟩, rfl, ⟨h3, h1, h2, hD⟩⟩
theorem sllink_of {w : World} {cs : List Value} (h : Fits w (.sl tLink) cs) : ∃ s : SlLink, cs = [.slice s.A s.n s.c] ∧ s.At w := by
  obtain ⟨A, n, c, rfl, h1, h2, b, o, h3, h4⟩ := h
  obtain ⟨D, hD⟩ := pick (α := Link) (P := fun i d => d.Cells w b (o + i * 11) ∧ d.Ok w) (n := n) fun i hi => by
    obtain ⟨es, -, hc, hf⟩ := h4 i hi
    obtain ⟨d, rfl, hd'⟩ := link_of hf
    exact ⟨d, ⟨hc 0 _ rfl, hc 1 _ rfl, hc 2 _ rfl, hc 3 _ rfl, hc 4 _ rfl, hc 5 _ rfl, hc 6 _ rfl, hc 7 _ rfl, hc 8 _ rfl, hc 9 _ rfl, hc 10 _ rfl⟩, hd'⟩
  exact ⟨⟨A, n, c, b, o, D⟩, rfl, ⟨h3, h1, h2, hD⟩⟩
theorem slledger_of {w : World} {cs : List Value} (h : Fits w (.sl tLedger) cs) : ∃ s : SlLedger, cs = [.slice s.A s.n s.c] ∧ s.At w := by
  obtain ⟨A, n, c, rfl, h1, h2, b, o, h3, h4⟩ := h
  obtain ⟨D, hD⟩ := pick (α := Ledger) (P := fun i d => d.Cells w b (o + i * 3) ∧ d.Ok w) (n := n) fun i hi => by
    obtain ⟨es, -, hc, hf⟩ := h4 i hi
    obtain ⟨d, rfl, hd'⟩ := ledger_of hf
    exact ⟨d, ⟨hc 0 _ rfl, hc 1 _ rfl, hc 2 _ rfl⟩, hd'⟩
  exact ⟨⟨A, n, c, b, o, D⟩, rfl, ⟨h3, h1, h2, hD⟩⟩
theorem net_of {w : World} {cs : List Value} (h : Fits w tNet cs) : ∃ (N : SlNode) (L : SlLink), cs = [.slice N.A N.n N.c, .slice L.A L.n L.c] ∧ N.At w ∧ L.At w := by
  unfold tNet at h
  obtain ⟨_, _, rfl, hN, _, _, rfl, hL, rfl⟩ := h
  obtain ⟨N, rfl, hN'⟩ := slnode_of hN
  obtain ⟨L, rfl, hL'⟩ := sllink_of hL
  exact ⟨N, L, rfl, hN', hL'⟩
theorem netv_of {w : World} {cs : Array Value} (h : Fits w tNet cs.toList) : ∃ (N : SlNode) (L : SlLink), .agg cs = netVal N L ∧ N.At w ∧ L.At w := by
  generalize e : cs.toList = l at h
  obtain ⟨N, L, rfl, hN', hL'⟩ := net_of h
  refine ⟨N, L, ?_, hN', hL'⟩
  rw [agg_eq e]
  rfl
theorem sl_val {A A' : Option Addr} {n n' c c' : Nat} (h : [Value.slice A n c] = [Value.slice A' n' c']) : Value.slice A n c = Value.slice A' n' c' := by simpa using h
end Ba
end Go.Proofs.YtkgbbcmgfbipaaaGreatDoor
