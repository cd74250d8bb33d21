import Derived.Test.YtbaahlofabmljaaDoorWdFmt
import Derived.Test.YtbaahlofabmljaaDoorShelfW
import Derived.Maps.AppendAt
import Derived.OwnWalk
import Derived.Deep.AppendLies
set_option linter.unusedVariables false
set_option linter.unusedSimpArgs false
namespace Go.Proofs.YtbaahlofabmljaaDoor
open Go.RowKit
theorem ownsRow_gr {w w' : World} {base e size n : Nat} {v : Value} {xs : List Value} (h : w.ownsRow base e size v n xs) (hg : Gr w w') : w'.ownsRow base e size v n xs := by
  obtain ⟨hl, h | ⟨g, cap, cur, hv, hb, hc, r⟩⟩ := h
  · exact ⟨hl, Or.inl h⟩
  · refine ⟨hl, Or.inr ⟨g, cap, cur, hv, hb, ?_, r⟩⟩
    have hlt : g < w.heap.size := (Array.getElem?_eq_some_iff.1 hc).1
    rw [Below.block hg g hlt]; exact hc
theorem ownsRow_set {w : World} {base e size n : Nat} {v : Value} {xs : List Value} (h : w.ownsRow base e size v n xs) {p : Addr} (hp : p.block < base) (u : Value) : (w.setCell p u).ownsRow base e size v n xs := by
  obtain ⟨hl, h | ⟨g, cap, cur, hv, hb, hc, r⟩⟩ := h
  · exact ⟨hl, Or.inl h⟩
  · exact ⟨hl, Or.inr ⟨g, cap, cur, hv, hb, (Below.heap_setCell _ _ _ _ (by omega)).trans hc, r⟩⟩
theorem ownsRow_drew {w : World} {base e size n : Nat} {v : Value} {xs : List Value} (h : w.ownsRow base e size v n xs) : (w.drew).ownsRow base e size v n xs := ownsRow_gr h (Gr.drew (Gr.refl _))
theorem Gr.own {w W w1 : World} {base e size n : Nat} {v : Value} {xs : List Value} (hg : Gr w W) (hb : w.heap.size ≤ base) (ho : W.ownsRow base e size v n xs) (hgr : W.grownBy w1 v.ownBlock) : Gr w w1 :=
  Below.grown hg hgr (Gr.size hg) fun k hk => by have := (ho.lt k hk).1; omega
theorem row_of {w : World} {base e size n : Nat} {v : Value} {cs : List Value} (ho : w.ownsRow base e size v n cs) (hn : n ≠ 0) : ∃ g cap, v = .slice (some ⟨g, 0, none⟩) n cap ∧ n ≤ cap ∧ ∀ j u, cs[j]? = some u → w.cell? ⟨g, j, none⟩ = some u := by
  have hc := fun g hg => ho.cells (g := g) hg
  obtain ⟨-, ⟨-, h⟩ | ⟨g, cap, cur, hv, -, -, hcap, -⟩⟩ := ho
  · exact absurd h hn
  · subst hv
    refine ⟨g, cap, rfl, hcap, fun j u hj => ?_⟩
    have := hc g rfl j u hj
    rwa [show (⟨g, 0, none⟩ : Addr).add j = ⟨g, j, none⟩ by unfold Addr.add; split <;> simp_all] at this
theorem own_form {w : World} {base e size n : Nat} {v : Value} {cs : List Value} (ho : w.ownsRow base e size v n cs) : ∃ A cap, v = .slice A n cap := by
  obtain ⟨-, ⟨h, h'⟩ | ⟨g, cap, cur, hv, -⟩⟩ := ho
  · subst h'; exact ⟨none, 0, h⟩
  · exact ⟨_, _, hv⟩
def lenOf : Value → Nat
  | .slice _ n _ => n
  | _ => 0
theorem lenOf_own {w : World} {base e size n : Nat} {v : Value} {cs : List Value} (ho : w.ownsRow base e size v n cs) : lenOf v = n := by
  obtain ⟨A, cap, rfl⟩ := own_form ho; rfl
/-- A builder stays one when the world grows. -/
theorem builder_gr {w w' : World} {T e : TypeId} {B b : Nat} {bs : List Value} (h : Lib.IsBuilder T e B b bs w) (hg : Gr w w') : Lib.IsBuilder T e B b bs w' := by
  have one : ∀ {p : Value}, Lib.BuilderAt T e B b p bs w → Lib.BuilderAt T e B b p bs w' := fun {p} ⟨hB, v, hb, ho, hn⟩ => by
    have hlt : b < w.heap.size := (Array.getElem?_eq_some_iff.1 hb).1
    exact ⟨hB, v, (Below.block hg b hlt).trans hb, ownsRow_gr ho hg, hn⟩
  exact h.elim (fun x => .inl (one x)) (fun x => .inr (one x))
theorem byteCells_app (a b : List UInt8) : Lib.byteCells (a ++ b) = Lib.byteCells a ++ Lib.byteCells b := by unfold Lib.byteCells; rw [List.map_append]
theorem repeat_one (c : UInt8) : ∀ n, Lib.repeatL [c] n = List.replicate n c
  | 0 => rfl
  | n + 1 => by rw [Lib.repeatL, repeat_one c n]; rfl
theorem repeat0_any (x : Int) (w : World) (h0 : 0 ≤ x) (h1 : x ≤ 1000) :
    Calls Tryd.prog 24 #[.string ⟨#[48]⟩, .int .i64 x] w fun e w' => e = .returned (.string ⟨(List.replicate x.toNat 48).toArray⟩) ∧ Gr w w' := by
  obtain ⟨c, rfl⟩ := Int.eq_ofNat_of_zero_le h0
  have := Tryd.strings_Repeat ⟨#[48]⟩ c w (by omega) (by show 1 * c ≤ _; omega)
  have e : Lib.repeatL (⟨#[48]⟩ : ByteArray).data.toList c = List.replicate c 48 := repeat_one 48 c
  rw [e] at this
  exact this
/-- WriteByte, WriteString, String on bytes. -/
theorem wbyte_any (b : Nat) (l : List UInt8) (c : UInt8) (w : World) (h : Lib.IsBuilder 54 5 b b (Lib.byteCells l) w) (hl : l.length ≤ 1000) (hb : b ≤ w.heap.size) :
    Calls Tryd.prog 21 #[.pointer (some ⟨b, 0, none⟩), .int .u8 (c.toNat : Int)] w fun e w' => e = .returned .nilIface ∧ Hid (Lib.IsBuilder 54 5 b b (Lib.byteCells (l ++ [c])) w') ∧ Below b w w' := by
  refine (Tryd.Builder_WriteByte b b (Lib.byteCells l) (c.toNat : Int) w h (by rw [Lib.byteCells_length]; omega) hb).mono fun e w' ⟨he, hB, hw⟩ => ⟨he, ?_, hw⟩
  rw [byteCells_app]; exact Or.inr hB
theorem wstr_any (b : Nat) (l : List UInt8) (s : ByteArray) (w : World) (h : Lib.IsBuilder 54 5 b b (Lib.byteCells l) w) (hl : l.length ≤ 1000) (hs : s.size ≤ 1000) (hb : b ≤ w.heap.size) :
    Calls Tryd.prog 23 #[.pointer (some ⟨b, 0, none⟩), .string s] w fun e w' => e = .returned (.tuple #[.int .i64 (s.size : Int), .nilIface]) ∧ Hid (Lib.IsBuilder 54 5 b b (Lib.byteCells (l ++ s.data.toList)) w') ∧ Below b w w' := by
  refine (Tryd.Builder_WriteString b b (Lib.byteCells l) s w h (by rw [Lib.byteCells_length]; omega) hb).mono fun e w' ⟨he, hB, hw⟩ => ⟨he, ?_, hw⟩
  rw [byteCells_app]; exact Or.inr hB
/-- A new builder. -/
theorem builder_new (w : World) : Lib.IsBuilder 54 5 w.heap.size w.heap.size (Lib.byteCells []) (w.alloc (.cells #[.pointer none, .slice none 0 0] 54)) :=
  Or.inl ⟨Nat.le_refl _, .slice none 0 0, heap_alloc_new w _, ⟨rfl, Or.inl ⟨rfl, rfl⟩⟩, by simp [Value.ownBlock]⟩
theorem Tryd.infoU64 : (Tryd.prog.info? 42).map (fun i => (i.zero, i.size, i.bytes)) = some (some (.int .u64 0), 1, 8) := by kernel_rfl
namespace Wd
/-- The groups that are read after k rounds. -/
def gs (N k : Nat) : List Value := (List.range k).map fun i => Value.int .u64 (Dg.gAt N i : Int)
theorem gs_succ (N k : Nat) : gs N (k + 1) = gs N k ++ [Value.int .u64 (Dg.gAt N k : Int)] := by unfold gs; rw [List.range_succ, List.map_append]; rfl
theorem gs_at {N k i : Nat} (h : i < k) : (gs N k)[i]? = some (Value.int .u64 (Dg.gAt N i : Int)) := by unfold gs; simp [h]
theorem gs_len (N k : Nat) : (gs N k).length = k := by unfold gs; simp
/-- One round's numbers. -/
theorem grp_round {q : Nat} (hq : q ≤ 1329227995784915872903807060280344576) : Wd.hi (q : Int) / 1000000000000000000 = Wd.hi ((q / Dg.grp : Nat) : Int) ∧ Wd.hi (q : Int) % 1000000000000000000 = Wd.hi (q : Int) ∧ ((Wd.hi (q : Int) * 18446744073709551616 + Wd.lo (q : Int)) / 1000000000000000000 = Wd.lo ((q / Dg.grp : Nat) : Int)) ∧ ((Wd.hi (q : Int) * 18446744073709551616 + Wd.lo (q : Int)) % 1000000000000000000 = ((q % Dg.grp : Nat) : Int)) ∧ 0 ≤ Wd.hi (q : Int) ∧ Wd.hi (q : Int) < 1000000000000000000 ∧ 0 ≤ Wd.lo (q : Int) ∧ Wd.lo (q : Int) ≤ 18446744073709551615 := by
  obtain ⟨a, b⟩ := words (n := (q : Int)) (by omega)
  obtain ⟨c, d⟩ := words (n := ((q / Dg.grp : Nat) : Int)) (Int.natCast_nonneg _)
  rw [a, b, c, d]
  unfold Dg.grp
  omega
end Wd
set_option maxHeartbeats 400000 in
theorem text_bad (h l : Int) (w : World) (hv : Wd.vld h l = false) :
    Calls Tryd.prog 7 #[.agg #[.int .i64 h, .int .i64 l]] w fun e w' => e = .returned (.tuple #[.string ⟨#[]⟩, .int .i64 1]) ∧ Gr w w' := by
  have HV := Lib.hid hv; clear hv
  go_enter Tryd.func7, Tryd.ntmps7
  go_wp2_with (first | (go_at_call 11; refine (valid_false h l _ HV.out).mono ?_; rintro e w1 ⟨rfl, hb1⟩; obtain ⟨hc1, hf1⟩ := Gr.cells hb1; have hz1 := Gr.size hb1; (try simp at hz1); (try have hy1_0 : w.heap.size < w1.heap.size := by omega); (try have hy1_1 : w.heap.size + 1 < w1.heap.size := by omega); (try have hy1_2 : w.heap.size + 1 + 1 < w1.heap.size := by omega); (try have hy1_3 : w.heap.size + 1 + 1 + 1 < w1.heap.size := by omega); (try have hy1_4 : w.heap.size + 1 + 1 + 1 + 1 < w1.heap.size := by omega); (try have hy1_5 : w.heap.size + 1 + 1 + 1 + 1 + 1 < w1.heap.size := by omega)))
  go_ret2
  exact ⟨rfl, (by repeat' (first | (with_reducible exact Gr.refl _) | (with_reducible assumption) | (with_reducible refine Gr.alloc ?_ _) | (with_reducible refine Gr.drew ?_) | (with_reducible refine Gr.drewN ?_ _) | (with_reducible refine Gr.setCell ?_ ?_ _) | (with_reducible refine Gr.trans ?_ (by with_reducible assumption)) | go_size))⟩
end Go.Proofs.YtbaahlofabmljaaDoor
