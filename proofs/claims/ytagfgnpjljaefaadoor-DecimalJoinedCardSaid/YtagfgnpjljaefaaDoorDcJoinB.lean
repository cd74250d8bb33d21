/-
  The law of the joined texts, walked.
-/
import Derived.Test.YtagfgnpjljaefaaDoorDcJoinA
import Derived.Test.YtagfgnpjljaefaaDoorShelfJ
set_option linter.unusedVariables false
set_option linter.unusedSimpArgs false
namespace Go.Proofs.YtagfgnpjljaefaaDoor
open Go.RowKit
theorem quiet_add_left {P : Program} {f : FuncId} {args : Array Value} {w : World} {a n : Nat} {v : Value}
    (h : Calls P f args (w.drewN (a + n)) fun e w' => e = .returned v ∧ w.drewN (a + n) = w') :
    Calls P f args (w.drewN (a + n)) fun e w'' => e = .returned v ∧ ∃ m, w'' = w.drewN (a + m) :=
  h.mono fun _ _ ⟨he, hm⟩ => ⟨he, n, hm.symm⟩
theorem Gr.own {w W w1 : World} {base e size n : Nat} {v : Value} {xs : List Value} (hg : Gr w W) (hb : w.heap.size ≤ base) (ho : W.ownsRow base e size v n xs) (hgr : W.grownBy w1 v.ownBlock) : Gr w w1 :=
  Below.grown hg hgr (Gr.size hg) fun k hk => by have := (ho.lt k hk).1; omega
/-- strings.Split at a line's end. -/
theorem split_any (s : ByteArray) (w : World) (hs : s.size ≤ 1000) (hm : ∃ m, w.cell? ⟨0, 0, none⟩ = some (.int .i64 m)) :
    Calls Tryd.prog 22 #[.string s, .string ⟨#[10]⟩] w fun e w' => e = .returned (.slice (some ⟨w.heap.size, 0, none⟩) (Dc.sp [] s.data.toList).length (Dc.sp [] s.data.toList).length) ∧ (Hid (∀ i line, (Dc.sp [] s.data.toList)[i]? = some line → w'.cell? ⟨w.heap.size, i, none⟩ = some (.string ⟨line.toArray⟩))) ∧ Gr w w' := by
  obtain ⟨m, hm⟩ := hm
  have hl := Lib.splitB_all ⟨#[10]⟩ (by decide) 0 (Lib.countB s ⟨#[10]⟩) s rfl
  have hsp := Dc.split_lines s
  have hlen : (Dc.sp [] s.data.toList).length = Lib.countB s ⟨#[10]⟩ + 1 := by rw [← hsp, List.length_map, hl]
  refine (Tryd.strings_Split s ⟨#[10]⟩ m w (by omega) hm (by decide)).mono fun e w' ⟨he, hw⟩ => ?_
  refine ⟨by rw [he, hlen], Lib.hid fun i line hi => ?_, by rw [hw]; exact Gr.alloc (Gr.refl _) _⟩
  rw [← hsp, List.getElem?_map] at hi
  obtain ⟨x, hx, hxl⟩ := Option.map_eq_some_iff.1 hi
  have e : x = ⟨line.toArray⟩ := by rw [← hxl]
  rw [hw, World.cell?_alloc_at _ _ _ _ (by rfl)]
  show (List.map Value.string _).toArray[i]? = _
  rw [List.getElem?_toArray, List.getElem?_map, hx, e]; rfl
/-- What the law wants to know of token i. -/
def JTok (w : World) (g G i L : Nat) (k : Int) (t line : ByteArray) (p q : Nat) : Prop :=
  (w.cell? ⟨g, i * 4, none⟩ = some (.int .i64 k) ∧ w.cell? ⟨g, i * 4 + 1, none⟩ = some (.string t) ∧ w.cell? ⟨g, i * 4 + 2, none⟩ = some (.int .i64 ((p : Int) + 1)) ∧ w.cell? ⟨g, i * 4 + 3, none⟩ = some (.int .i64 ((q : Int) + 1))) ∧
  w.cell? ⟨G, p, none⟩ = some (.string line) ∧ p < L ∧ q ≤ line.size ∧ line.size ≤ 1000 ∧ Lib.hasPrefix (line.data.toList.drop q) t.data.toList = true
def JPrev (w : World) (g i : Nat) (p q : Nat) : Prop :=
  ∃ p' q' : Nat, w.cell? ⟨g, i * 4 + 2, none⟩ = some (.int .i64 ((p' : Int) + 1)) ∧ w.cell? ⟨g, i * 4 + 3, none⟩ = some (.int .i64 ((q' : Int) + 1)) ∧ (p' < p ∨ p' = p ∧ q' < q) ∧ p' ≤ 1001 ∧ q' ≤ 1001
theorem jtok_of {s : ByteArray} {cs : List Value} {ts : List (Int × List UInt8 × Int × Int)} {w : World} {g G : Nat} (hs : s.size ≤ 1000) (ht : Dc.TokL cs ts) (hst : ∀ (i : Nat) (x : Int × List UInt8 × Int × Int), ts[i]? = some x → Dc.Stands (Dc.sp [] s.data.toList) x)
    (hc : ∀ j u, cs[j]? = some u → w.cell? ⟨g, j, none⟩ = some u) (hl : ∀ i line, (Dc.sp [] s.data.toList)[i]? = some line → w.cell? ⟨G, i, none⟩ = some (.string ⟨line.toArray⟩)) (i : Nat) (x : Int × List UInt8 × Int × Int) (hx : ts[i]? = some x) :
    ∃ (line : ByteArray) (p q : Nat), x.2.2.1 = (p : Int) + 1 ∧ x.2.2.2 = (q : Int) + 1 ∧ JTok w g G i (Dc.sp [] s.data.toList).length x.1 ⟨x.2.1.toArray⟩ line p q := by
  obtain ⟨h1, h2, line, h3, h4, h5⟩ := hst i x hx
  obtain ⟨a0, a1, a2, a3⟩ := ht.get i x hx
  have hp : x.2.2.1 = ((x.2.2.1 - 1).toNat : Int) + 1 := by omega
  have hq : x.2.2.2 = ((x.2.2.2 - 1).toNat : Int) + 1 := by omega
  have hle := (Dc.sp_len s.data.toList []).2 line (List.mem_of_getElem? h3)
  have hsl : s.data.toList.length = s.size := by simp
  rw [hp] at a2; rw [hq] at a3
  have hlt : (x.2.2.1 - 1).toNat < (Dc.sp [] s.data.toList).length := (List.getElem?_eq_some_iff.1 h3).1
  refine ⟨⟨line.toArray⟩, (x.2.2.1 - 1).toNat, (x.2.2.2 - 1).toNat, hp, hq, ⟨hc _ _ a0, hc _ _ a1, hc _ _ a2, hc _ _ a3⟩, hl _ _ h3, hlt, ?_, ?_, ?_⟩
  · show _ ≤ line.toArray.size; simpa using h4
  · show line.toArray.size ≤ _; simp at hle ⊢; omega
  · show Lib.hasPrefix (line.drop _) x.2.1 = true
    unfold Lib.hasPrefix; exact List.isPrefixOf_iff_prefix.2 h5
theorem jprev_of {s : ByteArray} {cs : List Value} {ts : List (Int × List UInt8 × Int × Int)} {w : World} {g : Nat} (hs : s.size ≤ 1000) (ht : Dc.TokL cs ts) (hst : ∀ (i : Nat) (x : Int × List UInt8 × Int × Int), ts[i]? = some x → Dc.Stands (Dc.sp [] s.data.toList) x)
    (ha : ∀ (i : Nat) (x y : Int × List UInt8 × Int × Int), ts[i]? = some x → ts[i + 1]? = some y → Dc.Ahead x y) (hc : ∀ j u, cs[j]? = some u → w.cell? ⟨g, j, none⟩ = some u) (i : Nat) (x : Int × List UInt8 × Int × Int) (hx : ts[i + 1]? = some x) (p q : Nat) (hp : x.2.2.1 = (p : Int) + 1) (hq : x.2.2.2 = (q : Int) + 1) : JPrev w g i p q := by
  have hlt := (List.getElem?_eq_some_iff.1 hx).1
  obtain ⟨y, hy⟩ : ∃ y, ts[i]? = some y := ⟨_, List.getElem?_eq_getElem (by omega)⟩
  obtain ⟨h1, h2, line, h3, h4, -⟩ := hst i y hy
  obtain ⟨-, -, a2, a3⟩ := ht.get i y hy
  have hh := ha i y x hy hx
  have hp' : y.2.2.1 = ((y.2.2.1 - 1).toNat : Int) + 1 := by omega
  have hq' : y.2.2.2 = ((y.2.2.2 - 1).toNat : Int) + 1 := by omega
  have hle := Dc.sp_len s.data.toList []
  have hle2 := hle.2 line (List.mem_of_getElem? h3)
  have hsl : s.data.toList.length = s.size := by simp
  have hlt : (y.2.2.1 - 1).toNat < (Dc.sp [] s.data.toList).length := (List.getElem?_eq_some_iff.1 h3).1
  rw [hp'] at a2; rw [hq'] at a3
  unfold Dc.Ahead at hh
  have hle1 := hle.1
  simp only [List.length_nil] at hle2
  exact ⟨_, _, hc _ _ a2, hc _ _ a3, by omega, by omega, by omega⟩
end Go.Proofs.YtagfgnpjljaefaaDoor
