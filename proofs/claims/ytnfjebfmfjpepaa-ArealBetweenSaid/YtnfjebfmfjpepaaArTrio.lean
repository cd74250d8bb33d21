/-
  Three rows of ints that a call owns, apart. No condition.
-/
import Derived.Test.YtnfjebfmfjpepaaArG
import Derived.Deep.AppendLies
set_option linter.unusedVariables false
set_option linter.unusedSimpArgs false
namespace Go.Proofs.Ytnfjebfmfjpepaa
open Go.RowKit
def Apt (x y : Value) : Prop := x.ownBlock = none ∨ x.ownBlock ≠ y.ownBlock
theorem Apt.symm {x y : Value} (h : Apt x y) : Apt y x := by
  unfold Apt at *
  by_cases e : y.ownBlock = none
  · exact .inl e
  · rcases h with h | h
    · exact .inr (by rw [h]; exact e)
    · exact .inr (Ne.symm h)
structure Trio (w : World) (B : Nat) (a b c : Value) (i j k : Nat) (X Y Z : Nat → Int) : Prop where
  ha : w.ownsRow B 3 1 a i (flatN X i)
  hb : w.ownsRow B 3 1 b j (flatN Y j)
  hc : w.ownsRow B 3 1 c k (flatN Z k)
  ab : Apt a b
  ac : Apt a c
  bc : Apt b c
section
variable {w w1 : World} {B i j k : Nat} {a b c : Value} {X Y Z : Nat → Int}
theorem Trio.rot (h : Trio w B a b c i j k X Y Z) : Trio w B b c a j k i Y Z X := ⟨h.hb, h.hc, h.ha, h.bc, h.ab.symm, h.ac.symm⟩
theorem Trio.gr (h : Trio w B a b c i j k X Y Z) (hg : Gr w w1) : Trio w1 B a b c i j k X Y Z := ⟨ownsRow_gr h.ha hg, ownsRow_gr h.hb hg, ownsRow_gr h.hc hg, h.ab, h.ac, h.bc⟩
theorem apt_new {w : World} {B n m g cap E : Nat} {a b : Value} {ys : List Value} (hb : w.ownsRow B E 1 b n ys) (h : Apt b a) (hat : a.ownBlock = some g ∨ g = w.heap.size) : Apt b (.slice (some ⟨g, 0, none⟩) m cap) := by
  rcases h with h | h
  · exact .inl h
  · right
    rcases hat with e | e
    · rw [e] at h; exact h
    · intro e2
      have := (hb.lt g (by rw [e2]; rfl)).2
      omega
/-- The first row is appended to, or written. -/
theorem Trio.app (h : Trio w B a b c i j k X Y Z) {g cap m : Nat} {X' : Nat → Int} (ho : w1.ownsRow B 3 1 (.slice (some ⟨g, 0, none⟩) m cap) m (flatN X' m)) (hgr : w.grownBy w1 a.ownBlock) (hat : a.ownBlock = some g ∨ g = w.heap.size) : Trio w1 B (.slice (some ⟨g, 0, none⟩) m cap) b c m j k X' Y Z :=
  ⟨ho, h.hb.kept hgr h.ab.symm, h.hc.kept hgr h.ac.symm, (apt_new h.hb h.ab.symm hat).symm, (apt_new h.hc h.ac.symm hat).symm, h.bc⟩
theorem Trio.put {g cap m : Nat} (h : Trio w B (.slice (some ⟨g, 0, none⟩) m cap) b c m j k X Y Z) {X' : Nat → Int} {x : Int} {q : Nat} (hX : flatN X' m = (flatN X m).set q (.int .i64 x)) : Trio (w.setCell ⟨g, q, none⟩ (.int .i64 x)) B (.slice (some ⟨g, 0, none⟩) m cap) b c m j k X' Y Z := by
  have s := h.ha.stored q (.int .i64 x)
  rw [← hX] at s
  exact Trio.app (X' := X') h s.1 s.2 (.inl rfl)
theorem flatN_congr {X Y : Nat → Int} : ∀ {n}, (∀ i, i < n → X i = Y i) → flatN X n = flatN Y n
  | 0, _ => rfl
  | n + 1, h => by rw [flatN, flatN, flatN_congr fun i hi => h i (by omega), h n (by omega)]
theorem flatN_put {X : Nat → Int} {n : Nat} {x y : Int} (h : X n = y) : (flatN X n ++ [Value.int .i64 x]).set n (.int .i64 y) = flatN X (n + 1) := by
  have hl := flatN_len X n
  rw [flatN, List.set_append_right n _ (by omega), hl, Nat.sub_self, h]
  rfl
end
end Go.Proofs.Ytnfjebfmfjpepaa
