/-
  strings.Split at a line's end, plainly; what the joined texts are. No program here.
-/
import Derived.Test.YtagfgnpjljaefaaDoorDcJoinQ
import Derived.Test.YtagfgnpjljaefaaDoorDcPlainB
import Derived.Lib.SplitLaws
import Derived.Lib.IndexBytes
import Derived.Lib.Join
set_option linter.unusedVariables false
set_option linter.unusedSimpArgs false
namespace Go.Proofs.YtagfgnpjljaefaaDoor
namespace Dc
theorem rest_count0 : ∀ l : List UInt8, l.count 10 = 0 → rest l = l.length
  | [], _ => rfl
  | c :: l, h => by
    have hc : c.toNat ≠ 10 := fun e => by
      have : c = 10 := UInt8.toNat_inj.1 e
      subst this; simp at h
    rw [rest_cons hc, rest_count0 l (by rw [List.count_cons] at h; omega)]; rfl
theorem sp_none {l : List UInt8} (h : l.count 10 = 0) : sp [] l = [l] := by
  have hr := rest_count0 l h
  rw [sp_step l.length l [] (by omega)]
  simp [sp]
theorem rest_lt : ∀ l : List UInt8, rest l < l.length → ∃ t, l.drop (rest l) = 10 :: t ∧ l.drop (rest l + 1) = t ∧ l.count 10 = t.count 10 + 1
  | [], h => by simp [rest, spn] at h
  | c :: l, h => by
    by_cases hc : c.toNat = 10
    · have : c = 10 := UInt8.toNat_inj.1 hc
      subst this
      rw [rest_line hc]
      exact ⟨l, rfl, rfl, by simp⟩
    · rw [rest_cons hc] at h ⊢
      obtain ⟨t, h1, h2, h3⟩ := rest_lt l (by simpa using h)
      refine ⟨t, by simpa using h1, by simpa using h2, ?_⟩
      rw [List.count_cons, if_neg (by intro e; have := beq_iff_eq.1 e; subst this; exact hc rfl), h3]
theorem split_go : ∀ (k : Nat) (l : List UInt8), l.count 10 ≤ k → Lib.splitK [10] 0 k l = sp [] l
  | 0, l, h => by rw [sp_none (by omega)]; rfl
  | k + 1, l, h => by
    unfold Lib.splitK
    rw [Lib.index_one]
    rcases index_rest l with ⟨h1, h2⟩ | h1
    · rw [h1, if_pos (by decide), sp_none]
      by_cases e : l.count 10 = 0
      · exact e
      · exfalso
        have : (10 : UInt8) ∈ l := List.count_pos_iff.1 (by omega)
        have := (index_mem l 10).2 (by simpa using this)
        omega
    · have hm : ¬ (Lib.indexByte l 10 == -1) = true := fun e => by have := beq_iff_eq.1 e; omega
      rw [if_neg hm, h1, Int.toNat_natCast]
      have hlt : rest l < l.length := by
        have hle := spn_le (fun c => decide (c.toNat ≠ 10)) l
        rcases Nat.lt_or_ge (rest l) l.length with q | q
        · exact q
        · exfalso
          have e0 : l.count 10 = 0 := by
            rw [List.count_eq_zero]
            intro hx
            obtain ⟨j, hj, hv⟩ := List.getElem_of_mem hx
            have := spn_get (p := fun c => decide (c.toNat ≠ 10)) (l := l) (j := j) (by unfold rest at q; omega)
            rw [List.getD_eq_getElem?_getD, List.getElem?_eq_getElem hj, hv] at this
            simp at this
          have : ¬ 0 ≤ Lib.indexByte l 10 := fun q => by
            have hx := (index_mem l 10).1 q
            have : (10 : UInt8) ∈ l := by simpa using hx
            rw [List.count_eq_zero] at e0; exact e0 this
          omega
      obtain ⟨t, d1, d2, d3⟩ := rest_lt l hlt
      rw [sp_step (rest l) l [] (Nat.le_refl _), d1, sp, if_pos (by decide), List.nil_append, Nat.add_zero]
      show _ :: Lib.splitK [10] 0 k (l.drop (rest l + 1)) = _
      rw [d2, split_go k t (by omega)]
theorem split_lines (s : ByteArray) : (Lib.splitB ⟨#[10]⟩ 0 (Lib.countB s ⟨#[10]⟩) s).map (·.data.toList) = sp [] s.data.toList := by
  rw [Lib.splitB_data]
  refine split_go _ _ ?_
  show _ ≤ Lib.count _ [10]
  rw [Lib.count_one]; exact Nat.le_refl _
theorem jn_join : ∀ ts : List (Int × List UInt8), jn ts = Lib.join (ts.map fun x => wr x.1 x.2) [32]
  | [] => rfl
  | [(k, t)] => by rw [List.map_cons, List.map_nil, Lib.join_one]; rfl
  | (k, t) :: x :: ts => by
    rw [jn, jn_join (x :: ts), List.map_cons, List.map_cons, Lib.join_cons, Lib.join_cons]
    simp [Lib.joinTail]
end Dc
end Go.Proofs.YtagfgnpjljaefaaDoor
