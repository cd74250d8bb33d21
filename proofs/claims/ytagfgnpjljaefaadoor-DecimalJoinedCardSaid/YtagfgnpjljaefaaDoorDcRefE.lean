import Derived.Test.YtagfgnpjljaefaaDoorDcRefD
set_option linter.unusedVariables false
set_option linter.unusedSimpArgs false
namespace Go.Proofs.YtagfgnpjljaefaaDoor
open Go.RowKit
/-- The world while the reference reads tokens: the result's place. -/
def RkSt (w wr : World) : Prop :=
  Gr w wr ∧ w.heap.size + 1 ≤ wr.heap.size ∧ (wr.cell? ⟨w.heap.size, 0, none⟩ = some (.int .i64 0) ∧ wr.cell? ⟨w.heap.size, 1, none⟩ = some (.int .i64 0) ∧ wr.frozen? ⟨w.heap.size, 0, none⟩ = false ∧ wr.frozen? ⟨w.heap.size, 1, none⟩ = false)
theorem RkSt.gr {w wr W : World} (h : RkSt w wr) (hg : Gr wr W) : RkSt w W := by
  obtain ⟨h1, h2, a1, a2, a3, a4⟩ := h
  exact ⟨h1.trans hg, Nat.le_trans h2 (Gr.size hg), Gr.at hg a1, Gr.at hg a2, Gr.free hg a1 a3, Gr.free hg a2 a4⟩
theorem RkSt.app {w W w1 : World} {e size n : Nat} {v : Value} {xs : List Value} (h : RkSt w W) (ho : W.ownsRow (w.heap.size + 1) e size v n xs) (hg : W.grownBy w1 v.ownBlock) : RkSt w w1 := by
  obtain ⟨h1, h2, a1, a2, a3, a4⟩ := h
  have n0 : ∀ o, some (⟨w.heap.size, o, none⟩ : Addr).block ≠ v.ownBlock := fun o e => absurd (ho.lt _ e.symm).1 (by show ¬ (w.heap.size + 1 ≤ w.heap.size); omega)
  exact ⟨Below.grown h1 hg (Gr.size h1) fun k hk => by have := (ho.lt k hk).1; omega, Nat.le_trans h2 hg.size,
    hg.cell a1 (n0 _), hg.cell a2 (n0 _), (hg.frozen_far _ (by simp; omega) (n0 _)).trans a3, (hg.frozen_far _ (by simp; omega) (n0 _)).trans a4⟩
theorem Dc.nx_four {l : List UInt8} (h : (Dc.nx l).1 = 4) : (Dc.nx l).2 = 1 := by
  unfold Dc.nx at h ⊢
  simp only at h ⊢
  split at h
  · simp at h
  · rename_i h0; rw [if_neg h0]
    split at h
    · rename_i h1; rw [if_pos h1]
    · split at h
      · simp at h
      · split at h
        · split at h <;> simp at h
        · split at h
          · simp at h
          · split at h <;> simp at h
theorem ext_ext (s : ByteArray) (i m : Nat) : (s.extract i s.size).extract m (s.extract i s.size).size = s.extract (i + m) s.size := Go.WideShapes.bytes_inj (by rw [data_cut, data_cut, data_cut, List.drop_drop])
theorem ext_zero (s : ByteArray) : s.extract 0 s.size = s := Go.WideShapes.bytes_inj (by rw [data_cut]; rfl)
theorem ext_mid (s : ByteArray) (i m : Nat) : s.extract i (i + m) = ⟨((s.extract i s.size).data.toList.take m).toArray⟩ := Go.WideShapes.bytes_inj (by rw [Lib.extract_data, data_cut]; simp)
theorem rtok_long (s : ByteArray) (w : World) (hs : 262144 < s.size) (hm : s.size ≤ 9223372036854775807) :
    Calls Tryd.prog 18 #[.string s] w fun e w' => e = .returned (.tuple #[.slice none 0 0, .agg #[.int .i64 0, .int .i64 0], .int .i64 4]) ∧ Gr w w' := by
  have t0 : decide ((262144 : Int) < (s.size : Int)) = true := decide_eq_true (by omega)
  go_enter Tryd.func18, Tryd.ntmps18
  go_wp2
  refine bodyPost_ret (by simp [results, Tryd.results18, go_sem]; try rfl) rfl ?_
  exact ⟨by first | rfl | (simp; done), (by repeat' (first | (with_reducible exact Gr.refl _) | (with_reducible assumption) | (with_reducible refine Gr.alloc ?_ _) | (with_reducible refine Gr.drew ?_) | (with_reducible refine Gr.drewN ?_ _) | (with_reducible refine Gr.setCell ?_ ?_ _) | (with_reducible refine Gr.trans ?_ (by with_reducible assumption)) | go_size))⟩
end Go.Proofs.YtagfgnpjljaefaaDoor
