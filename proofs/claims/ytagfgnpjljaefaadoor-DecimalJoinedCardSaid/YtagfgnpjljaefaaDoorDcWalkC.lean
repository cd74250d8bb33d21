import Derived.Test.YtagfgnpjljaefaaDoorDcWalkB
import Derived.Maps.AppendAt
import Derived.Deep.AppendLies
import Derived.OwnWalk
set_option linter.unusedVariables false
set_option linter.unusedSimpArgs false
namespace Go.Proofs.YtagfgnpjljaefaaDoor
open Go.RowKit
/-- The world while tokens are read: the result's place, and where the reading stands. -/
def TkSt (w wr : World) (ln col : Int) : Prop :=
  Gr w wr ∧ w.heap.size + 2 ≤ wr.heap.size ∧ (wr.cell? ⟨w.heap.size, 0, none⟩ = some (.int .i64 0) ∧ wr.cell? ⟨w.heap.size, 1, none⟩ = some (.int .i64 0) ∧ wr.frozen? ⟨w.heap.size, 0, none⟩ = false ∧ wr.frozen? ⟨w.heap.size, 1, none⟩ = false) ∧
  (wr.cell? ⟨w.heap.size + 1, 0, none⟩ = some (.int .i64 ln) ∧ wr.cell? ⟨w.heap.size + 1, 1, none⟩ = some (.int .i64 col) ∧ wr.frozen? ⟨w.heap.size + 1, 0, none⟩ = false ∧ wr.frozen? ⟨w.heap.size + 1, 1, none⟩ = false)
theorem TkSt.gr {w wr W : World} {ln col : Int} (h : TkSt w wr ln col) (hg : Gr wr W) : TkSt w W ln col := by
  obtain ⟨h1, h2, ⟨a1, a2, a3, a4⟩, b1, b2, b3, b4⟩ := h
  exact ⟨h1.trans hg, Nat.le_trans h2 (Gr.size hg), ⟨Gr.at hg a1, Gr.at hg a2, Gr.free hg a1 a3, Gr.free hg a2 a4⟩, Gr.at hg b1, Gr.at hg b2, Gr.free hg b1 b3, Gr.free hg b2 b4⟩
theorem TkSt.alloc {w wr : World} {ln col : Int} (h : TkSt w wr ln col) (o : Obj) : TkSt w (wr.alloc o) ln col := h.gr (Gr.alloc (Gr.refl _) o)
theorem TkSt.drew {w wr : World} {ln col : Int} (h : TkSt w wr ln col) : TkSt w wr.drew ln col := h.gr (Gr.drew (Gr.refl _))
theorem TkSt.drewN {w wr : World} {ln col : Int} (h : TkSt w wr ln col) (n : Nat) : TkSt w (wr.drewN n) ln col := h.gr (Gr.drewN (Gr.refl _) n)
theorem ownsRow_gr {w w' : World} {base e size n : Nat} {v : Value} {xs : List Value} (h : w.ownsRow base e size v n xs) (hg : Gr w w') : w'.ownsRow base e size v n xs := by
  obtain ⟨hl, h | ⟨g, cap, cur, hv, hb, hc, r⟩⟩ := h
  · exact ⟨hl, Or.inl h⟩
  · refine ⟨hl, Or.inr ⟨g, cap, cur, hv, hb, ?_, r⟩⟩
    have hlt : g < w.heap.size := (Array.getElem?_eq_some_iff.1 hc).1
    rw [Below.block hg g hlt]; exact hc
theorem ownsRow_set {w : World} {base e size n : Nat} {v : Value} {xs : List Value} (h : w.ownsRow base e size v n xs) {p : Addr} (hp : p.block < base) (u : Value) : (w.setCell p u).ownsRow base e size v n xs := by
  obtain ⟨hl, h | ⟨g, cap, cur, hv, hb, hc, r⟩⟩ := h
  · exact ⟨hl, Or.inl h⟩
  · exact ⟨hl, Or.inr ⟨g, cap, cur, hv, hb, (Below.heap_setCell _ _ _ _ (by omega)).trans hc, r⟩⟩
theorem ownsRow_drew {w : World} {base e size n : Nat} {v : Value} {xs : List Value} (h : w.ownsRow base e size v n xs) : (w.drew).ownsRow base e size v n xs := ownsRow_gr h (Gr.drew (Gr.refl _))
theorem ownsRow_base {w : World} {base base' e size n : Nat} {v : Value} {xs : List Value} (h : w.ownsRow base e size v n xs) (hb : base' ≤ base) : w.ownsRow base' e size v n xs := by
  obtain ⟨hl, h | ⟨g, cap, cur, hv, hg, r⟩⟩ := h
  · exact ⟨hl, Or.inl h⟩
  · exact ⟨hl, Or.inr ⟨g, cap, cur, hv, Nat.le_trans hb hg, r⟩⟩
theorem TkSt.app {w W w1 : World} {ln col : Int} {e size n : Nat} {v : Value} {xs : List Value} (h : TkSt w W ln col) (ho : W.ownsRow (w.heap.size + 2) e size v n xs) (hg : W.grownBy w1 v.ownBlock) : TkSt w w1 ln col := by
  obtain ⟨h1, h2, ⟨a1, a2, a3, a4⟩, b1, b2, b3, b4⟩ := h
  have n0 : ∀ o, some (⟨w.heap.size, o, none⟩ : Addr).block ≠ v.ownBlock := fun o e => absurd (ho.lt _ e.symm).1 (by show ¬ (w.heap.size + 2 ≤ w.heap.size); omega)
  have n1 : ∀ o, some (⟨w.heap.size + 1, o, none⟩ : Addr).block ≠ v.ownBlock := fun o e => absurd (ho.lt _ e.symm).1 (by show ¬ (w.heap.size + 2 ≤ w.heap.size + 1); omega)
  exact ⟨Below.grown h1 hg (Gr.size h1) fun k hk => by have := (ho.lt k hk).1; omega, Nat.le_trans h2 hg.size,
    ⟨hg.cell a1 (n0 _), hg.cell a2 (n0 _), (hg.frozen_far _ (by simp; omega) (n0 _)).trans a3, (hg.frozen_far _ (by simp; omega) (n0 _)).trans a4⟩,
    hg.cell b1 (n1 _), hg.cell b2 (n1 _), (hg.frozen_far _ (by simp; omega) (n1 _)).trans b3, (hg.frozen_far _ (by simp; omega) (n1 _)).trans b4⟩
/-- What Tokens returns. -/
def TkPost (w : World) (R : Sum (List Value) (Int × Int)) (e : Ending) (w' : World) : Prop :=
  match R with
  | .inl cs => ∃ v n, e = .returned (.tuple #[v, .agg #[.int .i64 0, .int .i64 0], .int .i64 0]) ∧ w'.ownsRow w.heap.size 45 4 v n cs ∧ n ≤ 262145 ∧ Gr w w'
  | .inr (ln, col) => e = .returned (.tuple #[.slice none 0 0, .agg #[.int .i64 ln, .int .i64 col], .int .i64 7]) ∧ Gr w w'
/-- The state of the reading. -/
def TkAt (R : Sum (List Value) (Int × Int)) (s : ByteArray) (ln col : Int) (acc : List Value) (n : Nat) : Prop :=
  (∃ f, s.data.toList.length ≤ f ∧ Dc.go f s.data.toList ln col acc = R) ∧ n + s.size ≤ 262144 ∧ 1 ≤ ln ∧ ln + s.size ≤ 262145 ∧ 1 ≤ col ∧ col + s.size ≤ 262145
theorem TkAt.nil {R : Sum (List Value) (Int × Int)} {s : ByteArray} {ln col : Int} {acc : List Value} {n : Nat} (h : TkAt R s ln col acc n) (hs : s.size = 0) : R = .inl (acc ++ Dc.tok 5 [] ln col) := by
  obtain ⟨⟨f, hf, hg⟩, -⟩ := h
  have : s.data.toList = [] := List.eq_nil_of_length_eq_zero (by simpa using hs)
  rw [this] at hg
  cases f <;> simp [Dc.go] at hg <;> exact hg.symm
theorem size_cut (s : ByteArray) (n : Nat) (h : n ≤ s.size) : (s.extract n s.size).size = s.size - n := by simp
theorem data_cut (s : ByteArray) (n : Nat) : (s.extract n s.size).data.toList = s.data.toList.drop n := by
  rw [Lib.extract_data]; exact List.take_of_length_le (by simp)
theorem data_head (s : ByteArray) (n : Nat) : (s.extract 0 n).data.toList = s.data.toList.take n := by
  rw [Lib.extract_data]; simp
theorem TkAt.step {R : Sum (List Value) (Int × Int)} {s : ByteArray} {ln col : Int} {acc : List Value} {n : Nat} (h : TkAt R s ln col acc n) (hs : 0 < s.size) :
    ((Dc.nx s.data.toList).1 < 0 → R = .inr (ln, col)) ∧
    ((Dc.nx s.data.toList).1 = 4 → TkAt R (s.extract 1 s.size) (ln + 1) 1 (acc ++ Dc.tok 4 [] ln col) (n + 1)) ∧
    (0 ≤ (Dc.nx s.data.toList).1 → (Dc.nx s.data.toList).1 ≠ 4 → (Dc.nx s.data.toList).1 = 0 → TkAt R (s.extract (Dc.nx s.data.toList).2 s.size) ln (col + (Dc.nx s.data.toList).2) acc n) ∧
    (0 ≤ (Dc.nx s.data.toList).1 → (Dc.nx s.data.toList).1 ≠ 4 → (Dc.nx s.data.toList).1 ≠ 0 → TkAt R (s.extract (Dc.nx s.data.toList).2 s.size) ln (col + (Dc.nx s.data.toList).2) (acc ++ Dc.tok (Dc.nx s.data.toList).1 (s.data.toList.take (Dc.nx s.data.toList).2) ln col) (n + 1)) := by
  obtain ⟨⟨f, hf, hg⟩, hn, l0, l1, c0, c1⟩ := h
  have hl : s.data.toList.length = s.size := by simp
  have hne : s.data.toList ≠ [] := by intro e; rw [e] at hl; simp at hl; omega
  have hp := Dc.nx_pos hne
  have hlen := Dc.nx_len hne
  generalize hk : (Dc.nx s.data.toList).1 = k at *
  generalize hm : (Dc.nx s.data.toList).2 = m at *
  cases f with
  | zero => rw [hl] at hf; omega
  | succ f =>
    unfold Dc.go at hg
    rw [if_neg hne, hk, hm] at hg
    refine ⟨fun h => ?_, fun h => ?_, fun h0 h4 hz => ?_, fun h0 h4 hz => ?_⟩
    · rw [if_pos h] at hg; exact hg.symm
    · rw [if_neg (by omega), if_pos h] at hg
      exact ⟨⟨f, by rw [data_cut, List.length_drop]; omega, by rw [data_cut]; exact hg⟩, by rw [size_cut _ _ (by omega)]; omega, by omega, by rw [size_cut _ _ (by omega)]; omega, by omega, by rw [size_cut _ _ (by omega)]; omega⟩
    · rw [if_neg (by omega), if_neg h4, if_pos hz] at hg
      have := hlen h0
      exact ⟨⟨f, by rw [data_cut, List.length_drop]; omega, by rw [data_cut]; exact hg⟩, by rw [size_cut _ _ (by omega)]; omega, by omega, by rw [size_cut _ _ (by omega)]; omega, by omega, by rw [size_cut _ _ (by omega)]; omega⟩
    · rw [if_neg (by omega), if_neg h4, if_neg hz] at hg
      have := hlen h0
      exact ⟨⟨f, by rw [data_cut, List.length_drop]; omega, by rw [data_cut]; exact hg⟩, by rw [size_cut _ _ (by omega)]; omega, by omega, by rw [size_cut _ _ (by omega)]; omega, by omega, by rw [size_cut _ _ (by omega)]; omega⟩
theorem Tryd.info45 : (Tryd.prog.info? 45).map (fun i => (i.zero, i.size, i.bytes)) = some (some (.agg #[.int .i64 0, .string ⟨#[]⟩, .int .i64 0, .int .i64 0]), 4, 40) := by kernel_rfl
theorem tok_long (s : ByteArray) (w : World) (hs : 262144 < s.size) (hm : s.size ≤ 9223372036854775807) :
    Calls Tryd.prog 15 #[.string s] w fun e w' => e = .returned (.tuple #[.slice none 0 0, .agg #[.int .i64 0, .int .i64 0], .int .i64 4]) ∧ Gr w w' := by
  have t0 : decide ((262144 : Int) < (s.size : Int)) = true := decide_eq_true (by omega)
  go_enter Tryd.func15, Tryd.ntmps15
  go_wp2
  refine bodyPost_ret (by simp [results, Tryd.results15, go_sem]; try rfl) rfl ?_
  exact ⟨by first | rfl | (simp; done), (by repeat' (first | (with_reducible exact Gr.refl _) | (with_reducible assumption) | (with_reducible refine Gr.alloc ?_ _) | (with_reducible refine Gr.drew ?_) | (with_reducible refine Gr.drewN ?_ _) | (with_reducible refine Gr.setCell ?_ ?_ _) | (with_reducible refine Gr.trans ?_ (by with_reducible assumption)) | go_size))⟩
end Go.Proofs.YtagfgnpjljaefaaDoor
