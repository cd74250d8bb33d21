/-
  Alarms: slices.Clone at alarms. Typed.
  Alarms: the builtin clear at structs of several cells. Typed.
  Alarms: the closure of AlarmsDropped. Typed.
-/
import Derived.Test.YtllkiadedaghoaaGreatCm46
import Derived.Test.YtllkiadedaghoaaGreatCm37
import Derived.Shelf.SlicesE.Clone
import Derived.Lib.SliceRun
set_option linter.unusedVariables false
set_option linter.unusedSimpArgs false
namespace Go.Proofs.YtllkiadedaghoaaGreat
open Go.RowKit Go.Shelf Go.Sort
attribute [local go_sem ↓] Go.wp_at_zero Go.wp_at_succ
def Al.SlA.lst (s : SlA) : List Al.A := (List.range s.n).map s.D
theorem Al.SlA.lst_len (s : SlA) : s.lst.length = s.n := by simp [SlA.lst]
theorem Al.SlA.lst_con (s : SlA) : s.lst.map Al.A.con = s.con := by simp [SlA.lst, SlA.con]
theorem Al.SlA.lst_own {w : World} {s : SlA} (h : s.At w) : ∀ a ∈ s.lst, a.Own w := by
  intro a ha
  obtain ⟨i, hi, rfl⟩ := List.mem_map.1 ha
  exact (h.hD i (List.mem_range.1 hi)).2
theorem Al.SlA.lst_cell {w : World} {s : SlA} (h : s.At w) (j : Nat) (u : Value) (hj : (s.lst.flatMap Al.A.enc)[j]? = some u) : w.cell? ⟨s.b, s.o + j, none⟩ = some u := by
  have hlt : j < s.n * 4 := by
    have := (List.getElem?_eq_some_iff.1 hj).1
    rw [Al.enc_len, Al.SlA.lst_len] at this
    exact this
  have hi : j / 4 < s.n := by omega
  have e := flat_get Al.A.enc 4 (fun _ => rfl) s.lst (j / 4) (j % 4) (by rw [Al.SlA.lst_len]; exact hi) (Nat.mod_lt _ (by decide))
  rw [show j / 4 * 4 + j % 4 = j by omega, hj] at e
  have hu := Option.some.inj e
  have hd : s.lst[j / 4]! = s.D (j / 4) := by rw [getElem!_pos _ _ (by rw [Al.SlA.lst_len]; exact hi)]; simp [SlA.lst]
  rw [hd] at hu
  obtain ⟨c0, c1, c2, c3⟩ := (h.hD (j / 4) hi).1
  have hm : j % 4 = 0 ∨ j % 4 = 1 ∨ j % 4 = 2 ∨ j % 4 = 3 := by omega
  rcases hm with q | q | q | q
  · rw [q] at hu; rw [show s.o + j = s.o + j / 4 * 4 by omega, c0, hu]; rfl
  · rw [q] at hu; rw [show s.o + j = s.o + j / 4 * 4 + 1 by omega, c1, hu]; rfl
  · rw [q] at hu; rw [show s.o + j = s.o + j / 4 * 4 + 2 by omega, c2, hu]; rfl
  · rw [q] at hu; rw [show s.o + j = s.o + j / 4 * 4 + 3 by omega, c3, hu]; rfl
set_option maxRecDepth 100000 in
set_option maxHeartbeats 4000000 in
theorem cloneA_any (s : Al.SlA) (w : World) (h : s.At w) (hn : s.n ≤ 100000) : Calls Tryz.prog 32 #[.slice s.A s.n s.c] w fun e w' => ∃ v, e = .returned v ∧ Al.OwnA w' w.heap.size v s.lst ∧ Gr w w' := by
  obtain ⟨i1, k0, k1, k2, k3⟩ := info_parts infoA
  have KI := Lib.hid k0; have KZ0 := Lib.hid k1; have KZ1 := Lib.hid k2; have KZ2 := Lib.hid k3
  clear k0 k1 k2 k3
  have q22 : ∀ (w : World) (a : Option Addr) (n c n' c' : Nat), (binOp .eql 29 (.slice a n c) (.slice none n' c')).run Tryz.prog w = .ok (.bool a.isNone) w := fun w a n c n' c' => Lib.run_eql_slice_nil w _ _ a n c n' c' Tryz.underlying29
  cases hA : s.A with
  | none =>
    have h0 : s.n = 0 := by
      rcases Nat.eq_zero_or_pos s.n with q | q
      · exact q
      · have := h.hA q; rw [hA] at this; cases this
    have hl : s.lst = [] := by simp [Al.SlA.lst, h0]
    rw [hl]
    generalize s.n = n at *; generalize s.c = c at *
    clear h hA hl KI
    go_enter Tryz.func32, Tryz.ntmps32
    go_wp2_with fail
    go_ret
    exact ⟨_, rfl, Al.OwnA.nil _ _, gr_auto⟩
  | some ad =>
    have HO := Lib.hid (Al.SlA.lst_own h)
    have HC := Lib.hid (fun j u (hj : (s.lst.flatMap Al.A.enc)[j]? = some u) => show w.cell? (ad.add j) = some u from by
      have hlt := (List.getElem?_eq_some_iff.1 hj).1
      rw [Al.enc_len, Al.SlA.lst_len] at hlt
      have h1 := h.hA (by omega)
      rw [hA] at h1
      have h2 := Option.some.inj h1
      have e : ad.add j = ⟨s.b, s.o + j, none⟩ := by rw [h2]; simp [Addr.add]
      rw [e]; exact Al.SlA.lst_cell h j u hj)
    have HL := Lib.hid (show (s.lst.flatMap Al.A.enc).length = s.n * 4 from by rw [Al.enc_len, Al.SlA.lst_len])
    have HLn := Lib.hid (Al.SlA.lst_len s)
    generalize s.lst = d at *
    generalize s.n = n at *; generalize s.c = c at *
    clear h hA
    go_enter Tryz.func32, Tryz.ntmps32
    go_wp2_with (at_builtin; refine wpList_append_own _ rfl _ _ 29 rfl w.heap.size 35 i1 (.agg #[.int .i64 0, .string ⟨#[]⟩, .int .i64 0, .slice none 0 0]) 4 56 Tryz.underlying29 KI.out KZ0.out KZ1.out KZ2.out rfl (by decide) _ _ [] rfl (own_empty (World.alloc_heap_new w _) (Nat.le_refl _)) ad n c (d.flatMap Al.A.enc) rfl HL.out (fun j u hj => cell_later (a := ad.add j) (Gr.alloc (Gr.refl w) _) (HC.out j u hj)) (Al.enc_one _) (by unfold maxLen; omega) (by omega) (by simp) ?_)
    intro v' w9 hown' hgrow hnil
    have g9 : Gr w w9 := Gr.own (Gr.alloc (Gr.refl w) _) (Nat.le_refl _) (own_empty (E := 35) (k := 4) (World.alloc_heap_new w (Obj.cells #[] 35)) (Nat.le_refl _)) hgrow
    have HP := Lib.hid (show Al.OwnA w9 w.heap.size v' d from ⟨by rw [HLn.out]; simpa using hown', fun a ha => (HO.out a ha).gr g9⟩)
    clear hown' hgrow hnil HC
    go_wp2_with fail
    go_ret
    exact ⟨_, rfl, HP.out, g9⟩
end Go.Proofs.YtllkiadedaghoaaGreat
set_option linter.unusedVariables false
set_option linter.unusedSimpArgs false
namespace Go.Proofs.YtllkiadedaghoaaGreat
open Go.RowKit Go.Shelf Go.Sort
theorem run_clear_wide {P : Program} (w : World) (t e ty : TypeId) (z : Value) (ht : P.underlying t = some (.slice e)) (hv : ∀ w, (zeroValue e).run P w = .ok z w) (k : Nat) (hk : z.cells.size = k) (h1 : ∀ v ∈ z.cells, v.oneCell' = true) (b o n c : Nat) (hn : 0 < n)
    (hc : ∀ j, j < n * k → (w.cell? ⟨b, o + j, none⟩).isSome = true) (hf : ∀ j, j < n * k → w.frozen? ⟨b, o + j, none⟩ = false) :
    ∃ vs : List Value, vs.length = n * k ∧ (Builtin.clear_ #[t] ty #[.slice (some ⟨b, o, none⟩) n c]).run P w = .ok (.tuple #[]) (w.setCells b o vs) := by
  have hl : (Builtin.zeroCells z.cells n).toList.length = n * k := by simp [Builtin.zeroCells, hk]
  refine ⟨_, hl, ?_⟩
  have hst := run_storeCells_cells (P := P) b o (Builtin.zeroCells z.cells n).toList 0 w (by rw [hl]; simpa using hc) (by rw [hl]; simpa using hf) (by
    intro v hv'
    simp only [Builtin.zeroCells, Array.toList_map, List.mem_map, Array.toList_range, List.mem_range] at hv'
    obtain ⟨i, hi, rfl⟩ := hv'
    have hp : 0 < z.cells.size := by
      rcases Nat.eq_zero_or_pos z.cells.size with q | q
      · rw [q] at hi; simp at hi
      · exact q
    rw [getElem!_pos z.cells (i % z.cells.size) (Nat.mod_lt _ hp)]
    exact h1 _ (Array.getElem_mem _))
  simp only [Nat.add_zero] at hst
  obtain ⟨m, rfl⟩ : ∃ m, n = m + 1 := ⟨n - 1, by omega⟩
  simp [Builtin.clear_, run_underlying ht, hv, hst]
end Go.Proofs.YtllkiadedaghoaaGreat
set_option linter.unusedVariables false
set_option linter.unusedSimpArgs false
namespace Go.Proofs.YtllkiadedaghoaaGreat
open Go.RowKit Go.Shelf Go.Sort
attribute [local go_sem ↓] Go.wp_at_zero Go.wp_at_succ
set_option maxRecDepth 100000 in
set_option maxHeartbeats 4000000 in
theorem drf_any (a : Al.A) (t : ByteArray) (B : Nat) (w : World) (hc : w.cell? ⟨B, 0, none⟩ = some (.string t)) : Calls Tryz.prog 33 #[a.val, .pointer (some ⟨B, 0, none⟩)] w fun e w' => e = .returned (.bool (Ba.eqS a.nd t)) ∧ Gr w w' := by
  unfold Al.A.val
  cases a with | mk akd and_ atm ap ab ao an ac aX =>
  simp only [] at *
  have hB : B < w.heap.size := World.block_lt_of_cell? _ _ hc
  go_enter Tryz.func33, Tryz.ntmps33
  go_wp2_with fail
  go_ret
  exact ⟨rfl, gr_auto⟩
end Go.Proofs.YtllkiadedaghoaaGreat
