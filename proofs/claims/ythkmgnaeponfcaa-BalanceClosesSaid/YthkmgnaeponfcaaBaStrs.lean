/-
  Slices of strings: Contains, Equal, Grow, Concat.
-/
import Derived.Test.YthkmgnaeponfcaaBaThree
import Derived.Test.YthkmgnaeponfcaaBaKit
import Derived.Test.YthkmgnaeponfcaaShelf
import Derived.Shelf.Spec.SlicesGrow
import Derived.Laws.AppendOwnNone
import Derived.Deep.RegionHeld3
import Derived.Deep.DrawnRows
set_option linter.unusedVariables false
set_option linter.unusedSimpArgs false
namespace Go.Proofs.Ythkmgnaeponfcaa
open Go.RowKit Go.Shelf
attribute [local go_sem ↓] Go.wp_at_zero Go.wp_at_succ
namespace Ba
/-- The strings of a slice. -/
def lstS (n : Nat) (X : Nat → ByteArray) : List ByteArray := (List.range n).map X
theorem lstS_len (n : Nat) (X : Nat → ByteArray) : (lstS n X).length = n := by simp [lstS]
theorem lstS_get {n : Nat} {X : Nat → ByteArray} {i : Nat} (h : i < n) : (lstS n X)[i]? = some (X i) := by simp [lstS, h]
theorem lstS_getD {n : Nat} {X : Nat → ByteArray} {i : Nat} (h : i < n) : (lstS n X).getD i ByteArray.empty = X i := by
  rw [List.getD_eq_getElem?_getD, lstS_get h]; rfl
/-- Is a string among them? -/
def hasS (s : SlS) (t : ByteArray) : Bool := any (fun i => eqS (s.X i) t) s.n
theorem eqS_true {a b : ByteArray} : eqS a b = true ↔ a = b := by
  unfold eqS
  rw [Lib.toList_data, Lib.toList_data]
  constructor
  · intro h; exact WideShapes.bytes_inj (eq_of_beq h)
  · rintro rfl; simp
theorem hasS_iff (s : SlS) (t : ByteArray) : hasS s t = true ↔ ∃ i, i < s.n ∧ s.X i = t := by
  unfold hasS
  rw [any_iff]
  simp only [eqS_true]
theorem hasS_lst (s : SlS) (t : ByteArray) : Lib.containsS ((lstS s.n s.X).take s.n) t = hasS s t := by
  rw [Bool.eq_iff_iff, Lib.containsS_iff, hasS_iff, List.take_of_length_le (by rw [lstS_len]; omega)]
  simp [lstS]
end Ba
theorem contains_any (s : Ba.SlS) (t : ByteArray) (w : World) (h : s.At w) : Calls Try.prog 58 #[.slice s.A s.n s.c, .string t] w fun e w' => e = .returned (.bool (Ba.hasS s t)) ∧ Gr w w' := by
  have hm := Nat.le_trans h.hc h.hb
  by_cases h0 : s.n = 0
  · have e : Ba.hasS s t = false := by
      cases q : Ba.hasS s t
      · rfl
      · obtain ⟨i, hi, -⟩ := (Ba.hasS_iff s t).1 q; omega
    rw [h0, e]
    exact (Try.slices_Contains_string_empty s.A s.c t w).mono fun _ _ ⟨a, b⟩ => ⟨a, b ▸ Gr.refl _⟩
  · rw [h.hA (by omega), ← Ba.hasS_lst]
    exact (Try.slices_Contains_string s.b s.o s.n s.c (Ba.lstS s.n s.X) t w (by rw [Ba.lstS_len]; omega) hm (fun j hj => by rw [Ba.lstS_len] at hj; rw [Ba.lstS_getD hj]; exact (h.hX j hj).1)).mono fun _ _ ⟨a, b⟩ => ⟨a, b ▸ Gr.refl _⟩
theorem equal_any (s t : Ba.SlS) (w : World) (h : s.At w) (k : t.At w) (hn : s.n = t.n) (hx : ∀ i, i < s.n → s.X i = t.X i) : Calls Try.prog 30 #[.slice s.A s.n s.c, .slice t.A t.n t.c] w fun e w' => e = .returned (.bool true) ∧ Gr w w' := by
  have hm := Nat.le_trans h.hc h.hb; have km := Nat.le_trans k.hc k.hb
  by_cases h0 : s.n = 0
  · rw [h0]
    exact (Try.slices_Equal_string_empty s.A t.A s.c t.n t.c w km).mono fun _ _ ⟨a, b⟩ => ⟨by rw [a, decide_eq_true (by omega : t.n = 0)], b ▸ Gr.refl _⟩
  · rw [h.hA (by omega), k.hA (by omega)]
    refine (Try.slices_Equal_string s.b s.o s.n s.c t.b t.o t.n t.c (Ba.lstS s.n s.X) (Ba.lstS t.n t.X) w (by rw [Ba.lstS_len]; omega) (by rw [Ba.lstS_len]; omega) hm km (fun j hj => by rw [Ba.lstS_len] at hj; rw [Ba.lstS_getD hj]; exact (h.hX j hj).1) (fun j hj => by rw [Ba.lstS_len] at hj; rw [Ba.lstS_getD hj]; exact (k.hX j hj).1)).mono fun _ w' ⟨a, q, b⟩ => ⟨?_, ?_⟩
    · rw [a, List.take_of_length_le (by rw [Ba.lstS_len]; omega), List.take_of_length_le (by rw [Ba.lstS_len]; omega)]
      rw [decide_eq_true]
      refine List.ext_getElem? fun i => ?_
      by_cases hi : i < s.n
      · rw [Ba.lstS_get hi, Ba.lstS_get (by omega), hx i hi]
      · rw [List.getElem?_eq_none (by rw [Ba.lstS_len]; omega), List.getElem?_eq_none (by rw [Ba.lstS_len]; omega)]
    · rw [b]; exact Gr.drewN (Gr.refl _) q
/-- slices.Grow at []string. -/
def grow_ren : Go.Shelf.Ren := ⟨fun | 4 => 48 | n => n, fun | 22 => 34 | 25 => 9 | 9 => 9 | 3 => 3 | 4 => 4 | 20 => 20 | n => n, fun | n => n⟩
theorem grow_lays : Go.Proofs.Lays8.n4 Try.prog grow_ren := {
  mixed := by kernel_rfl
  f4 := ⟨"slices.Grow[[]string,string]", (by kernel_rfl), Try.func48.trans (congrArg some (by kernel_rfl))⟩
  t0 := by kernel_rfl
  a0 := fun _ => by kernel_rfl
  z0 := fun _ => by kernel_rfl
  v0 := fun _ => by kernel_rfl
  t3 := by kernel_rfl
  a3 := fun _ => by kernel_rfl
  z3 := fun _ => by kernel_rfl
  v3 := fun _ => by kernel_rfl
  t4 := by kernel_rfl
  a4 := fun _ => by kernel_rfl
  z4 := fun _ => by kernel_rfl
  v4 := fun _ => by kernel_rfl
  t9 := by kernel_rfl
  a9 := fun _ => by kernel_rfl
  z9 := fun _ => by kernel_rfl
  v9 := fun _ => by kernel_rfl
  t20 := by kernel_rfl
  a20 := fun _ => by kernel_rfl
  z20 := fun _ => by kernel_rfl
  v20 := fun _ => by kernel_rfl
  t22 := by kernel_rfl
  a22 := fun _ => by kernel_rfl
  z22 := fun _ => by kernel_rfl
  v22 := fun _ => by kernel_rfl }
theorem info_str : (Try.prog.info? 9).map (fun i => (i.zero, i.size, i.bytes)) = some (some (.string ⟨#[]⟩), 1, 16) := by kernel_rfl
theorem grown_row {w : World} {E cap : Nat} {arr : Array Value} (hc : cap ≤ maxLen) (hs : arr.size = cap) : (w.drew.alloc (.cells arr E)).ownsRow w.heap.size E 1 (.slice (some ⟨w.heap.size, 0, none⟩) 0 cap) 0 [] :=
  ⟨rfl, Or.inr ⟨w.heap.size, cap, arr, rfl, Nat.le_refl _, heap_alloc_new w.drew _, Nat.zero_le _, hc, by simp [hs], by simp⟩⟩
set_option maxRecDepth 100000 in
set_option maxHeartbeats 1000000 in
theorem grow_any (n : Nat) (w : World) (hn : n ≤ 10000) : Calls Try.prog 48 #[.slice none 0 0, .int .i64 (n : Int)] w fun e w' => ∃ v, e = .returned v ∧ w'.ownsRow w.heap.size 9 1 v 0 [] ∧ Gr w w' := by
  by_cases h0 : n = 0
  · subst h0
    exact (Any8.slices_Grow_room grow_lays none 0 0 0 w (Nat.le_refl _) (by omega) (by omega) (by omega)).mono fun e w' ⟨h1, h2⟩ => ⟨_, h1, ⟨rfl, Or.inl ⟨rfl, rfl⟩⟩, h2 ▸ Gr.refl _⟩
  · obtain ⟨i0, hi0, hz0, hz1, hz2⟩ := info_parts info_str
    refine (Any8.slices_Grow_grow grow_lays i0 _ hi0 hz0 (by omega) none 0 0 n [] w (Nat.le_refl _) (by omega) (by rw [hz2]; omega) (by omega) (by simp) (fun _ => rfl) (fun _ h => by cases h)).mono ?_
    rintro e w' ⟨rfl, rfl⟩
    refine ⟨_, rfl, grown_row (grownCap_le_maxLen _ _ _ _ (by unfold maxLen; omega)) ?_, Gr.alloc (Gr.drew (Gr.refl _)) _⟩
    have := grownCap_ge w (0 + n) 0 (grow_ren.t 25)
    rw [Nat.zero_add] at this ⊢
    simp [Builtin.zeroCells, Value.cells]
    omega
/-- What comes back is a slice of these strings. -/
def RetL (l : List ByteArray) (w : World) (e : Ending) (w' : World) : Prop := ∃ s : Ba.SlS, e = .returned (.slice s.A s.n s.c) ∧ s.At w' ∧ s.n = l.length ∧ (∀ i, i < s.n → l[i]? = some (s.X i)) ∧ Gr w w'
theorem sls_own {n base E : Nat} {w' : World} {v : Value} {l : List ByteArray} (h : w'.ownsRow base E 1 v n (l.map Value.string)) (hl : ∀ x ∈ l, x.size ≤ 9223372036854775807) : ∃ s : Ba.SlS, v = .slice s.A s.n s.c ∧ s.At w' ∧ s.n = l.length ∧ ∀ i, i < s.n → l[i]? = some (s.X i) := by
  have hn : n = l.length := by have := h.1; simpa using this.symm
  obtain ⟨A, c, b, rfl, h1, h2, h3, h4⟩ := ownsRow_at h
  have hx : ∀ i, i < n → l[i]? = some (l.getD i ByteArray.empty) := fun i hi => by
    rw [List.getD_eq_getElem?_getD, List.getElem?_eq_getElem (by omega)]; rfl
  refine ⟨⟨A, n, c, b, 0, fun i => l.getD i ByteArray.empty⟩, rfl, ⟨h1, h2, h3, fun i hi => ?_⟩, hn, fun i hi => hx i hi⟩
  have hxi := hx i hi
  refine ⟨?_, hl _ (List.mem_of_getElem? hxi)⟩
  simp only [Nat.zero_add]
  rw [h4 i hi, List.getElem?_map, hxi]; rfl
theorem src_at {w : World} {ad : Addr} {n b o : Nat} {X : Nat → ByteArray} (hA : 0 < n → some ad = some ⟨b, o, none⟩) (hX : ∀ j, j < n → w.cell? ⟨b, o + j, none⟩ = some (.string (X j))) : ∀ (j : Nat) (u : Value), ((Ba.lstS n X).map Value.string)[j]? = some u → w.cell? (ad.add j) = some u := by
  intro j u hj
  have hjn : j < n := by
    have := (List.getElem?_eq_some_iff.1 hj).1
    simpa [Ba.lstS_len] using this
  rw [List.getElem?_map, Ba.lstS_get hjn] at hj
  cases hj
  have e := hA (by omega)
  cases e
  have := hX j hjn
  by_cases h0 : j = 0
  · subst h0; simpa [Addr.add, go_sem] using this
  · simpa [Addr.add, go_sem, h0] using this
theorem str_one (l : List ByteArray) : ∀ u ∈ l.map Value.string, u.oneCell' = true := by
  intro u hu
  obtain ⟨x, -, rfl⟩ := List.mem_map.1 hu
  rfl
theorem Ba.SlS.at_gr {w W : World} {b o : Nat} {x : ByteArray} (h : w.cell? ⟨b, o, none⟩ = some (.string x) ∧ x.size ≤ 9223372036854775807) (hg : Gr w W) : W.cell? ⟨b, o, none⟩ = some (.string x) := Gr.at hg h.1
end Go.Proofs.Ythkmgnaeponfcaa
