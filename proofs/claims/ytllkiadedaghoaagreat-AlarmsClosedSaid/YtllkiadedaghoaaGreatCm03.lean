/-
  Alarms: slices.SortFunc at the program's structs, by contents. Typed.
  Alarms: ordered. Typed.
  slices.IndexFunc and slices.ContainsFunc, whatever the closure: the first element that has a property.
-/
import Derived.Test.YtllkiadedaghoaaGreatCm02
import Derived.Test.YtllkiadedaghoaaGreatShelf
import Derived.Test.YtllkiadedaghoaaGreatCm01
import Derived.Shelf.SlSortCmp.NoneTotal
set_option linter.unusedVariables false
set_option linter.unusedSimpArgs false
namespace Go.Proofs.YtllkiadedaghoaaGreat
open Go.RowKit Go.Sort Go.Shelf
namespace Al
/-- A block's cells are the elements of a list, one behind the other; they may be written. -/
def RowE {α : Type} [Inhabited α] (enc : α → List Value) (k : Nat) (w : World) (R : Nat) (d : List α) : Prop := ∀ i, i < d.length → ∀ c, c < k → Own w R (i * k + c) (enc d[i]!)[c]!
end Al
theorem grx_sort {α : Type} [Inhabited α] (enc : α → List Value) (k : Nat) (w : World) (R off m : Nat) (d : Array α) (os : Array Obj) (hR : R < w.heap.size) : GrX R w (sortWorldK enc k w R off m d os) where
  os := rfl
  tape := rfl
  output := rfl
  size := by simp [sortWorldK, grow, putRowK, putRow, mapBlock]
  block i hi hne := by
    unfold sortWorldK
    rw [heap_grow_old _ _ (by rw [size_putRowK]; exact hi)]
    simp only [putRowK, putRow, mapBlock, Array.getElem?_modify, heap_ahead]
    rw [if_neg (Ne.symm hne)]
  row o h := by
    unfold sortWorldK
    rw [cell?_grow _ _ _ (by rw [size_putRowK]; exact hR)]
    simp only [putRowK, putRow]
    have h0 := h
    simp only [World.cell?] at h
    cases e : w.heap[R]? with
    | none => rw [e] at h; simp at h
    | some b =>
      cases b with
      | cells c t fr =>
        rw [cell?_mapBlock (c := c) (e := t) (fr := fr) _ _ _ _ (by simpa using e)]
        rw [e] at h
        simp only [putCells, Array.getElem?_mapIdx, Option.isSome_map]
        simpa using h
      | _ => rw [e] at h; simp at h
  free o h := by
    unfold sortWorldK
    rw [frozen?_grow _ _ _ (by rw [size_putRowK]; exact hR)]
    simp only [putRowK, frozen?_putRow, frozen?_ahead]
theorem lists_getD {α β : Type} [Inhabited α] [Inhabited β] (f : α → β) {l : List α} {i : Nat} (h : i < l.length) : (l.map f)[i]! = f l[i]! := by
  rw [List.getElem!_eq_getElem?_getD, List.getElem!_eq_getElem?_getD, List.getElem?_map, List.getElem?_eq_getElem h]
  rfl
set_option maxHeartbeats 4000000 in
/-- slices.SortFunc of a row of structs whose comparison is a total order of their contents: the row holds a permutation in order; nothing else that was there has turned. -/
theorem sort_gen {α β : Type} [Inhabited α] {ρ : Ren} (L : Go.Proofs.SlLaysF0.n6 Tryz.prog ρ) (k : Nat) (aE : ∀ w, (isAgg (ρ.t 24)).run Tryz.prog w = .ok true w) (zE : ∀ w, (Go.sizeOf (ρ.t 24)).run Tryz.prog w = .ok k w) (enc : α → List Value) (hk : ∀ x, (enc x).length = k) (h1 : ∀ x, ∀ v ∈ enc x, v.oneCell' = true) (f : β → β → Int) (hf : Al.Gd f) (p : α → β) (g : Nat) (R c : Nat) (d : List α) (w : World) (V : α → Prop)
    (eg : ∀ args w, (callFunc g args).run Tryz.prog w = .ok (.enter g args) w) (hV : ∀ x ∈ d, V x) (hne : d ≠ [])
    (hcmp : ∀ W, GrX R w W → ∀ x y, V x → V y → Calls Tryz.prog g #[.agg (enc x).toArray, .agg (enc y).toArray] W fun e w' => e = .returned (.int .i64 (f (p x) (p y))) ∧ ∃ q os, w' = grow (W.drewN q) os)
    (hH : Al.RowE enc k w R d) (hR : R < w.heap.size) (hsz : d.length ≤ 1000000) :
    Calls Tryz.prog (ρ.f 6) #[.slice (some ⟨R, 0, none⟩) d.length c, .func (.func g) #[] #[]] w fun e w' => e = .returned (.tuple #[]) ∧ ∃ d' : List α, d.Perm d' ∧ d'.Pairwise (fun a b => f (p a) (p b) ≤ 0) ∧ Al.RowE enc k w' R d' ∧ GrX R w w' := by
  have x0 : {x : α // V x} := ⟨d.head hne, hV _ (List.head_mem hne)⟩
  haveI : Inhabited {x : α // V x} := ⟨x0⟩
  obtain ⟨D, hD⟩ : ∃ D : List {x : α // V x}, D.map Subtype.val = d := ⟨d.attachWith V hV, by simp⟩
  have hlen : D.length = d.length := by rw [← hD]; simp
  have hH' : HoldsK (fun x : {x : α // V x} => enc x.1) k w R 0 D.toArray := by
    intro j hj
    rw [size_flatK] at hj
    rw [get_flatK _ _ _ _ hj]
    have kp : 0 < k := by
      rcases Nat.eq_zero_or_pos k with z | z
      · rw [z] at hj; omega
      · exact z
    have hi : j / k < D.length := by
      have := (Nat.div_lt_iff_lt_mul kp).2 (show j < D.length * k by simpa using hj); exact this
    have := hH (j / k) (by omega) (j % k) (Nat.mod_lt _ kp)
    rw [show j / k * k + j % k = j by rw [Nat.mul_comm]; exact Nat.div_add_mod _ _] at this
    rw [Nat.zero_add]
    refine ⟨?_, this.2⟩
    rw [this.1]
    have e : d[j / k]! = (D.toArray[j / k]!).1 := by
      rw [← hD, lists_getD _ hi]; simp
    rw [e]; rfl
  have hcon := AnyQ.slices_SortFunc L k aE zE (fun x : {x : α // V x} => enc x.1) (fun x => hk x.1) (fun x => h1 x.1) (fun x y => f (p x.1) (p y.1)) (hf.swo fun x : {x : α // V x} => p x.1) g #[] R 0 c D.toArray w eg (fun m os dk _ x y => hcmp _ (grx_sort _ _ _ _ _ _ _ _ hR) x.1 y.1 x.2 y.2) hH' hR (by simp; omega)
  simp only [List.size_toArray, hlen] at hcon
  refine hcon.mono ?_
  rintro e w' ⟨rfl, d', n, os, hp, hs, rfl⟩
  obtain ⟨hsz', -, hpm⟩ := hp
  have hsz2 : d'.size = d.length := by simpa [hlen] using hsz'
  refine ⟨rfl, d'.toList.map Subtype.val, ?_, ?_, ?_, grx_sort _ _ _ _ _ _ _ _ hR⟩
  · rw [← hD]
    refine List.Perm.map _ ?_
    have e1 : d'.extract 0 d.length = d' := by rw [← hsz2]; exact Array.extract_size
    have e2 : D.toArray.extract 0 d.length = D.toArray := by
      have := Array.extract_size (xs := D.toArray); rw [List.size_toArray, hlen] at this; exact this
    rw [e1, e2] at hpm
    exact hpm.symm
  · rw [List.pairwise_map, List.pairwise_iff_getElem]
    intro i j hi hj hij
    have := hs i j (Nat.zero_le _) hij (by simp only [Array.length_toList] at hj; omega)
    simp only [ltOf, decide_eq_false_iff_not, Int.not_lt] at this
    simp only [Array.length_toList] at hi hj
    rw [getElem!_pos d' j hj, getElem!_pos d' i hi] at this
    simp only [Array.getElem_toList]
    rcases Int.lt_or_eq_of_le this with z | z
    · exact Int.le_of_lt (hf.pos _ _ z)
    · rw [hf.zero _ _ z.symm, hf.self]; exact Int.le_refl _
  · have hh := holdsK_sortWorldK_c (fun x : {x : α // V x} => enc x.1) k w R 0 D.toArray d' n os hH' hR (by simp [hsz2, hlen])
    intro i hi cc hc
    simp only [List.length_map, Array.length_toList] at hi
    have := hh.cell hi hc
    rw [Nat.zero_add] at this
    have e : (d'.toList.map Subtype.val)[i]! = (d'[i]!).1 := by
      rw [lists_getD _ (by simpa using hi), List.getElem!_eq_getElem?_getD, Array.getElem?_toList, getElem!_pos d' i hi, Array.getElem?_eq_getElem hi]; rfl
    rw [e]
    exact this
set_option maxHeartbeats 4000000 in
/-- alarms' and telemetry's sorts. -/
theorem sortA_any (R c : Nat) (d : List Al.A) (w : World) (hR : R < w.heap.size) (hV : ∀ a ∈ d, a.At w ∧ a.b ≠ R) (hne : d ≠ []) (hH : Al.RowE Al.A.enc 4 w R d) (hsz : d.length ≤ 1000000) :
    Calls Tryz.prog 86 #[.slice (some ⟨R, 0, none⟩) d.length c, .func (.func 72) #[] #[]] w fun e w' => e = .returned (.tuple #[]) ∧ ∃ d' : List Al.A, d.Perm d' ∧ d'.Pairwise (fun a b => Al.ccmp a.con b.con ≤ 0) ∧ Al.RowE Al.A.enc 4 w' R d' ∧ GrX R w w' :=
  sort_gen Tryz.sortAlarms 4 Tryz.isAgg35 Tryz.sizeOf35 Al.A.enc (fun _ => rfl) (fun x v hv => by simp [Al.A.enc] at hv; rcases hv with rfl | rfl | rfl | rfl <;> rfl) Al.ccmp Al.Gd.con Al.A.con 72 R c d w (fun a => a.At w ∧ a.b ≠ R)
    (enters_of Tryz.func72 (by kernel_rfl) rfl) hV hne (fun W hW x y hx hy => by
      have up : ∀ {a : Al.A}, a.At w → a.b ≠ R → a.At W := fun h hn => ⟨h.hn, h.hp, fun i hi => GrX.at hW hn (h.hX i hi)⟩
      have := acmp_any x y W (up hx.1 hx.2) (up hy.1 hy.2)
      rw [Al.acmp_con] at this
      exact this) hH hR hsz
set_option maxHeartbeats 4000000 in
theorem sortM_any (R c : Nat) (d : List Al.M) (w : World) (hR : R < w.heap.size) (hne : d ≠ []) (hH : Al.RowE Al.M.enc 5 w R d) (hsz : d.length ≤ 1000000) :
    Calls Tryz.prog 159 #[.slice (some ⟨R, 0, none⟩) d.length c, .func (.func 129) #[] #[]] w fun e w' => e = .returned (.tuple #[]) ∧ ∃ d' : List Al.M, d.Perm d' ∧ d'.Pairwise (fun a b => Al.kcmp a.key b.key ≤ 0) ∧ Al.RowE Al.M.enc 5 w' R d' ∧ GrX R w w' :=
  sort_gen Tryz.sortMsgs 5 Tryz.isAgg57 Tryz.sizeOf57 Al.M.enc (fun _ => rfl) (fun x v hv => by simp [Al.M.enc] at hv; rcases hv with rfl | rfl | rfl | rfl | rfl <;> rfl) Al.kcmp Al.Gd.key Al.M.key 129 R c d w (fun _ => True)
    (enters_of Tryz.func129 (by kernel_rfl) rfl) (fun _ _ => trivial) hne (fun W hW x y hx hy => by
      have := mcmp_any x y W
      rw [Al.mcmp_key] at this
      exact this) hH hR hsz
end Go.Proofs.YtllkiadedaghoaaGreat
set_option linter.unusedVariables false
set_option linter.unusedSimpArgs false
namespace Go.Proofs.YtllkiadedaghoaaGreat
open Go.RowKit Go.Sort Go.Shelf
attribute [local go_sem ↓] Go.wp_at_zero Go.wp_at_succ
set_option maxRecDepth 100000 in
theorem ordered_any (R c : Nat) (d : List Al.A) (w : World) (hR : R < w.heap.size) (hV : ∀ a ∈ d, a.At w ∧ a.b ≠ R) (hne : d ≠ []) (hH : Al.RowE Al.A.enc 4 w R d) (hsz : d.length ≤ 1000000) :
    Calls Tryz.prog 52 #[.slice (some ⟨R, 0, none⟩) d.length c] w fun e w' => e = .returned (.slice (some ⟨R, 0, none⟩) d.length c) ∧ ∃ d' : List Al.A, d.Perm d' ∧ d'.Pairwise (fun a b => Al.ccmp a.con b.con ≤ 0) ∧ Al.RowE Al.A.enc 4 w' R d' ∧ GrX R w w' := by
  have HS := Lib.hid (sortA_any R c d w hR hV hne hH hsz)
  clear hR hV hne hH hsz
  generalize hn : d.length = n at *
  clear hn
  go_enter Tryz.func52, Tryz.ntmps52
  go_wp2_with fail
  refine HS.out.mono ?_
  rintro e w1 ⟨rfl, h⟩
  clear HS
  go_wp2_with fail
  go_ret
  exact ⟨rfl, h⟩
theorem ordered_none (p : Option Addr) (c : Nat) (w : World) :
    Calls Tryz.prog 52 #[.slice p 0 c] w fun e w' => e = .returned (.slice p 0 c) ∧ w' = w := by
  have HS := Lib.hid (show Calls Tryz.prog 86 #[.slice p 0 c, .func (.func 72) #[] #[]] w (fun e w' => e = .returned (.tuple #[]) ∧ w' = w) from AnyF.slices_SortFunc_none Tryz.sortAlarms p c _ w)
  go_enter Tryz.func52, Tryz.ntmps52
  go_wp2_with fail
  refine HS.out.mono ?_
  rintro e w1 ⟨rfl, rfl⟩
  clear HS
  go_wp2_with fail
  go_ret
  exact ⟨rfl, rfl⟩
end Go.Proofs.YtllkiadedaghoaaGreat
set_option linter.unusedVariables false
set_option linter.unusedSimpArgs false
namespace Go.Proofs.YtllkiadedaghoaaGreat
open Go.RowKit
theorem ret_bool {a b : Bool} (h : a = b) : Ending.returned (.bool a) = .returned (.bool b) := by rw [h]
namespace Ba
/-- The first index below n that has a property. -/
def fst (p : Nat → Bool) : Nat → Option Nat
  | 0 => none
  | k + 1 => match fst p k with
    | some i => some i
    | none => if p k then some k else none
def fstI (p : Nat → Bool) (n : Nat) : Int := match fst p n with
  | some i => (i : Int)
  | none => -1
theorem fst_hit {p : Nat → Bool} {i : Nat} (h : fst p i = none) (hp : p i = true) : ∀ k, fst p (i + 1 + k) = some i
  | 0 => by rw [Nat.add_zero, fst, h]; simp [hp]
  | k + 1 => by rw [show i + 1 + (k + 1) = i + 1 + k + 1 by omega, fst, fst_hit h hp k]
theorem fst_miss {p : Nat → Bool} {i : Nat} (h : fst p i = none) (hp : p i = false) : fst p (i + 1) = none := by rw [fst, h]; simp [hp]
theorem fstI_hit {p : Nat → Bool} {i n : Nat} (h : fst p i = none) (hp : p i = true) (hi : i < n) : fstI p n = (i : Int) := by
  unfold fstI
  rw [show n = i + 1 + (n - (i + 1)) by omega, fst_hit h hp]
theorem fstI_none {p : Nat → Bool} {n : Nat} (h : fst p n = none) : fstI p n = -1 := by unfold fstI; rw [h]
theorem fst_some {p : Nat → Bool} : ∀ {n i : Nat}, fst p n = some i → i < n ∧ p i = true ∧ ∀ j, j < i → p j = false
  | 0, i, h => by cases h
  | n + 1, i, h => by
    rw [fst] at h
    cases e : fst p n with
    | some k =>
      rw [e] at h; simp only [Option.some.injEq] at h; subst h
      obtain ⟨a, b, c⟩ := fst_some e
      exact ⟨by omega, b, c⟩
    | none =>
      rw [e] at h
      simp only at h
      split at h
      · rename_i hp
        simp only [Option.some.injEq] at h; subst h
        refine ⟨by omega, hp, fun j hj => ?_⟩
        exact fst_no e j hj
      · cases h
where
  fst_no {p : Nat → Bool} : ∀ {n : Nat}, fst p n = none → ∀ j, j < n → p j = false
  | 0, _, j, hj => by omega
  | n + 1, h, j, hj => by
    rw [fst] at h
    cases e : fst p n with
    | some k => rw [e] at h; cases h
    | none =>
      rw [e] at h
      simp only at h
      split at h
      · cases h
      · rename_i hp
        by_cases e2 : j = n
        · subst e2; simpa using hp
        · exact fst_no e j (by omega)
/-- Has one of them the property? -/
def any (p : Nat → Bool) (n : Nat) : Bool := (fst p n).isSome
theorem fstI_ge (p : Nat → Bool) (n : Nat) : decide (0 ≤ fstI p n) = any p n := by
  unfold fstI any
  cases e : fst p n with
  | none => simp
  | some i => simp
end Ba
set_option maxRecDepth 100000 in
set_option maxHeartbeats 1000000 in
theorem idx_ints (f : FuncId) (cap : Array Value) (A : Option Addr) (n c b o : Nat) (X : Nat → Int) (p : Nat → Bool) (w : World) (hn : n ≤ 9223372036854775807) (hen : ∀ args w, (callFunc f args).run Tryz.prog w = .ok (.enter f args) w)
    (hA : 0 < n → A = some ⟨b, o, none⟩) (hX : ∀ i, i < n → w.cell? ⟨b, o + i, none⟩ = some (.int .i64 (X i)))
    (hp : ∀ i, i < n → ∀ W, Gr w W → Calls Tryz.prog f (#[.int .i64 (X i)] ++ cap) W fun e w' => e = .returned (.bool (p i)) ∧ Gr W w') :
    Calls Tryz.prog 88 #[.slice A n c, .func (.func f) #[] cap] w fun e w' => e = .returned (.int .i64 (Ba.fstI p n)) ∧ Gr w w' := by
  have HA := Lib.hid hA; have HX := Lib.hid hX; have HP := Lib.hid hp
  clear hA hX hp
  go_enter Tryz.func88, Tryz.ntmps88
  go_wp2_with fail
  go_loopw [8] (fun s8 wr => ∃ i : Nat, i ≤ n ∧ s8 = .int .i64 (i : Int) ∧ Gr w wr ∧ Hid (Ba.fst p i = none)) (fun s8 _ => n - (intOf s8).toNat)
  case atStart => exact ⟨0, Nat.zero_le _, rfl, Gr.refl _, rfl⟩
  case round =>
    obtain ⟨i, hi, rfl, hg, hf⟩ := hrel
    by_cases hlt : i < n
    · obtain rfl := HA.out (by omega)
      have a0 := Gr.at hg (HX.out i hlt)
      have HC := Lib.hid (HP.out i hlt)
      cases hpi : p i
      · rw [hpi] at HC
        have HF := Lib.hid (Ba.fst_miss hf.out hpi)
        clear hpi hi
        go_wp2_with fail
        refine (HC.out _ gr_auto).mono ?_
        rintro e w1 ⟨rfl, hb1⟩
        go_wp2_with fail
        go_roundw
        case rel => exact ⟨i + 1, by omega, by go_num, gr_auto, HF⟩
        case measure => simp [intOf]; omega
      · rw [hpi] at HC
        have HF := Lib.hid (Ba.fstI_hit hf.out hpi hlt)
        clear hpi hi
        go_wp2_with fail
        refine (HC.out _ gr_auto).mono ?_
        rintro e w1 ⟨rfl, hb1⟩
        go_wp2_with fail
        go_ret
        exact ⟨ret_int HF.out.symm, gr_auto⟩
    · obtain rfl : i = n := by omega
      have HF := Lib.hid (Ba.fstI_none hf.out)
      go_wp2_with fail
      go_ret
      exact ⟨ret_int HF.out.symm, hg⟩
end Go.Proofs.YtllkiadedaghoaaGreat
