/-
  Alarms, plain: the order of messages and of alarms; one sorted list of contents. Typed.
  Alarms: slices.SortFunc at the program's structs, by contents. Typed.
-/
import Derived.Test.YtllkiadedaghoaaGreatDoorOr10
import Derived.Test.YtllkiadedaghoaaGreatDoorOr05
import Derived.Sort.Walk0
import Derived.Lib.Strings
import Derived.Shelf.SlSortCmp.NoneTotal
set_option linter.unusedVariables false
set_option linter.unusedSimpArgs false
namespace Go.Proofs.YtllkiadedaghoaaGreatDoor
open Go.RowKit Go.Sort
namespace Al
/-- A comparison that is a total order. -/
structure Gd {α : Type} (f : α → α → Int) : Prop where
  self : ∀ a, f a a = 0
  zero : ∀ a b, f a b = 0 → a = b
  neg : ∀ a b, f a b < 0 → 0 < f b a
  pos : ∀ a b, 0 < f a b → f b a < 0
  tr : ∀ a b c, f a b < 0 → f b c < 0 → f a c < 0
theorem Gd.int : Gd Lib.compareInt := by
  constructor
  all_goals intros
  all_goals simp only [Lib.compareInt] at *
  all_goals (repeat' split at *)
  all_goals omega
theorem tl_inj {a b : ByteArray} (h : a.toList = b.toList) : a = b := by
  rw [Lib.toList_data, Lib.toList_data] at h
  exact ByteArray.ext (Array.toList_inj.1 h)
theorem cmpS_lt {a b : ByteArray} : cmpS a b < 0 ↔ a.toList < b.toList := by
  unfold cmpS
  rw [Go.Proofs.bytesLess_eq]
  by_cases h : a.toList < b.toList
  · simp [h]
  · simp only [h, decide_false, Bool.false_eq_true, if_false, iff_false]
    split <;> omega
theorem cmpS_gt {a b : ByteArray} : 0 < cmpS a b ↔ b.toList < a.toList := by
  unfold cmpS
  rw [Go.Proofs.bytesLess_eq]
  by_cases h : a.toList < b.toList
  · simp only [h, decide_true, if_true]
    exact ⟨fun x => by omega, fun x => absurd (List.lt_trans h x) (List.lt_irrefl _)⟩
  · by_cases e : a.toList = b.toList
    · simp [e, List.lt_irrefl]
    · simp only [h, decide_false, Bool.false_eq_true, if_false, beq_iff_eq, e]
      refine ⟨fun _ => ?_, fun _ => by omega⟩
      by_cases h2 : b.toList < a.toList
      · exact h2
      · exact absurd (List.le_antisymm (List.not_lt.1 h2) (List.not_lt.1 h)) e
theorem Gd.str : Gd cmpS where
  self a := by unfold cmpS; rw [Go.Proofs.bytesLess_eq]; simp [List.lt_irrefl]
  zero a b h := by
    by_cases e : a.toList = b.toList
    · exact tl_inj e
    · unfold cmpS at h
      rw [show (a.toList == b.toList) = false from beq_eq_false_iff_ne.2 e] at h
      split at h <;> simp at h
  neg a b h := cmpS_gt.2 (cmpS_lt.1 h)
  pos a b h := cmpS_lt.2 (cmpS_gt.1 h)
  tr a b c h1 h2 := cmpS_lt.2 (List.lt_trans (cmpS_lt.1 h1) (cmpS_lt.1 h2))
theorem cmpL_self : ∀ a : List Int, cmpL a a = 0
  | [] => rfl
  | x :: a => by rw [cmpL, if_pos (cmp_zero.2 rfl)]; exact cmpL_self a
theorem cmpL_zero : ∀ a b : List Int, cmpL a b = 0 → a = b
  | [], [], _ => rfl
  | [], _ :: _, h => by simp [cmpL] at h
  | _ :: _, [], h => by simp [cmpL] at h
  | x :: a, y :: b, h => by
    rw [cmpL] at h
    split at h
    · rename_i e; rw [cmp_zero.1 e, cmpL_zero a b h]
    · rename_i e; exact absurd h e
theorem cmpL_neg : ∀ a b : List Int, cmpL a b < 0 → 0 < cmpL b a
  | [], [], h => by simp [cmpL] at h
  | [], _ :: _, _ => by simp [cmpL]
  | _ :: _, [], h => by simp [cmpL] at h
  | x :: a, y :: b, h => by
    rw [cmpL] at h ⊢
    split at h
    · rename_i e; obtain rfl := cmp_zero.1 e; rw [if_pos e]; exact cmpL_neg a b h
    · rename_i e
      have := Gd.int.neg _ _ h
      rw [if_neg (by omega)]; exact this
theorem cmpL_pos : ∀ a b : List Int, 0 < cmpL a b → cmpL b a < 0
  | [], [], h => by simp [cmpL] at h
  | [], _ :: _, h => by simp [cmpL] at h
  | _ :: _, [], _ => by simp [cmpL]
  | x :: a, y :: b, h => by
    rw [cmpL] at h ⊢
    split at h
    · rename_i e; obtain rfl := cmp_zero.1 e; rw [if_pos e]; exact cmpL_pos a b h
    · rename_i e
      have := Gd.int.pos _ _ h
      rw [if_neg (by omega)]; exact this
theorem cmpL_tr : ∀ a b c : List Int, cmpL a b < 0 → cmpL b c < 0 → cmpL a c < 0
  | [], [], _, h, _ => by simp [cmpL] at h
  | [], _ :: _, [], _, h => by simp [cmpL] at h
  | [], _ :: _, _ :: _, _, _ => by simp [cmpL]
  | _ :: _, [], _, h, _ => by simp [cmpL] at h
  | _ :: _, _ :: _, [], _, h => by simp [cmpL] at h
  | x :: a, y :: b, z :: c, h, k => by
    rw [cmpL] at h k ⊢
    split at h
    · rename_i e
      obtain rfl := cmp_zero.1 e
      split at k
      · rename_i e2; rw [if_pos e2]; exact cmpL_tr a b c h k
      · rename_i e2; rw [if_neg e2]; exact k
    · split at k
      · rename_i e e2; obtain rfl := cmp_zero.1 e2; rw [if_neg e]; exact h
      · have := Gd.int.tr _ _ _ h k
        rw [if_neg (by omega)]; exact this
theorem Gd.lst : Gd cmpL := ⟨cmpL_self, cmpL_zero, cmpL_neg, cmpL_pos, cmpL_tr⟩
/-- One comparison, and where it is 0 another one. -/
def thn (x y : Int) : Int := if x = 0 then y else x
theorem fst3 (f : Nat → Int) : fstE f 3 = thn (f 0) (thn (f 1) (f 2)) := by
  simp only [fstE, thn, if_true]
  (repeat' split) <;> simp_all
theorem fst4 (f : Nat → Int) : fstE f 4 = thn (f 0) (thn (f 1) (thn (f 2) (f 3))) := by
  rw [show fstE f 4 = if fstE f 3 = 0 then f 3 else fstE f 3 from rfl, fst3]
  simp only [thn]
  (repeat' split) <;> simp_all
theorem Gd.thn {α β γ : Type} {f : β → β → Int} {g : γ → γ → Int} (hf : Gd f) (hg : Gd g) (p : α → β) (q : α → γ) (hi : ∀ a b, p a = p b → q a = q b → a = b) : Gd (fun a b => Al.thn (f (p a) (p b)) (g (q a) (q b))) where
  self a := by simp [Al.thn, hf.self, hg.self]
  zero a b h := by
    simp only [Al.thn] at h
    split at h
    · rename_i e; exact hi a b (hf.zero _ _ e) (hg.zero _ _ h)
    · rename_i e; exact absurd h e
  neg a b h := by
    simp only [Al.thn] at h ⊢
    split at h
    · rename_i e; rw [hf.zero _ _ e, hf.self, if_pos rfl]; exact hg.neg _ _ h
    · have := hf.neg _ _ h; rw [if_neg (by omega)]; exact this
  pos a b h := by
    simp only [Al.thn] at h ⊢
    split at h
    · rename_i e; rw [hf.zero _ _ e, hf.self, if_pos rfl]; exact hg.pos _ _ h
    · have := hf.pos _ _ h; rw [if_neg (by omega)]; exact this
  tr a b c h k := by
    simp only [Al.thn] at h k ⊢
    split at h
    · rename_i e
      rw [hf.zero _ _ e]
      split at k
      · rename_i e2; rw [if_pos e2]; exact hg.tr _ _ _ h k
      · rename_i e2; rw [if_neg e2]; exact k
    · split at k
      · rename_i e e2; rw [← hf.zero _ _ e2, if_neg e]; exact h
      · have := hf.tr _ _ _ h k; rw [if_neg (by omega)]; exact this
/-- The content of an alarm; the order of contents. -/
structure C where
  kd : Int
  nd : ByteArray
  tm : Int
  bc : List Int
instance C.inh : Inhabited C := ⟨⟨0, ⟨#[]⟩, 0, []⟩⟩
def A.con (a : A) : C := ⟨a.kd, a.nd, a.tm, Al.lst a.X a.n⟩
def ccmp (a b : C) : Int := thn (Lib.compareInt a.tm b.tm) (thn (cmpS a.nd b.nd) (thn (Lib.compareInt a.kd b.kd) (cmpL a.bc b.bc)))
theorem acmp_con (a b : A) : acmp a b = ccmp a.con b.con := by
  unfold acmp
  rw [fst4]
  rfl
theorem Gd.con : Gd ccmp := by
  have h3 := Gd.thn (α := Int × List Int) Gd.int Gd.lst (fun a => a.1) (fun a => a.2) (fun a b h1 h2 => Prod.ext h1 h2)
  have h2 := Gd.thn (α := ByteArray × Int × List Int) Gd.str h3 (fun a => a.1) (fun a => a.2) (fun a b h1 h2 => Prod.ext h1 h2)
  exact Gd.thn (α := C) Gd.int h2 (fun a => a.tm) (fun a => (a.nd, a.kd, a.bc)) (fun a b h1 h2 => by
    cases a; cases b; simp only [Prod.mk.injEq] at h1 h2; obtain ⟨h3, h4, h5⟩ := h2; subst h1; subst h3; subst h4; subst h5; rfl)
/-- A message's place in the order (its arrival and its level do not count). -/
def M.key (m : M) : Int × ByteArray × Int := (m.tm, m.nd, m.nu)
def kcmp (a b : Int × ByteArray × Int) : Int := thn (Lib.compareInt a.1 b.1) (thn (cmpS a.2.1 b.2.1) (Lib.compareInt a.2.2 b.2.2))
theorem mcmp_key (a b : M) : mcmp a b = kcmp a.key b.key := by
  unfold mcmp
  rw [fst3]
  rfl
theorem Gd.key : Gd kcmp := by
  have h2 := Gd.thn (α := ByteArray × Int) Gd.str Gd.int (fun a => a.1) (fun a => a.2) (fun a b h1 h2 => Prod.ext h1 h2)
  exact Gd.thn (α := Int × ByteArray × Int) Gd.int h2 (fun a => a.1) (fun a => a.2) (fun a b h1 h2 => Prod.ext h1 h2)
/-- Behind a total order: what slices.SortFunc asks. -/
theorem Gd.swo {α β : Type} {f : β → β → Int} (h : Gd f) (p : α → β) : SWO (ltOf fun a b => f (p a) (p b)) where
  irrefl x := by simp [ltOf, h.self]
  trans x y z h1 h2 := by simp only [ltOf, decide_eq_true_eq] at *; exact h.tr _ _ _ h1 h2
  ntrans x y z h1 h2 := by
    simp only [ltOf, decide_eq_false_iff_not, Int.not_lt] at *
    rcases Int.lt_or_eq_of_le h1 with a | a
    · rcases Int.lt_or_eq_of_le h2 with b | b
      · exact Int.le_of_lt (h.neg _ _ (h.tr _ _ _ (h.pos _ _ b) (h.pos _ _ a)))
      · rw [← h.zero _ _ b.symm]; exact Int.le_of_lt a
    · rw [h.zero _ _ a.symm]; exact h2
end Al
end Go.Proofs.YtllkiadedaghoaaGreatDoor
set_option linter.unusedVariables false
set_option linter.unusedSimpArgs false
namespace Go.Proofs.YtllkiadedaghoaaGreatDoor
open Go.RowKit Go.Sort Go.Shelf
namespace Al
/-- A block's cells are the elements of a list, one behind the other; they may be written. -/
def RowE {α : Type} [Inhabited α] (enc : α → List Value) (k : Nat) (w : World) (R : Nat) (d : List α) : Prop := ∀ i, i < d.length → ∀ c, c < k → Own w R (i * k + c) (enc d[i]!)[c]!
end Al
theorem grx_sort {α : Type} [Inhabited α] (enc : α → List Value) (k : Nat) (w : World) (R off m : Nat) (d : Array α) (os : Array Obj) (hR : R < w.heap.size) : GrX R w (sortWorldK enc k w R off m d os) where
  os := rfl
  tape := rfl
  output := rfl
  size := by simp [sortWorldK, grow, putRowK, putRow, mapBlock]
  block i hi hne := by
    unfold sortWorldK
    rw [heap_grow_old _ _ (by rw [size_putRowK]; exact hi)]
    simp only [putRowK, putRow, mapBlock, Array.getElem?_modify, heap_ahead]
    rw [if_neg (Ne.symm hne)]
  row o h := by
    unfold sortWorldK
    rw [cell?_grow _ _ _ (by rw [size_putRowK]; exact hR)]
    simp only [putRowK, putRow]
    have h0 := h
    simp only [World.cell?] at h
    cases e : w.heap[R]? with
    | none => rw [e] at h; simp at h
    | some b =>
      cases b with
      | cells c t fr =>
        rw [cell?_mapBlock (c := c) (e := t) (fr := fr) _ _ _ _ (by simpa using e)]
        rw [e] at h
        simp only [putCells, Array.getElem?_mapIdx, Option.isSome_map]
        simpa using h
      | _ => rw [e] at h; simp at h
  free o h := by
    unfold sortWorldK
    rw [frozen?_grow _ _ _ (by rw [size_putRowK]; exact hR)]
    simp only [putRowK, frozen?_putRow, frozen?_ahead]
theorem lists_getD {α β : Type} [Inhabited α] [Inhabited β] (f : α → β) {l : List α} {i : Nat} (h : i < l.length) : (l.map f)[i]! = f l[i]! := by
  rw [List.getElem!_eq_getElem?_getD, List.getElem!_eq_getElem?_getD, List.getElem?_map, List.getElem?_eq_getElem h]
  rfl
set_option maxHeartbeats 4000000 in
/-- slices.SortFunc of a row of structs whose comparison is a total order of their contents: the row holds a permutation in order; nothing else that was there has turned. -/
theorem sort_gen {α β : Type} [Inhabited α] {ρ : Ren} (L : Go.Proofs.SlLaysF0.n6 Tryz.prog ρ) (k : Nat) (aE : ∀ w, (isAgg (ρ.t 24)).run Tryz.prog w = .ok true w) (zE : ∀ w, (Go.sizeOf (ρ.t 24)).run Tryz.prog w = .ok k w) (enc : α → List Value) (hk : ∀ x, (enc x).length = k) (h1 : ∀ x, ∀ v ∈ enc x, v.oneCell' = true) (f : β → β → Int) (hf : Al.Gd f) (p : α → β) (g : Nat) (R c : Nat) (d : List α) (w : World) (V : α → Prop)
    (eg : ∀ args w, (callFunc g args).run Tryz.prog w = .ok (.enter g args) w) (hV : ∀ x ∈ d, V x) (hne : d ≠ [])
    (hcmp : ∀ W, GrX R w W → ∀ x y, V x → V y → Calls Tryz.prog g #[.agg (enc x).toArray, .agg (enc y).toArray] W fun e w' => e = .returned (.int .i64 (f (p x) (p y))) ∧ ∃ q os, w' = grow (W.drewN q) os)
    (hH : Al.RowE enc k w R d) (hR : R < w.heap.size) (hsz : d.length ≤ 1000000) :
    Calls Tryz.prog (ρ.f 6) #[.slice (some ⟨R, 0, none⟩) d.length c, .func (.func g) #[] #[]] w fun e w' => e = .returned (.tuple #[]) ∧ ∃ d' : List α, d.Perm d' ∧ d'.Pairwise (fun a b => f (p a) (p b) ≤ 0) ∧ Al.RowE enc k w' R d' ∧ GrX R w w' := by
  have x0 : {x : α // V x} := ⟨d.head hne, hV _ (List.head_mem hne)⟩
  haveI : Inhabited {x : α // V x} := ⟨x0⟩
  obtain ⟨D, hD⟩ : ∃ D : List {x : α // V x}, D.map Subtype.val = d := ⟨d.attachWith V hV, by simp⟩
  have hlen : D.length = d.length := by rw [← hD]; simp
  have hH' : HoldsK (fun x : {x : α // V x} => enc x.1) k w R 0 D.toArray := by
    intro j hj
    rw [size_flatK] at hj
    rw [get_flatK _ _ _ _ hj]
    have kp : 0 < k := by
      rcases Nat.eq_zero_or_pos k with z | z
      · rw [z] at hj; omega
      · exact z
    have hi : j / k < D.length := by
      have := (Nat.div_lt_iff_lt_mul kp).2 (show j < D.length * k by simpa using hj); exact this
    have := hH (j / k) (by omega) (j % k) (Nat.mod_lt _ kp)
    rw [show j / k * k + j % k = j by rw [Nat.mul_comm]; exact Nat.div_add_mod _ _] at this
    rw [Nat.zero_add]
    refine ⟨?_, this.2⟩
    rw [this.1]
    have e : d[j / k]! = (D.toArray[j / k]!).1 := by
      rw [← hD, lists_getD _ hi]; simp
    rw [e]; rfl
  have hcon := AnyQ.slices_SortFunc L k aE zE (fun x : {x : α // V x} => enc x.1) (fun x => hk x.1) (fun x => h1 x.1) (fun x y => f (p x.1) (p y.1)) (hf.swo fun x : {x : α // V x} => p x.1) g #[] R 0 c D.toArray w eg (fun m os dk _ x y => hcmp _ (grx_sort _ _ _ _ _ _ _ _ hR) x.1 y.1 x.2 y.2) hH' hR (by simp; omega)
  simp only [List.size_toArray, hlen] at hcon
  refine hcon.mono ?_
  rintro e w' ⟨rfl, d', n, os, hp, hs, rfl⟩
  obtain ⟨hsz', -, hpm⟩ := hp
  have hsz2 : d'.size = d.length := by simpa [hlen] using hsz'
  refine ⟨rfl, d'.toList.map Subtype.val, ?_, ?_, ?_, grx_sort _ _ _ _ _ _ _ _ hR⟩
  · rw [← hD]
    refine List.Perm.map _ ?_
    have e1 : d'.extract 0 d.length = d' := by rw [← hsz2]; exact Array.extract_size
    have e2 : D.toArray.extract 0 d.length = D.toArray := by
      have := Array.extract_size (xs := D.toArray); rw [List.size_toArray, hlen] at this; exact this
    rw [e1, e2] at hpm
    exact hpm.symm
  · rw [List.pairwise_map, List.pairwise_iff_getElem]
    intro i j hi hj hij
    have := hs i j (Nat.zero_le _) hij (by simp only [Array.length_toList] at hj; omega)
    simp only [ltOf, decide_eq_false_iff_not, Int.not_lt] at this
    simp only [Array.length_toList] at hi hj
    rw [getElem!_pos d' j hj, getElem!_pos d' i hi] at this
    simp only [Array.getElem_toList]
    rcases Int.lt_or_eq_of_le this with z | z
    · exact Int.le_of_lt (hf.pos _ _ z)
    · rw [hf.zero _ _ z.symm, hf.self]; exact Int.le_refl _
  · have hh := holdsK_sortWorldK_c (fun x : {x : α // V x} => enc x.1) k w R 0 D.toArray d' n os hH' hR (by simp [hsz2, hlen])
    intro i hi cc hc
    simp only [List.length_map, Array.length_toList] at hi
    have := hh.cell hi hc
    rw [Nat.zero_add] at this
    have e : (d'.toList.map Subtype.val)[i]! = (d'[i]!).1 := by
      rw [lists_getD _ (by simpa using hi), List.getElem!_eq_getElem?_getD, Array.getElem?_toList, getElem!_pos d' i hi, Array.getElem?_eq_getElem hi]; rfl
    rw [e]
    exact this
set_option maxHeartbeats 4000000 in
/-- alarms' and telemetry's sorts. -/
theorem sortA_any (R c : Nat) (d : List Al.A) (w : World) (hR : R < w.heap.size) (hV : ∀ a ∈ d, a.At w ∧ a.b ≠ R) (hne : d ≠ []) (hH : Al.RowE Al.A.enc 4 w R d) (hsz : d.length ≤ 1000000) :
    Calls Tryz.prog 107 #[.slice (some ⟨R, 0, none⟩) d.length c, .func (.func 35) #[] #[]] w fun e w' => e = .returned (.tuple #[]) ∧ ∃ d' : List Al.A, d.Perm d' ∧ d'.Pairwise (fun a b => Al.ccmp a.con b.con ≤ 0) ∧ Al.RowE Al.A.enc 4 w' R d' ∧ GrX R w w' :=
  sort_gen Tryz.sortAlarms 4 Tryz.isAgg31 Tryz.sizeOf31 Al.A.enc (fun _ => rfl) (fun x v hv => by simp [Al.A.enc] at hv; rcases hv with rfl | rfl | rfl | rfl <;> rfl) Al.ccmp Al.Gd.con Al.A.con 35 R c d w (fun a => a.At w ∧ a.b ≠ R)
    (enters_of Tryz.func35 (by kernel_rfl) rfl) hV hne (fun W hW x y hx hy => by
      have up : ∀ {a : Al.A}, a.At w → a.b ≠ R → a.At W := fun h hn => ⟨h.hn, h.hp, fun i hi => GrX.at hW hn (h.hX i hi)⟩
      have := acmp_any x y W (up hx.1 hx.2) (up hy.1 hy.2)
      rw [Al.acmp_con] at this
      exact this) hH hR hsz
set_option maxHeartbeats 4000000 in
theorem sortM_any (R c : Nat) (d : List Al.M) (w : World) (hR : R < w.heap.size) (hne : d ≠ []) (hH : Al.RowE Al.M.enc 5 w R d) (hsz : d.length ≤ 1000000) :
    Calls Tryz.prog 203 #[.slice (some ⟨R, 0, none⟩) d.length c, .func (.func 190) #[] #[]] w fun e w' => e = .returned (.tuple #[]) ∧ ∃ d' : List Al.M, d.Perm d' ∧ d'.Pairwise (fun a b => Al.kcmp a.key b.key ≤ 0) ∧ Al.RowE Al.M.enc 5 w' R d' ∧ GrX R w w' :=
  sort_gen Tryz.sortMsgs 5 Tryz.isAgg53 Tryz.sizeOf53 Al.M.enc (fun _ => rfl) (fun x v hv => by simp [Al.M.enc] at hv; rcases hv with rfl | rfl | rfl | rfl | rfl <;> rfl) Al.kcmp Al.Gd.key Al.M.key 190 R c d w (fun _ => True)
    (enters_of Tryz.func190 (by kernel_rfl) rfl) (fun _ _ => trivial) hne (fun W hW x y hx hy => by
      have := mcmp_any x y W
      rw [Al.mcmp_key] at this
      exact this) hH hR hsz
end Go.Proofs.YtllkiadedaghoaaGreatDoor
