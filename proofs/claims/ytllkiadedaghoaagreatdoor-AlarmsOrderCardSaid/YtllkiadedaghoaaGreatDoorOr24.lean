/-
  Alarms, plain: what the functions answer, said of lists of messages. Typed.
-/
import Derived.Test.YtllkiadedaghoaaGreatDoorOr16
import Derived.Test.YtllkiadedaghoaaGreatDoorOr23

set_option linter.unusedVariables false
set_option linter.unusedSimpArgs false
namespace Go.Proofs.YtllkiadedaghoaaGreatDoor
open Go.RowKit
namespace Al
theorem Gd.tot {β : Type} {f : β → β → Int} (h : Gd f) (a b : β) : f a b ≤ 0 ∨ f b a ≤ 0 := by
  rcases Int.lt_or_le 0 (f a b) with z | z
  · exact Or.inr (Int.le_of_lt (h.pos _ _ z))
  · exact Or.inl z
theorem Gd.anti {β : Type} {f : β → β → Int} (h : Gd f) {a b : β} (x : f a b ≤ 0) (y : f b a ≤ 0) : a = b := by
  rcases Int.lt_or_eq_of_le x with z | z
  · have := h.neg _ _ z; omega
  · exact h.zero _ _ z
theorem Gd.tle {β : Type} {f : β → β → Int} (h : Gd f) {a b c : β} (x : f a b ≤ 0) (y : f b c ≤ 0) : f a c ≤ 0 := by
  rcases Int.lt_or_eq_of_le x with z | z
  · rcases Int.lt_or_eq_of_le y with u | u
    · exact Int.le_of_lt (h.tr _ _ _ z u)
    · rw [← h.zero _ _ u]; exact x
  · rw [h.zero _ _ z]; exact y
/-- A list in order, by a total order of what p sees. -/
def srtBy {α β : Type} (f : β → β → Int) (p : α → β) (l : List α) : List α := l.mergeSort fun a b => decide (f (p a) (p b) ≤ 0)
theorem srtBy_perm {α β : Type} (f : β → β → Int) (p : α → β) (l : List α) : (srtBy f p l).Perm l := List.mergeSort_perm _ _
theorem srtBy_ok {α β : Type} {f : β → β → Int} (h : Gd f) (p : α → β) (l : List α) : (srtBy f p l).Pairwise fun a b => f (p a) (p b) ≤ 0 := by
  have := List.pairwise_mergeSort (le := fun a b => decide (f (p a) (p b) ≤ 0)) (fun a b c x y => by simp only [decide_eq_true_eq] at *; exact h.tle x y) (fun a b => by simp only [Bool.or_eq_true, decide_eq_true_eq]; exact h.tot _ _) l
  exact this.imp fun x => by simpa using x
/-- What p sees tells the members apart. -/
def Tells {α β : Type} (p : α → β) (l : List α) : Prop := ∀ a ∈ l, ∀ b ∈ l, p a = p b → a = b
theorem srtBy_of {α β : Type} {f : β → β → Int} (h : Gd f) {p : α → β} {l d : List α} (ht : Tells p l) (hp : l.Perm d) (hs : d.Pairwise fun a b => f (p a) (p b) ≤ 0) : d = srtBy f p l := by
  refine List.Perm.eq_of_pairwise (le := fun a b => f (p a) (p b) ≤ 0) ?_ hs (srtBy_ok h p l) (hp.symm.trans (srtBy_perm f p l).symm)
  intro a b ha hb x y
  exact ht a (hp.mem_iff.2 ha) b ((srtBy_perm f p l).mem_iff.1 hb) (h.anti x y)
def srt (l : List C) : List C := srtBy ccmp id l
theorem srt_of {l d : List C} (hp : l.Perm d) (hs : d.Pairwise fun a b => ccmp a b ≤ 0) : d = srt l := srtBy_of Gd.con (fun _ _ _ _ h => h) hp hs
theorem srt_perm (l : List C) : (srt l).Perm l := srtBy_perm _ _ l
theorem srt_ok (l : List C) : (srt l).Pairwise fun a b => ccmp a b ≤ 0 := srtBy_ok Gd.con id l
theorem srt_congr {l d : List C} (hp : l.Perm d) : srt l = srt d := srt_of (hp.symm.trans (srt_perm l).symm) (srt_ok l)
theorem srt_nil : srt [] = [] := by unfold srt srtBy; simp
/-- Messages whose keys differ. -/
def Dist (l : List M) : Prop := l.Pairwise fun a b => kM a.nd a.nu ≠ kM b.nd b.nu
theorem Dist.perm {l d : List M} (h : Dist l) (hp : l.Perm d) : Dist d := (hp.pairwise_iff (fun h e => h e.symm)).1 h
theorem Dist.sub {l d : List M} (h : Dist l) (hs : d.Sublist l) : Dist d := List.Pairwise.sublist hs h
theorem Dist.tells {l : List M} (h : Dist l) : Tells M.key l := by
  intro a ha b hb e
  unfold Dist at h
  obtain ⟨i, hi, rfl⟩ := List.getElem_of_mem ha
  obtain ⟨j, hj, rfl⟩ := List.getElem_of_mem hb
  have key : kM l[i].nd l[i].nu = kM l[j].nd l[j].nu := by
    unfold M.key at e
    simp only [Prod.mk.injEq] at e
    rw [e.2.1, e.2.2]
  rcases Nat.lt_trichotomy i j with q | q | q
  · exact absurd key (List.pairwise_iff_getElem.1 h i j hi hj q)
  · subst q; rfl
  · exact absurd key.symm (List.pairwise_iff_getElem.1 h j i hj hi q)
def srtM (l : List M) : List M := srtBy kcmp M.key l
theorem srtM_of {l d : List M} (h : Dist l) (hp : l.Perm d) (hs : d.Pairwise fun a b => kcmp a.key b.key ≤ 0) : d = srtM l := srtBy_of Gd.key h.tells hp hs
theorem srtM_perm (l : List M) : (srtM l).Perm l := srtBy_perm _ _ l
theorem srtM_ok (l : List M) : (srtM l).Pairwise fun a b => kcmp a.key b.key ≤ 0 := srtBy_ok Gd.key M.key l
theorem srtM_congr {l d : List M} (h : Dist l) (hp : l.Perm d) : srtM l = srtM d := srtM_of (h.perm hp) (hp.symm.trans (srtM_perm l).symm) (srtM_ok l)
/-- The messages of a node, in order. -/
def ofN (l : List M) (s : ByteArray) : List M := (srtM l).filter fun m => Ba.eqS m.nd s
/-- An alarm that messages explain. -/
def alm (kd : Int) (ms : List M) : C := ⟨kd, (ms.getLast?.getD default).nd, (ms.getLast?.getD default).tm, ms.map M.nu⟩
/-- Jumps of the messages of a node. -/
def jmp (most : Int) : List M → List C
  | a :: b :: r => (if most < max (b.lv - a.lv) (-(b.lv - a.lv)) then [alm 3 [a, b]] else []) ++ jmp most (b :: r)
  | _ => []
theorem jmp_at {most : Int} {l : List M} {i : Nat} (h : i + 1 < l.length) : jmp most (l.drop i) = (if most < max (l[i + 1].lv - l[i].lv) (-(l[i + 1].lv - l[i].lv)) then [alm 3 [l[i], l[i + 1]]] else []) ++ jmp most (l.drop (i + 1)) := by
  rw [List.drop_eq_getElem_cons (show i < l.length by omega), List.drop_eq_getElem_cons h, jmp]
theorem jmp_end {most : Int} {l : List M} {i : Nat} (h : l.length ≤ i + 1) : jmp most (l.drop i) = [] := by
  rcases Nat.lt_or_ge i l.length with q | q
  · rw [List.drop_eq_getElem_cons q, List.drop_eq_nil_of_le h, jmp]
    intro a b r e; simp at e
  · rw [List.drop_eq_nil_of_le q, jmp]
    intro a b r e; simp at e
/-- Runs of equal levels of the messages of a node. -/
def run (c : Int) : List M → List C
  | [] => []
  | a :: r => (if c ≤ ((r.takeWhile fun m => m.lv == a.lv).length + 1 : Nat) then [alm 4 (a :: r.takeWhile fun m => m.lv == a.lv)] else []) ++ run c (r.dropWhile fun m => m.lv == a.lv)
termination_by l => l.length
decreasing_by
  simp only [List.length_cons]
  have := (List.dropWhile_sublist (fun m : M => m.lv == a.lv) (l := r)).length_le
  omega
theorem tw {α : Type} {p : α → Bool} : ∀ {r : List α} {k : Nat}, k ≤ r.length → (∀ x ∈ r.take k, p x = true) → (∀ x, r[k]? = some x → p x = false) → r.takeWhile p = r.take k ∧ r.dropWhile p = r.drop k
  | [], k, _, _, _ => by simp
  | a :: r, 0, _, _, h => by
    have := h a (by simp)
    simp [List.takeWhile_cons, List.dropWhile_cons, this]
  | a :: r, k + 1, hk, h1, h2 => by
    obtain ⟨e1, e2⟩ := tw (p := p) (r := r) (k := k) (by simpa using hk) (fun x hx => h1 x (by simp [hx])) (fun x hx => h2 x (by simpa using hx))
    have := h1 a (by simp)
    simp [List.takeWhile_cons, List.dropWhile_cons, this, e1, e2]
theorem run_nil {c : Int} : run c [] = [] := by rw [run]
theorem run_at {c : Int} {l : List M} {i j : Nat} (h1 : i < j) (h2 : j ≤ l.length) (h3 : ∀ k (hk : k < l.length), i < k → k < j → l[k].lv = l[i].lv) (h4 : ∀ hj : j < l.length, l[j].lv ≠ l[i].lv) :
    run c (l.drop i) = (if c ≤ (j : Int) - i then [alm 4 ((l.drop i).take (j - i))] else []) ++ run c (l.drop j) := by
  have hi : i < l.length := by omega
  rw [List.drop_eq_getElem_cons hi, run]
  obtain ⟨e1, e2⟩ := tw (p := fun m : M => m.lv == l[i].lv) (r := l.drop (i + 1)) (k := j - (i + 1)) (by rw [List.length_drop]; omega) (fun x hx => by
    obtain ⟨k, hk, rfl⟩ := List.getElem_of_mem hx
    simp only [List.length_take, List.length_drop] at hk
    simp only [List.getElem_take, List.getElem_drop, beq_iff_eq]
    exact h3 (i + 1 + k) (by omega) (by omega) (by omega)) (fun x hx => by
    rw [List.getElem?_drop, show i + 1 + (j - (i + 1)) = j by omega] at hx
    obtain ⟨hj, rfl⟩ := List.getElem?_eq_some_iff.1 hx
    exact beq_eq_false_iff_ne.2 (h4 hj))
  rw [e1, e2, List.drop_drop, show i + 1 + (j - (i + 1)) = j by omega]
  have el : (((l.drop (i + 1)).take (j - (i + 1))).length + 1 : Nat) = j - i := by rw [List.length_take, List.length_drop]; omega
  have et : (l[i] :: l.drop (i + 1)).take (j - i) = l[i] :: (l.drop (i + 1)).take (j - (i + 1)) := by
    rw [show j - i = (j - (i + 1)) + 1 by omega, List.take_succ_cons]
  rw [el, et, show ((j - i : Nat) : Int) = (j : Int) - i by omega]
/-- The nodes of messages, each once. -/
def addS (o : List ByteArray) (s : ByteArray) : List ByteArray := if o.any (fun x => Ba.eqS x s) then o else o ++ [s]
def nds (l : List M) : List ByteArray := l.foldl (fun o m => addS o m.nd) []
theorem any_eqS {o : List ByteArray} {s : ByteArray} : o.any (fun x => Ba.eqS x s) = true ↔ s ∈ o := by
  rw [List.any_eq_true]
  exact ⟨fun ⟨x, h, e⟩ => by rw [← (eqS_iff' _ _).1 e]; exact h, fun h => ⟨s, h, (eqS_iff' _ _).2 rfl⟩⟩
theorem mem_addS {o : List ByteArray} {s t : ByteArray} : t ∈ addS o s ↔ t ∈ o ∨ t = s := by
  unfold addS
  split
  · rename_i h
    rw [any_eqS] at h
    exact ⟨Or.inl, fun q => q.elim id fun q => q ▸ h⟩
  · simp
theorem nodup_addS {o : List ByteArray} {s : ByteArray} (h : o.Nodup) : (addS o s).Nodup := by
  unfold addS
  split
  · exact h
  · rename_i q
    rw [any_eqS] at q
    rw [List.nodup_append]
    exact ⟨h, by simp, fun a ha b hb e => by simp only [List.mem_singleton] at hb; exact q (by rw [← hb, ← e]; exact ha)⟩
theorem nds_aux : ∀ (l : List M) (o : List ByteArray), (o.Nodup → (l.foldl (fun o m => addS o m.nd) o).Nodup) ∧ ∀ t, t ∈ l.foldl (fun o m => addS o m.nd) o ↔ t ∈ o ∨ ∃ m ∈ l, m.nd = t
  | [], o => by simp
  | m :: l, o => by
    obtain ⟨h1, h2⟩ := nds_aux l (addS o m.nd)
    refine ⟨fun h => h1 (nodup_addS h), fun t => ?_⟩
    rw [List.foldl_cons, h2, mem_addS]
    constructor
    · rintro ((h | h) | ⟨x, hx, e⟩)
      · exact Or.inl h
      · exact Or.inr ⟨m, by simp, h.symm⟩
      · exact Or.inr ⟨x, by simp [hx], e⟩
    · rintro (h | ⟨x, hx, e⟩)
      · exact Or.inl (Or.inl h)
      · rcases List.mem_cons.1 hx with rfl | hx
        · exact Or.inl (Or.inr e.symm)
        · exact Or.inr ⟨x, hx, e⟩
theorem nds_nodup (l : List M) : (nds l).Nodup := (nds_aux l []).1 List.nodup_nil
theorem mem_nds {l : List M} {t : ByteArray} : t ∈ nds l ↔ ∃ m ∈ l, m.nd = t := by
  unfold nds; rw [(nds_aux l []).2]; simp
/-- Lists without repetition that have the same members. -/
theorem perm_of_mem {α : Type} {a b : List α} (ha : a.Nodup) (hb : b.Nodup) (h : ∀ x, x ∈ a ↔ x ∈ b) : a.Perm b := by
  classical
  refine List.perm_iff_count.2 fun x => ?_
  by_cases q : x ∈ a
  · rw [ha.count, hb.count, if_pos q, if_pos ((h x).1 q)]
  · rw [List.count_eq_zero.2 q, List.count_eq_zero.2 (fun z => q ((h x).2 z))]
def jmpC (most : Int) (l : List M) : List C := (nds l).flatMap fun s => jmp most (ofN l s)
def runC (c : Int) (l : List M) : List C := (nds l).flatMap fun s => run c (ofN l s)
/-- The alarms of one message: nix is the number of its node. -/
def limI (N : Ba.SlNode) (m : M) : List C :=
  if Ba.nix N m.nd < 0 then [alm 6 [m]] else if m.lv < (N.D (Ba.nix N m.nd).toNat).iv then [alm 1 [m]] else if (N.D (Ba.nix N m.nd).toNat).gr < m.lv then [alm 2 [m]] else []
def limC (N : Ba.SlNode) (l : List M) : List C := l.flatMap (limI N)
def allC (N : Ba.SlNode) (l : List M) (most c : Int) : List C := srt (limC N l ++ (jmpC most l ++ runC c l))
end Al
end Go.Proofs.YtllkiadedaghoaaGreatDoor
