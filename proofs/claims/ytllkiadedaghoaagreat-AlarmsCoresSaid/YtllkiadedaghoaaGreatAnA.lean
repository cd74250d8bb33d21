/-
  Alarms, plain: the alarms of the messages of other nodes. Typed.
-/
import Derived.Test.YtllkiadedaghoaaGreatCmAmZ
set_option linter.unusedVariables false
set_option linter.unusedSimpArgs false
namespace Go.Proofs.YtllkiadedaghoaaGreat
namespace Al
theorem srt_filter (p : C → Bool) (l : List C) : (srt l).filter p = srt (l.filter p) :=
  srt_of ((srt_perm l).filter p).symm (List.Pairwise.sublist List.filter_sublist (srt_ok l))
theorem alm_nd {kd : Int} {ms : List M} {s : ByteArray} (hne : ms ≠ []) (h : ∀ m ∈ ms, m.nd = s) : (alm kd ms).nd = s := by
  unfold alm
  simp only []
  rw [List.getLast?_eq_some_getLast hne]
  exact h _ (List.getLast_mem hne)
theorem jmp_nd {most : Int} {s : ByteArray} : ∀ l : List M, (∀ m ∈ l, m.nd = s) → ∀ c ∈ jmp most l, c.nd = s
  | [], _, c, hc => by simp [jmp] at hc
  | [x], _, c, hc => by simp [jmp] at hc
  | x :: y :: r, h, c, hc => by
    rw [jmp, List.mem_append] at hc
    rcases hc with hc | hc
    · split at hc
      · rw [List.mem_singleton] at hc
        subst hc
        exact alm_nd (by simp) fun m hm => h m (by simp only [List.mem_cons, List.not_mem_nil, or_false] at hm; rcases hm with rfl | rfl <;> simp)
      · cases hc
    · exact jmp_nd (y :: r) (fun m hm => h m (List.mem_cons_of_mem _ hm)) c hc
theorem run_nd {k : Int} {s : ByteArray} : ∀ (n : Nat) (l : List M), l.length ≤ n → (∀ m ∈ l, m.nd = s) → ∀ c ∈ run k l, c.nd = s
  | _, [], _, _, c, hc => by simp [run] at hc
  | 0, x :: r, hl, _, c, hc => by simp at hl
  | n + 1, x :: r, hl, h, c, hc => by
    rw [run, List.mem_append] at hc
    rcases hc with hc | hc
    · split at hc
      · rw [List.mem_singleton] at hc
        subst hc
        refine alm_nd (by simp) fun m hm => ?_
        rcases List.mem_cons.1 hm with rfl | hm
        · exact h _ (by simp)
        · exact h m (List.mem_cons_of_mem _ ((List.takeWhile_sublist _).subset hm))
      · cases hc
    · have hle := (List.dropWhile_sublist (fun m : M => m.lv == x.lv) (l := r)).length_le
      exact run_nd n _ (by rw [List.length_cons] at hl; omega) (fun m hm => h m (List.mem_cons_of_mem _ ((List.dropWhile_sublist _).subset hm))) c hc
theorem ofN_all {l : List M} {s : ByteArray} : ∀ m ∈ ofN l s, m.nd = s := fun m hm => (eqS_iff' _ _).1 (List.mem_filter.1 hm).2
theorem limI_nd {N : Ba.SlNode} {m : M} : ∀ c ∈ limI N m, c.nd = m.nd := by
  intro c hc
  have key : ∀ k, c ∈ [alm k [m]] → c.nd = m.nd := fun k h => by rw [List.mem_singleton] at h; subst h; rfl
  unfold limI at hc
  split at hc
  · exact key _ hc
  · split at hc
    · exact key _ hc
    · split at hc
      · exact key _ hc
      · cases hc
theorem filter_each {α β : Type} (f : α → List β) (q : β → Bool) (p : α → Bool) (h : ∀ a, ∀ b ∈ f a, q b = p a) (l : List α) : (l.flatMap f).filter q = (l.filter p).flatMap f := by
  induction l with
  | nil => rfl
  | cons a l ih =>
    rw [List.flatMap_cons, List.filter_append, ih]
    cases e : p a
    · rw [List.filter_cons_of_neg (by simp [e]), List.filter_eq_nil_iff.2 fun b hb => by rw [h a b hb, e]; decide]
      rfl
    · rw [List.filter_cons_of_pos e, List.flatMap_cons, List.filter_eq_self.2 fun b hb => by rw [h a b hb, e]]
theorem flatMap_same {α β : Type} {f g : α → List β} {l : List α} (h : ∀ a ∈ l, f a = g a) : l.flatMap f = l.flatMap g := by
  rw [List.flatMap_def, List.flatMap_def, List.map_congr_left h]
/-- Of other nodes. -/
def offM (t : ByteArray) (m : M) : Bool := !Ba.eqS m.nd t
def offC (t : ByteArray) (c : C) : Bool := !Ba.eqS c.nd t
theorem ofN_off {l : List M} (hd : Dist l) {t s : ByteArray} (h : s ≠ t) : ofN (l.filter (offM t)) s = ofN l s := by
  unfold ofN
  rw [← srtM_filter hd, List.filter_filter]
  refine List.filter_congr fun m _ => ?_
  cases e : Ba.eqS m.nd s
  · rfl
  · have : m.nd = s := (eqS_iff' _ _).1 e
    have : Ba.eqS m.nd t = false := by
      rw [Bool.eq_false_iff, ne_eq, eqS_iff']; intro z; exact h (this.symm.trans z)
    simp [offM, this]
theorem nds_off (l : List M) (t : ByteArray) : ((nds l).filter fun s => !Ba.eqS s t).Perm (nds (l.filter (offM t))) := by
  refine perm_of_mem ((nds_nodup l).sublist List.filter_sublist) (nds_nodup _) fun x => ?_
  rw [List.mem_filter, mem_nds, mem_nds]
  constructor
  · rintro ⟨⟨m, hm, rfl⟩, h⟩
    exact ⟨m, List.mem_filter.2 ⟨hm, h⟩, rfl⟩
  · rintro ⟨m, hm, rfl⟩
    exact ⟨⟨m, (List.mem_filter.1 hm).1, rfl⟩, (List.mem_filter.1 hm).2⟩
theorem each_off {l : List M} (hd : Dist l) (t : ByteArray) (f : List M → List C) (hf : ∀ s, ∀ c ∈ f (ofN l s), c.nd = s) :
    (((nds l).flatMap fun s => f (ofN l s)).filter (offC t)).Perm ((nds (l.filter (offM t))).flatMap fun s => f (ofN (l.filter (offM t)) s)) := by
  rw [filter_each (fun s => f (ofN l s)) (offC t) (fun s => !Ba.eqS s t) (fun s c hc => by unfold offC; rw [hf s c hc])]
  rw [flatMap_same (l := nds (l.filter (offM t))) (g := fun s => f (ofN l s)) fun s hs => ?_]
  · exact (nds_off l t).flatMap_right _
  · obtain ⟨m, hm, rfl⟩ := mem_nds.1 hs
    have := (List.mem_filter.1 hm).2
    rw [ofN_off hd]
    intro e
    unfold offM at this
    rw [(eqS_iff' _ _).2 e] at this
    cases this
/-- Without the messages of a node all alarms but those of this node are left. -/
theorem allC_off {N : Ba.SlNode} {l : List M} (hd : Dist l) (t : ByteArray) (most c : Int) : allC N (l.filter (offM t)) most c = (allC N l most c).filter (offC t) := by
  unfold allC
  rw [srt_filter, List.filter_append, List.filter_append]
  refine (srt_congr ?_).symm
  refine List.Perm.append ?_ (List.Perm.append ?_ ?_)
  · unfold limC
    rw [filter_each (limI N) (offC t) (offM t) fun m c hc => by unfold offC offM; rw [limI_nd c hc]]
  · exact each_off hd t (jmp most) fun s c hc => jmp_nd _ ofN_all c hc
  · exact each_off hd t (run c) fun s x hx => run_nd _ _ (Nat.le_refl _) ofN_all x hx
theorem allC_len (N : Ba.SlNode) (l : List M) (most c : Int) : (allC N l most c).length ≤ 3 * l.length := by
  unfold allC
  rw [(srt_perm _).length_eq, List.length_append, List.length_append]
  have h1 := limC_len N l
  have h2 := jmpC_len (l := l) most
  have h3 := runC_len (l := l) c
  omega
/-- The indices below n that are asked for. -/
def idxP (q : Nat → Bool) : Nat → List Nat
  | 0 => []
  | n + 1 => idxP q n ++ (if q n = true then [n] else [])
theorem idxP_lt {q : Nat → Bool} : ∀ {n i : Nat}, i ∈ idxP q n → i < n ∧ q i = true
  | 0, i, h => by simp [idxP] at h
  | n + 1, i, h => by
    rw [idxP, List.mem_append] at h
    rcases h with h | h
    · have := idxP_lt h; exact ⟨by omega, this.2⟩
    · split at h
      · rw [List.mem_singleton] at h; subst h; exact ⟨by omega, by assumption⟩
      · cases h
theorem idxP_mem {q : Nat → Bool} : ∀ {n i : Nat}, i < n → q i = true → i ∈ idxP q n
  | 0, i, h, _ => by omega
  | n + 1, i, h, e => by
    rw [idxP, List.mem_append]
    by_cases z : i = n
    · subst z; right; rw [if_pos e]; simp
    · left; exact idxP_mem (by omega) e
theorem idxP_sorted (q : Nat → Bool) : ∀ n, (idxP q n).Pairwise (· < ·)
  | 0 => List.Pairwise.nil
  | n + 1 => by
    rw [idxP, List.pairwise_append]
    refine ⟨idxP_sorted q n, by split <;> simp, fun a ha b hb => ?_⟩
    have := (idxP_lt ha).1
    split at hb
    · rw [List.mem_singleton] at hb; omega
    · cases hb
theorem idxP_nodup (q : Nat → Bool) (n : Nat) : (idxP q n).Nodup := List.Pairwise.imp (fun h => Nat.ne_of_lt h) (idxP_sorted q n)
theorem idxP_len (q : Nat → Bool) : ∀ n, (idxP q n).length ≤ n
  | 0 => by simp [idxP]
  | n + 1 => by
    have := idxP_len q n
    rw [idxP, List.length_append]
    split <;> simp <;> omega
/-- What the indices point at. -/
theorem idxP_map {α : Type} (D : Nat → α) (p : α → Bool) : ∀ n, (idxP (fun i => p (D i)) n).map D = ((List.range n).map D).filter p
  | 0 => rfl
  | n + 1 => by
    rw [idxP, List.map_append, idxP_map D p n, List.range_succ, List.map_append, List.filter_append]
    cases e : p (D n) <;> simp [e]
/-- The indices of the messages of a node. -/
def idxN (D : Nat → M) (t : ByteArray) (n : Nat) : List Nat := idxP (fun i => Ba.eqS (D i).nd t) n
theorem idxN_lt {D : Nat → M} {t : ByteArray} {n i : Nat} (h : i ∈ idxN D t n) : i < n ∧ Ba.eqS (D i).nd t = true := idxP_lt h
theorem idxN_mem {D : Nat → M} {t : ByteArray} {n i : Nat} (h : i < n) (e : Ba.eqS (D i).nd t = true) : i ∈ idxN D t n := idxP_mem (q := fun i => Ba.eqS (D i).nd t) h e
theorem idxN_nodup {D : Nat → M} {t : ByteArray} (n : Nat) : (idxN D t n).Nodup := idxP_nodup _ n
theorem idxN_len (D : Nat → M) (t : ByteArray) (n : Nat) : (idxN D t n).length ≤ n := idxP_len _ n
theorem gonB_iff {X : Nat → Int} {i : Nat} : ∀ {k : Nat}, gonB X k i = true ↔ ∃ j, j < k ∧ X j = (i : Int)
  | 0 => by simp [gonB]
  | k + 1 => by
    rw [gonB, Bool.or_eq_true, gonB_iff, beq_iff_eq]
    constructor
    · rintro (⟨j, hj, e⟩ | e)
      · exact ⟨j, by omega, e⟩
      · exact ⟨k, by omega, e⟩
    · rintro ⟨j, hj, e⟩
      by_cases q : j = k
      · subst q; exact .inr e
      · exact .inl ⟨j, by omega, e⟩
/-- Indices that differ. -/
theorem dupB_no {X : Nat → Int} {l : List Nat} (hl : l.Nodup) (hX : ∀ j (h : j < l.length), X j = (l[j] : Int)) : ∀ k, k ≤ l.length → dupB X k = false
  | 0, _ => rfl
  | k + 1, hk => by
    rw [dupB, dupB_no hl hX k (by omega), Bool.false_or, hX k (by omega), Int.toNat_natCast, Bool.eq_false_iff, ne_eq, gonB_iff]
    rintro ⟨j, hj, e⟩
    rw [hX j (by omega)] at e
    have := (List.getElem_inj hl).1 (Int.ofNat_inj.1 e)
    omega
theorem leftL_filter (D : Nat → M) (g : Nat → Bool) (p : M → Bool) : ∀ n, (∀ i, i < n → g i = !p (D i)) → leftL D g n = ((List.range n).map D).filter p
  | 0, _ => rfl
  | n + 1, h => by
    rw [leftL, leftL_filter D g p n (fun i hi => h i (by omega)), List.range_succ, List.map_append, List.filter_append, h n (by omega)]
    cases e : p (D n) <;> simp [e]
/-- What is left without the messages of a node. -/
theorem left_off (s : SlM) (d : Ba.SlI) (t : ByteArray) (hn : d.n = (idxN s.D t s.n).length) (hX : ∀ j (h : j < (idxN s.D t s.n).length), d.X j = ((idxN s.D t s.n)[j] : Int)) : s.left d = s.lst.filter (offM t) ∧ dupB d.X d.n = false ∧ rgB d s.n = true := by
  refine ⟨?_, dupB_no (idxN_nodup _) hX _ (by omega), ?_⟩
  · refine leftL_filter _ _ _ _ fun i hi => ?_
    unfold offM
    rw [Bool.not_not]
    cases e : Ba.eqS (s.D i).nd t
    · rw [Bool.eq_false_iff, ne_eq, gonB_iff]
      rintro ⟨j, hj, h⟩
      rw [hX j (by omega)] at h
      have := (idxN_lt (List.getElem_mem (show j < (idxN s.D t s.n).length by omega))).2
      rw [Int.ofNat_inj.1 h, e] at this
      cases this
    · rw [gonB_iff]
      obtain ⟨j, hj, h⟩ := List.getElem_of_mem (idxN_mem hi e)
      exact ⟨j, by omega, by rw [hX j hj, h]⟩
  · unfold rgB
    rw [Bool.not_eq_true', Bool.eq_false_iff, ne_eq, Ba.any_iff]
    rintro ⟨j, hj, h⟩
    rw [hX j (by omega)] at h
    have := (idxN_lt (List.getElem_mem (show j < (idxN s.D t s.n).length by omega))).1
    simp at h
    omega
/-- Nothing is dropped. -/
theorem left_nil (s : SlM) : s.left ⟨none, 0, 0, 0, 0, fun _ => 0⟩ = s.lst := by
  unfold SlM.left SlM.lst
  refine (leftL_filter s.D _ (fun _ => true) s.n (fun i _ => rfl)).trans ?_
  exact List.filter_eq_self.2 (fun _ _ => rfl)
end Al
end Go.Proofs.YtllkiadedaghoaaGreat
