/-
  Alarms: the law AlarmsKinds. (Printed by mkams.py.)
  Alarms: closures that ask for an alarm. (Printed by mkamu.py.)
  Alarms: slices.Clone at alarms. Typed.
  Alarms, plain: the alarms of the messages of other nodes. Typed.
  Alarms, plain: the messages of the core alone have the alarm. Typed.
  Seat .ZD: both Explains answer alike; how many spaces an explanation has. Typed.
  Alarms: slices.DeleteFunc at a row of alarms that a call has made. Typed.
-/
import Derived.Test.YtllkiadedaghoaaGreatDoorEx41
import Derived.Test.YtllkiadedaghoaaGreatDoorEx43
import Derived.Test.YtllkiadedaghoaaGreatDoorEx44
import Derived.Test.YtllkiadedaghoaaGreatDoorEx38
import Derived.Test.YtllkiadedaghoaaGreatDoorEx39
import Derived.Test.YtllkiadedaghoaaGreatDoorEx10
import Derived.Test.YtllkiadedaghoaaGreatDoorEx28
import Derived.Shelf.SlicesE.Clone
import Derived.Lib.SliceRun
set_option linter.unusedVariables false
set_option linter.unusedSimpArgs false
namespace Go.Proofs.YtllkiadedaghoaaGreatDoor
open Go.RowKit Go.Shelf Go.Sort
attribute [local go_sem ↓] Go.wp_at_zero Go.wp_at_succ
namespace Al
theorem RetAe.nil {k : Int} {w w' : World} {e : Ending} (h : RetAe [] k w e w') : ∃ A c, e = .returned (.tuple #[.slice A 0 c, .int .i64 k]) ∧ Gr w w' := by
  obtain ⟨r, rfl, -, hc, hg⟩ := h
  have : r.n = 0 := by rw [← r.con_len, hc]; rfl
  exact ⟨r.A, r.c, by unfold SlA.val; rw [this], hg⟩
theorem RetAe.at {X : List C} {k : Int} {w w' : World} {e : Ending} (h : RetAe X k w e w') : ∃ r : SlA, e = .returned (.tuple #[.slice r.A r.n r.c, .int .i64 k]) ∧ r.At w' ∧ r.con = X ∧ Gr w w' := h
theorem RetAl.at {X : List C} {w w' : World} {e : Ending} (h : RetAl X w e w') : ∃ r : SlA, e = .returned (.slice r.A r.n r.c) ∧ r.At w' ∧ r.con = X ∧ Gr w w' := h
theorem RetAl.own {X : List C} {w w' : World} {b : Nat} {e : Ending} (h : ∃ v d, e = .returned v ∧ OwnA w' b v d ∧ d.map A.con = X ∧ Gr w w') : RetAl X w e w' := by
  obtain ⟨v, d, rfl, ho, hc, hg⟩ := h
  obtain ⟨r, hr, hr1, hr2⟩ := ho.sl
  exact ⟨r, by rw [hr]; try rfl, hr1, hr2.trans hc, hg⟩
end Al
end Go.Proofs.YtllkiadedaghoaaGreatDoor
set_option linter.unusedVariables false
set_option linter.unusedSimpArgs false
namespace Go.Proofs.YtllkiadedaghoaaGreatDoor
open Go.RowKit Go.Shelf Go.Sort
attribute [local go_sem ↓] Go.wp_at_zero Go.wp_at_succ
namespace Al
/-- One alarm as a slice. -/
def one (B : Nat) (a : A) : SlA := ⟨some ⟨B, 0, none⟩, 1, 1, B, 0, fun _ => a⟩
end Al
theorem Al.any_mem {s : Al.SlA} {c : Al.C} : Ba.any (fun i => Al.eqC (s.D i).con c) s.n = true ↔ c ∈ s.con := by
  unfold Al.SlA.con
  rw [List.mem_map]
  constructor
  · intro h
    obtain ⟨i, hi, hp⟩ := (Ba.any_iff _ _).1 h
    exact ⟨i, List.mem_range.2 hi, Al.eqC_iff.1 hp⟩
  · rintro ⟨i, hi, rfl⟩
    exact (Ba.any_iff _ _).2 ⟨i, List.mem_range.1 hi, Al.eqC_iff.2 rfl⟩
end Go.Proofs.YtllkiadedaghoaaGreatDoor
set_option linter.unusedVariables false
set_option linter.unusedSimpArgs false
namespace Go.Proofs.YtllkiadedaghoaaGreatDoor
open Go.RowKit Go.Shelf Go.Sort
attribute [local go_sem ↓] Go.wp_at_zero Go.wp_at_succ
def Al.SlA.lst (s : SlA) : List Al.A := (List.range s.n).map s.D
theorem Al.SlA.lst_len (s : SlA) : s.lst.length = s.n := by simp [SlA.lst]
end Go.Proofs.YtllkiadedaghoaaGreatDoor
set_option linter.unusedVariables false
set_option linter.unusedSimpArgs false
namespace Go.Proofs.YtllkiadedaghoaaGreatDoor
namespace Al
/-- The indices below n that are asked for. -/
def idxP (q : Nat → Bool) : Nat → List Nat
  | 0 => []
  | n + 1 => idxP q n ++ (if q n = true then [n] else [])
theorem idxP_lt {q : Nat → Bool} : ∀ {n i : Nat}, i ∈ idxP q n → i < n ∧ q i = true
  | 0, i, h => by simp [idxP] at h
  | n + 1, i, h => by
    rw [idxP, List.mem_append] at h
    rcases h with h | h
    · have := idxP_lt h; exact ⟨by omega, this.2⟩
    · split at h
      · rw [List.mem_singleton] at h; subst h; exact ⟨by omega, by assumption⟩
      · cases h
theorem idxP_len (q : Nat → Bool) : ∀ n, (idxP q n).length ≤ n
  | 0 => by simp [idxP]
  | n + 1 => by
    have := idxP_len q n
    rw [idxP, List.length_append]
    split <;> simp <;> omega
end Al
end Go.Proofs.YtllkiadedaghoaaGreatDoor
set_option linter.unusedVariables false
set_option linter.unusedSimpArgs false
namespace Go.Proofs.YtllkiadedaghoaaGreatDoor
namespace Al
/-- The messages that explain an alarm. -/
def inC (a : C) (m : M) : Bool := Ba.eqS m.nd a.nd && a.bc.contains m.nu
theorem Dist.nodup {l : List M} (h : Dist l) : l.Nodup := List.Pairwise.imp (fun h e => h (by rw [e])) h
theorem Dist.same {l : List M} (h : Dist l) {a b : M} (ha : a ∈ l) (hb : b ∈ l) (hk : kM a.nd a.nu = kM b.nd b.nu) : a = b := by
  obtain ⟨i, hi, rfl⟩ := List.getElem_of_mem ha
  obtain ⟨j, hj, rfl⟩ := List.getElem_of_mem hb
  rcases Nat.lt_trichotomy i j with q | q | q
  · exact absurd hk (List.pairwise_iff_getElem.1 h i j hi hj q)
  · subst q; rfl
  · exact absurd hk.symm (List.pairwise_iff_getElem.1 h j i hj hi q)
end Al
end Go.Proofs.YtllkiadedaghoaaGreatDoor
set_option linter.unusedVariables false
set_option linter.unusedSimpArgs false
namespace Go.Proofs.YtllkiadedaghoaaGreatDoor
open Go.RowKit Go.Shelf Go.Sort
namespace Dg
theorem pd_sp : ∀ (k n : Nat), (pd n k).count 32 = 0
  | 0, n => rfl
  | k + 1, n => by
    rw [pd, List.count_append, pd_sp k]
    rw [List.count_singleton]
    have h := dig_byte n
    have hne : ¬ (UInt8.ofNat (48 + n % 10) == 32) = true := fun e => by
      rw [beq_iff_eq.1 e] at h
      have : (32 : UInt8).toNat = 32 := rfl
      omega
    rw [if_neg hne]
theorem dec_sp (n : Nat) : (Lib.decDigits n).count 32 = 0 := by rw [dec_pd]; exact pd_sp _ _
end Dg
namespace Ck
theorem dig_sp (n c : Nat) : (dig n c).count 32 = 0 := by
  unfold dig
  rw [List.count_append, Dg.dec_sp, List.count_replicate]
  rfl
theorem hrs_sp (s : Int) : (hrs s).count 32 = 0 := by
  unfold hrs
  simp only [List.count_append, dig_sp]
  rfl
theorem txt_sp (y m d s : Int) : (txt y m d s).count 32 = 1 := by
  unfold txt
  simp only [List.count_append, dig_sp, hrs_sp]
  rfl
end Ck
/-- Both texts of a time alike, and what they look like. -/
theorem text_full (t : Int) (w : World) (ht : Tab w) : ∃ (L : List UInt8) (e' : Int), (∀ W : World, Gr w W → Calls Tryz.prog 29 #[.int .i64 t] W fun e w' => e = .returned (.tuple #[.string ⟨L.toArray⟩, .int .i64 e']) ∧ Gr W w') ∧
    (∀ W : World, Calls Tryz.prog 44 #[.int .i64 t] W fun e w' => e = .returned (.tuple #[.string ⟨L.toArray⟩, .int .i64 e']) ∧ Gr W w') ∧ L.length ≤ 1000 ∧ (e' ≠ 0 → L = []) ∧ (e' = 0 → L.count 32 = 1) ∧ (Ck.inst t = true → e' = 0 ∨ e' = 20) := by
  cases hi : Ck.inst t
  · exact ⟨[], 2, fun W _ => text_bad t W hi, fun W => rtext_bad t W hi, by simp, fun _ => rfl, fun h => absurd h (by decide), fun h => by cases h⟩
  · by_cases hd : -730119 ≤ t / 86400 ∧ t / 86400 ≤ 2921939
    · obtain ⟨y', m', d', hv, hn⟩ := Ck.exists_date (t / 86400) hd.1 hd.2
      obtain ⟨u0, u1⟩ := Ck.split_secs t
      refine ⟨_, 0, fun W hg => text_any t y' m' d' W hi hv hn (ht.gr hg), fun W => rtext_any t y' m' d' W hi ?_ hv hn, by rw [Ck.txt_len hv u0 u1]; omega, fun h => absurd rfl h, fun _ => Ck.txt_sp _ _ _ _, fun _ => .inl rfl⟩
      unfold Ck.dated; simp only [Bool.and_eq_true, decide_eq_true_eq]; exact hd
    · refine ⟨[], 20, fun W _ => text_none t W hi (by omega), fun W => rtext_none t W hi ?_, by simp, fun _ => rfl, fun h => absurd h (by decide), fun _ => .inr rfl⟩
      unfold Ck.dated; simp only [Bool.and_eq_false_iff, decide_eq_false_iff_not]; omega
namespace Al
theorem mis_any (s : SlM) (a : A) (i : Nat) : Ba.any (fun j => isK a.nd (a.X i) (s.D j)) s.n = !mis s a i := by
  unfold mis plc
  rw [← Ba.fstI_ge]
  by_cases h : Ba.fstI (fun j => isK a.nd (a.X i) (s.D j)) s.n < 0
  · rw [decide_eq_true h, decide_eq_false (by omega)]; rfl
  · rw [decide_eq_false h, decide_eq_true (by omega)]; rfl
theorem mis_no {s : SlM} {a : A} {i : Nat} (h : mis s a i = false) : ∃ m ∈ s.lst, m.nd = a.nd ∧ m.nu = a.X i := by
  have := mis_any s a i
  rw [h, Bool.not_false, Ba.any_iff] at this
  obtain ⟨j, hj, hp⟩ := this
  unfold isK at hp
  rw [Bool.and_eq_true] at hp
  have hp2 := beq_iff_eq.1 hp.2
  refine ⟨s.D j, List.mem_map.2 ⟨j, List.mem_range.2 hj, rfl⟩, (eqS_iff' _ _).1 (show Ba.eqS _ _ = true from hp.1), hp2⟩
theorem mOk_nu {m : M} (h : mOk m = true) : 0 ≤ m.nu ∧ m.nu ≤ 1073741824 := by
  unfold mOk Ba.bet at h
  simp only [Bool.and_eq_true, decide_eq_true_eq] at h
  exact h.2.1
end Al
/-- Both Explains answer alike. -/
theorem exp_both (N : Ba.SlNode) (L : Ba.SlLink) (s : Al.SlM) (a : Al.A) (w : World) (hN : N.At w) (hL : L.At w) (h : s.At w) (ha : a.At w) (hv : Ba.netB N L = true) (hs : s.vB = true) (ht : Tab w) (hn40 : a.n ≤ 40) (hnd : a.nd.size ≤ 50) : ∃ (T : List UInt8) (E : Int),
    (∀ W, Gr w W → Calls Tryz.prog 7 #[Ba.netVal N L, .slice s.A s.n s.c, .agg #[.int .i64 a.kd, .string a.nd, .int .i64 a.tm, .slice a.p a.n a.c]] W fun e w' => e = .returned (.tuple #[.string ⟨T.toArray⟩, .int .i64 E]) ∧ Gr W w') ∧
    (∀ W, Gr w W → Calls Tryz.prog 11 #[.slice s.A s.n s.c, .agg #[.int .i64 a.kd, .string a.nd, .int .i64 a.tm, .slice a.p a.n a.c]] W fun e w' => e = .returned (.tuple #[.string ⟨T.toArray⟩, .int .i64 E]) ∧ Gr W w') ∧
    (1 ≤ a.kd ∧ a.kd ≤ 6 → (∀ i, i < a.n → Al.mis s a i = false) → Ck.inst a.tm = true → E = 20 ∨ (E = 0 ∧ ∃ L' : List UInt8, L'.count 32 = 1 ∧ T = Al.expl a.kd a.nd.data.toList L' a.X a.n)) := by
  have hvl := (Al.vB_iff s).1 hs
  have HR : ∀ W0, Gr w W0 → ∀ W, Gr W0 W → Calls Tryz.prog 25 #[.agg #[.slice N.A N.n N.c, .slice L.A L.n L.c], .slice s.A s.n s.c] W fun e w' => e = .returned (.bool true) ∧ Gr W w' := fun W0 h0 W hW => by
    have := aright_any N L s W (hN.gr (h0.trans hW)) (hL.gr (h0.trans hW)) (h.gr (h0.trans hW))
    rw [hv, hs] at this
    exact this
  by_cases hk : 1 ≤ a.kd ∧ a.kd ≤ 6
  case neg =>
    refine ⟨[], 11, fun W hW => ?_, fun W hW => ?_, fun q => absurd q hk⟩
    · refine Exp_kind N.A L.A N.n N.c L.n L.c s a W (ha.gr hW) (HR W hW) (fun W2 => ?_)
      have := awithin_any a.kd 1 6 W2
      rw [show Ba.bet a.kd 1 6 = false from by unfold Ba.bet; rw [Bool.and_eq_false_iff, decide_eq_false_iff_not, decide_eq_false_iff_not]; omega] at this
      exact this
    · exact rExp_kind s a W (h.gr hW) (ha.gr hW) (by omega)
  case pos =>
    have HW : ∀ W, Calls Tryz.prog 26 #[.int .i64 a.kd, .int .i64 1, .int .i64 6] W fun e w' => e = .returned (.bool true) ∧ W = w' := fun W => by
      have := awithin_any a.kd 1 6 W
      rw [show Ba.bet a.kd 1 6 = true from by unfold Ba.bet; rw [Bool.and_eq_true, decide_eq_true_eq, decide_eq_true_eq]; exact hk] at this
      exact this
    have HC : ∀ W0, Gr w W0 → ∀ i B K W, i < a.n → Gr W0 W → W.cell? ⟨B, 1, none⟩ = some (.string a.nd) → W.cell? ⟨K, 0, none⟩ = some (.int .i64 (a.X i)) → Calls Tryz.prog 23 #[.slice s.A s.n s.c, .func (.func 27) #[] #[.pointer (some ⟨B, 0, none⟩), .pointer (some ⟨K, 0, none⟩)]] W fun e w' => e = .returned (.bool (!Al.mis s a i)) ∧ Gr W w' := fun W0 h0 i B K W hi hW h1 h2 => by
      have := has_msg 27 #[.pointer (some ⟨B, 0, none⟩), .pointer (some ⟨K, 0, none⟩)] s (fun j => Al.isK a.nd (a.X i) (s.D j)) W (h.gr (h0.trans hW)) (enter_of Tryz.func27 (by kernel_rfl) (by kernel_rfl)) fun j hj W2 hW2 => exp1_any (s.D j) B K a.nd (a.X i) W2 (Gr.at hW2 h1) (Gr.at hW2 h2)
      rw [Al.mis_any] at this
      exact this
    have HX : ∀ i, i < a.n → Al.mis s a i = false → 0 ≤ a.X i ∧ a.X i ≤ 1073741824 := fun i hi hm => by
      obtain ⟨m, hm1, -, h2⟩ := Al.mis_no hm
      rw [← h2]; exact Al.mOk_nu (hvl.2.1 m hm1)
    have HI : ∀ W0, Gr w W0 → ∀ i W, i < a.n → Al.mis s a i = false → Gr W0 W → Calls Tryz.prog 28 #[.int .i64 (a.X i)] W fun e w' => e = .returned (.string ⟨(Lib.decDigits (a.X i).toNat).toArray⟩) ∧ Gr W w' := fun W0 h0 i W hi hm hW => by
      have := HX i hi hm
      exact itoa_any (a.X i) W this.1 (by omega) (.inr (ht.gr (h0.trans hW)))
    by_cases hm : ∃ i, i < a.n ∧ Al.mis s a i = true
    · refine ⟨[], 12, fun W hW => ?_, fun W hW => ?_, fun _ q => absurd hm (by rintro ⟨i, hi, e⟩; rw [q i hi] at e; cases e)⟩
      · exact Exp_none N.A L.A N.n N.c L.n L.c s a W (ha.gr hW) (HR W hW) HW (HC W hW) (HI W hW) hn40 hk hm
      · exact rExp_none s a W (h.gr hW) (ha.gr hW) hk hm
    · have hm' : ∀ i, i < a.n → Al.mis s a i = false := fun i hi => by
        cases e : Al.mis s a i
        · rfl
        · exact absurd ⟨i, hi, e⟩ hm
      obtain ⟨L', k, T1, T2, hL1, hL2, hL3, hL4⟩ := text_full a.tm w ht
      by_cases hk0 : k = 0
      · subst hk0
        refine ⟨_, 0, fun W hW => ?_, fun W hW => ?_, fun _ _ _ => .inr ⟨rfl, L', hL3 rfl, rfl⟩⟩
        · exact Exp_ok N.A L.A N.n N.c L.n L.c s a W (ha.gr hW) (HR W hW) HW (HC W hW) (HI W hW) hn40 hk hm' L' (fun W2 h2 => T1 W2 (hW.trans h2)) hL1 hnd (fun i hi => by have := HX i hi (hm' i hi); omega)
        · exact rExp_ok s a W (h.gr hW) (ha.gr hW) hk hm' L' (fun W2 _ => T2 W2) hL1 hnd hn40 (fun i hi => by have := HX i hi (hm' i hi); omega)
      · have := hL2 hk0
        subst this
        refine ⟨[], k, fun W hW => ?_, fun W hW => ?_, fun _ _ q => ?_⟩
        · exact Exp_time N.A L.A N.n N.c L.n L.c s a W (ha.gr hW) (HR W hW) HW (HC W hW) (HI W hW) hn40 hk hm' k [] (fun W2 h2 => T1 W2 (hW.trans h2)) hk0
        · exact rExp_time s a W (h.gr hW) (ha.gr hW) hk hm' [] k (fun W2 _ => T2 W2) hk0
        · rcases hL4 q with e | e
          · exact absurd e hk0
          · exact .inl e
end Go.Proofs.YtllkiadedaghoaaGreatDoor
set_option linter.unusedVariables false
set_option linter.unusedSimpArgs false
namespace Go.Proofs.YtllkiadedaghoaaGreatDoor
open Go.RowKit Go.Shelf Go.Sort
attribute [local go_sem ↓] Go.wp_at_zero Go.wp_at_succ
theorem GrX.trans {R : Nat} {a b c : World} (h : GrX R a b) (k : GrX R b c) : GrX R a c :=
  ⟨k.os.trans h.os, k.tape.trans h.tape, k.output.trans h.output, Nat.le_trans h.size k.size, fun i hi hR => (k.block i (Nat.lt_of_lt_of_le hi h.size) hR).trans (h.block i hi hR), fun o ho => k.row o (h.row o ho), fun o ho => (k.free o (h.row o ho)).trans (h.free o ho)⟩
namespace Al
/-- An alarm in a block of alarms; its cells may be written. -/
def R4 (w : World) (b i : Nat) (a : A) : Prop := Go.Proofs.YtllkiadedaghoaaGreatDoor.Own w b (i * 4) (.int .i64 a.kd) ∧ Go.Proofs.YtllkiadedaghoaaGreatDoor.Own w b (i * 4 + 1) (.string a.nd) ∧ Go.Proofs.YtllkiadedaghoaaGreatDoor.Own w b (i * 4 + 2) (.int .i64 a.tm) ∧ Go.Proofs.YtllkiadedaghoaaGreatDoor.Own w b (i * 4 + 3) (.slice a.p a.n a.c)
theorem R4.gr {w w' : World} {b i : Nat} {a : A} (h : R4 w b i a) (g : Gr w w') : R4 w' b i a := ⟨h.1.gr g, h.2.1.gr g, h.2.2.1.gr g, h.2.2.2.gr g⟩
/-- A row of n alarms. -/
def Rw (w : World) (b n : Nat) (F : Nat → A) : Prop := ∀ t, t < n → R4 w b t (F t)
theorem Rw.gr {w w' : World} {b n : Nat} {F : Nat → A} (h : Rw w b n F) (g : Gr w w') : Rw w' b n F := fun t ht => (h t ht).gr g
/-- One alarm is written. -/
def st4 (w : World) (b i : Nat) (a : A) : World := (((w.setCell ⟨b, i * 4, none⟩ (.int .i64 a.kd)).setCell ⟨b, i * 4 + 1, none⟩ (.string a.nd)).setCell ⟨b, i * 4 + 2, none⟩ (.int .i64 a.tm)).setCell ⟨b, i * 4 + 3, none⟩ (.slice a.p a.n a.c)
theorem st4_other {w : World} {b i o : Nat} {a : A} {u : Value} (h : Go.Proofs.YtllkiadedaghoaaGreatDoor.Own w b o u) (h0 : o ≠ i * 4) (h1 : o ≠ i * 4 + 1) (h2 : o ≠ i * 4 + 2) (h3 : o ≠ i * 4 + 3) : Go.Proofs.YtllkiadedaghoaaGreatDoor.Own (st4 w b i a) b o u :=
  Own.other (Own.other (Own.other (Own.other h (Or.inr h0)) (Or.inr h1)) (Or.inr h2)) (Or.inr h3)
theorem Rw.put {w : World} {b n i : Nat} {F : Nat → A} {a : A} (h : Rw w b n F) (hi : i < n) : Rw (st4 w b i a) b n (fun t => if t = i then a else F t) := by
  intro t ht
  by_cases q : t = i
  · subst q
    simp only [if_pos]
    obtain ⟨h0, h1, h2, h3⟩ := h t ht
    exact ⟨Own.other (Own.other (Own.other (Own.set h0) (Or.inr (by omega))) (Or.inr (by omega))) (Or.inr (by omega)), Own.other (Own.other (Own.set (Own.other h1 (Or.inr (by omega)))) (Or.inr (by omega))) (Or.inr (by omega)), Own.other (Own.set (Own.other (Own.other h2 (Or.inr (by omega))) (Or.inr (by omega)))) (Or.inr (by omega)), Own.set (Own.other (Own.other (Own.other h3 (Or.inr (by omega))) (Or.inr (by omega))) (Or.inr (by omega)))⟩
  · simp only [if_neg q]
    obtain ⟨h0, h1, h2, h3⟩ := h t ht
    exact ⟨st4_other h0 (by omega) (by omega) (by omega) (by omega), st4_other h1 (by omega) (by omega) (by omega) (by omega), st4_other h2 (by omega) (by omega) (by omega) (by omega), st4_other h3 (by omega) (by omega) (by omega) (by omega)⟩
/-- The loop of DeleteFunc: of the first j alarms those that stay stand first. -/
structure DfS (p : A → Bool) (D : Nat → A) (n i j : Nat) (F : Nat → A) : Prop where
  lt : i < j
  le : j ≤ n
  fl : (List.range i).map F = ((List.range j).map D).filter fun a => !p a
  rest : ∀ t, j ≤ t → t < n → F t = D t
  from' : ∀ t, t < n → ∃ s, s < n ∧ F t = D s
theorem DfS.start {p : A → Bool} {D : Nat → A} {n i : Nat} (hi : i < n) (h : p (D i) = true) (hno : ∀ t, t < i → p (D t) = false) : DfS p D n i (i + 1) D :=
  ⟨by omega, by omega, by
    rw [List.range_succ, List.map_append, List.filter_append, List.filter_eq_self.2 fun a ha => by
      obtain ⟨t, ht, rfl⟩ := List.mem_map.1 ha
      rw [hno t (List.mem_range.1 ht)]; rfl]
    simp [h], fun _ _ _ => rfl, fun t ht => ⟨t, ht, rfl⟩⟩
theorem DfS.skip {p : A → Bool} {D : Nat → A} {n i j : Nat} {F : Nat → A} (h : DfS p D n i j F) (hj : j < n) (hp : p (D j) = true) : DfS p D n i (j + 1) F :=
  ⟨by have := h.lt; omega, by omega, by rw [h.fl, List.range_succ, List.map_append, List.filter_append]; simp [hp], fun t h1 h2 => h.rest t (by omega) h2, h.from'⟩
theorem DfS.put {p : A → Bool} {D : Nat → A} {n i j : Nat} {F : Nat → A} (h : DfS p D n i j F) (hj : j < n) (hp : p (D j) = false) : DfS p D n (i + 1) (j + 1) (fun t => if t = i then D j else F t) := by
  have hlt := h.lt
  refine ⟨by omega, by omega, ?_, fun t h1 h2 => by rw [if_neg (by omega)]; exact h.rest t (by omega) h2, fun t ht => ?_⟩
  · rw [List.range_succ, List.map_append, List.range_succ, List.map_append, List.filter_append, ← h.fl]
    congr 1
    · refine List.map_congr_left fun t ht => ?_
      rw [if_neg (by have := List.mem_range.1 ht; omega)]
    · simp [hp]
  · by_cases q : t = i
    · rw [if_pos q]; exact ⟨j, hj, rfl⟩
    · rw [if_neg q]; exact h.from' t ht
end Al
theorem Al.OwnA.len {w : World} {b : Nat} {v : Value} {l : List Al.A} (h : Al.OwnA w b v l) : ∃ A c, v = .slice A l.length c := by
  rcases h.open with ⟨rfl, rfl⟩ | ⟨g, c, cur, rfl, -⟩
  · exact ⟨none, 0, rfl⟩
  · exact ⟨_, c, rfl⟩
/-- Indices that a call has gathered, as a slice. -/
theorem ownI_sl {w : World} {base : Nat} {v : Value} {l : List Nat} (h : w.ownsRow base 3 1 v l.length (l.map fun (q : Nat) => Value.int .i64 (q : Int))) (hm : ∀ q ∈ l, q ≤ 100000) : ∃ d : Ba.SlI, v = .slice d.A d.n d.c ∧ d.At w ∧ d.n = l.length ∧ ∀ j (hj : j < l.length), d.X j = (l[j] : Int) := by
  obtain ⟨A, c, b, rfl, hA, hn, hc, hx⟩ := ownsRow_at h
  refine ⟨⟨A, l.length, c, b, 0, fun j => ((l.getD j 0 : Nat) : Int)⟩, rfl, ⟨hA, hn, hc, fun i hi => ?_⟩, rfl, fun j hj => ?_⟩
  · have hi' : i < l.length := hi
    simp only [Nat.zero_add]
    refine ⟨?_, ?_⟩
    · rw [hx i hi', List.getElem?_map, List.getElem?_eq_getElem hi', List.getD_eq_getElem?_getD, List.getElem?_eq_getElem hi']; rfl
    · have : l.getD i 0 ≤ 100000 := by
        rw [List.getD_eq_getElem?_getD, List.getElem?_eq_getElem hi']
        exact hm _ (List.getElem_mem hi')
      unfold Ba.i64; omega
  · simp only [List.getD_eq_getElem?_getD, List.getElem?_eq_getElem hj]; rfl
end Go.Proofs.YtllkiadedaghoaaGreatDoor
