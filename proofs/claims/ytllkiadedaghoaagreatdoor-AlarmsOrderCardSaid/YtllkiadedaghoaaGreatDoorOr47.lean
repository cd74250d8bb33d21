/-
  Alarms, plain: what an explanation begins with, and its spaces. Typed.
  slices.Reverse on messages. (Printed by mkzob.py.)
  Alarms: slices.DeleteFunc at a row of alarms that a call has made. Typed.
  Alarms: slices.Clone and slices.Delete at messages. Typed.
-/
import Derived.Test.YtllkiadedaghoaaGreatDoorOr46
import Derived.Test.YtllkiadedaghoaaGreatDoorOr41
import Derived.Test.YtllkiadedaghoaaGreatDoorOr43
import Derived.Test.YtllkiadedaghoaaGreatDoorOr10
import Derived.Test.YtllkiadedaghoaaGreatDoorOr45
import Derived.Deep.RegionLaw
set_option linter.unusedVariables false
set_option linter.unusedSimpArgs false
namespace Go.Proofs.YtllkiadedaghoaaGreatDoor
namespace Dc
theorem spn_all_of {p : UInt8 → Bool} : ∀ {l : List UInt8}, spn p l = l.length → ∀ c ∈ l, p c = true
  | [], _, c, h => by cases h
  | a :: l, h, c, hc => by
    unfold spn at h
    split at h
    · rename_i q
      rcases List.mem_cons.1 hc with rfl | hc
      · exact q
      · exact spn_all_of (by simpa using h) c hc
    · simp at h
theorem name_sp {l : List UInt8} (h : isName l = true) : l.count 32 = 0 := by
  unfold isName at h
  simp only [Bool.and_eq_true, decide_eq_true_eq] at h
  refine List.count_eq_zero.2 fun hm => ?_
  have hw := spn_all_of (p := isW) h.2 32 hm
  exact absurd hw (by decide)
theorem name_len {l : List UInt8} (h : isName l = true) : l.length ≤ 20 := by
  unfold isName at h
  simp only [Bool.and_eq_true, decide_eq_true_eq] at h
  exact h.1.1.2
end Dc
namespace Al
theorem wrd_sp (kd : Int) : (wrd kd).count 32 = 0 := by unfold wrd; split <;> rfl
theorem numT_sp (X : Nat → Int) : ∀ n, (numT X n).count 32 = n
  | 0 => rfl
  | n + 1 => by
    rw [numT_succ, List.count_append, List.count_append, numT_sp X n, Dg.dec_sp]
    rfl
theorem expl_sp {kd : Int} {nd L : List UInt8} {X : Nat → Int} {n : Nat} (hn : nd.count 32 = 0) (hL : L.count 32 = 1) : (expl kd nd L X n).count 32 = n + 4 := by
  unfold expl msgW
  simp only [List.count_append, wrd_sp, hn, hL, numT_sp]
  show 0 + 1 + 0 + 1 + 1 + 1 + 0 + n = n + 4
  omega
/-- What an explanation begins with. -/
def wrdS (kd : Int) : List UInt8 := wrd kd ++ [32]
theorem expl_pre (kd : Int) (nd L : List UInt8) (X : Nat → Int) (n : Nat) : wrdS kd <+: expl kd nd L X n := by
  unfold expl wrdS
  exact ⟨nd ++ [32] ++ L ++ [32] ++ msgW ++ numT X n, by simp [List.append_assoc]⟩
theorem mOk_nd {m : M} (h : mOk m = true) : Dc.isName m.nd.data.toList = true := by
  unfold mOk at h
  rw [Bool.and_eq_true] at h
  exact h.1
end Al
end Go.Proofs.YtllkiadedaghoaaGreatDoor
set_option linter.unusedVariables false
set_option linter.unusedSimpArgs false
namespace Go.Proofs.YtllkiadedaghoaaGreatDoor
open Go.RowKit Go.Shelf Go.Sort
attribute [local go_sem ↓] Go.wp_at_zero Go.wp_at_succ
/-- Messages in a block that may be written. -/
def RowM (w : World) (g n : Nat) (D : Nat → Al.M) : Prop := ∀ j, j < n → Own w g (j * 5) (.string (D j).nd) ∧ Own w g (j * 5 + 1) (.int .i64 (D j).nu) ∧ Own w g (j * 5 + 2) (.int .i64 (D j).tm) ∧ Own w g (j * 5 + 3) (.int .i64 (D j).ar) ∧ Own w g (j * 5 + 4) (.int .i64 (D j).lv)
theorem RowM.gr {w w' : World} {g n : Nat} {D : Nat → Al.M} (h : RowM w g n D) (hg : Gr w w') : RowM w' g n D := fun j hj => by
  obtain ⟨h0, h1, h2, h3, h4⟩ := h j hj
  exact ⟨h0.gr hg, h1.gr hg, h2.gr hg, h3.gr hg, h4.gr hg⟩
def setM (w : World) (g j : Nat) (d : Al.M) : World := (((((w.setCell ⟨g, j * 5, none⟩ (.string d.nd)).setCell ⟨g, j * 5 + 1, none⟩ (.int .i64 d.nu)).setCell ⟨g, j * 5 + 2, none⟩ (.int .i64 d.tm)).setCell ⟨g, j * 5 + 3, none⟩ (.int .i64 d.ar)).setCell ⟨g, j * 5 + 4, none⟩ (.int .i64 d.lv))
theorem grx_setM {g : Nat} {a w : World} (h : GrX g a w) (j : Nat) (d : Al.M) : GrX g a (setM w g j d) :=
  GrX.setCell (p := ⟨g, j * 5 + 4, none⟩) (GrX.setCell (p := ⟨g, j * 5 + 3, none⟩) (GrX.setCell (p := ⟨g, j * 5 + 2, none⟩) (GrX.setCell (p := ⟨g, j * 5 + 1, none⟩) (GrX.setCell (p := ⟨g, j * 5, none⟩) (h) rfl _) rfl _) rfl _) rfl _) rfl _
theorem RowM.set {w : World} {g n : Nat} {D E : Nat → Al.M} {i : Nat} {d : Al.M} (h : RowM w g n D) (hi : E i = d) (ho : ∀ j, j < n → j ≠ i → E j = D j) : RowM (setM w g i d) g n E := fun j hj => by
  obtain ⟨h0, h1, h2, h3, h4⟩ := h j hj
  unfold setM
  by_cases e : j = i
  · subst e
    rw [hi]
    exact ⟨Own.other (Own.other (Own.other (Own.other (Own.set (h0)) (Or.inr (by omega))) (Or.inr (by omega))) (Or.inr (by omega))) (Or.inr (by omega)),
      Own.other (Own.other (Own.other (Own.set (Own.other (h1) (Or.inr (by omega)))) (Or.inr (by omega))) (Or.inr (by omega))) (Or.inr (by omega)),
      Own.other (Own.other (Own.set (Own.other (Own.other (h2) (Or.inr (by omega))) (Or.inr (by omega)))) (Or.inr (by omega))) (Or.inr (by omega)),
      Own.other (Own.set (Own.other (Own.other (Own.other (h3) (Or.inr (by omega))) (Or.inr (by omega))) (Or.inr (by omega)))) (Or.inr (by omega)),
      Own.set (Own.other (Own.other (Own.other (Own.other (h4) (Or.inr (by omega))) (Or.inr (by omega))) (Or.inr (by omega))) (Or.inr (by omega)))⟩
  · rw [ho j hj e]
    exact ⟨Own.other (Own.other (Own.other (Own.other (Own.other (h0) (Or.inr (by omega))) (Or.inr (by omega))) (Or.inr (by omega))) (Or.inr (by omega))) (Or.inr (by omega)),
      Own.other (Own.other (Own.other (Own.other (Own.other (h1) (Or.inr (by omega))) (Or.inr (by omega))) (Or.inr (by omega))) (Or.inr (by omega))) (Or.inr (by omega)),
      Own.other (Own.other (Own.other (Own.other (Own.other (h2) (Or.inr (by omega))) (Or.inr (by omega))) (Or.inr (by omega))) (Or.inr (by omega))) (Or.inr (by omega)),
      Own.other (Own.other (Own.other (Own.other (Own.other (h3) (Or.inr (by omega))) (Or.inr (by omega))) (Or.inr (by omega))) (Or.inr (by omega))) (Or.inr (by omega)),
      Own.other (Own.other (Own.other (Own.other (Own.other (h4) (Or.inr (by omega))) (Or.inr (by omega))) (Or.inr (by omega))) (Or.inr (by omega))) (Or.inr (by omega))⟩
/-- The messages when the outer i on each side have been exchanged. -/
def rvM (D : Nat → Al.M) (n i : Nat) (j : Nat) : Al.M := if j < i ∨ n - 1 - i < j then D (n - 1 - j) else D j
set_option maxRecDepth 100000 in
set_option maxHeartbeats 4000000 in
theorem revM_any (A : Option Addr) (n c g : Nat) (D : Nat → Al.M) (w : World) (hA : 0 < n → A = some ⟨g, 0, none⟩) (hn : n ≤ 1000) (hR : RowM w g n D) : Calls Tryz.prog 17 #[.slice A n c] w fun e w' => e = .returned (.tuple #[]) ∧ RowM w' g n (fun j => D (n - 1 - j)) ∧ GrX g w w' := by
  have HA := Lib.hid hA; have HR0 := Lib.hid hR
  clear hA hR
  go_enter Tryz.func17, Tryz.ntmps17
  go_wp2_with fail
  go_loopw [2, 3] (fun x y wr => ∃ i : Nat, 2 * i ≤ n + 1 ∧ x = .int .i64 (i : Int) ∧ y = .int .i64 ((n : Int) - 1 - (i : Int)) ∧ Hid (RowM wr g n (rvM D n i)) ∧ GrX g w wr) (fun x _ _ => n + 1 - (intOf x).toNat)
  case atStart => exact ⟨0, by omega, rfl, by simp, Lib.hid (fun j hj => by
    have : rvM D n 0 j = D j := by unfold rvM; rw [if_neg (by omega)]
    rw [this]; exact HR0.out j hj), GrX.refl _ _⟩
  case round =>
    clear HR0
    obtain ⟨i, hi, rfl, rfl, HR, hg⟩ := hrel
    by_cases hlt : 2 * i + 1 < n
    · obtain ⟨j, hj⟩ : ∃ j : Nat, n = i + j + 1 := ⟨n - 1 - i, by omega⟩
      have hij : i < j := by omega
      rw [show (n : Int) - 1 - (i : Int) = (j : Int) by omega]
      obtain rfl := HA.out (by omega)
      have ei : rvM D n i i = D i := by unfold rvM; rw [if_neg (by omega)]
      have ej : rvM D n i j = D j := by unfold rvM; rw [if_neg (by omega)]
      obtain ⟨⟨u0, f0⟩, ⟨u1, f1⟩, ⟨u2, f2⟩, ⟨u3, f3⟩, ⟨u4, f4⟩⟩ := HR.out i (by omega)
      obtain ⟨⟨v0, h0⟩, ⟨v1, h1⟩, ⟨v2, h2⟩, ⟨v3, h3⟩, ⟨v4, h4⟩⟩ := HR.out j (by omega)
      rw [ei] at u0 u1 u2 u3 u4
      rw [ej] at v0 v1 v2 v3 v4
      have HRn := Lib.hid (RowM.set (w := setM _ g i (D j)) (g := g) (n := n) (D := fun k => if k = i then D j else rvM D n i k) (E := rvM D n (i + 1)) (i := j) (d := D i) (RowM.set HR.out (if_pos rfl) (fun k _ hk => if_neg hk)) (by
        unfold rvM; rw [if_pos (by omega)]; congr 1; omega) (fun k hk hkj => by
        by_cases q : k = i
        · subst q; rw [if_pos rfl]; unfold rvM; rw [if_pos (by omega)]; congr 1; omega
        · rw [if_neg q]; unfold rvM
          by_cases q2 : k < i ∨ n - 1 - i < k
          · rw [if_pos q2, if_pos (by omega)]
          · rw [if_neg q2, if_neg (by omega)]))
      have hgn := grx_setM (grx_setM hg i (D j)) j (D i)
      unfold setM at HRn hgn
      have ib0 : (0 : Int) ≤ (i : Int) := by omega
      have ib1 : (i : Int) < (n : Int) := by omega
      have ib2 : (0 : Int) ≤ (j : Int) := by omega
      have ib3 : (j : Int) < (n : Int) := by omega
      have td : decide ((i : Int) < (j : Int)) = true := decide_eq_true (by omega)
      have nn1 : i * 5 ≠ j * 5 := by omega
      have HJ := Lib.hid hj
      clear HR ei ej hg hj
      generalize D i = di at *
      generalize D j = dj at *
      go_wp2_with fail
      go_region
      go_wp2_with fail
      go_roundw
      case rel => exact ⟨i + 1, by omega, by go_num, by (have := HJ.out; congr 1; omega), Lib.hid (HRn.out.gr (Gr.drew (Gr.refl _))), GrX.drew hgn⟩
      case measure => simp [intOf]; omega
    · have td : decide ((i : Int) < (n : Int) - 1 - (i : Int)) = false := decide_eq_false (by omega)
      have HRe := Lib.hid (show RowM _ g n (fun j => D (n - 1 - j)) from fun j hj => by
        have := HR.out j hj
        have e : rvM D n i j = D (n - 1 - j) := by
          unfold rvM
          by_cases q : j < i ∨ n - 1 - i < j
          · rw [if_pos q]
          · rw [if_neg q]; congr 1; omega
        rw [e] at this; exact this)
      clear HR
      go_wp2_with fail
      go_end0
      exact ⟨rfl, HRe.out, hg⟩
/-- The reversed clone of messages. -/
theorem Al.RowM.of {w : World} {base : Nat} {v : Value} {l : List Al.M} (h : w.ownsRow base 53 5 v l.length (Al.flat l)) : ∃ (A : Option Addr) (c g : Nat), v = .slice A l.length c ∧ (0 < l.length → A = some ⟨g, 0, none⟩) ∧ base ≤ g ∧ l.length ≤ c ∧ c ≤ 9223372036854775807 ∧ RowM w g l.length (fun i => l[i]!) := by
  by_cases hne : l = []
  · subst hne
    obtain ⟨hl, ⟨rfl, z⟩ | ⟨g, cap, cur, rfl, hb, hc, hn, hm, hs, r⟩⟩ := h
    · exact ⟨none, 0, base, rfl, fun h => absurd h (Nat.lt_irrefl _), Nat.le_refl _, Nat.le_refl _, by omega, fun j hj => absurd hj (Nat.not_lt_zero _)⟩
    · exact ⟨_, cap, g, rfl, fun _ => rfl, hb, hn, by unfold maxLen at hm; exact hm, fun j hj => absurd hj (Nat.not_lt_zero _)⟩
  · obtain ⟨g, cap, rfl, hb, hlt, hn, hm, hr⟩ := Al.rowE_of (enc := Al.M.enc) (k := 5) (fun _ => rfl) h hne
    refine ⟨_, cap, g, rfl, fun _ => rfl, hb, hn, by unfold maxLen at hm; exact hm, fun j hj => ?_⟩
    have R := hr j hj
    exact ⟨R 0 (by omega), R 1 (by omega), R 2 (by omega), R 3 (by omega), R 4 (by omega)⟩
/-- The slice that has been reversed. -/
def Al.rvS (A : Option Addr) (c g : Nat) (l : List Al.M) : Al.SlM := ⟨A, l.length, c, g, 0, fun j => l[l.length - 1 - j]!⟩
theorem Al.rvS_lst (A : Option Addr) (c g : Nat) (l : List Al.M) : (Al.rvS A c g l).lst = l.reverse := by
  unfold Al.rvS Al.SlM.lst
  apply List.ext_getElem
  · simp
  · intro i h1 h2
    simp only [List.length_map, List.length_range] at h1
    simp only [List.getElem_map, List.getElem_range, List.getElem_reverse]
    rw [getElem!_pos l _ (by omega)]
theorem Al.rvS_at {w : World} {A : Option Addr} {c g : Nat} {l : List Al.M} (hA : 0 < l.length → A = some ⟨g, 0, none⟩) (hc : l.length ≤ c) (hb : c ≤ 9223372036854775807) (hok : ∀ m ∈ l, m.Ok) (hr : RowM w g l.length (fun j => l[l.length - 1 - j]!)) : (Al.rvS A c g l).At w := by
  refine ⟨hA, hc, hb, fun i hi => ?_⟩
  have hi' : i < l.length := hi
  obtain ⟨h0, h1, h2, h3, h4⟩ := hr i hi'
  refine ⟨?_, ?_⟩
  · unfold Al.rvS Al.M.Cells
    simp only [Nat.zero_add]
    exact ⟨h0.1, h1.1, h2.1, h3.1, h4.1⟩
  · show (l[l.length - 1 - i]!).Ok
    rw [getElem!_pos l _ (by omega)]; exact hok _ (List.getElem_mem _)
end Go.Proofs.YtllkiadedaghoaaGreatDoor
set_option linter.unusedVariables false
set_option linter.unusedSimpArgs false
namespace Go.Proofs.YtllkiadedaghoaaGreatDoor
open Go.RowKit Go.Shelf Go.Sort
attribute [local go_sem ↓] Go.wp_at_zero Go.wp_at_succ
theorem GrX.trans {R : Nat} {a b c : World} (h : GrX R a b) (k : GrX R b c) : GrX R a c :=
  ⟨k.os.trans h.os, k.tape.trans h.tape, k.output.trans h.output, Nat.le_trans h.size k.size, fun i hi hR => (k.block i (Nat.lt_of_lt_of_le hi h.size) hR).trans (h.block i hi hR), fun o ho => k.row o (h.row o ho), fun o ho => (k.free o (h.row o ho)).trans (h.free o ho)⟩
namespace Al
/-- An alarm in a block of alarms; its cells may be written. -/
def R4 (w : World) (b i : Nat) (a : A) : Prop := Go.Proofs.YtllkiadedaghoaaGreatDoor.Own w b (i * 4) (.int .i64 a.kd) ∧ Go.Proofs.YtllkiadedaghoaaGreatDoor.Own w b (i * 4 + 1) (.string a.nd) ∧ Go.Proofs.YtllkiadedaghoaaGreatDoor.Own w b (i * 4 + 2) (.int .i64 a.tm) ∧ Go.Proofs.YtllkiadedaghoaaGreatDoor.Own w b (i * 4 + 3) (.slice a.p a.n a.c)
theorem R4.gr {w w' : World} {b i : Nat} {a : A} (h : R4 w b i a) (g : Gr w w') : R4 w' b i a := ⟨h.1.gr g, h.2.1.gr g, h.2.2.1.gr g, h.2.2.2.gr g⟩
/-- A row of n alarms. -/
def Rw (w : World) (b n : Nat) (F : Nat → A) : Prop := ∀ t, t < n → R4 w b t (F t)
theorem Rw.gr {w w' : World} {b n : Nat} {F : Nat → A} (h : Rw w b n F) (g : Gr w w') : Rw w' b n F := fun t ht => (h t ht).gr g
/-- One alarm is written. -/
def st4 (w : World) (b i : Nat) (a : A) : World := (((w.setCell ⟨b, i * 4, none⟩ (.int .i64 a.kd)).setCell ⟨b, i * 4 + 1, none⟩ (.string a.nd)).setCell ⟨b, i * 4 + 2, none⟩ (.int .i64 a.tm)).setCell ⟨b, i * 4 + 3, none⟩ (.slice a.p a.n a.c)
theorem st4_other {w : World} {b i o : Nat} {a : A} {u : Value} (h : Go.Proofs.YtllkiadedaghoaaGreatDoor.Own w b o u) (h0 : o ≠ i * 4) (h1 : o ≠ i * 4 + 1) (h2 : o ≠ i * 4 + 2) (h3 : o ≠ i * 4 + 3) : Go.Proofs.YtllkiadedaghoaaGreatDoor.Own (st4 w b i a) b o u :=
  Own.other (Own.other (Own.other (Own.other h (Or.inr h0)) (Or.inr h1)) (Or.inr h2)) (Or.inr h3)
theorem Rw.put {w : World} {b n i : Nat} {F : Nat → A} {a : A} (h : Rw w b n F) (hi : i < n) : Rw (st4 w b i a) b n (fun t => if t = i then a else F t) := by
  intro t ht
  by_cases q : t = i
  · subst q
    simp only [if_pos]
    obtain ⟨h0, h1, h2, h3⟩ := h t ht
    exact ⟨Own.other (Own.other (Own.other (Own.set h0) (Or.inr (by omega))) (Or.inr (by omega))) (Or.inr (by omega)), Own.other (Own.other (Own.set (Own.other h1 (Or.inr (by omega)))) (Or.inr (by omega))) (Or.inr (by omega)), Own.other (Own.set (Own.other (Own.other h2 (Or.inr (by omega))) (Or.inr (by omega)))) (Or.inr (by omega)), Own.set (Own.other (Own.other (Own.other h3 (Or.inr (by omega))) (Or.inr (by omega))) (Or.inr (by omega)))⟩
  · simp only [if_neg q]
    obtain ⟨h0, h1, h2, h3⟩ := h t ht
    exact ⟨st4_other h0 (by omega) (by omega) (by omega) (by omega), st4_other h1 (by omega) (by omega) (by omega) (by omega), st4_other h2 (by omega) (by omega) (by omega) (by omega), st4_other h3 (by omega) (by omega) (by omega) (by omega)⟩
/-- The loop of DeleteFunc: of the first j alarms those that stay stand first. -/
structure DfS (p : A → Bool) (D : Nat → A) (n i j : Nat) (F : Nat → A) : Prop where
  lt : i < j
  le : j ≤ n
  fl : (List.range i).map F = ((List.range j).map D).filter fun a => !p a
  rest : ∀ t, j ≤ t → t < n → F t = D t
  from' : ∀ t, t < n → ∃ s, s < n ∧ F t = D s
theorem DfS.start {p : A → Bool} {D : Nat → A} {n i : Nat} (hi : i < n) (h : p (D i) = true) (hno : ∀ t, t < i → p (D t) = false) : DfS p D n i (i + 1) D :=
  ⟨by omega, by omega, by
    rw [List.range_succ, List.map_append, List.filter_append, List.filter_eq_self.2 fun a ha => by
      obtain ⟨t, ht, rfl⟩ := List.mem_map.1 ha
      rw [hno t (List.mem_range.1 ht)]; rfl]
    simp [h], fun _ _ _ => rfl, fun t ht => ⟨t, ht, rfl⟩⟩
theorem DfS.skip {p : A → Bool} {D : Nat → A} {n i j : Nat} {F : Nat → A} (h : DfS p D n i j F) (hj : j < n) (hp : p (D j) = true) : DfS p D n i (j + 1) F :=
  ⟨by have := h.lt; omega, by omega, by rw [h.fl, List.range_succ, List.map_append, List.filter_append]; simp [hp], fun t h1 h2 => h.rest t (by omega) h2, h.from'⟩
theorem DfS.put {p : A → Bool} {D : Nat → A} {n i j : Nat} {F : Nat → A} (h : DfS p D n i j F) (hj : j < n) (hp : p (D j) = false) : DfS p D n (i + 1) (j + 1) (fun t => if t = i then D j else F t) := by
  have hlt := h.lt
  refine ⟨by omega, by omega, ?_, fun t h1 h2 => by rw [if_neg (by omega)]; exact h.rest t (by omega) h2, fun t ht => ?_⟩
  · rw [List.range_succ, List.map_append, List.range_succ, List.map_append, List.filter_append, ← h.fl]
    congr 1
    · refine List.map_congr_left fun t ht => ?_
      rw [if_neg (by have := List.mem_range.1 ht; omega)]
    · simp [hp]
  · by_cases q : t = i
    · rw [if_pos q]; exact ⟨j, hj, rfl⟩
    · rw [if_neg q]; exact h.from' t ht
end Al
theorem Al.OwnA.len {w : World} {b : Nat} {v : Value} {l : List Al.A} (h : Al.OwnA w b v l) : ∃ A c, v = .slice A l.length c := by
  rcases h.open with ⟨rfl, rfl⟩ | ⟨g, c, cur, rfl, -⟩
  · exact ⟨none, 0, rfl⟩
  · exact ⟨_, c, rfl⟩
end Go.Proofs.YtllkiadedaghoaaGreatDoor
set_option linter.unusedVariables false
set_option linter.unusedSimpArgs false
namespace Go.Proofs.YtllkiadedaghoaaGreatDoor
open Go.RowKit Go.Shelf Go.Sort
attribute [local go_sem ↓] Go.wp_at_zero Go.wp_at_succ
namespace Al
/-- The cells of a row, one behind the other. -/
def Fl (w : World) (g : Nat) (l : List Value) : Prop := ∀ t u, l[t]? = some u → Go.Proofs.YtllkiadedaghoaaGreatDoor.Own w g t u
theorem Fl.gr {w w' : World} {g : Nat} {l : List Value} (h : Fl w g l) (k : Gr w w') : Fl w' g l := fun t u e => (h t u e).gr k
/-- The slice of a row of messages. -/
theorem Fl.sl {w : World} {g cap : Nat} {l : List M} (h : Fl w g (flat l)) (hn : l.length ≤ cap) (hm : cap ≤ 9223372036854775807) (hok : ∀ m ∈ l, m.Ok) : ∃ s : SlM, (.slice (some ⟨g, 0, none⟩) l.length cap : Value) = .slice s.A s.n s.c ∧ s.At w ∧ s.lst = l := by
  refine ⟨⟨some ⟨g, 0, none⟩, l.length, cap, g, 0, fun i => l[i]!⟩, rfl, ⟨fun _ => rfl, hn, hm, fun i hi => ?_⟩, ?_⟩
  · have hi' : i < l.length := hi
    have key : ∀ c, c < 5 → w.cell? ⟨g, 0 + i * 5 + c, none⟩ = some (l[i]!.enc)[c]! := fun c hc => by
      rw [Nat.zero_add]
      exact (h _ _ (flat_get M.enc 5 (fun _ => rfl) l i c hi' hc)).1
    refine ⟨⟨key 0 (by omega), key 1 (by omega), key 2 (by omega), key 3 (by omega), key 4 (by omega)⟩, ?_⟩
    show l[i]!.Ok
    rw [getElem!_pos l i hi']; exact hok _ (List.getElem_mem _)
  · unfold SlM.lst
    apply List.ext_getElem
    · simp
    · intro i h1 h2; simp [h2]
end Al
set_option maxRecDepth 100000 in
set_option maxHeartbeats 4000000 in
theorem cloneM_any (s : Al.SlM) (w : World) (h : s.At w) (hn : s.n ≤ 100000) : Calls Tryz.prog 16 #[.slice s.A s.n s.c] w fun e w' => ∃ v, e = .returned v ∧ w'.ownsRow w.heap.size 53 5 v s.lst.length (Al.flat s.lst) ∧ Gr w w' := by
  obtain ⟨i1, k0, k1, k2, k3⟩ := info_parts infoM
  have KI := Lib.hid k0; have KZ0 := Lib.hid k1; have KZ1 := Lib.hid k2; have KZ2 := Lib.hid k3
  clear k0 k1 k2 k3
  have q22 : ∀ (w : World) (a : Option Addr) (n c n' c' : Nat), (binOp .eql 26 (.slice a n c) (.slice none n' c')).run Tryz.prog w = .ok (.bool a.isNone) w := fun w a n c n' c' => Lib.run_eql_slice_nil w _ _ a n c n' c' Tryz.underlying26
  cases hA : s.A with
  | none =>
    have h0 : s.n = 0 := by
      rcases Nat.eq_zero_or_pos s.n with q | q
      · exact q
      · have := h.hA q; rw [hA] at this; cases this
    have hl : s.lst = [] := by simp [Al.SlM.lst, h0]
    rw [hl]
    generalize s.n = n at *; generalize s.c = c at *
    clear h hA hl KI
    go_enter Tryz.func16, Tryz.ntmps16
    go_wp2_with fail
    go_ret
    exact ⟨_, rfl, World.ownsRow_nil _ _ _ _, gr_auto⟩
  | some ad =>
    have HC := Lib.hid (fun j u (hj : (Al.flat s.lst)[j]? = some u) => show w.cell? (ad.add j) = some u from by
      have hlt := (List.getElem?_eq_some_iff.1 hj).1
      rw [Al.flat_len5, Al.SlM.lst_len] at hlt
      have h0 : 0 < s.n := by omega
      have h1 := h.hA h0
      rw [hA] at h1
      have h2 := Option.some.inj h1
      have := Al.SlM.rest h (i := 0) h0 j u (by rw [List.drop_zero]; exact hj)
      rw [h2]
      rw [Nat.zero_mul, Nat.add_zero] at this
      exact this)
    have HL := Lib.hid (show (Al.flat s.lst).length = s.n * 5 from by rw [Al.flat_len5, Al.SlM.lst_len])
    have HLn := Lib.hid (Al.SlM.lst_len s)
    have HO := Lib.hid (Al.flat_one s.lst)
    generalize s.lst = d at *
    generalize s.n = n at *; generalize s.c = c at *
    clear h hA
    go_enter Tryz.func16, Tryz.ntmps16
    go_wp2_with (at_builtin; refine wpList_append_own _ rfl _ _ 26 rfl w.heap.size 53 i1 (.agg #[.string ⟨#[]⟩, .int .i64 0, .int .i64 0, .int .i64 0, .int .i64 0]) 5 48 Tryz.underlying26 KI.out KZ0.out KZ1.out KZ2.out rfl (by decide) _ _ [] rfl (own_empty (World.alloc_heap_new w _) (Nat.le_refl _)) ad n c (Al.flat d) rfl HL.out (fun j u hj => cell_later (a := ad.add j) (Gr.alloc (Gr.refl w) _) (HC.out j u hj)) HO.out (by unfold maxLen; omega) (by omega) (by simp) ?_)
    intro v' w9 hown' hgrow hnil
    have g9 : Gr w w9 := Gr.own (Gr.alloc (Gr.refl w) _) (Nat.le_refl _) (own_empty (E := 53) (k := 5) (World.alloc_heap_new w (Obj.cells #[] 53)) (Nat.le_refl _)) hgrow
    have HP := Lib.hid (show w9.ownsRow w.heap.size 53 5 v' d.length (Al.flat d) from by rw [HLn.out]; simpa using hown')
    clear hown' hgrow hnil HC
    go_wp2_with fail
    go_ret
    exact ⟨_, rfl, HP.out, g9⟩
end Go.Proofs.YtllkiadedaghoaaGreatDoor
