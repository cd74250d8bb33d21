/-
  Runoff.Inflows, plain: what each node's area is; the sum of a row. Typed.
  Runoff.Inflows: the row of inflows while it grows. Typed.
-/
import Derived.Test.YtajhhplgcegodaaGreatDoorInf22
import Derived.Test.YtajhhplgcegodaaGreatDoorInf27
import Derived.Test.YtajhhplgcegodaaGreatDoorInf30
import Derived.Test.YtajhhplgcegodaaGreatDoorInf36

set_option linter.unusedVariables false
set_option linter.unusedSimpArgs false
namespace Go.Proofs.YtajhhplgcegodaaGreatDoor
open Go.RowKit
namespace Ba
/-- The square metres of node i, class by class. -/
def ownX (m : Ms.Mesh) (P : SlI) (C i c : Nat) : Int := if i < arK P.X P.n then mtI (arS m P.X P.n i) C c else 0
def ownS (m : Ms.Mesh) (P : SlI) (C i : Nat) : SlI := ⟨none, C, C, 0, 0, ownX m P C i⟩
/-- The error of node i. -/
def inE (m : Ms.Mesh) (C : SlClass) (P : SlI) (U : SlU) (s : Ser) (i : Nat) : Int := ofE C (ownS m P C.n i) (U.X i) s
theorem lft_own (C : SlClass) (A : Option Addr) (n c b o : Nat) (X : Nat → Int) (s : Ser) : ∀ j, lft C ⟨A, n, c, b, o, X⟩ s j = lft C ⟨none, n, n, 0, 0, X⟩ s j
  | 0 => rfl
  | j + 1 => by
    show (vol C ⟨A, n, c, b, o, X⟩ s j + lft C ⟨A, n, c, b, o, X⟩ s j) % 1000 = (vol C ⟨none, n, n, 0, 0, X⟩ s j + lft C ⟨none, n, n, 0, 0, X⟩ s j) % 1000
    rw [lft_own C A n c b o X s j]; rfl
theorem out_own (C : SlClass) (A : Option Addr) (n c b o : Nat) (X : Nat → Int) (s : Ser) : out C ⟨A, n, c, b, o, X⟩ s = out C ⟨none, n, n, 0, 0, X⟩ s := by
  funext j
  unfold out
  rw [lft_own]; rfl
theorem ofE_own (C : SlClass) (A : Option Addr) (n c b o : Nat) (X : Nat → Int) (u : SlI) (s : Ser) : ofE C ⟨A, n, c, b, o, X⟩ u s = ofE C ⟨none, n, n, 0, 0, X⟩ u s := by
  have e : fitO C ⟨A, n, c, b, o, X⟩ s = fitO C ⟨none, n, n, 0, 0, X⟩ s := by funext j; unfold fitO; rw [out_own]
  have e2 : depE C ⟨A, n, c, b, o, X⟩ s = depE C ⟨none, n, n, 0, 0, X⟩ s := by unfold depE; rw [e]; rfl
  unfold ofE outL
  rw [e2, out_own]
theorem ofN_own (C : SlClass) (A : Option Addr) (n c b o : Nat) (X : Nat → Int) (u : SlI) (s : Ser) : ofN C ⟨A, n, c, b, o, X⟩ u s = ofN C ⟨none, n, n, 0, 0, X⟩ u s := rfl
theorem ofX_own (C : SlClass) (A : Option Addr) (n c b o : Nat) (X : Nat → Int) (u : SlI) (s : Ser) : ofX C ⟨A, n, c, b, o, X⟩ u s = ofX C ⟨none, n, n, 0, 0, X⟩ u s := by unfold ofX; rw [out_own]
theorem rsum_add (X Y : Nat → Int) : ∀ n, sumI (fun i => X i + Y i) n = sumI X n + sumI Y n
  | 0 => rfl
  | n + 1 => by rw [sumI, sumI, sumI, rsum_add X Y n]; omega
theorem rsum_one (q : Nat → Prop) [DecidablePred q] (t : Int) (ht : 0 ≤ t) (hq : ∀ i j, q i → q j → i = j) : ∀ n, 0 ≤ sumI (fun i => if q i then t else 0) n ∧ sumI (fun i => if q i then t else 0) n ≤ t ∧ ((∀ i, i < n → ¬ q i) → sumI (fun i => if q i then t else 0) n = 0)
  | 0 => ⟨Int.le_refl _, ht, fun _ => rfl⟩
  | n + 1 => by
    obtain ⟨a, b, c⟩ := rsum_one q t ht hq n
    rw [sumI]
    by_cases e : q n
    · rw [if_pos e, c (fun i hi qi => by have := hq i n qi e; omega)]
      exact ⟨by omega, by omega, fun h => absurd e (h n (by omega))⟩
    · rw [if_neg e]
      exact ⟨by omega, by omega, fun h => by rw [c (fun i hi => h i (by omega))]; rfl⟩
theorem arS_sum {m : Ms.Mesh} (hv : Ms.vlB m = true) {P : Nat → Int} (r C : Nat) : ∀ k, k ≤ m.F.n → 0 ≤ sumI (arS m P k r) C ∧ sumI (arS m P k r) C ≤ 2251799813685248 * (k : Int)
  | 0, _ => by
    have e : ∀ n, sumI (arS m P 0 r) n = 0 := fun n => by
      induction n with
      | zero => rfl
      | succ n ih => rw [sumI, ih]; rfl
    rw [e]; omega
  | k + 1, h => by
    obtain ⟨a, b⟩ := arS_sum hv (P := P) r C k (by omega)
    have t := (Ms.tTn_bd (Ms.tri_ok (Ms.vl_fc hv (i := k) (by omega)))).2
    have e := Ms.vl_tn hv (i := k) (by omega)
    have q := rsum_one (fun c : Nat => P k = (r : Int) ∧ (m.F.D k).k = (c : Int)) (Ms.tTn (Ms.tri m (m.F.D k))) (by omega) (fun i j x y => by have := x.2; have := y.2; omega) C
    have z : sumI (arS m P (k + 1) r) C = sumI (arS m P k r) C + sumI (fun c : Nat => if P k = (r : Int) ∧ (m.F.D k).k = (c : Int) then Ms.tTn (Ms.tri m (m.F.D k)) else 0) C := by rw [← rsum_add]; rfl
    rw [z]
    omega
end Ba
/-- What Inflows answers of what is right. -/
def RetIn (m : Ms.Mesh) (C : Ba.SlClass) (P : Ba.SlI) (N : Ba.SlS) (U : Ba.SlU) (s : Ba.Ser) (w : World) (e : Ending) (w' : World) : Prop :=
  ∃ (err : Int) (A : Option Addr) (n c b : Nat) (V : Nat → Ba.SlI), e = .returned (.tuple #[.slice A n c, .int .i64 err]) ∧ Gr w w' ∧
    (err = 0 → n = N.n ∧ (0 < n → A = some ⟨b, 0, none⟩) ∧ n ≤ c ∧ c ≤ 9223372036854775807 ∧ ∀ i, i < N.n → Ba.inE m C P U s i = 0 ∧ w'.cell? ⟨b, i * 2, none⟩ = some (.string (N.X i)) ∧ w'.cell? ⟨b, i * 2 + 1, none⟩ = some (.slice (V i).A (V i).n (V i).c) ∧ (V i).At w' ∧ (V i).n = Ba.ofN C (Ba.ownS m P C.n i) (U.X i) s ∧ ∀ j, j < (V i).n → (V i).X j = Ba.ofX C (Ba.ownS m P C.n i) (U.X i) s j) ∧
    (err ≠ 0 → n = 0 ∧ ∃ i, i < N.n ∧ err = Ba.inE m C P U s i ∧ ∀ j, j < i → Ba.inE m C P U s j = 0)
/-- Metres of row r of the areas. -/
theorem metres_row {m : Ms.Mesh} {P : Ba.SlI} {C r B : Nat} {w : World} (hv : Ms.vlB m = true) (hn : P.n = m.F.n) (hf : m.F.n ≤ 61) (hC : C ≤ 16) (hr : r < Ba.arK P.X P.n) (h : Row w B C (fun c => .int .i64 (Ba.arS m P.X P.n r c))) : Calls Tryz.prog 56 #[.slice (some ⟨B, 0, none⟩) C C] w fun e w' => ∃ (A : Option Addr) (c b o : Nat), e = .returned (.tuple #[.slice A C c, .int .i64 0]) ∧ Ba.SlI.At w' ⟨A, C, c, b, o, Ba.ownX m P C r⟩ ∧ Gr w w' := by
  have bd := fun c => Ba.arS_bd hv (P := P.X) r c P.n (by omega)
  have sm := Ba.arS_sum hv (P := P.X) r C P.n (by omega)
  have hs := row_sl h (by omega) (fun j _ => by have := bd j; unfold Ba.i64; omega)
  refine (metres_ok ⟨some ⟨B, 0, none⟩, C, C, B, 0, Ba.arS m P.X P.n r⟩ w hs (by show C ≤ 1000; omega) (fun i _ => (bd i).1) (by show Ba.sumI (Ba.arS m P.X P.n r) C ≤ _; omega)).mono ?_
  rintro e w' ⟨⟨A, n, c, b, o, X⟩, rfl, h1, h2, h3, h4⟩
  simp only at h2 h3
  subst h2
  have e : ∀ i, i < n → X i = Ba.ownX m P n r i := fun i hi => by unfold Ba.ownX; rw [if_pos hr]; exact h3 i hi
  exact ⟨A, c, b, o, rfl, ⟨h1.hA, h1.hc, h1.hb, fun i hi => by have q := h1.hX i hi; simp only at q ⊢; rw [e i hi] at q; exact q⟩, h4⟩
theorem info_inflow : (Tryz.prog.info? 92).map (fun i => (i.zero, i.size, i.bytes)) = some (some (.agg #[.string ⟨#[]⟩, .slice none 0 0]), 2, 40) := by kernel_rfl
end Go.Proofs.YtajhhplgcegodaaGreatDoor
set_option linter.unusedVariables false
set_option linter.unusedSimpArgs false
namespace Go.Proofs.YtajhhplgcegodaaGreatDoor
open Go.RowKit
/-- The cells of the first k inflows. -/
def fl (X : Nat → ByteArray) (V : Nat → Ba.SlI) : Nat → List Value
  | 0 => []
  | k + 1 => fl X V k ++ [.string (X k), .slice (V k).A (V k).n (V k).c]
theorem fl_len (X : Nat → ByteArray) (V : Nat → Ba.SlI) : ∀ k, (fl X V k).length = k * 2
  | 0 => rfl
  | k + 1 => by rw [fl, List.length_append, fl_len X V k]; simp; omega
theorem fl_congr {X : Nat → ByteArray} {V D : Nat → Ba.SlI} : ∀ {k : Nat}, (∀ r, r < k → V r = D r) → fl X V k = fl X D k
  | 0, _ => rfl
  | k + 1, h => by
    show fl X V k ++ [.string (X k), .slice (V k).A (V k).n (V k).c] = fl X D k ++ [.string (X k), .slice (D k).A (D k).n (D k).c]
    rw [fl_congr fun r hr => h r (by omega), h k (by omega)]
theorem fl_get (X : Nat → ByteArray) (V : Nat → Ba.SlI) : ∀ {k r : Nat}, r < k → (fl X V k)[r * 2]? = some (.string (X r)) ∧ (fl X V k)[r * 2 + 1]? = some (.slice (V r).A (V r).n (V r).c)
  | 0, r, h => absurd h (by omega)
  | k + 1, r, h => by
    rw [fl]
    by_cases e : r = k
    · subst e
      rw [List.getElem?_append_right (by rw [fl_len]; omega), List.getElem?_append_right (by rw [fl_len]; omega), fl_len, Nat.sub_self, show r * 2 + 1 - r * 2 = 1 by omega]
      exact ⟨rfl, rfl⟩
    · rw [List.getElem?_append_left (by rw [fl_len]; omega), List.getElem?_append_left (by rw [fl_len]; omega)]; exact fl_get X V (by omega)
theorem sli_gb {w w' : World} {row : Option Nat} {s : Ba.SlI} (hg : w.grownBy w' row) (h : s.At w) (hne : 0 < s.n → some s.b ≠ row) : s.At w' :=
  ⟨h.hA, h.hc, h.hb, fun i hi => ⟨World.grownBy.cell hg (a := ⟨s.b, s.o + i, none⟩) (h.hX i hi).1 (hne (by omega)), (h.hX i hi).2⟩⟩
/-- Inflows that a call makes: v is the slice of the first k. -/
structure InSt (W : World) (base : Nat) (v : Value) (k : Nat) (X : Nat → ByteArray) (V : Nat → Ba.SlI) : Prop where
  out : W.ownsRow base 92 2 v k (fl X V k)
  row : ∀ r, r < k → (V r).At W
  hb : ∀ r, r < k → 0 < (V r).n → v.ownBlock ≠ some (V r).b
theorem InSt.nil (W : World) (base : Nat) (X : Nat → ByteArray) (V : Nat → Ba.SlI) : InSt W base (.slice none 0 0) 0 X V := ⟨World.ownsRow_nil _ _ _ _, fun r h => absurd h (Nat.not_lt_zero r), fun r h => absurd h (Nat.not_lt_zero r)⟩
section
variable {W W1 W2 W3 : World} {base k : Nat} {v v' : Value} {X : Nat → ByteArray} {V : Nat → Ba.SlI} {r : Ba.SlI}
theorem InSt.gr (h : InSt W base v k X V) (g : Gr W W1) : InSt W1 base v k X V := ⟨ownsRow_gr h.out g, fun q hq => (h.row q hq).gr g, h.hb⟩
theorem sli_lt {s : Ba.SlI} (h : s.At W) (hn : 0 < s.n) : s.b < W.heap.size := World.block_lt_of_cell? W ⟨s.b, s.o + 0, none⟩ (h.hX 0 hn).1
theorem InSt.push (h : InSt W base v k X V) (g2 : Gr W W2) (hr : r.At W2) (hf : 0 < r.n → W.heap.size ≤ r.b)
    (ho : W3.ownsRow base 92 2 v' (k + 1) (fl X V k ++ [.string (X k), .slice r.A r.n r.c])) (hgr : W2.grownBy W3 v.ownBlock) (hat : v'.ownBlock = v.ownBlock ∨ v'.ownBlock = some W2.heap.size) :
    InSt W3 base v' (k + 1) X (fun q => if q = k then r else V q) := by
  have hz := Gr.size g2
  have gn : 0 < r.n → v.ownBlock ≠ some r.b := fun hn e => by have := (h.out.lt r.b e).2; have := hf hn; omega
  refine ⟨?_, fun q hq => ?_, fun q hq hn => ?_⟩
  · have e : fl X (fun q => if q = k then r else V q) (k + 1) = fl X V k ++ [.string (X k), .slice r.A r.n r.c] := by
      show fl X (fun q => if q = k then r else V q) k ++ [.string (X k), .slice (if k = k then r else V k).A (if k = k then r else V k).n (if k = k then r else V k).c] = _
      rw [if_pos rfl, fl_congr (D := V) fun q hq => if_neg (by omega)]
    rw [e]; exact ho
  · by_cases e : q = k
    · subst e
      simp only [if_true]
      exact sli_gb hgr hr fun hn q => gn hn q.symm
    · simp only [if_neg e]
      exact sli_gb hgr ((h.row q (by omega)).gr g2) fun hn z => h.hb q (by omega) hn z.symm
  · by_cases e : q = k
    · subst e
      simp only [if_true] at hn ⊢
      rcases hat with hat | hat
      · rw [hat]; exact gn hn
      · rw [hat]; intro z; have := sli_lt hr hn; simp at z; omega
    · simp only [if_neg e] at hn ⊢
      rcases hat with hat | hat
      · rw [hat]; exact h.hb q (by omega) hn
      · rw [hat]; intro z; have := sli_lt ((h.row q (by omega)).gr g2) hn
        have := sli_lt (h.row q (by omega)) hn; simp at z; omega
theorem InSt.opened (h : InSt W base v k X V) : ∃ (A : Option Addr) (c b : Nat), v = .slice A k c ∧ (0 < k → A = some ⟨b, 0, none⟩) ∧ k ≤ c ∧ c ≤ 9223372036854775807 ∧ ∀ i, i < k → W.cell? ⟨b, i * 2, none⟩ = some (.string (X i)) ∧ W.cell? ⟨b, i * 2 + 1, none⟩ = some (.slice (V i).A (V i).n (V i).c) := by
  have h' := h.out
  obtain ⟨hl, ⟨rfl, rfl⟩ | ⟨g, cap, cur, rfl, hb, hc, hn, hm, r⟩⟩ := h.out
  · exact ⟨none, 0, 0, rfl, fun h => absurd h (by omega), Nat.le_refl _, by omega, fun i hi => absurd hi (by omega)⟩
  · exact ⟨some ⟨g, 0, none⟩, cap, g, rfl, fun _ => rfl, hn, by unfold maxLen at hm; exact hm, fun i hi => ⟨(h'.cellAt (i * 2) (by omega)).trans (fl_get X V hi).1, (h'.cellAt (i * 2 + 1) (by omega)).trans (fl_get X V hi).2⟩⟩
end
/-- What is right of the numbers of node i. -/
def inV (m : Ms.Mesh) (C : Ba.SlClass) (P : Ba.SlI) (U : Ba.SlU) (s : Ba.Ser) (i : Nat) (r : Ba.SlI) : Prop := r.n = Ba.ofN C (Ba.ownS m P C.n i) (U.X i) s ∧ ∀ j, j < r.n → r.X j = Ba.ofX C (Ba.ownS m P C.n i) (U.X i) s j
theorem of_at (m : Ms.Mesh) (C : Ba.SlClass) (P : Ba.SlI) (U : Ba.SlU) (s : Ba.Ser) (i : Nat) (A : Option Addr) (c b o : Nat) (W : World) (hC : C.At W) (ha : Ba.SlI.At W ⟨A, C.n, c, b, o, Ba.ownX m P C.n i⟩) (hu : (U.X i).At W) (hs : s.Ok W) (hn : s.ds.n ≤ 1000) :
    Calls Tryz.prog 57 #[.slice C.A C.n C.c, .slice A C.n c, .slice (U.X i).A (U.X i).n (U.X i).c, s.val] W fun e w' => ∃ r : Ba.SlI, e = .returned (.tuple #[.slice r.A r.n r.c, .int .i64 (Ba.inE m C P U s i)]) ∧ r.At w' ∧ (Ba.inE m C P U s i = 0 → inV m C P U s i r) ∧ (Ba.inE m C P U s i ≠ 0 → r.n = 0) ∧ (0 < r.n → W.heap.size ≤ r.b) ∧ Gr W w' := by
  refine (of_any C ⟨A, C.n, c, b, o, Ba.ownX m P C.n i⟩ (U.X i) s W hC ha hu hs hn).mono ?_
  rintro e w' ⟨r, rfl, r1, r2, r3, r5, r4⟩
  rw [Ba.ofE_own, Ba.ofN_own, Ba.ofX_own] at r2
  rw [Ba.ofE_own] at r3
  exact ⟨r, by rw [Ba.ofE_own]; rfl, r1, r2, r3, r5, r4⟩
end Go.Proofs.YtajhhplgcegodaaGreatDoor
