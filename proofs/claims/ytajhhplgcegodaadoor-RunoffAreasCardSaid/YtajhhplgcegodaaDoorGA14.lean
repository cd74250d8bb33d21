/-
  RunoffAreas, plain: all ground is sealed. Typed.
  Runoff.Inflows: the row of inflows while it grows. Typed.
-/
import Derived.Test.YtajhhplgcegodaaDoorGA12
import Derived.Test.YtajhhplgcegodaaDoorGA13
set_option linter.unusedVariables false
set_option linter.unusedSimpArgs false
namespace Go.Proofs.YtajhhplgcegodaaDoor
open Go.RowKit
namespace Ba
/-- Where all classes are below C, a row of areas adds up to the area of its faces. -/
theorem tw_sum {m : Ms.Mesh} {P : Nat → Int} {r C : Nat} : ∀ k, (∀ i, i < k → 0 ≤ (m.F.D i).k ∧ (m.F.D i).k < (C : Int)) → sumI (arS m P k r) C = twI m P r k
  | 0, _ => by
    have e : ∀ n, sumI (arS m P 0 r) n = 0 := fun n => by
      induction n with
      | zero => rfl
      | succ n ih => rw [sumI, ih]; rfl
    rw [e]; rfl
  | k + 1, h => by
    have ih := tw_sum (m := m) (P := P) (r := r) (C := C) k fun i hi => h i (by omega)
    have z : sumI (arS m P (k + 1) r) C = sumI (arS m P k r) C + sumI (fun c : Nat => if P k = (r : Int) ∧ (m.F.D k).k = (c : Int) then Ms.tTn (Ms.tri m (m.F.D k)) else 0) C := by rw [← rsum_add]; rfl
    rw [z, ih, twI]
    congr 1
    obtain ⟨h1, h2⟩ := h k (by omega)
    by_cases e : P k = (r : Int)
    · rw [if_pos e, sumI_congr (Y := fun i : Nat => if i = (m.F.D k).k.toNat then Ms.tTn (Ms.tri m (m.F.D k)) else 0) fun i _ => by
        by_cases q : (m.F.D k).k = (i : Int)
        · rw [if_pos ⟨e, q⟩, if_pos (by omega)]
        · rw [if_neg (fun z => q z.2), if_neg (by omega)]]
      exact one_sum _ _ _ (by omega)
    · rw [if_neg e]
      exact sumI_zero fun i _ => if_neg fun z => e z.1
theorem twI_bd {m : Ms.Mesh} (hv : Ms.vlB m = true) {P : Nat → Int} (r : Nat) : ∀ k, k ≤ m.F.n → 0 ≤ twI m P r k ∧ twI m P r k ≤ 2251799813685248 * (k : Int)
  | 0, _ => by rw [twI]; omega
  | k + 1, h => by
    obtain ⟨a, b⟩ := twI_bd hv (P := P) r k (by omega)
    have t := (Ms.tTn_bd (Ms.tri_ok (Ms.vl_fc hv (i := k) (by omega)))).2
    have e := Ms.vl_tn hv (i := k) (by omega)
    rw [twI]
    split <;> omega
/-- All classes are sealed and hold nothing. -/
def Seal (C : SlClass) : Prop := ∀ i, i < C.n → (C.D i).se = 1000 ∧ (C.D i).we = 0 ∧ (C.D i).ro = 0
theorem seal_off {C : SlClass} {a : SlI} {s : Ser} (hS : Seal C) (R : Right C a s) {i : Nat} (hi : i < C.n) {j : Nat} (hj : j < s.ds.n) : offJ C s i j = 1000 * dpt s j := by
  obtain ⟨q1, q2, q3⟩ := hS i hi
  have F := R.fit (i := i) hi j (by omega)
  have d := R.dep hj
  have f1 := F.wet; have f2 := F.held
  have h1 : (str C s j i).1 = 0 := by omega
  have h2 : (str C s j i).2 = 0 := by omega
  unfold offJ offI rH rR rW
  rw [h1, h2, q1, q2, q3]
  omega
theorem seal_los {C : SlClass} {a : SlI} {s : Ser} (hS : Seal C) (R : Right C a s) {i : Nat} (hi : i < C.n) : losJ C s i s.ds.n = 0 := by
  unfold losJ
  exact sumI_zero fun j hj => by rw [seal_off hS R hi hj]; omega
theorem seal_sum {C : SlClass} {a : SlI} {s : Ser} (hS : Seal C) (R : Right C a s) : sumI (out C a s) s.ds.n = sumI a.X C.n * sumP s.ds.X s.ds.n := by
  have t := tot_vol C a s s.ds.n
  have q := out_quot C a s s.ds.n
  rw [sumI_congr (Y := fun i => (1000 * sumP s.ds.X s.ds.n) * a.X i) fun i hi => by rw [seal_los hS R hi, Int.sub_zero, Int.mul_comm], sumI_mul] at t
  rw [← q, ← t]
  have e : 1000 * sumP s.ds.X s.ds.n * sumI a.X C.n = 1000 * (sumI a.X C.n * sumP s.ds.X s.ds.n) := by grind
  rw [e]; omega
/-- Of never says that its arguments are wrong where they are not. -/
theorem ofE_arg {C : SlClass} {a u : SlI} {s : Ser} (hu : uniB u = true) (hc : clsB C = true) (hs : serB s = true) : ofE C a u s ≠ 1 := by
  have g : givR C a s ≠ 1 := by
    unfold givR
    rw [hc, hs]
    repeat' split
    all_goals first | (intro h; omega) | simp_all
  unfold ofE
  rw [if_pos hu]
  split
  · rename_i h0
    have ob := (dep_right h0).2
    have hvol : volB (outL C a s) = true := by
      unfold volB wiB outL
      simp only [Bool.and_eq_true, decide_eq_true_eq]
      exact ⟨by have := (ser_parts hs).2.2.1; omega, allB_iff.2 fun j hj => (bet_iff _ _ _).2 (ob j hj)⟩
    unfold cnvE
    rw [if_pos hvol, if_pos hu]
    repeat' split
    all_goals (intro h; omega)
  · unfold depE
    repeat' split
    all_goals first | exact g | (intro h; omega) | simp_all
theorem ofE_dep {C : SlClass} {a u : SlI} {s : Ser} (hu : uniB u = true) (h : ofE C a u s = 0) : depE C a s = 0 := by
  unfold ofE at h
  rw [if_pos hu] at h
  by_cases q : depE C a s = 0
  · exact q
  · rw [if_neg q] at h; exact h
theorem arK_no {P : Nat → Int} {i : Nat} : ∀ k, arK P k ≤ i → ∀ j, j < k → P j ≠ (i : Int)
  | 0, _, j, h => by omega
  | k + 1, h, j, hj => by
    have h1 := arK_le (P := P) (k := k); have h2 := arK_in (P := P) (k := k)
    by_cases e : j = k
    · subst e; omega
    · exact arK_no k (by omega) j (by omega)
theorem twI_no {m : Ms.Mesh} {P : Nat → Int} {i : Nat} : ∀ k, (∀ j, j < k → P j ≠ (i : Int)) → twI m P i k = 0
  | 0, _ => rfl
  | k + 1, h => by rw [twI, twI_no k fun j hj => h j (by omega), if_neg (h k (by omega))]; rfl
/-- What a node has: a series of volumes whose sum is the rain on its square metres. -/
theorem own_sum {m : Ms.Mesh} (hv : Ms.vlB m = true) {P : SlI} {C : SlClass} {u : SlI} {s : Ser} (hS : Seal C) (hn : P.n = m.F.n) (hk : ∀ i, i < m.F.n → (m.F.D i).k < (C.n : Int)) (hu : uniB u = true) (i : Nat) (h : ofE C (ownS m P C.n i) u s = 0) : sumI (ofX C (ownS m P C.n i) u s) (ofN C (ownS m P C.n i) u s) = twI m P.X i m.F.n / 2000000 * sumP s.ds.X s.ds.n := by
  have hd := ofE_dep hu h
  rw [of_sum hu, seal_sum hS (dep_right hd).1]
  have e : sumI (ownS m P C.n i).X C.n = twI m P.X i m.F.n / 2000000 := by
    show sumI (ownX m P C.n i) C.n = _
    by_cases hi : i < arK P.X P.n
    · rw [sumI_congr (Y := mtI (arS m P.X P.n i) C.n) fun c _ => by unfold ownX; rw [if_pos hi], mtI_sum, hn, tw_sum m.F.n fun j hj => ⟨?_, hk j hj⟩]
      have f := Ms.vl_fc hv hj
      unfold Ms.fcB at f
      simp only [Bool.and_eq_true, Ms.bt_iff] at f
      omega
    · rw [sumI_zero fun c _ => by unfold ownX; rw [if_neg hi], twI_no m.F.n (arK_no m.F.n (by rw [← hn]; omega))]; rfl
  rw [e]
/-- The kinds of faces are below 16. -/
theorem vl_kind {m : Ms.Mesh} (hv : Ms.vlB m = true) {i : Nat} (hi : i < m.F.n) : (m.F.D i).k < 16 := by
  have f := Ms.vl_fc hv hi
  unfold Ms.fcB at f
  simp only [Bool.and_eq_true, Ms.bt_iff] at f
  omega
end Ba
end Go.Proofs.YtajhhplgcegodaaDoor
namespace Go.Proofs.YtajhhplgcegodaaDoor
open Go.RowKit
/-- The cells of the first k inflows. -/
def fl (X : Nat → ByteArray) (V : Nat → Ba.SlI) : Nat → List Value
  | 0 => []
  | k + 1 => fl X V k ++ [.string (X k), .slice (V k).A (V k).n (V k).c]
theorem fl_len (X : Nat → ByteArray) (V : Nat → Ba.SlI) : ∀ k, (fl X V k).length = k * 2
  | 0 => rfl
  | k + 1 => by rw [fl, List.length_append, fl_len X V k]; simp; omega
theorem fl_congr {X : Nat → ByteArray} {V D : Nat → Ba.SlI} : ∀ {k : Nat}, (∀ r, r < k → V r = D r) → fl X V k = fl X D k
  | 0, _ => rfl
  | k + 1, h => by
    show fl X V k ++ [.string (X k), .slice (V k).A (V k).n (V k).c] = fl X D k ++ [.string (X k), .slice (D k).A (D k).n (D k).c]
    rw [fl_congr fun r hr => h r (by omega), h k (by omega)]
theorem fl_get (X : Nat → ByteArray) (V : Nat → Ba.SlI) : ∀ {k r : Nat}, r < k → (fl X V k)[r * 2]? = some (.string (X r)) ∧ (fl X V k)[r * 2 + 1]? = some (.slice (V r).A (V r).n (V r).c)
  | 0, r, h => absurd h (by omega)
  | k + 1, r, h => by
    rw [fl]
    by_cases e : r = k
    · subst e
      rw [List.getElem?_append_right (by rw [fl_len]; omega), List.getElem?_append_right (by rw [fl_len]; omega), fl_len, Nat.sub_self, show r * 2 + 1 - r * 2 = 1 by omega]
      exact ⟨rfl, rfl⟩
    · rw [List.getElem?_append_left (by rw [fl_len]; omega), List.getElem?_append_left (by rw [fl_len]; omega)]; exact fl_get X V (by omega)
theorem sli_gb {w w' : World} {row : Option Nat} {s : Ba.SlI} (hg : w.grownBy w' row) (h : s.At w) (hne : 0 < s.n → some s.b ≠ row) : s.At w' :=
  ⟨h.hA, h.hc, h.hb, fun i hi => ⟨World.grownBy.cell hg (a := ⟨s.b, s.o + i, none⟩) (h.hX i hi).1 (hne (by omega)), (h.hX i hi).2⟩⟩
/-- Inflows that a call makes: v is the slice of the first k. -/
structure InSt (W : World) (base : Nat) (v : Value) (k : Nat) (X : Nat → ByteArray) (V : Nat → Ba.SlI) : Prop where
  out : W.ownsRow base 95 2 v k (fl X V k)
  row : ∀ r, r < k → (V r).At W
  hb : ∀ r, r < k → 0 < (V r).n → v.ownBlock ≠ some (V r).b
theorem InSt.nil (W : World) (base : Nat) (X : Nat → ByteArray) (V : Nat → Ba.SlI) : InSt W base (.slice none 0 0) 0 X V := ⟨World.ownsRow_nil _ _ _ _, fun r h => absurd h (Nat.not_lt_zero r), fun r h => absurd h (Nat.not_lt_zero r)⟩
section
variable {W W1 W2 W3 : World} {base k : Nat} {v v' : Value} {X : Nat → ByteArray} {V : Nat → Ba.SlI} {r : Ba.SlI}
theorem InSt.gr (h : InSt W base v k X V) (g : Gr W W1) : InSt W1 base v k X V := ⟨ownsRow_gr h.out g, fun q hq => (h.row q hq).gr g, h.hb⟩
theorem sli_lt {s : Ba.SlI} (h : s.At W) (hn : 0 < s.n) : s.b < W.heap.size := World.block_lt_of_cell? W ⟨s.b, s.o + 0, none⟩ (h.hX 0 hn).1
theorem InSt.push (h : InSt W base v k X V) (g2 : Gr W W2) (hr : r.At W2) (hf : 0 < r.n → W.heap.size ≤ r.b)
    (ho : W3.ownsRow base 95 2 v' (k + 1) (fl X V k ++ [.string (X k), .slice r.A r.n r.c])) (hgr : W2.grownBy W3 v.ownBlock) (hat : v'.ownBlock = v.ownBlock ∨ v'.ownBlock = some W2.heap.size) :
    InSt W3 base v' (k + 1) X (fun q => if q = k then r else V q) := by
  have hz := Gr.size g2
  have gn : 0 < r.n → v.ownBlock ≠ some r.b := fun hn e => by have := (h.out.lt r.b e).2; have := hf hn; omega
  refine ⟨?_, fun q hq => ?_, fun q hq hn => ?_⟩
  · have e : fl X (fun q => if q = k then r else V q) (k + 1) = fl X V k ++ [.string (X k), .slice r.A r.n r.c] := by
      show fl X (fun q => if q = k then r else V q) k ++ [.string (X k), .slice (if k = k then r else V k).A (if k = k then r else V k).n (if k = k then r else V k).c] = _
      rw [if_pos rfl, fl_congr (D := V) fun q hq => if_neg (by omega)]
    rw [e]; exact ho
  · by_cases e : q = k
    · subst e
      simp only [if_true]
      exact sli_gb hgr hr fun hn q => gn hn q.symm
    · simp only [if_neg e]
      exact sli_gb hgr ((h.row q (by omega)).gr g2) fun hn z => h.hb q (by omega) hn z.symm
  · by_cases e : q = k
    · subst e
      simp only [if_true] at hn ⊢
      rcases hat with hat | hat
      · rw [hat]; exact gn hn
      · rw [hat]; intro z; have := sli_lt hr hn; simp at z; omega
    · simp only [if_neg e] at hn ⊢
      rcases hat with hat | hat
      · rw [hat]; exact h.hb q (by omega) hn
      · rw [hat]; intro z; have := sli_lt ((h.row q (by omega)).gr g2) hn
        have := sli_lt (h.row q (by omega)) hn; simp at z; omega
theorem InSt.opened (h : InSt W base v k X V) : ∃ (A : Option Addr) (c b : Nat), v = .slice A k c ∧ (0 < k → A = some ⟨b, 0, none⟩) ∧ k ≤ c ∧ c ≤ 9223372036854775807 ∧ ∀ i, i < k → W.cell? ⟨b, i * 2, none⟩ = some (.string (X i)) ∧ W.cell? ⟨b, i * 2 + 1, none⟩ = some (.slice (V i).A (V i).n (V i).c) := by
  have h' := h.out
  obtain ⟨hl, ⟨rfl, rfl⟩ | ⟨g, cap, cur, rfl, hb, hc, hn, hm, r⟩⟩ := h.out
  · exact ⟨none, 0, 0, rfl, fun h => absurd h (by omega), Nat.le_refl _, by omega, fun i hi => absurd hi (by omega)⟩
  · exact ⟨some ⟨g, 0, none⟩, cap, g, rfl, fun _ => rfl, hn, by unfold maxLen at hm; exact hm, fun i hi => ⟨(h'.cellAt (i * 2) (by omega)).trans (fl_get X V hi).1, (h'.cellAt (i * 2 + 1) (by omega)).trans (fl_get X V hi).2⟩⟩
end
/-- What is right of the numbers of node i. -/
def inV (m : Ms.Mesh) (C : Ba.SlClass) (P : Ba.SlI) (U : Ba.SlU) (s : Ba.Ser) (i : Nat) (r : Ba.SlI) : Prop := r.n = Ba.ofN C (Ba.ownS m P C.n i) (U.X i) s ∧ ∀ j, j < r.n → r.X j = Ba.ofX C (Ba.ownS m P C.n i) (U.X i) s j
theorem of_at (m : Ms.Mesh) (C : Ba.SlClass) (P : Ba.SlI) (U : Ba.SlU) (s : Ba.Ser) (i : Nat) (A : Option Addr) (c b o : Nat) (W : World) (hC : C.At W) (ha : Ba.SlI.At W ⟨A, C.n, c, b, o, Ba.ownX m P C.n i⟩) (hu : (U.X i).At W) (hs : s.Ok W) (hn : s.ds.n ≤ 1000) :
    Calls Tryd.prog 89 #[.slice C.A C.n C.c, .slice A C.n c, .slice (U.X i).A (U.X i).n (U.X i).c, s.val] W fun e w' => ∃ r : Ba.SlI, e = .returned (.tuple #[.slice r.A r.n r.c, .int .i64 (Ba.inE m C P U s i)]) ∧ r.At w' ∧ (Ba.inE m C P U s i = 0 → inV m C P U s i r) ∧ (Ba.inE m C P U s i ≠ 0 → r.n = 0) ∧ (0 < r.n → W.heap.size ≤ r.b) ∧ Gr W w' := by
  refine (of_any C ⟨A, C.n, c, b, o, Ba.ownX m P C.n i⟩ (U.X i) s W hC ha hu hs hn).mono ?_
  rintro e w' ⟨r, rfl, r1, r2, r3, r5, r4⟩
  rw [Ba.ofE_own, Ba.ofN_own, Ba.ofX_own] at r2
  rw [Ba.ofE_own] at r3
  exact ⟨r, by rw [Ba.ofE_own]; rfl, r1, r2, r3, r5, r4⟩
end Go.Proofs.YtajhhplgcegodaaDoor
