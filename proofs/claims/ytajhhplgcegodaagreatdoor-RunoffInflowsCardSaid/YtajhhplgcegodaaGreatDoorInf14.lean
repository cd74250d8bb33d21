/-
  Runoff: the program's Depths. (Printed by mke.py.)
-/
import Derived.Test.YtajhhplgcegodaaGreatDoorInf13
import Derived.Test.YtajhhplgcegodaaGreatDoorInf02

set_option linter.unusedVariables false
set_option linter.unusedSimpArgs false
namespace Go.Proofs.YtajhhplgcegodaaGreatDoor
open Go.RowKit
attribute [local go_sem ↓] Go.wp_at_zero Go.wp_at_succ
namespace Ba
/-- The depth that counts; the stores after some steps; the volumes in thousandths; what is left; the volumes. -/
def dpt (s : Ser) (j : Nat) : Int := max 0 (s.ds.X j)
def str (C : SlClass) (s : Ser) : Nat → Nat → Int × Int
  | 0, _ => (0, 0)
  | j + 1, i => (stW (C.D i) (str C s j i).1 (dpt s j) s.st, stH (C.D i) (str C s j i).1 (str C s j i).2 (dpt s j) s.st)
def vol (C : SlClass) (a : SlI) (s : Ser) (j : Nat) : Int := volI C a (fun i => (str C s j i).1) (fun i => (str C s j i).2) (dpt s j) C.n
def lft (C : SlClass) (a : SlI) (s : Ser) : Nat → Int
  | 0 => 0
  | j + 1 => (vol C a s j + lft C a s j) % 1000
def out (C : SlClass) (a : SlI) (s : Ser) (j : Nat) : Int := (vol C a s j + lft C a s j) / 1000
def fitO (C : SlClass) (a : SlI) (s : Ser) (j : Nat) : Bool := decide (out C a s j ≤ 1125899906842624)
/-- The error of Depths. -/
def depE (C : SlClass) (a : SlI) (s : Ser) : Int := if givR C a s = 0 then if allB (fitO C a s) s.ds.n = true then 0 else 5 else givR C a s
/-- What is given is right. -/
structure Right (C : SlClass) (a : SlI) (s : Ser) : Prop where
  cls : clsB C = true
  ser : serB s = true
  n : a.n = C.n
  mtr : ∀ i, i < C.n → 0 ≤ a.X i ∧ a.X i ≤ 1073741824
  sum : sumI a.X C.n ≤ 1073741824
  rain : sumP s.ds.X s.ds.n ≤ 1073741824
theorem right_of {C : SlClass} {a : SlI} {s : Ser} (h : givR C a s = 0) : Right C a s := by
  unfold givR at h
  split at h
  rotate_left
  · omega
  rename_i c1
  split at h
  rotate_left
  · omega
  rename_i c2
  split at h
  rotate_left
  · omega
  rename_i c3
  split at h
  rotate_left
  · omega
  rename_i c4
  split at h
  · omega
  rename_i c5
  split at h
  · omega
  rename_i c6
  have m : ∀ i, i < C.n → 0 ≤ a.X i ∧ a.X i ≤ 1073741824 := fun i hi => by
    have := allB_at c4 (k := i) (by omega)
    unfold mtr at this
    rw [bet_iff] at this
    exact this
  refine ⟨c1, c2, c3, m, ?_, by omega⟩
  have e : sumP a.X a.n = sumI a.X C.n := by
    unfold sumP
    rw [c3]
    exact sumI_congr fun i hi => by have := m i hi; omega
  omega
theorem Right.few {C : SlClass} {a : SlI} {s : Ser} (R : Right C a s) : 1 ≤ C.n ∧ C.n ≤ 16 := by
  have h := R.cls
  unfold clsB at h
  simp only [Bool.and_eq_true, decide_eq_true_eq] at h
  omega
theorem cls_at {C : SlClass} (h : clsB C = true) {i : Nat} (hi : i < C.n) : cl1 (C.D i) = true ∧ (0 ≤ (C.D i).se ∧ (C.D i).se ≤ 1000) ∧ (0 ≤ (C.D i).we ∧ (C.D i).we ≤ 100000) ∧ (0 ≤ (C.D i).ro ∧ (C.D i).ro ≤ 1000000) ∧ (0 ≤ (C.D i).dr ∧ (C.D i).dr ≤ 1000) := by
  unfold clsB at h
  simp only [Bool.and_eq_true] at h
  have b := allB_at h.2.2 hi
  unfold clB at b
  simp only [Bool.and_eq_true] at b
  have c := b.2.2
  refine ⟨by unfold cl1; rw [b.1, c]; rfl, ?_⟩
  unfold clN at c
  simp only [Bool.and_eq_true, bet_iff] at c
  exact c
theorem Right.dep {C : SlClass} {a : SlI} {s : Ser} (R : Right C a s) {j : Nat} (hj : j < s.ds.n) : 0 ≤ dpt s j ∧ dpt s j ≤ 4194304 := by
  have := (ser_parts R.ser).2.2.2 j hj
  unfold dpt; omega
theorem Right.fit {C : SlClass} {a : SlI} {s : Ser} (R : Right C a s) {i : Nat} (hi : i < C.n) : ∀ j, j ≤ s.ds.n → Fit (C.D i) (str C s j i).1 (str C s j i).2
  | 0, _ => by
    obtain ⟨-, h1, h2, h3, h4⟩ := cls_at R.cls hi
    exact ⟨h1, h2, h3, h4, ⟨Int.le_refl _, h2.1⟩, ⟨Int.le_refl _, h3.1⟩⟩
  | j + 1, hj => (R.fit hi j (by omega)).next (R.dep (by omega)) (ser_parts R.ser).2.1
theorem volI_le {C : SlClass} {a : SlI} {W H : Nat → Int} {dep : Int} {n : Nat} (ha : ∀ i, i < n → 0 ≤ a.X i) (hf : ∀ i, i < n → Fit (C.D i) (W i) (H i)) (hd : 0 ≤ dep ∧ dep ≤ 4194304) : ∀ k, k ≤ n → 0 ≤ volI C a W H dep k ∧ volI C a W H dep k ≤ sumI a.X k * 4194304000
  | 0, _ => by unfold volI sumI; omega
  | k + 1, hk => by
    have ih := volI_le ha hf hd k (by omega)
    have p := (hf k (by omega)).parts hd
    have m := mul_bd (a := a.X k) (A := a.X k) (b := offI (C.D k) (W k) (H k) dep) (B := 4194304000) ⟨ha k (by omega), Int.le_refl _⟩ (by omega)
    have e1 : volI C a W H dep (k + 1) = volI C a W H dep k + a.X k * offI (C.D k) (W k) (H k) dep := rfl
    have e2 : sumI a.X (k + 1) = sumI a.X k + a.X k := rfl
    rw [e1, e2, Int.add_mul]
    omega
theorem Right.vol {C : SlClass} {a : SlI} {s : Ser} (R : Right C a s) {j : Nat} (hj : j < s.ds.n) : 0 ≤ vol C a s j ∧ vol C a s j ≤ 4503599627370496000 := by
  have h := volI_le (C := C) (a := a) (fun i hi => (R.mtr i hi).1) (fun i hi => R.fit hi j (by omega)) (R.dep hj) C.n (Nat.le_refl _)
  have := R.sum
  have : 0 ≤ sumI a.X C.n := by
    have := sumI_le (X := a.X) (lo := 0) (hi := 1073741824) (n := C.n) fun i hi => R.mtr i hi
    omega
  unfold Ba.vol
  omega
theorem lft_le {C : SlClass} {a : SlI} {s : Ser} : ∀ j, 0 ≤ lft C a s j ∧ lft C a s j ≤ 999
  | 0 => by unfold lft; omega
  | j + 1 => by unfold lft; omega
end Ba
theorem mix_any (C : Ba.SlClass) (a : Ba.SlI) (T : Ba.SlT) (dep sec : Int) (w : World) (hC : C.At w) (ha : a.At w) (hT : T.At w) (hv : Ba.clsB C = true) (hn : a.n = C.n) (ht : T.n = C.n) (hm : ∀ i, i < C.n → 0 ≤ a.X i ∧ a.X i ≤ 1073741824) (hsum : Ba.sumI a.X C.n ≤ 1073741824) (hf : ∀ i, i < C.n → Ba.Fit (C.D i) (T.W i) (T.H i)) (hd : 0 ≤ dep ∧ dep ≤ 4194304) (hs : 1 ≤ sec ∧ sec ≤ 86400) :
    Calls Tryz.prog 93 #[.slice C.A C.n C.c, .slice a.A a.n a.c, .slice T.A T.n T.c, .int .i64 dep, .int .i64 sec] w (Ba.RetMix C a T dep sec w) := by
  have hfew : 1 ≤ C.n ∧ C.n ≤ 16 := by
    have h := hv
    unfold Ba.clsB at h
    simp only [Bool.and_eq_true, decide_eq_true_eq] at h
    omega
  have sb : ∀ i, i ≤ C.n → 0 ≤ Ba.sumI a.X i ∧ Ba.sumI a.X i ≤ 1073741824 := fun i hi => by
    have h1 := Ba.sumI_le (X := a.X) (lo := 0) (hi := 1073741824) (n := i) fun j hj => hm j (by omega)
    have h2 : ∀ k, i + k ≤ C.n → Ba.sumI a.X i ≤ Ba.sumI a.X (i + k) := fun k => by
      induction k with
      | zero => intro _; exact Int.le_refl _
      | succ k ih => intro hk; have := ih (by omega); have := hm (i + k) (by omega); rw [show i + (k + 1) = (i + k) + 1 by omega, Ba.sumI]; omega
    have h3 := h2 (C.n - i) (by omega)
    rw [show i + (C.n - i) = C.n by omega] at h3
    omega
  have vb := Ba.volI_le (C := C) (a := a) (fun i hi => (hm i hi).1) hf hd
  have h := mix_ok C.A a.A T.A C.n C.c a.c T.c C.b C.o a.b a.o T.b T.o C.D a.X T.W T.H dep sec w hfew.1 hfew.2 (hC.hA (by omega)) (ha.hA (by omega)) (hT.hA (by omega)) hd hs
    (Lib.hid fun W hh => by have h := uvalid_any C W (hC.gr hh); rw [hv] at h; exact h)
    (Lib.hid fun i hi => (hC.hD i hi).1) (Lib.hid fun i hi => ⟨(ha.hX i (by omega)).1, hm i hi⟩) (Lib.hid fun i hi => hT.hX i (by omega))
    (Lib.hid fun i hi W hh => by
      have h := vstore_any (C.D i) (T.W i) (T.H i) W ((hC.hD i hi).2.gr hh)
      have f := hf i hi
      rw [(Ba.cls_at hv hi).1, show Ba.bet (T.W i) 0 (C.D i).we = true by rw [Ba.bet_iff]; exact f.wet, show Ba.bet (T.H i) 0 (C.D i).ro = true by rw [Ba.bet_iff]; exact f.held] at h
      exact h)
    (fun i => Ba.offI (C.D i) (T.W i) (T.H i) dep) (fun i => Ba.stW (C.D i) (T.W i) dep sec) (fun i => Ba.stH (C.D i) (T.W i) (T.H i) dep sec)
    (Lib.hid fun i hi W hh => lstep_any (C.D i).nm (C.D i).se (C.D i).we (C.D i).ro (C.D i).dr (T.W i) (T.H i) dep sec W (hf i hi) hd hs)
    (Lib.hid rfl) (Lib.hid fun _ => rfl) (Lib.hid sb) (Ba.volI C a T.W T.H dep) (Lib.hid rfl) (Lib.hid fun _ => rfl) (Lib.hid fun i hi => by have := vb i hi; have := sb i hi; omega)
    (Lib.hid fun i hi => by
      have p := (hf i hi).parts hd
      have m := Ba.mul_bd (hm i hi) (b := Ba.offI (C.D i) (T.W i) (T.H i) dep) (B := 4194304000) (by omega)
      omega)
  rw [hn, ht]
  exact h
theorem own_sli {w : World} {base E n : Nat} {v : Value} {X : Nat → Int} (h : w.ownsRow base E 1 v n ((List.range n).map fun i => .int .i64 (X i))) (hb : ∀ i, i < n → Ba.i64 (X i)) : ∃ s : Ba.SlI, v = .slice s.A s.n s.c ∧ s.At w ∧ s.n = n ∧ ∀ i, i < s.n → s.X i = X i := by
  obtain ⟨A, c, b, rfl, h1, h2, h3, h4⟩ := ownsRow_at h
  refine ⟨⟨A, n, c, b, 0, X⟩, rfl, ⟨h1, h2, h3, fun i hi => ⟨?_, hb i hi⟩⟩, rfl, fun _ _ => rfl⟩
  simp only at hi
  have := h4 i hi
  rw [Nat.zero_add]
  simpa [hi] using this
theorem made_slt {w : World} {base e g n : Nat} (h : w.ownsRow base e 2 (.slice (some ⟨g, 0, none⟩) n n) n (madeCells #[.int .i64 0, .int .i64 0] (n * 2)).toList) : Ba.SlT.At w ⟨some ⟨g, 0, none⟩, n, n, g, 0, fun _ => 0, fun _ => 0⟩ := by
  obtain ⟨hl, ⟨h1, -⟩ | ⟨g', cap, cur, hv, hb, hc, h3, h4, h5, h6⟩⟩ := h
  · cases h1
  · simp only [Value.slice.injEq, Option.some.injEq, Addr.mk.injEq] at hv
    obtain ⟨⟨rfl, -, -⟩, -, rfl⟩ := hv
    refine ⟨fun _ => rfl, Nat.le_refl _, by unfold maxLen at h4; exact h4, fun j hj => ?_⟩
    simp only at hj
    have cell : ∀ i, i < n * 2 → w.cell? ⟨g, i, none⟩ = some (.int .i64 0) := fun i hi => by
      have hz : cur.toList[i]? = some (.int .i64 0) := by
        rw [List.take_of_length_le (by simp [h5])] at h6
        rw [h6]
        rcases Nat.mod_two_eq_zero_or_one i with q | q <;> simp [madeCells, hi, q]
      simp only [World.cell?, hc]; simpa using hz
    simp only [Nat.zero_add]
    exact ⟨cell _ (by omega), cell _ (by omega)⟩
/-- What Depths answers: the volumes, and an error. -/
def RetDep (C : Ba.SlClass) (a : Ba.SlI) (s : Ba.Ser) (w : World) (e : Ending) (w' : World) : Prop := ∃ r : Ba.SlI, e = .returned (.tuple #[.slice r.A r.n r.c, .int .i64 (Ba.depE C a s)]) ∧ r.At w' ∧ (Ba.depE C a s = 0 → r.n = s.ds.n ∧ ∀ j, j < s.ds.n → r.X j = Ba.out C a s j) ∧ (Ba.depE C a s ≠ 0 → r.n = 0) ∧ Gr w w'
set_option maxRecDepth 100000 in
set_option maxHeartbeats 8000000 in
theorem dep_e (A A2 DA : Option Addr) (n c an ac dn dc : Nat) (fr st : Int) (w : World) (ec : Int) (hec : ec ≠ 0) (HG : Hid (∀ W, Gr w W → Calls Tryz.prog 92 #[.slice A n c, .slice A2 an ac, .agg #[.int .i64 fr, .int .i64 st, .slice DA dn dc]] W fun e w' => e = .returned (.int .i64 ec) ∧ Gr W w')) : Calls Tryz.prog 49 #[.slice A n c, .slice A2 an ac, .agg #[.int .i64 fr, .int .i64 st, .slice DA dn dc]] w fun e w' => e = .returned (.tuple #[.slice none 0 0, .int .i64 ec]) ∧ Gr w w' := by
  have t0 : (ec != 0) = true := by rw [bne_iff_ne]; exact hec
  clear hec
  go_enter Tryz.func49, Tryz.ntmps49
  go_wp2_with fail
  (first | refine name_world ?_ | refine (show (∀ W, W = _ → Calls _ _ _ W _) → Calls _ _ _ _ _ from fun h => h _ rfl) ?_); intro W1 hW1
  have g1 : Gr w W1 := by rw [hW1]; exact gr_auto
  have k1_0 : W1.cell? ⟨w.heap.size, 0, none⟩ = some (.int .i64 fr) := by rw [hW1]; first | (simp [go_sem, *]; done) | (refine Gr.at ?_ (by assumption); exact gr_auto)
  have b1_0 : w.heap.size < W1.heap.size := World.block_lt_of_cell? _ _ k1_0
  have k1_1 : W1.cell? ⟨w.heap.size, 1, none⟩ = some (.int .i64 st) := by rw [hW1]; first | (simp [go_sem, *]; done) | (refine Gr.at ?_ (by assumption); exact gr_auto)
  have k1_2 : W1.cell? ⟨w.heap.size, 2, none⟩ = some (.slice DA dn dc) := by rw [hW1]; first | (simp [go_sem, *]; done) | (refine Gr.at ?_ (by assumption); exact gr_auto)
  clear hW1
  refine (HG.out _ g1).mono ?_
  rintro e w2 ⟨rfl, hb2⟩
  have g2 := g1.trans hb2
  have k1_0 := Gr.at (w1 := w2) gr_auto k1_0; have k1_1 := Gr.at (w1 := w2) gr_auto k1_1; have k1_2 := Gr.at (w1 := w2) gr_auto k1_2
  go_wp2_with fail
  refine bodyPost_ret (by simp [results, Tryz.results49, go_sem]; try rfl) rfl ?_
  exact ⟨rfl, g2⟩
theorem info_int : (Tryz.prog.info? 3).map (fun i => (i.zero, i.size, i.bytes)) = some (some (.int .i64 0), 1, 8) := by kernel_rfl
set_option maxRecDepth 100000 in
set_option maxHeartbeats 8000000 in
theorem dep_ok (A A2 DA : Option Addr) (n c an ac dn dc : Nat) (fr st : Int) (w : World) (HG : Hid (∀ W, Gr w W → Calls Tryz.prog 92 #[.slice A n c, .slice A2 an ac, .agg #[.int .i64 fr, .int .i64 st, .slice DA dn dc]] W fun e w' => e = .returned (.int .i64 0) ∧ Gr W w')) (hn : n ≤ 16) (hdn : dn ≤ 10000) (db do_ : Nat) (X : Nat → Int) (HDA : Hid (0 < dn → DA = some ⟨db, do_, none⟩)) (HX : Hid (∀ j, j < dn → w.cell? ⟨db, do_ + j, none⟩ = some (.int .i64 (X j))))
    (sw sh : Nat → Nat → Int) (vl lf ou : Nat → Int) (HZ : Hid (∀ i, sw 0 i = 0 ∧ sh 0 i = 0)) (HL0 : Hid (lf 0 = 0)) (HLS : Hid (∀ j, lf (j + 1) = (vl j + lf j) % 1000)) (HOU : Hid (∀ j, ou j = (vl j + lf j) / 1000)) (HLB : Hid (∀ j, 0 ≤ lf j ∧ lf j ≤ 999)) (HVB : Hid (∀ j, j < dn → 0 ≤ vl j ∧ vl j ≤ 4503599627370496000))
    (ec : Int) (hno : Hid (∀ j, j < dn → 1125899906842624 < ou j → ec = 5)) (hok : Hid ((∀ j, j < dn → ou j ≤ 1125899906842624) → ec = 0))
    (HM : Hid (∀ j, j < dn → ∀ (T : Ba.SlT) W, Gr w W → T.At W → T.n = n → T.W = sw j → T.H = sh j → Calls Tryz.prog 93 #[.slice A n c, .slice A2 an ac, .slice T.A n T.c, .int .i64 (max 0 (X j)), .int .i64 st] W fun e w' => ∃ s : Ba.SlT, e = .returned (.tuple #[.slice s.A s.n s.c, .int .i64 (vl j), .int .i64 0]) ∧ s.At w' ∧ s.n = n ∧ s.W = sw (j + 1) ∧ s.H = sh (j + 1) ∧ (0 < n → W.heap.size ≤ s.b) ∧ Gr W w')) : Calls Tryz.prog 49 #[.slice A n c, .slice A2 an ac, .agg #[.int .i64 fr, .int .i64 st, .slice DA dn dc]] w (fun e w' => ∃ r : Ba.SlI, e = .returned (.tuple #[.slice r.A r.n r.c, .int .i64 ec]) ∧ r.At w' ∧ (ec = 0 → r.n = dn ∧ ∀ j, j < dn → r.X j = ou j) ∧ (ec ≠ 0 → r.n = 0) ∧ Gr w w') := by
  go_enter Tryz.func49, Tryz.ntmps49
  go_wp2_with fail
  (first | refine name_world ?_ | refine (show (∀ W, W = _ → Calls _ _ _ W _) → Calls _ _ _ _ _ from fun h => h _ rfl) ?_); intro W1 hW1
  have g1 : Gr w W1 := by rw [hW1]; exact gr_auto
  have k1_0 : W1.cell? ⟨w.heap.size, 0, none⟩ = some (.int .i64 fr) := by rw [hW1]; first | (simp [go_sem, *]; done) | (refine Gr.at ?_ (by assumption); exact gr_auto)
  have b1_0 : w.heap.size < W1.heap.size := World.block_lt_of_cell? _ _ k1_0
  have k1_1 : W1.cell? ⟨w.heap.size, 1, none⟩ = some (.int .i64 st) := by rw [hW1]; first | (simp [go_sem, *]; done) | (refine Gr.at ?_ (by assumption); exact gr_auto)
  have k1_2 : W1.cell? ⟨w.heap.size, 2, none⟩ = some (.slice DA dn dc) := by rw [hW1]; first | (simp [go_sem, *]; done) | (refine Gr.at ?_ (by assumption); exact gr_auto)
  clear hW1
  refine (HG.out _ g1).mono ?_
  rintro e w2 ⟨rfl, hb2⟩
  have g2 := g1.trans hb2
  have k1_0 := Gr.at (w1 := w2) gr_auto k1_0; have k1_1 := Gr.at (w1 := w2) gr_auto k1_1; have k1_2 := Gr.at (w1 := w2) gr_auto k1_2
  clear HG
  obtain ⟨i0, hi0, hz0, hz1, hz2⟩ := info_parts info_store
  have JI := Lib.hid hi0; have JZ0 := Lib.hid hz0; have JZ1 := Lib.hid hz1; have JZ2 := Lib.hid hz2
  clear hi0 hz0 hz1 hz2
  obtain ⟨i1, hi0, hz0, hz1, hz2⟩ := info_parts info_int
  have KI := Lib.hid hi0; have KZ0 := Lib.hid hz0; have KZ1 := Lib.hid hz1; have KZ2 := Lib.hid hz2
  clear hi0 hz0 hz1 hz2
  go_wp2_with (at_make; refine wpList_make_full _ rfl _ _ _ rfl w.heap.size 185 i0 (.agg #[.int .i64 0, .int .i64 0]) 2 Tryz.underlying135 JI.out JZ0.out JZ1.out .i64 .i64 n n n rfl rfl rfl rfl ?d1 ?d2 ?d3 ?_)
  case d1 => rw [JZ2.out]; omega
  case d2 => unfold maxLen; omega
  case d3 => exact Gr.size g2
  intro w3 hown hgrow
  have hT := Lib.hid (made_slt hown)
  have G3 : Gr w2 w3 := Gr.own (Gr.refl _) (Nat.le_refl _) (n := 0) (e := 3) (size := 1) (xs := []) (v := .slice none 0 0) ⟨rfl, Or.inl ⟨rfl, rfl⟩⟩ hgrow
  have g3 := g2.trans G3
  have k1_0 := Gr.at (w1 := w3) gr_auto k1_0; have k1_1 := Gr.at (w1 := w3) gr_auto k1_1; have k1_2 := Gr.at (w1 := w3) gr_auto k1_2
  clear hown hgrow
  go_wp2_with fail
  go_loopw [9, 10, 11, 30] (fun vt vl_ vo x wr => ∃ j : Nat, j ≤ dn ∧ x = .int .i64 (j : Int) ∧ vl_ = .int .i64 (lf j) ∧ (∃ T : Ba.SlT, vt = .slice T.A n T.c ∧ Hid (T.At wr) ∧ Hid (T.n = n ∧ T.W = sw j ∧ T.H = sh j)) ∧ Hid (∀ i, i < j → ou i ≤ 1125899906842624) ∧ Hid (wr.ownsRow w3.heap.size 3 1 vo j ((List.range j).map fun i => .int .i64 (ou i))) ∧ Gr w3 wr) (fun _ _ _ x _ => dn - (intOf x).toNat)
  case atStart => exact ⟨0, Nat.zero_le _, rfl, by rw [HL0.out], ⟨_, rfl, hT, Lib.hid ⟨rfl, funext fun i => (HZ.out i).1.symm, funext fun i => (HZ.out i).2.symm⟩⟩, Lib.hid (fun i hi => absurd hi (by omega)), Lib.hid ⟨rfl, Or.inl ⟨rfl, rfl⟩⟩, Gr.refl _⟩
  case round =>
    clear hT
    obtain ⟨j, hj, rfl, rfl, ⟨T, rfl, HTA, HTE⟩, HQ, HO, hg⟩ := hrel
    have gr : Gr w wr := g3.trans hg
    have k0 := Gr.at hg k1_0; have k1 := Gr.at hg k1_1; have k2 := Gr.at hg k1_2
    by_cases hlt : j < dn
    · obtain rfl := HDA.out (by omega)
      have a0 := Gr.at gr (HX.out j hlt)
      have ib0 : (0 : Int) ≤ (j : Int) := by omega
      have ib1 : (j : Int) < (dn : Int) := by omega
      have lb := HLB.out j; have vb := HVB.out j hlt
      have T1 := Lib.hid (HLS.out j); have T2 := Lib.hid (HOU.out j)
      have HMj := Lib.hid (fun W (hW : Gr wr W) => HM.out j hlt T W (gr.trans hW) (HTA.out.gr hW) HTE.out.1 HTE.out.2.1 HTE.out.2.2)
      have hnoj := Lib.hid (hno.out j hlt)
      clear HX HLS HOU HLB HVB HM HZ HL0 hno hok HTA HTE
      generalize vl j = v at *
      generalize lf j = l at *
      obtain ⟨x, hx⟩ : ∃ x, X j = x := ⟨_, rfl⟩
      rw [hx] at a0 HMj
      obtain ⟨m, hm⟩ : ∃ m, max 0 x = m := ⟨_, rfl⟩
      rw [hm] at HMj
      have Hm := Lib.hid hm
      clear hm hx
      rcases (by have := Hm.out; omega : (0 < x ∧ m = x) ∨ (x ≤ 0 ∧ m = 0)) with ⟨hpos, hmx⟩ | ⟨hpos, hmx⟩
      all_goals
        rw [hmx] at HMj
        clear hmx
        go_wp2_with fail
        refine (HMj.out _ (Gr.refl _)).mono ?_
        rintro e w5 ⟨s, rfl, s1, s2, s3, s4, s5, hb5⟩
        obtain ⟨sA, sn, sc, sb, so, sW, sH⟩ := s
        simp only at s2 s3 s4 s5
        subst s2 s3 s4
        have HT5 := Lib.hid s1
        have HOlt := Lib.hid (fun k hk => (HO.out.lt k hk).2)
        have g5 := hg.trans hb5
        have HO5 := Lib.hid (ownsRow_gr HO.out hb5)
        have k0 := Gr.at (w1 := w5) gr_auto k0; have k1 := Gr.at (w1 := w5) gr_auto k1; have k2 := Gr.at (w1 := w5) gr_auto k2
        have vl0 : 0 ≤ v + l ∧ v + l ≤ 9223372036854775807 := by omega
        have bw3 := Gr.size g5
        clear s1 HMj HO
        go_wp2_with (at_builtin; refine wpList_append_own _ rfl _ _ 26 rfl w3.heap.size 3 i1 (.int .i64 0) 1 8 Tryz.underlying26 KI.out KZ0.out KZ1.out KZ2.out rfl (by decide) _ j ((List.range j).map fun i => .int .i64 (ou i)) rfl (ownsRow_gr HO5.out (by exact gr_auto)) ⟨w5.heap.size, 0, none⟩ 1 1 [.int .i64 ((v + l) / 1000)] rfl rfl (by intro p u hp; rcases p with _ | p <;> simp at hp <;> (try subst hp) <;> first | (simp [Addr.add, go_sem]; done) | (simp [Addr.add]; done)) (by intro u hu; simp at hu; subst hu; rfl) (by unfold maxLen; omega) (by omega) (by simp; omega) ?_)
        · have hbig : (1125899906842624 : Int) < (v + l) / 1000 := by assumption
          have he := hnoj.out (by rw [T2.out]; exact hbig)
          refine bodyPost_ret (by simp [results, Tryz.results49, go_sem]; try rfl) rfl ?_
          exact ⟨⟨none, 0, 0, 0, 0, fun _ => 0⟩, by rw [he], ⟨fun h => absurd h (by simp), Nat.le_refl _, by simp, fun i hi => absurd hi (by simp)⟩, fun h => by omega, fun _ => rfl, g3.trans g5⟩
        · have hsm : (v + l) / 1000 ≤ 1125899906842624 := by assumption
          intro v' w9 hown' hgrow hnil
          have hg9 : Gr w3 w9 := by
            refine Gr.own (base := w3.heap.size) ?_ (Nat.le_refl _) (ownsRow_gr HO5.out ?_) hgrow
            · exact g5.trans (by exact gr_auto)
            · exact gr_auto
          have HT9 := Lib.hid (show Ba.SlT.At w9 ⟨sA, _, sc, sb, so, sw (j + 1), sh (j + 1)⟩ from ⟨HT5.out.hA, HT5.out.hc, HT5.out.hb, fun i hi => by
            obtain ⟨y1, y2⟩ := HT5.out.hX i hi
            have hs5 := s5 (by have := hi; simp only at this; omega)
            have hlt5 := World.block_lt_of_cell? w5 _ y1
            simp only at hlt5
            have hbk : w9.heap[sb]? = w5.heap[sb]? := by
              have h1 := hgrow.block sb (Nat.lt_of_lt_of_le hlt5 (Gr.size (Gr.alloc (Gr.refl w5) _))) (by
                intro e
                have := HOlt.out sb (by first | exact e | exact e.symm)
                omega)
              exact h1.trans (Below.block (Gr.alloc (Gr.refl w5) _) sb hlt5)
            exact ⟨by rw [← y1]; exact World.cell?_of_block hbk, by rw [← y2]; exact World.cell?_of_block hbk⟩⟩)
          have HO9 := Lib.hid (show w9.ownsRow w3.heap.size 3 1 v' (j + 1) ((List.range (j + 1)).map fun i => .int .i64 (ou i)) from by
            rw [List.range_succ, List.map_append, List.map_cons, List.map_nil, T2.out]; exact hown')
          have HQ2 := Lib.hid (fun i (hi : i < j + 1) => show ou i ≤ 1125899906842624 from by
            rcases (by omega : i < j ∨ i = j) with q | rfl
            · exact HQ.out i q
            · rw [T2.out]; exact hsm)
          clear hown' hgrow hnil HO5 HQ hsm HT5
          go_wp2_with fail
          go_roundw
          case rel => exact ⟨j + 1, by omega, by go_num, by rw [T1.out], ⟨⟨sA, _, sc, sb, so, sw (j + 1), sh (j + 1)⟩, rfl, HT9, Lib.hid ⟨rfl, rfl, rfl⟩⟩, HQ2, HO9, hg9⟩
          case measure => simp [intOf]; omega
    · obtain rfl : dn = j := by omega
      have HOK := Lib.hid (hok.out fun i hi => HQ.out i hi)
      have hbo : ∀ i, i < dn → Ba.i64 (ou i) := fun i hi => by
        have h1 := HQ.out i hi; have h2 := HVB.out i hi; have h3 := HLB.out i
        have h4 := HOU.out i
        unfold Ba.i64; omega
      obtain ⟨r, rfl, r1, r2, r3⟩ := own_sli HO.out hbo
      have R1 := Lib.hid r1; have R2 := Lib.hid r2; have R3 := Lib.hid r3
      clear r1 r2 r3 hbo HX HLS HOU HLB HVB HM HZ HL0 hno hok HTA HTE HQ HO JI JZ0 JZ1 JZ2 KI KZ0 KZ1 KZ2
      go_wp2_with fail
      refine bodyPost_ret (by simp [results, Tryz.results49, go_sem]; try rfl) rfl ?_
      exact ⟨r, by rw [HOK.out], R1.out, fun _ => ⟨R2.out, fun i hi => R3.out i (by rw [R2.out]; exact hi)⟩, fun h => absurd HOK.out h, gr⟩
set_option maxHeartbeats 1000000 in
theorem dep_any (C : Ba.SlClass) (a : Ba.SlI) (s : Ba.Ser) (w : World) (hC : C.At w) (ha : a.At w) (hs : s.Ok w) : Calls Tryz.prog 49 #[.slice C.A C.n C.c, .slice a.A a.n a.c, s.val] w (RetDep C a s w) := by
  have HG := Lib.hid (fun W (hh : Gr w W) => pgiven_any C a s W (hC.gr hh) (ha.gr hh) (hs.gr hh))
  by_cases hg : Ba.givR C a s = 0
  rotate_left
  · have e : Ba.depE C a s = Ba.givR C a s := by unfold Ba.depE; rw [if_neg hg]
    refine (dep_e C.A a.A s.ds.A C.n C.c a.n a.c s.ds.n s.ds.c s.fr s.st w _ hg HG).mono fun e' w' ⟨h1, h2⟩ => ?_
    exact ⟨⟨none, 0, 0, 0, 0, fun _ => 0⟩, by rw [h1, e], ⟨fun h => absurd h (by simp), Nat.le_refl _, by simp, fun i hi => absurd hi (by simp)⟩, fun h => absurd (e ▸ h) hg, fun _ => rfl, h2⟩
  have R := Ba.right_of hg
  rw [hg] at HG
  have e : Ba.depE C a s = if Ba.allB (Ba.fitO C a s) s.ds.n = true then 0 else 5 := by unfold Ba.depE; rw [if_pos hg]
  have sp := Ba.ser_parts R.ser
  refine (dep_ok C.A a.A s.ds.A C.n C.c a.n a.c s.ds.n s.ds.c s.fr s.st w HG R.few.2 sp.2.2.1 s.ds.b s.ds.o s.ds.X (Lib.hid hs.2.2.hA) (Lib.hid fun j hj => (hs.2.2.hX j hj).1)
    (fun j i => (Ba.str C s j i).1) (fun j i => (Ba.str C s j i).2) (Ba.vol C a s) (Ba.lft C a s) (Ba.out C a s) (Lib.hid fun _ => ⟨rfl, rfl⟩) (Lib.hid rfl) (Lib.hid fun _ => rfl) (Lib.hid fun _ => rfl) (Lib.hid Ba.lft_le) (Lib.hid fun j hj => R.vol hj)
    (Ba.depE C a s) (Lib.hid fun j hj hb => by rw [e, Ba.allB_stop hj (show Ba.fitO C a s j = false from decide_eq_false (by omega)), if_neg (by decide)]) (Lib.hid fun h => by rw [e, Ba.allB_iff.2 fun j hj => show Ba.fitO C a s j = true from decide_eq_true (h j hj), if_pos rfl])
    (Lib.hid fun j hj T W hh hT tn tw th => ?_)).mono fun e' w' h => h
  have h := mix_any C a T (Ba.dpt s j) s.st W (hC.gr hh) (ha.gr hh) hT R.cls R.n tn R.mtr R.sum (fun i hi => by rw [tw, th]; exact R.fit hi j (by omega)) (R.dep hj) sp.2.1
  rw [tn] at h
  refine h.mono fun e' w' hr => ?_
  obtain ⟨r, r1, r2, r3, r4, r5, r6, r7⟩ := hr
  refine ⟨r, ?_, r2, r3, ?_, ?_, r6, r7⟩
  · rw [r1, tw, th]; rfl
  · rw [r4, tw]; rfl
  · rw [r5, tw, th]; rfl
end Go.Proofs.YtajhhplgcegodaaGreatDoor
