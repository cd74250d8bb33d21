/-
  Law 25: RunoffWhole, all ways. (Printed by mkxc.py.)
-/
import Derived.Test.YtjighhphadfoiaaRoXb
import Derived.Test.YtjighhphadfoiaaRoO
set_option linter.unusedVariables false
set_option linter.unusedSimpArgs false
namespace Go.Proofs.Ytjighhphadfoiaa
open Go.RowKit
attribute [local go_sem ↓] Go.wp_at_zero Go.wp_at_succ

theorem info_intz : (Try.prog.info? 3).map (fun i => (i.zero, i.size, i.bytes)) = some (some (.int .i64 0), 1, 8) := by kernel_rfl
set_option maxRecDepth 100000 in
set_option maxHeartbeats 4000000 in
theorem clonez_any (s : Ba.SlI) (w : World) (h : s.At w) (hn : s.n ≤ 100000) : Calls Try.prog 13 #[.slice s.A s.n s.c] w (RetCln s.n s.X w) := by
  obtain ⟨i0, hi0, hz0, hz1, hz2⟩ := info_parts info_intz
  have HI := Lib.hid hi0; have HZ0 := Lib.hid hz0; have HZ1 := Lib.hid hz1; have HZ2 := Lib.hid hz2
  clear hi0 hz0 hz1 hz2
  have HA := Lib.hid h.hA; have HX := Lib.hid (fun i hi => (h.hX i hi).1)
  clear h
  obtain ⟨A, n, c, b, o, X⟩ := s
  simp only at *
  have qe : ∀ (w : World) (a : Option Addr) (n c n' c' : Nat), (binOp .eql 23 (.slice a n c) (.slice none n' c')).run Try.prog w = .ok (.bool a.isNone) w := fun w a n c n' c' => Lib.run_eql_slice_nil w _ _ a n c n' c' Try.underlying23
  cases A with
  | none =>
    obtain rfl : n = 0 := by
      by_cases h0 : 0 < n
      · exact absurd (HA.out h0) (by simp)
      · omega
    go_enter Try.func13, Try.ntmps13
    go_wp2_with fail
    go_ret
    exact ⟨none, 0, w.heap.size, rfl, fun h => absurd h (by omega), Nat.le_refl _, Nat.le_refl _, by omega, fun j hj => absurd hj (by omega), gr_auto⟩
  | some ad =>
    go_enter Try.func13, Try.ntmps13
    go_wp2_with (at_builtin; refine wpList_append_own _ rfl _ _ 23 rfl w.heap.size 3 i0 (.int .i64 0) 1 8 Try.underlying23 HI.out HZ0.out HZ1.out HZ2.out rfl (by decide) _ 0 [] rfl (World.ownsRow_made w #[] 0 (Nat.le_refl _) (Nat.zero_le _) rfl) ad n c (flatN X n) rfl (by rw [flatN_len, Nat.mul_one]) ?c1 ?c2 ?c3 ?c4 ?c5 ?_)
    case c1 => exact flatN_at HA.out (fun j hj => Gr.at (by first | exact Gr.alloc (Gr.refl _) _ | exact gr_auto) (HX.out j hj))
    case c2 => exact flatN_one X n
    case c3 => unfold maxLen; omega
    case c4 => omega
    case c5 => simp
    intro v' w1 hown hgrow hnil'
    have hg1 : Gr w w1 := by
      refine Below.grown (Below.alloc (Below.refl _ w) (Nat.le_refl _) _) hgrow (by simp) ?_
      intro k hk; simp [Value.ownBlock] at hk; omega
    obtain ⟨A', c', g', rfl, h1, h0, h2, h3, h4⟩ := own_rowN (by simpa using hown)
    have HR := Lib.hid (And.intro h1 (And.intro h0 (And.intro h2 (And.intro h3 h4))))
    clear hown hgrow hnil' h0 h1 h2 h3 h4
    go_wp2_with fail
    go_ret
    exact ⟨A', c', g', rfl, HR.out.1, HR.out.2.1, HR.out.2.2.1, HR.out.2.2.2.1, HR.out.2.2.2.2, hg1⟩


set_option maxRecDepth 100000 in
set_option maxHeartbeats 8000000 in
theorem whf_any (x : Int) (w : World) : Calls Try.prog 30 #[.int .i64 x] w fun e w' => e = .returned (.bool (decide ((131072 : Int) < x))) ∧ w = w' := by
  go_enter Try.func30, Try.ntmps30
  go_wp2_with fail
  go_ret
  exact ⟨rfl, rfl⟩
namespace Ba
def areB (a : SlI) : Bool := any (fun i => decide ((131072 : Int) < a.X i)) a.n
theorem are_no {a : SlI} (h : areB a = false) {i : Nat} (hi : i < a.n) : a.X i ≤ 131072 := by
  unfold areB at h
  rcases Int.lt_or_le 131072 (a.X i) with q | q
  · have := (any_iff (fun i => decide ((131072 : Int) < a.X i)) a.n).2 ⟨i, hi, decide_eq_true q⟩
    rw [h] at this; cases this
  · exact q
/-- The errors of Of, where Depths has none. -/
theorem of_errs {C : SlClass} {a u : SlI} {s : Ser} (hd : depE C a s = 0) (hn : s.ds.n ≤ 100) (hu : u.n ≤ 60) : (ofE C a u s = 0 ∧ uniB u = true ∧ (s.ds.n = 0 ∨ ∀ j, j < s.ds.n + u.n - 1 → 0 ≤ ofX C a u s j ∧ ofX C a u s j ≤ 1125899906842624)) ∨ ofE C a u s = 1 ∨ ofE C a u s = 5 := by
  unfold ofE
  cases hv : uniB u
  · exact .inr (.inl rfl)
  rw [if_pos rfl, if_pos hd]
  have ob := (dep_right hd).2
  have hvol : volB (outL C a s) = true := by
    unfold volB wiB outL
    simp only [Bool.and_eq_true, decide_eq_true_eq]
    exact ⟨by omega, allB_iff.2 fun j hj => (bet_iff _ _ _).2 (ob j hj)⟩
  unfold cnvE
  rw [if_pos hvol, if_pos hv]
  by_cases h0 : (outL C a s).n = 0
  · rw [if_pos h0]; exact .inl ⟨rfl, rfl, .inl h0⟩
  rw [if_neg h0, if_neg (by unfold cnvN; show ¬ (10000 : Int) < ((s.ds.n + u.n - 1 : Nat) : Int); omega)]
  cases hok : allB (fun j => bet (cvI (outL C a s).X u (outL C a s).n j) 0 1125899906842624) (cnvN (outL C a s) u)
  · exact .inr (.inr rfl)
  · refine .inl ⟨rfl, rfl, .inr fun j hj => ?_⟩
    exact (bet_iff _ _ _).1 (allB_at hok (show j < cnvN (outL C a s) u from hj))
theorem of_sum {C : SlClass} {a u : SlI} {s : Ser} (hv : uniB u = true) : sumI (ofX C a u s) (ofN C a u s) = sumI (out C a s) s.ds.n := by
  unfold ofX ofN
  by_cases h0 : s.ds.n = 0
  · rw [if_pos h0, h0]; rfl
  · rw [if_neg h0]
    exact cv_sum hv _ _ (by have := (uni_parts hv).1; omega)
theorem sumI_bd {X : Nat → Int} {n : Nat} (hn : n ≤ 200) (h : ∀ j, j < n → 0 ≤ X j ∧ X j ≤ 1125899906842624) : ∀ i, i ≤ n → i64 (sumI X i) := fun i hi => by
  have := sumI_le (X := X) (lo := 0) (hi := 1125899906842624) (n := i) fun j hj => h j (by omega)
  unfold i64
  have : (i : Int) ≤ 200 := by omega
  omega
end Ba

set_option maxRecDepth 100000 in
set_option maxHeartbeats 8000000 in
theorem whfar (C : Ba.SlClass) (a u : Ba.SlI) (s : Ba.Ser) (w : World) (hC : C.At w) (ha : a.At w) (hu : u.At w) (hs : s.Ok w) (hf : Ba.fewB C a s = false ∨ Ba.fewB C a s = true ∧ (60 < u.n ∨ u.n ≤ 60 ∧ Ba.areB a = true)) : Calls Try.prog 7 #[.slice C.A C.n C.c, .slice a.A a.n a.c, .slice u.A u.n u.c, s.val] w fun e w' => e = .returned (.bool true) ∧ Gr w w' := by
  rcases hf with hf | ⟨hf, hq | ⟨hq, har⟩⟩
  · have HF := Lib.hid (fun W (hh : Gr w W) => few_any C a s W (hC.gr hh) (ha.gr hh) (hs.gr hh))
    rw [hf] at HF
    have mu := Nat.le_trans hu.hc hu.hb
    have ms := Nat.le_trans hs.2.2.hc hs.2.2.hb
    unfold Ba.Ser.val at HF ⊢
    clear hC ha hs hu
    go_enter Try.func7, Try.ntmps7
    go_wp2_with fail
    refine (awake_any _).mono ?_
    rintro e w1 ⟨rfl, hb1⟩
    have g1 : Gr w w1 := Gr.trans (Gr.alloc (Gr.refl w) _) hb1
    have c0 : w1.cell? ⟨w.heap.size, 0, none⟩ = some (.int .i64 s.fr) := Gr.at hb1 (by simp [go_sem])
    have c1 : w1.cell? ⟨w.heap.size, 1, none⟩ = some (.int .i64 s.st) := Gr.at hb1 (by simp [go_sem])
    have c2 : w1.cell? ⟨w.heap.size, 2, none⟩ = some (.slice s.ds.A s.ds.n s.ds.c) := Gr.at hb1 (by simp [go_sem])
    clear hb1
    go_wp2_with fail
    refine (HF.out _ (by exact g1)).mono ?_
    rintro e w2 ⟨rfl, hb2⟩
    have g2 := g1.trans hb2
    replace c0 := Gr.at hb2 c0; replace c1 := Gr.at hb2 c1; replace c2 := Gr.at hb2 c2
    go_wp2_with fail
    go_ret
    exact ⟨rfl, gr_auto⟩
  · have HF := Lib.hid (fun W (hh : Gr w W) => few_any C a s W (hC.gr hh) (ha.gr hh) (hs.gr hh))
    rw [hf] at HF
    have mu := Nat.le_trans hu.hc hu.hb
    have ms := Nat.le_trans hs.2.2.hc hs.2.2.hb
    unfold Ba.Ser.val at HF ⊢
    clear hC ha hs hu
    have q1 : (60 : Int) < (u.n : Int) := by omega
    clear hq
    go_enter Try.func7, Try.ntmps7
    go_wp2_with fail
    refine (awake_any _).mono ?_
    rintro e w1 ⟨rfl, hb1⟩
    have g1 : Gr w w1 := Gr.trans (Gr.alloc (Gr.refl w) _) hb1
    have c0 : w1.cell? ⟨w.heap.size, 0, none⟩ = some (.int .i64 s.fr) := Gr.at hb1 (by simp [go_sem])
    have c1 : w1.cell? ⟨w.heap.size, 1, none⟩ = some (.int .i64 s.st) := Gr.at hb1 (by simp [go_sem])
    have c2 : w1.cell? ⟨w.heap.size, 2, none⟩ = some (.slice s.ds.A s.ds.n s.ds.c) := Gr.at hb1 (by simp [go_sem])
    clear hb1
    go_wp2_with fail
    refine (HF.out _ (by exact g1)).mono ?_
    rintro e w2 ⟨rfl, hb2⟩
    have g2 := g1.trans hb2
    replace c0 := Gr.at hb2 c0; replace c1 := Gr.at hb2 c1; replace c2 := Gr.at hb2 c2
    go_wp2_with fail
    go_ret
    exact ⟨rfl, gr_auto⟩
  · have HF := Lib.hid (fun W (hh : Gr w W) => few_any C a s W (hC.gr hh) (ha.gr hh) (hs.gr hh))
    rw [hf] at HF
    have mu := Nat.le_trans hu.hc hu.hb
    have ms := Nat.le_trans hs.2.2.hc hs.2.2.hb
    have HCF := Lib.hid (fun W (hh : Gr w W) => has_int 30 #[] a (fun i => decide ((131072 : Int) < a.X i)) W (ha.gr hh) (enter_of Try.func30 (by kernel_rfl) (by kernel_rfl)) fun i _ W' _ => gr_of (whf_any (a.X i) W'))
    rw [show Ba.any (fun i => decide ((131072 : Int) < a.X i)) a.n = true from har] at HCF
    unfold Ba.Ser.val at HF ⊢
    clear hC ha hs hu
    have q1 : (u.n : Int) ≤ 60 := by omega
    clear hq
    go_enter Try.func7, Try.ntmps7
    go_wp2_with fail
    refine (awake_any _).mono ?_
    rintro e w1 ⟨rfl, hb1⟩
    have g1 : Gr w w1 := Gr.trans (Gr.alloc (Gr.refl w) _) hb1
    have c0 : w1.cell? ⟨w.heap.size, 0, none⟩ = some (.int .i64 s.fr) := Gr.at hb1 (by simp [go_sem])
    have c1 : w1.cell? ⟨w.heap.size, 1, none⟩ = some (.int .i64 s.st) := Gr.at hb1 (by simp [go_sem])
    have c2 : w1.cell? ⟨w.heap.size, 2, none⟩ = some (.slice s.ds.A s.ds.n s.ds.c) := Gr.at hb1 (by simp [go_sem])
    clear hb1
    go_wp2_with fail
    refine (HF.out _ (by exact g1)).mono ?_
    rintro e w2 ⟨rfl, hb2⟩
    have g2 := g1.trans hb2
    replace c0 := Gr.at hb2 c0; replace c1 := Gr.at hb2 c1; replace c2 := Gr.at hb2 c2
    go_wp2_with fail
    refine (HCF.out _ (by exact g2)).mono ?_
    rintro e w3 ⟨rfl, hb3⟩
    have g3 := g2.trans hb3
    replace c0 := Gr.at hb3 c0; replace c1 := Gr.at hb3 c1; replace c2 := Gr.at hb3 c2
    go_wp2_with fail
    go_ret
    exact ⟨rfl, gr_auto⟩

set_option maxRecDepth 100000 in
set_option maxHeartbeats 8000000 in
theorem wherr (C : Ba.SlClass) (a u : Ba.SlI) (s : Ba.Ser) (w : World) (hC : C.At w) (ha : a.At w) (hu : u.At w) (hs : s.Ok w) (hf : Ba.fewB C a s = true) (h60 : u.n ≤ 60) (har : Ba.areB a = false) (he : Ba.depE C a s ≠ 0) : Calls Try.prog 7 #[.slice C.A C.n C.c, .slice a.A a.n a.c, .slice u.A u.n u.c, s.val] w fun e w' => e = .returned (.bool true) ∧ Gr w w' := by
  have HF := Lib.hid (fun W (hh : Gr w W) => few_any C a s W (hC.gr hh) (ha.gr hh) (hs.gr hh))
  rw [hf] at HF
  have mu := Nat.le_trans hu.hc hu.hb
  have ms := Nat.le_trans hs.2.2.hc hs.2.2.hb
  have HCF := Lib.hid (fun W (hh : Gr w W) => has_int 30 #[] a (fun i => decide ((131072 : Int) < a.X i)) W (ha.gr hh) (enter_of Try.func30 (by kernel_rfl) (by kernel_rfl)) fun i _ W' _ => gr_of (whf_any (a.X i) W'))
  rw [show Ba.any (fun i => decide ((131072 : Int) < a.X i)) a.n = false from har] at HCF
  have hfew := Ba.few_le hf
  have q1 : (u.n : Int) ≤ 60 := by omega
  have H1 := Lib.hid (fun W (hh : Gr w W) => dep_any C a s W (hC.gr hh) (ha.gr hh) (hs.gr hh))
  have H2 := Lib.hid (fun W (hh : Gr w W) => of_any C a u s W (hC.gr hh) (ha.gr hh) (hu.gr hh) (hs.gr hh) (by omega))
  unfold Ba.Ser.val at HF H1 H2 ⊢
  unfold RetDep at H1
  unfold RetOf at H2
  have hE2 : Ba.ofE C a u s ≠ 0 := by
    unfold Ba.ofE
    split
    · first | exact he | (rw [if_neg he]; exact he)
    · decide
  obtain ⟨E, hE⟩ : ∃ z, Ba.ofE C a u s = z := ⟨_, rfl⟩
  rw [hE] at H2 hE2
  clear hE
  obtain ⟨D, hD⟩ : ∃ z, Ba.depE C a s = z := ⟨_, rfl⟩
  rw [hD] at H1 he
  clear hD
  have e1 : (D == 0) = false := beq_eq_false_iff_ne.2 he
  have e2 : (E == 0) = false := beq_eq_false_iff_ne.2 hE2
  have e3 : (E != 0) = true := bne_iff_ne.2 hE2
  clear hC ha hs hu
  go_enter Try.func7, Try.ntmps7
  go_wp2_with fail
  refine (awake_any _).mono ?_
  rintro e w1 ⟨rfl, hb1⟩
  have g1 : Gr w w1 := Gr.trans (Gr.alloc (Gr.refl w) _) hb1
  have c0 : w1.cell? ⟨w.heap.size, 0, none⟩ = some (.int .i64 s.fr) := Gr.at hb1 (by simp [go_sem])
  have c1 : w1.cell? ⟨w.heap.size, 1, none⟩ = some (.int .i64 s.st) := Gr.at hb1 (by simp [go_sem])
  have c2 : w1.cell? ⟨w.heap.size, 2, none⟩ = some (.slice s.ds.A s.ds.n s.ds.c) := Gr.at hb1 (by simp [go_sem])
  clear hb1
  go_wp2_with fail
  refine (HF.out _ (by exact g1)).mono ?_
  rintro e w2 ⟨rfl, hb2⟩
  have g2 := g1.trans hb2
  replace c0 := Gr.at hb2 c0; replace c1 := Gr.at hb2 c1; replace c2 := Gr.at hb2 c2
  go_wp2_with fail
  refine (HCF.out _ (by exact g2)).mono ?_
  rintro e w3 ⟨rfl, hb3⟩
  have g3 := g2.trans hb3
  replace c0 := Gr.at hb3 c0; replace c1 := Gr.at hb3 c1; replace c2 := Gr.at hb3 c2
  go_wp2_with fail
  refine (H1.out _ (by exact g3)).mono ?_
  rintro e w4 ⟨r, rfl, r1, r2, r3, hb4⟩
  have g4 := g3.trans hb4
  replace c0 := Gr.at hb4 c0; replace c1 := Gr.at hb4 c1; replace c2 := Gr.at hb4 c2
  have rn : (r.n : Int) = 0 := by have := r3 he; omega
  clear r1 r2 r3 H1
  go_wp2_with fail
  refine (H2.out _ (by exact g4)).mono ?_
  rintro e w5 ⟨q, rfl, q1_, q2_, q3_, hb5⟩
  have g5 := g4.trans hb5
  have qn : (q.n : Int) = 0 := by have := q3_ hE2; omega
  clear q1_ q2_ q3_ H2
  go_wp2_with fail
  go_ret
  exact ⟨rfl, g5⟩

namespace Ba
theorem los_bd {C : SlClass} {a : SlI} {s : Ser} (R : Right C a s) {i : Nat} (hi : i < C.n) : 0 ≤ losJ C s i s.ds.n ∧ losJ C s i s.ds.n ≤ 1000 * sumP s.ds.X s.ds.n := by
  have ob : ∀ j, j < s.ds.n → 0 ≤ offJ C s i j ∧ offJ C s i j ≤ 1000 * dpt s j := fun j hj => ((R.fit hi j (by omega)).parts (R.dep hj)).2.2
  have h : ∀ j, j ≤ s.ds.n → 0 ≤ losJ C s i j ∧ losJ C s i j ≤ 1000 * sumP s.ds.X j := fun j hj => by
    induction j with
    | zero => unfold losJ sumP; rw [sumI, sumI]; omega
    | succ j ih =>
      have h1 := ih (by omega)
      have h2 := ob j (by omega); have h3 := R.dep (j := j) (by omega)
      have e : losJ C s i (j + 1) = losJ C s i j + (1000 * dpt s j - offJ C s i j) := rfl
      have e2 : sumP s.ds.X (j + 1) = sumP s.ds.X j + dpt s j := rfl
      rw [e, e2]; omega
  exact h _ (Nat.le_refl _)
theorem tot_bd {C : SlClass} {a : SlI} {s : Ser} (R : Right C a s) (h : ∀ i, i < C.n → a.X i ≤ 131072) : ∀ i, i ≤ C.n → 0 ≤ sumI (fun i => a.X i * (1000 * sumP s.ds.X s.ds.n - losJ C s i s.ds.n)) i ∧ sumI (fun i => a.X i * (1000 * sumP s.ds.X s.ds.n - losJ C s i s.ds.n)) i ≤ 4611686018427387904 := fun i hi => by
  have b := sumI_le (X := fun i => a.X i * (1000 * sumP s.ds.X s.ds.n - losJ C s i s.ds.n)) (lo := 0) (hi := 140737488355328000) (n := i) fun j hj => by
    have l := los_bd R (i := j) (by omega)
    have m := (R.mtr j (by omega)).1
    have p0 : 0 ≤ a.X j * (1000 * sumP s.ds.X s.ds.n - losJ C s j s.ds.n) := Int.mul_nonneg m (by omega)
    have p1 : a.X j * (1000 * sumP s.ds.X s.ds.n - losJ C s j s.ds.n) ≤ 131072 * 1073741824000 := Int.mul_le_mul (h j (by omega)) (by have := R.rain; omega) (by omega) (by omega)
    omega
  have := R.few
  have : (i : Int) ≤ 16 := by omega
  omega
end Ba
theorem gtot_any (s : Ba.Ser) (w : World) (hs : s.Ok w) (h : Ba.serB s = true) : Calls Try.prog 31 #[s.val] w fun e w' => ∃ m : Int, e = .returned (.tuple #[.int .i64 (Ba.sumP s.ds.X s.ds.n), .int .i64 m, .int .i64 0]) ∧ Gr w w' := by
  have sp := Ba.ser_parts h
  refine gtotal_ok s.fr s.st s.ds.A s.ds.n s.ds.c s.ds.b s.ds.o s.ds.X (Ba.sumP s.ds.X) w sp.2.2.1 (Lib.hid fun W hW => ?_) (Lib.hid hs.2.2.hA) (Lib.hid fun i hi => ⟨(hs.2.2.hX i hi).1, sp.2.2.2 i hi⟩) (Lib.hid rfl) (Lib.hid fun _ => rfl) (Lib.hid fun i hi => ?_)
  · have z := gvalid_any s W (hs.gr hW)
    rw [h] at z
    exact z
  · have z := Ba.sumP_le (X := s.ds.X) (n := i) (hi := 4194304) (by omega) fun j hj => (sp.2.2.2 j (by omega)).2
    have : (i : Int) ≤ 10000 := by omega
    omega

set_option maxRecDepth 100000 in
set_option maxHeartbeats 8000000 in
theorem whmain (C : Ba.SlClass) (a u : Ba.SlI) (s : Ba.Ser) (w : World) (hC : C.At w) (ha : a.At w) (hu : u.At w) (hs : s.Ok w) (hf : Ba.fewB C a s = true) (h60 : u.n ≤ 60) (har : Ba.areB a = false) (he : Ba.depE C a s = 0) : Calls Try.prog 7 #[.slice C.A C.n C.c, .slice a.A a.n a.c, .slice u.A u.n u.c, s.val] w fun e w' => e = .returned (.bool true) ∧ Gr w w' := by
  have HF := Lib.hid (fun W (hh : Gr w W) => few_any C a s W (hC.gr hh) (ha.gr hh) (hs.gr hh))
  rw [hf] at HF
  have mu := Nat.le_trans hu.hc hu.hb
  have ms := Nat.le_trans hs.2.2.hc hs.2.2.hb
  have HCF := Lib.hid (fun W (hh : Gr w W) => has_int 30 #[] a (fun i => decide ((131072 : Int) < a.X i)) W (ha.gr hh) (enter_of Try.func30 (by kernel_rfl) (by kernel_rfl)) fun i _ W' _ => gr_of (whf_any (a.X i) W'))
  rw [show Ba.any (fun i => decide ((131072 : Int) < a.X i)) a.n = false from har] at HCF
  have hfew := Ba.few_le hf
  have q1 : (u.n : Int) ≤ 60 := by omega
  have R := (Ba.dep_right he).1
  have OB := (Ba.dep_right he).2
  have H1 := Lib.hid (fun W (hh : Gr w W) => dep_good C a s W (hC.gr hh) (ha.gr hh) (hs.gr hh) he)
  have H2 := Lib.hid (fun W (hh : Gr w W) => of_any C a u s W (hC.gr hh) (ha.gr hh) (hu.gr hh) (hs.gr hh) (by omega))
  have hsm := Ba.of_sum (C := C) (a := a) (u := u) (s := s)
  have hbd := Ba.sumI_bd (X := Ba.out C a s) (n := s.ds.n) (by omega) OB
  have HT := Lib.hid (fun W (hh : Gr w W) => gtot_any s W (hs.gr hh) R.ser)
  have HCl := Lib.hid (fun W (hh : Gr w W) => clonez_any s.ds W (hs.2.2.gr hh) (by omega))
  have HLO := Lib.hid (fun i (hi : i < C.n) (x : Ba.SlI) W (hh : Gr w W) (hx : x.At W) (xn : x.n = s.ds.n) (xX : ∀ j, j < s.ds.n → x.X j = Ba.dpt s j) => lost_any C a s R i hi (by omega) x W ((hC.hD i hi).2.gr hh) hx xn xX)
  have HQ := Lib.hid (show Ba.sumI (fun i => a.X i * (1000 * Ba.sumP s.ds.X s.ds.n - Ba.losJ C s i s.ds.n)) C.n / 1000 = Ba.sumI (Ba.out C a s) s.ds.n from by rw [Ba.tot_vol, Ba.out_quot])
  have HLB := Lib.hid (fun i (hi : i < C.n) => Ba.los_bd (C := C) (a := a) R hi)
  have HTB := Lib.hid (Ba.tot_bd (C := C) (a := a) R fun i hi => Ba.are_no har (show i < a.n by rw [R.n]; exact hi))
  have rb := R.rain
  have rb0 : 0 ≤ Ba.sumP s.ds.X s.ds.n := (Ba.sumP_le (X := s.ds.X) (n := s.ds.n) (hi := 4194304) (by omega) fun i hi => by have := ((Ba.ser_parts R.ser).2.2.2 i hi).2; omega).1
  have HAR := Lib.hid (fun i (hi : i < C.n) => show (0 ≤ a.X i ∧ a.X i ≤ 131072) ∧ w.cell? ⟨a.b, a.o + i, none⟩ = some (.int .i64 (a.X i)) from ⟨⟨(R.mtr i hi).1, Ba.are_no har (by rw [R.n]; exact hi)⟩, (ha.hX i (by rw [R.n]; exact hi)).1⟩)
  have HCA := Lib.hid (hC.hA (show 0 < C.n from by have := R.few; omega))
  have HAA := Lib.hid (ha.hA (show 0 < a.n from by have := R.few; rw [R.n]; omega))
  have Han := Lib.hid R.n
  have fw := R.few
  have HCD := Lib.hid (fun i (hi : i < C.n) => (hC.hD i hi).1)
  have HSX := Lib.hid (fun i (hi : i < s.ds.n) => (hs.2.2.hX i hi).2)
  have HDP := Lib.hid (fun j (hj : j < s.ds.n) => R.dep hj)
  obtain ⟨E, hE⟩ : ∃ z, Ba.ofE C a u s = z := ⟨_, rfl⟩
  have hER := Ba.of_errs (C := C) (a := a) (u := u) (s := s) he (by omega) h60
  unfold Ba.Ser.val at HF H1 H2 HT ⊢
  unfold RetOf at H2
  rw [hE] at H2 hER
  clear hE
  replace OB := Lib.hid OB; replace hbd := Lib.hid hbd; replace hsm := Lib.hid hsm; replace hER := Lib.hid hER
  clear hC ha hs hu R
  go_enter Try.func7, Try.ntmps7
  go_wp2_with fail
  refine (awake_any _).mono ?_
  rintro e w1 ⟨rfl, hb1⟩
  have g1 : Gr w w1 := Gr.trans (Gr.alloc (Gr.refl w) _) hb1
  have c0 : w1.cell? ⟨w.heap.size, 0, none⟩ = some (.int .i64 s.fr) := Gr.at hb1 (by simp [go_sem])
  have c1 : w1.cell? ⟨w.heap.size, 1, none⟩ = some (.int .i64 s.st) := Gr.at hb1 (by simp [go_sem])
  have c2 : w1.cell? ⟨w.heap.size, 2, none⟩ = some (.slice s.ds.A s.ds.n s.ds.c) := Gr.at hb1 (by simp [go_sem])
  clear hb1
  go_wp2_with fail
  refine (HF.out _ (by exact g1)).mono ?_
  rintro e w2 ⟨rfl, hb2⟩
  have g2 := g1.trans hb2
  replace c0 := Gr.at hb2 c0; replace c1 := Gr.at hb2 c1; replace c2 := Gr.at hb2 c2
  go_wp2_with fail
  refine (HCF.out _ (by exact g2)).mono ?_
  rintro e w3 ⟨rfl, hb3⟩
  have g3 := g2.trans hb3
  replace c0 := Gr.at hb3 c0; replace c1 := Gr.at hb3 c1; replace c2 := Gr.at hb3 c2
  go_wp2_with fail
  refine (H1.out _ (by exact g3)).mono ?_
  rintro e w4 ⟨rA, rc, rb_, ro, rfl, r1, hb4⟩
  have g4 := g3.trans hb4
  replace c0 := Gr.at hb4 c0; replace c1 := Gr.at hb4 c1; replace c2 := Gr.at hb4 c2
  have HS := Lib.hid (fun W (hh : Gr w4 W) => lsum_any ⟨rA, s.ds.n, rc, rb_, ro, Ba.out C a s⟩ W (r1.gr hh) hbd.out)
  clear r1 H1
  go_wp2_with fail
  refine (H2.out _ (by exact g4)).mono ?_
  rintro e w5 ⟨q, rfl, q1_, q2_, q3_, hb5⟩
  have g5 := g4.trans hb5
  replace c0 := Gr.at hb5 c0; replace c1 := Gr.at hb5 c1; replace c2 := Gr.at hb5 c2
  clear H2
  (try simp only at HS)
  obtain ⟨SZ, hSZ⟩ : ∃ z, Ba.sumI (Ba.out C a s) s.ds.n = z := ⟨_, rfl⟩
  rw [hSZ] at HS HQ hsm
  clear hSZ
  rcases hER.out with ⟨rfl, hv, hof⟩ | rfl | rfl
  · obtain ⟨q4, q5⟩ := q2_ rfl
    have HSq := Lib.hid (fun W (hh : Gr w5 W) => show Calls Try.prog 14 #[.slice q.A q.n q.c] W fun e w' => e = .returned (.int .i64 SZ) ∧ Gr W w' from by
      have hq : ∀ j, j < q.n → 0 ≤ q.X j ∧ q.X j ≤ 1125899906842624 := fun j hj => by
        rw [q5 j hj]
        rcases hof with h0 | h0
        · unfold Ba.ofN at q4; rw [if_pos h0] at q4; omega
        · refine h0 j ?_
          unfold Ba.ofN at q4
          split at q4 <;> omega
      have hn : q.n ≤ 200 := by unfold Ba.ofN at q4; split at q4 <;> omega
      have z := lsum_any q W (q1_.gr hh) (Ba.sumI_bd hn hq)
      rw [show Ba.sumI q.X q.n = SZ from by rw [Ba.sumI_congr q5, q4]; exact hsm.out hv] at z
      exact z)
    clear q1_ q2_ q3_ q4 q5 hof hv
    have bq : (SZ != SZ) = false := by simp
    go_wp2_with fail
    refine (HSq.out _ (by exact Gr.refl _)).mono ?_
    rintro e w6 ⟨rfl, hb6⟩
    have g6 := g5.trans hb6
    replace c0 := Gr.at hb6 c0; replace c1 := Gr.at hb6 c1; replace c2 := Gr.at hb6 c2
    have gd6 := hb5.trans hb6
    go_wp2_with fail
    refine (HS.out _ (by exact gd6)).mono ?_
    rintro e w7 ⟨rfl, hb7⟩
    have g7 := g6.trans hb7
    replace c0 := Gr.at hb7 c0; replace c1 := Gr.at hb7 c1; replace c2 := Gr.at hb7 c2
    have gd7 := gd6.trans hb7
    go_wp2_with fail
    clear HSq bq
    refine (HT.out _ (by exact g7)).mono ?_
    rintro e w8 ⟨m, rfl, hb8⟩
    have g8 := g7.trans hb8
    replace c0 := Gr.at hb8 c0; replace c1 := Gr.at hb8 c1; replace c2 := Gr.at hb8 c2
    have gd8 := gd7.trans hb8
    clear HT
    go_wp2_with fail
    refine (HCl.out _ (by exact g8)).mono ?_
    rintro e w9 ⟨A9, c9, G, rfl, hA9, hG, hc9, hm9, hrow, hb9⟩
    replace hA9 := Lib.hid hA9; replace hrow := Lib.hid hrow
    have y0 := Gr.at hb9 c0; have y1 := Gr.at hb9 c1; have y2 := Gr.at hb9 c2
    clear HCl
    go_wp2_with fail
    go_loopw [115] (fun x wr => ∃ i : Nat, i ≤ s.ds.n ∧ x = .int .i64 (i : Int) ∧ Hid (Row wr G s.ds.n (fun j => .int .i64 (if j < i then Ba.dpt s j else s.ds.X j))) ∧ Gr w8 wr) (fun x _ => s.ds.n - (intOf x).toNat)
    case atStart => exact ⟨0, Nat.zero_le _, rfl, hrow, hb9⟩
    case round =>
      clear hrow
      obtain ⟨i, hi, rfl, HR, hg⟩ := hrel
      have d0 := Gr.at hg c0; have d1 := Gr.at hg c1; have d2 := Gr.at hg c2
      by_cases hlt : i < s.ds.n
      · obtain rfl := hA9.out (by omega)
        have r0 : wr.cell? ⟨G, i, none⟩ = some (.int .i64 (s.ds.X i)) := by
          have z := (HR.out i hlt).1
          simp only [Nat.lt_irrefl, if_false] at z
          exact z
        have r1 := (HR.out i hlt).2
        have ib0 : (0 : Int) ≤ (i : Int) := by omega
        have ib1 : (i : Int) < (s.ds.n : Int) := by omega
        have HRn := Lib.hid (fun x (hx : x = Ba.dpt s i) => show Row (wr.setCell ⟨G, i, none⟩ (.int .i64 x)) G s.ds.n (fun j => .int .i64 (if j < i + 1 then Ba.dpt s j else s.ds.X j)) from Row.set (k := i) HR.out (by show Value.int .i64 _ = _; rw [if_pos (Nat.lt_succ_self i), hx]) (fun j _ hj => by
          show Value.int .i64 _ = Value.int .i64 _
          by_cases c : j < i
          · rw [if_pos c, if_pos (by omega)]
          · rw [if_neg c, if_neg (by omega)]))
        have HGn := Lib.hid (fun x => Gr.setCell hg (p := ⟨G, i, none⟩) hG x)
        have HXE := Lib.hid (show max 0 (s.ds.X i) = Ba.dpt s i from rfl)
        clear HR
        generalize s.ds.X i = x at *
        obtain ⟨y, hy⟩ : ∃ y, max 0 x = y := ⟨_, rfl⟩
        rw [hy] at HXE
        go_wp2_with fail
        go_roundw
        case rel => exact ⟨i + 1, by omega, by go_num, HRn.out _ HXE.out, HGn.out _⟩
        case measure => simp [intOf]; omega
      · obtain rfl : s.ds.n = i := by omega
        have HR2 := Lib.hid (show Row wr G s.ds.n (fun j => .int .i64 (Ba.dpt s j)) from fun j hj => by have z := HR.out j hj; simp only [hj, if_true] at z; exact z)
        have hg0 := hg
        have HX9 := Lib.hid (fun W (hh : Gr wr W) => show Ba.SlI.At W ⟨A9, s.ds.n, c9, G, 0, Ba.dpt s⟩ from ⟨hA9.out, hc9, hm9, fun j hj => by
          simp only [Nat.zero_add]
          refine ⟨Gr.at hh (HR2.out j hj).1, ?_⟩
          have := HDP.out j hj
          unfold Ba.i64; omega⟩)
        clear HR HR2
        have hca := HCA.out; have haa := HAA.out
        go_wp2_with fail
        go_loopw [19, 128] (fun v x wz => ∃ i : Nat, i ≤ C.n ∧ x = .int .i64 (i : Int) ∧ v = .int .i64 (Ba.sumI (fun i => a.X i * (1000 * Ba.sumP s.ds.X s.ds.n - Ba.losJ C s i s.ds.n)) i) ∧ Gr wr wz) (fun _ x _ => C.n - (intOf x).toNat)
        case atStart => exact ⟨0, Nat.zero_le _, rfl, rfl, Gr.refl _⟩
        case round =>
          rename_i wq _
          obtain ⟨i, hi, rfl, rfl, hgz⟩ := hrel
          have f0 := Gr.at hgz d0; have f1 := Gr.at hgz d1; have f2 := Gr.at hgz d2
          have zB2 : w.heap.size < wr.heap.size := World.block_lt_of_cell? _ _ f0
          have zB3 := Nat.ne_of_lt zB2
          have tb := HTB.out i hi
          have gz := (g8.trans hg0).trans hgz
          by_cases hlt : i < C.n
          · have tb2 := HTB.out (i + 1) hlt
            have T := Lib.hid (show Ba.sumI (fun i => a.X i * (1000 * Ba.sumP s.ds.X s.ds.n - Ba.losJ C s i s.ds.n)) (i + 1) = Ba.sumI (fun i => a.X i * (1000 * Ba.sumP s.ds.X s.ds.n - Ba.losJ C s i s.ds.n)) i + a.X i * (1000 * Ba.sumP s.ds.X s.ds.n - Ba.losJ C s i s.ds.n) from rfl)
            rw [T.out] at tb2
            obtain ⟨d0_, d1_, d2_, d3_, d4_⟩ := (HCD.out i hlt).gr gz
            obtain ⟨⟨x0, x1⟩, a0⟩ := HAR.out i hlt
            replace a0 := Gr.at gz a0
            have lb := HLB.out i hlt
            have ib0 : (0 : Int) ≤ (i : Int) := by omega
            have ib1 : (i : Int) < (C.n : Int) := by omega
            have ib2 : (i : Int) < (a.n : Int) := by have := Han.out; omega
            have HLi := Lib.hid (fun W (hh : Gr wr W) => HLO.out i hlt ⟨A9, s.ds.n, c9, G, 0, Ba.dpt s⟩ W (gz.trans hh) (HX9.out W (hgz.trans hh)) rfl (fun _ _ => rfl))
            have p0 : 0 ≤ a.X i * (1000 * Ba.sumP s.ds.X s.ds.n - Ba.losJ C s i s.ds.n) := Int.mul_nonneg x0 (by omega)
            have p1 : a.X i * (1000 * Ba.sumP s.ds.X s.ds.n - Ba.losJ C s i s.ds.n) ≤ 131072 * 1073741824000 := Int.mul_le_mul x1 (by omega) (by omega) (by omega)
            simp only at HLi
            clear HLO HX9 HQ HTB HLB HCD HAR HS
            generalize Ba.sumI (fun i => a.X i * (1000 * Ba.sumP s.ds.X s.ds.n - Ba.losJ C s i s.ds.n)) i = tt at *
            generalize Ba.losJ C s i s.ds.n = lo at *
            generalize a.X i = ax at *
            obtain ⟨pr, hpr⟩ : ∃ z, ax * (1000 * Ba.sumP s.ds.X s.ds.n - lo) = z := ⟨_, rfl⟩
            rw [hpr] at T tb2 p0 p1
            unfold Ba.Class.val at HLi
            generalize C.D i = dd at *
            obtain ⟨nm, se, we, ro, dr⟩ := dd
            simp only at HLi d0_ d1_ d2_ d3_ d4_
            go_wp2_with fail
            refine (HLi.out _ (by exact gr_auto)).mono ?_
            rintro e w12 ⟨rfl, hb12⟩
            have hbz : Gr wr w12 := Gr.trans gr_auto hb12
            have a1 := Gr.at hbz a0
            have gwz := hgz.trans hbz
            clear HLi d0_ d1_ d2_ d3_ d4_
            go_wp2_with fail
            simp only [← hca, ← haa]
            clear hca haa
            go_roundw
            case rel => exact ⟨i + 1, by omega, by go_num, by rw [T.out], gwz⟩
            case measure => simp [intOf]; omega
          · obtain rfl : C.n = i := by omega
            have hq := HQ.out
            clear HLO HX9 HTB HLB HCD HAR HQ
            generalize Ba.sumI (fun i => a.X i * (1000 * Ba.sumP s.ds.X s.ds.n - Ba.losJ C s i s.ds.n)) C.n = tt at *
            go_wp2_with fail
            refine (HS.out _ (by exact ((gd8.trans hg0).trans hgz))).mono ?_
            rintro e w12 ⟨rfl, hb12⟩
            go_wp2_with fail
            go_ret
            exact ⟨by simp, gz.trans hb12⟩
  · clear q1_ q2_ q3_
    have g7 := g5
    have gd7 := hb5
    go_wp2_with fail
    refine (HT.out _ (by exact g7)).mono ?_
    rintro e w8 ⟨m, rfl, hb8⟩
    have g8 := g7.trans hb8
    replace c0 := Gr.at hb8 c0; replace c1 := Gr.at hb8 c1; replace c2 := Gr.at hb8 c2
    have gd8 := gd7.trans hb8
    clear HT
    go_wp2_with fail
    refine (HCl.out _ (by exact g8)).mono ?_
    rintro e w9 ⟨A9, c9, G, rfl, hA9, hG, hc9, hm9, hrow, hb9⟩
    replace hA9 := Lib.hid hA9; replace hrow := Lib.hid hrow
    have y0 := Gr.at hb9 c0; have y1 := Gr.at hb9 c1; have y2 := Gr.at hb9 c2
    clear HCl
    go_wp2_with fail
    go_loopw [115] (fun x wr => ∃ i : Nat, i ≤ s.ds.n ∧ x = .int .i64 (i : Int) ∧ Hid (Row wr G s.ds.n (fun j => .int .i64 (if j < i then Ba.dpt s j else s.ds.X j))) ∧ Gr w8 wr) (fun x _ => s.ds.n - (intOf x).toNat)
    case atStart => exact ⟨0, Nat.zero_le _, rfl, hrow, hb9⟩
    case round =>
      clear hrow
      obtain ⟨i, hi, rfl, HR, hg⟩ := hrel
      have d0 := Gr.at hg c0; have d1 := Gr.at hg c1; have d2 := Gr.at hg c2
      by_cases hlt : i < s.ds.n
      · obtain rfl := hA9.out (by omega)
        have r0 : wr.cell? ⟨G, i, none⟩ = some (.int .i64 (s.ds.X i)) := by
          have z := (HR.out i hlt).1
          simp only [Nat.lt_irrefl, if_false] at z
          exact z
        have r1 := (HR.out i hlt).2
        have ib0 : (0 : Int) ≤ (i : Int) := by omega
        have ib1 : (i : Int) < (s.ds.n : Int) := by omega
        have HRn := Lib.hid (fun x (hx : x = Ba.dpt s i) => show Row (wr.setCell ⟨G, i, none⟩ (.int .i64 x)) G s.ds.n (fun j => .int .i64 (if j < i + 1 then Ba.dpt s j else s.ds.X j)) from Row.set (k := i) HR.out (by show Value.int .i64 _ = _; rw [if_pos (Nat.lt_succ_self i), hx]) (fun j _ hj => by
          show Value.int .i64 _ = Value.int .i64 _
          by_cases c : j < i
          · rw [if_pos c, if_pos (by omega)]
          · rw [if_neg c, if_neg (by omega)]))
        have HGn := Lib.hid (fun x => Gr.setCell hg (p := ⟨G, i, none⟩) hG x)
        have HXE := Lib.hid (show max 0 (s.ds.X i) = Ba.dpt s i from rfl)
        clear HR
        generalize s.ds.X i = x at *
        obtain ⟨y, hy⟩ : ∃ y, max 0 x = y := ⟨_, rfl⟩
        rw [hy] at HXE
        go_wp2_with fail
        go_roundw
        case rel => exact ⟨i + 1, by omega, by go_num, HRn.out _ HXE.out, HGn.out _⟩
        case measure => simp [intOf]; omega
      · obtain rfl : s.ds.n = i := by omega
        have HR2 := Lib.hid (show Row wr G s.ds.n (fun j => .int .i64 (Ba.dpt s j)) from fun j hj => by have z := HR.out j hj; simp only [hj, if_true] at z; exact z)
        have hg0 := hg
        have HX9 := Lib.hid (fun W (hh : Gr wr W) => show Ba.SlI.At W ⟨A9, s.ds.n, c9, G, 0, Ba.dpt s⟩ from ⟨hA9.out, hc9, hm9, fun j hj => by
          simp only [Nat.zero_add]
          refine ⟨Gr.at hh (HR2.out j hj).1, ?_⟩
          have := HDP.out j hj
          unfold Ba.i64; omega⟩)
        clear HR HR2
        have hca := HCA.out; have haa := HAA.out
        go_wp2_with fail
        go_loopw [19, 128] (fun v x wz => ∃ i : Nat, i ≤ C.n ∧ x = .int .i64 (i : Int) ∧ v = .int .i64 (Ba.sumI (fun i => a.X i * (1000 * Ba.sumP s.ds.X s.ds.n - Ba.losJ C s i s.ds.n)) i) ∧ Gr wr wz) (fun _ x _ => C.n - (intOf x).toNat)
        case atStart => exact ⟨0, Nat.zero_le _, rfl, rfl, Gr.refl _⟩
        case round =>
          rename_i wq _
          obtain ⟨i, hi, rfl, rfl, hgz⟩ := hrel
          have f0 := Gr.at hgz d0; have f1 := Gr.at hgz d1; have f2 := Gr.at hgz d2
          have zB2 : w.heap.size < wr.heap.size := World.block_lt_of_cell? _ _ f0
          have zB3 := Nat.ne_of_lt zB2
          have tb := HTB.out i hi
          have gz := (g8.trans hg0).trans hgz
          by_cases hlt : i < C.n
          · have tb2 := HTB.out (i + 1) hlt
            have T := Lib.hid (show Ba.sumI (fun i => a.X i * (1000 * Ba.sumP s.ds.X s.ds.n - Ba.losJ C s i s.ds.n)) (i + 1) = Ba.sumI (fun i => a.X i * (1000 * Ba.sumP s.ds.X s.ds.n - Ba.losJ C s i s.ds.n)) i + a.X i * (1000 * Ba.sumP s.ds.X s.ds.n - Ba.losJ C s i s.ds.n) from rfl)
            rw [T.out] at tb2
            obtain ⟨d0_, d1_, d2_, d3_, d4_⟩ := (HCD.out i hlt).gr gz
            obtain ⟨⟨x0, x1⟩, a0⟩ := HAR.out i hlt
            replace a0 := Gr.at gz a0
            have lb := HLB.out i hlt
            have ib0 : (0 : Int) ≤ (i : Int) := by omega
            have ib1 : (i : Int) < (C.n : Int) := by omega
            have ib2 : (i : Int) < (a.n : Int) := by have := Han.out; omega
            have HLi := Lib.hid (fun W (hh : Gr wr W) => HLO.out i hlt ⟨A9, s.ds.n, c9, G, 0, Ba.dpt s⟩ W (gz.trans hh) (HX9.out W (hgz.trans hh)) rfl (fun _ _ => rfl))
            have p0 : 0 ≤ a.X i * (1000 * Ba.sumP s.ds.X s.ds.n - Ba.losJ C s i s.ds.n) := Int.mul_nonneg x0 (by omega)
            have p1 : a.X i * (1000 * Ba.sumP s.ds.X s.ds.n - Ba.losJ C s i s.ds.n) ≤ 131072 * 1073741824000 := Int.mul_le_mul x1 (by omega) (by omega) (by omega)
            simp only at HLi
            clear HLO HX9 HQ HTB HLB HCD HAR HS
            generalize Ba.sumI (fun i => a.X i * (1000 * Ba.sumP s.ds.X s.ds.n - Ba.losJ C s i s.ds.n)) i = tt at *
            generalize Ba.losJ C s i s.ds.n = lo at *
            generalize a.X i = ax at *
            obtain ⟨pr, hpr⟩ : ∃ z, ax * (1000 * Ba.sumP s.ds.X s.ds.n - lo) = z := ⟨_, rfl⟩
            rw [hpr] at T tb2 p0 p1
            unfold Ba.Class.val at HLi
            generalize C.D i = dd at *
            obtain ⟨nm, se, we, ro, dr⟩ := dd
            simp only at HLi d0_ d1_ d2_ d3_ d4_
            go_wp2_with fail
            refine (HLi.out _ (by exact gr_auto)).mono ?_
            rintro e w12 ⟨rfl, hb12⟩
            have hbz : Gr wr w12 := Gr.trans gr_auto hb12
            have a1 := Gr.at hbz a0
            have gwz := hgz.trans hbz
            clear HLi d0_ d1_ d2_ d3_ d4_
            go_wp2_with fail
            simp only [← hca, ← haa]
            clear hca haa
            go_roundw
            case rel => exact ⟨i + 1, by omega, by go_num, by rw [T.out], gwz⟩
            case measure => simp [intOf]; omega
          · obtain rfl : C.n = i := by omega
            have hq := HQ.out
            clear HLO HX9 HTB HLB HCD HAR HQ
            generalize Ba.sumI (fun i => a.X i * (1000 * Ba.sumP s.ds.X s.ds.n - Ba.losJ C s i s.ds.n)) C.n = tt at *
            go_wp2_with fail
            refine (HS.out _ (by exact ((gd8.trans hg0).trans hgz))).mono ?_
            rintro e w12 ⟨rfl, hb12⟩
            go_wp2_with fail
            go_ret
            exact ⟨by simp, gz.trans hb12⟩
  · clear q1_ q2_ q3_
    have g7 := g5
    have gd7 := hb5
    go_wp2_with fail
    refine (HT.out _ (by exact g7)).mono ?_
    rintro e w8 ⟨m, rfl, hb8⟩
    have g8 := g7.trans hb8
    replace c0 := Gr.at hb8 c0; replace c1 := Gr.at hb8 c1; replace c2 := Gr.at hb8 c2
    have gd8 := gd7.trans hb8
    clear HT
    go_wp2_with fail
    refine (HCl.out _ (by exact g8)).mono ?_
    rintro e w9 ⟨A9, c9, G, rfl, hA9, hG, hc9, hm9, hrow, hb9⟩
    replace hA9 := Lib.hid hA9; replace hrow := Lib.hid hrow
    have y0 := Gr.at hb9 c0; have y1 := Gr.at hb9 c1; have y2 := Gr.at hb9 c2
    clear HCl
    go_wp2_with fail
    go_loopw [115] (fun x wr => ∃ i : Nat, i ≤ s.ds.n ∧ x = .int .i64 (i : Int) ∧ Hid (Row wr G s.ds.n (fun j => .int .i64 (if j < i then Ba.dpt s j else s.ds.X j))) ∧ Gr w8 wr) (fun x _ => s.ds.n - (intOf x).toNat)
    case atStart => exact ⟨0, Nat.zero_le _, rfl, hrow, hb9⟩
    case round =>
      clear hrow
      obtain ⟨i, hi, rfl, HR, hg⟩ := hrel
      have d0 := Gr.at hg c0; have d1 := Gr.at hg c1; have d2 := Gr.at hg c2
      by_cases hlt : i < s.ds.n
      · obtain rfl := hA9.out (by omega)
        have r0 : wr.cell? ⟨G, i, none⟩ = some (.int .i64 (s.ds.X i)) := by
          have z := (HR.out i hlt).1
          simp only [Nat.lt_irrefl, if_false] at z
          exact z
        have r1 := (HR.out i hlt).2
        have ib0 : (0 : Int) ≤ (i : Int) := by omega
        have ib1 : (i : Int) < (s.ds.n : Int) := by omega
        have HRn := Lib.hid (fun x (hx : x = Ba.dpt s i) => show Row (wr.setCell ⟨G, i, none⟩ (.int .i64 x)) G s.ds.n (fun j => .int .i64 (if j < i + 1 then Ba.dpt s j else s.ds.X j)) from Row.set (k := i) HR.out (by show Value.int .i64 _ = _; rw [if_pos (Nat.lt_succ_self i), hx]) (fun j _ hj => by
          show Value.int .i64 _ = Value.int .i64 _
          by_cases c : j < i
          · rw [if_pos c, if_pos (by omega)]
          · rw [if_neg c, if_neg (by omega)]))
        have HGn := Lib.hid (fun x => Gr.setCell hg (p := ⟨G, i, none⟩) hG x)
        have HXE := Lib.hid (show max 0 (s.ds.X i) = Ba.dpt s i from rfl)
        clear HR
        generalize s.ds.X i = x at *
        obtain ⟨y, hy⟩ : ∃ y, max 0 x = y := ⟨_, rfl⟩
        rw [hy] at HXE
        go_wp2_with fail
        go_roundw
        case rel => exact ⟨i + 1, by omega, by go_num, HRn.out _ HXE.out, HGn.out _⟩
        case measure => simp [intOf]; omega
      · obtain rfl : s.ds.n = i := by omega
        have HR2 := Lib.hid (show Row wr G s.ds.n (fun j => .int .i64 (Ba.dpt s j)) from fun j hj => by have z := HR.out j hj; simp only [hj, if_true] at z; exact z)
        have hg0 := hg
        have HX9 := Lib.hid (fun W (hh : Gr wr W) => show Ba.SlI.At W ⟨A9, s.ds.n, c9, G, 0, Ba.dpt s⟩ from ⟨hA9.out, hc9, hm9, fun j hj => by
          simp only [Nat.zero_add]
          refine ⟨Gr.at hh (HR2.out j hj).1, ?_⟩
          have := HDP.out j hj
          unfold Ba.i64; omega⟩)
        clear HR HR2
        have hca := HCA.out; have haa := HAA.out
        go_wp2_with fail
        go_loopw [19, 128] (fun v x wz => ∃ i : Nat, i ≤ C.n ∧ x = .int .i64 (i : Int) ∧ v = .int .i64 (Ba.sumI (fun i => a.X i * (1000 * Ba.sumP s.ds.X s.ds.n - Ba.losJ C s i s.ds.n)) i) ∧ Gr wr wz) (fun _ x _ => C.n - (intOf x).toNat)
        case atStart => exact ⟨0, Nat.zero_le _, rfl, rfl, Gr.refl _⟩
        case round =>
          rename_i wq _
          obtain ⟨i, hi, rfl, rfl, hgz⟩ := hrel
          have f0 := Gr.at hgz d0; have f1 := Gr.at hgz d1; have f2 := Gr.at hgz d2
          have zB2 : w.heap.size < wr.heap.size := World.block_lt_of_cell? _ _ f0
          have zB3 := Nat.ne_of_lt zB2
          have tb := HTB.out i hi
          have gz := (g8.trans hg0).trans hgz
          by_cases hlt : i < C.n
          · have tb2 := HTB.out (i + 1) hlt
            have T := Lib.hid (show Ba.sumI (fun i => a.X i * (1000 * Ba.sumP s.ds.X s.ds.n - Ba.losJ C s i s.ds.n)) (i + 1) = Ba.sumI (fun i => a.X i * (1000 * Ba.sumP s.ds.X s.ds.n - Ba.losJ C s i s.ds.n)) i + a.X i * (1000 * Ba.sumP s.ds.X s.ds.n - Ba.losJ C s i s.ds.n) from rfl)
            rw [T.out] at tb2
            obtain ⟨d0_, d1_, d2_, d3_, d4_⟩ := (HCD.out i hlt).gr gz
            obtain ⟨⟨x0, x1⟩, a0⟩ := HAR.out i hlt
            replace a0 := Gr.at gz a0
            have lb := HLB.out i hlt
            have ib0 : (0 : Int) ≤ (i : Int) := by omega
            have ib1 : (i : Int) < (C.n : Int) := by omega
            have ib2 : (i : Int) < (a.n : Int) := by have := Han.out; omega
            have HLi := Lib.hid (fun W (hh : Gr wr W) => HLO.out i hlt ⟨A9, s.ds.n, c9, G, 0, Ba.dpt s⟩ W (gz.trans hh) (HX9.out W (hgz.trans hh)) rfl (fun _ _ => rfl))
            have p0 : 0 ≤ a.X i * (1000 * Ba.sumP s.ds.X s.ds.n - Ba.losJ C s i s.ds.n) := Int.mul_nonneg x0 (by omega)
            have p1 : a.X i * (1000 * Ba.sumP s.ds.X s.ds.n - Ba.losJ C s i s.ds.n) ≤ 131072 * 1073741824000 := Int.mul_le_mul x1 (by omega) (by omega) (by omega)
            simp only at HLi
            clear HLO HX9 HQ HTB HLB HCD HAR HS
            generalize Ba.sumI (fun i => a.X i * (1000 * Ba.sumP s.ds.X s.ds.n - Ba.losJ C s i s.ds.n)) i = tt at *
            generalize Ba.losJ C s i s.ds.n = lo at *
            generalize a.X i = ax at *
            obtain ⟨pr, hpr⟩ : ∃ z, ax * (1000 * Ba.sumP s.ds.X s.ds.n - lo) = z := ⟨_, rfl⟩
            rw [hpr] at T tb2 p0 p1
            unfold Ba.Class.val at HLi
            generalize C.D i = dd at *
            obtain ⟨nm, se, we, ro, dr⟩ := dd
            simp only at HLi d0_ d1_ d2_ d3_ d4_
            go_wp2_with fail
            refine (HLi.out _ (by exact gr_auto)).mono ?_
            rintro e w12 ⟨rfl, hb12⟩
            have hbz : Gr wr w12 := Gr.trans gr_auto hb12
            have a1 := Gr.at hbz a0
            have gwz := hgz.trans hbz
            clear HLi d0_ d1_ d2_ d3_ d4_
            go_wp2_with fail
            simp only [← hca, ← haa]
            clear hca haa
            go_roundw
            case rel => exact ⟨i + 1, by omega, by go_num, by rw [T.out], gwz⟩
            case measure => simp [intOf]; omega
          · obtain rfl : C.n = i := by omega
            have hq := HQ.out
            clear HLO HX9 HTB HLB HCD HAR HQ
            generalize Ba.sumI (fun i => a.X i * (1000 * Ba.sumP s.ds.X s.ds.n - Ba.losJ C s i s.ds.n)) C.n = tt at *
            go_wp2_with fail
            refine (HS.out _ (by exact ((gd8.trans hg0).trans hgz))).mono ?_
            rintro e w12 ⟨rfl, hb12⟩
            go_wp2_with fail
            go_ret
            exact ⟨by simp, gz.trans hb12⟩

theorem whole_law (C : Ba.SlClass) (a u : Ba.SlI) (s : Ba.Ser) (w : World) (hC : C.At w) (ha : a.At w) (hu : u.At w) (hs : s.Ok w) : Calls Try.prog 7 #[.slice C.A C.n C.c, .slice a.A a.n a.c, .slice u.A u.n u.c, s.val] w fun e w' => e = .returned (.bool true) ∧ Gr w w' := by
  cases hf : Ba.fewB C a s
  · exact whfar C a u s w hC ha hu hs (.inl hf)
  by_cases hq : 60 < u.n
  · exact whfar C a u s w hC ha hu hs (.inr ⟨hf, .inl hq⟩)
  cases har : Ba.areB a
  · by_cases he : Ba.depE C a s = 0
    · exact whmain C a u s w hC ha hu hs hf (by omega) har he
    · exact wherr C a u s w hC ha hu hs hf (by omega) har he
  · exact whfar C a u s w hC ha hu hs (.inr ⟨hf, .inr ⟨by omega, har⟩⟩)

end Go.Proofs.Ytjighhphadfoiaa
