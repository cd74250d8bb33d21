/-
  The law RunoffAreas. (Printed by mkrq.py.)
-/
import Derived.Test.YtajhhplgcegodaaDoorGA15
import Derived.Test.YtajhhplgcegodaaDoorGA16
import Derived.Test.YtajhhplgcegodaaDoorMsTw
import Derived.Test.YtajhhplgcegodaaDoorRoO
set_option linter.unusedVariables false
set_option linter.unusedSimpArgs false
namespace Go.Proofs.YtajhhplgcegodaaDoor
open Go.RowKit
attribute [local go_sem ↓] Go.wp_at_zero Go.wp_at_succ

set_option maxRecDepth 100000 in
set_option maxHeartbeats 8000000 in
theorem rarf_any (x : Int) (w : World) : Calls Tryd.prog 44 #[.int .i64 x] w fun e w' => e = .returned (.bool (decide (x < -1) || decide ((3 : Int) < x))) ∧ w = w' := by
  cases t0 : decide (x < -1)
  · cases t1 : decide ((3 : Int) < x)
    · go_enter Tryd.func44, Tryd.ntmps44
      go_wp2_with fail
      go_ret
      exact ⟨rfl, rfl⟩
    · go_enter Tryd.func44, Tryd.ntmps44
      go_wp2_with fail
      go_ret
      exact ⟨rfl, rfl⟩
  · go_enter Tryd.func44, Tryd.ntmps44
    go_wp2_with fail
    go_ret
    exact ⟨rfl, rfl⟩
namespace Ba
def bad3 (P : SlI) (i : Nat) : Bool := decide (P.X i < -1) || decide ((3 : Int) < P.X i)
end Ba

set_option maxRecDepth 100000 in
set_option maxHeartbeats 8000000 in
theorem rar_far1 (m : Ms.Mesh) (P : Ba.SlI) (s : Ba.Ser) (w : World) (hm : m.At w) (hP : P.At w) (hS : s.Ok w) (h0 : 40 < m.S.n) : Calls Tryd.prog 9 #[m.val, .slice P.A P.n P.c, s.val] w fun e w' => e = .returned (.bool true) ∧ Gr w w' := by
  have l1 := Nat.le_trans hm.f.hc hm.f.hb; have l2 := Nat.le_trans hm.s.hc hm.s.hb; have l3 := Nat.le_trans hP.hc hP.hb; have l4 := Nat.le_trans hS.2.2.hc hS.2.2.hb
  clear hm hP hS
  unfold Ms.Mesh.val Ba.Ser.val at *
  generalize m.S.A = sA at *; generalize m.S.n = sn at *; generalize m.S.c = sc at *; generalize m.F.A = fA at *; generalize m.F.n = fn at *; generalize m.F.c = fc at *
  generalize s.fr = fr at *; generalize s.st = st at *; generalize s.ds.A = dA at *; generalize s.ds.n = dn at *; generalize s.ds.c = dc at *
  generalize P.A = pA at *; generalize P.n = pn at *; generalize P.c = pc at *
  have q0 : (40 : Int) < (sn : Int) := by omega
  clear h0
  go_enter Tryd.func9, Tryd.ntmps9
  go_wp2_with fail
  refine (awake_any _).mono ?_
  rintro e w1 ⟨rfl, hb1⟩
  have g1 : Gr w w1 := Gr.trans (by exact gr_auto) hb1
  have d0 := Gr.at hb1 (b := w.heap.size) (o := 0) (v := .slice sA sn sc) (by simp [go_sem])
  have d1 := Gr.at hb1 (b := w.heap.size) (o := 1) (v := .slice fA fn fc) (by simp [go_sem])
  have d2 := Gr.at hb1 (b := w.heap.size + 1) (o := 0) (v := .int .i64 fr) (by simp [go_sem])
  have d3 := Gr.at hb1 (b := w.heap.size + 1) (o := 1) (v := .int .i64 st) (by simp [go_sem])
  have d4 := Gr.at hb1 (b := w.heap.size + 1) (o := 2) (v := .slice dA dn dc) (by simp [go_sem])
  clear hb1
  go_wp2_with fail
  go_ret
  exact ⟨rfl, gr_auto⟩

set_option maxRecDepth 100000 in
set_option maxHeartbeats 8000000 in
theorem rar_far2 (m : Ms.Mesh) (P : Ba.SlI) (s : Ba.Ser) (w : World) (hm : m.At w) (hP : P.At w) (hS : s.Ok w) (h0 : m.S.n ≤ 40) (h1 : 40 < m.F.n) : Calls Tryd.prog 9 #[m.val, .slice P.A P.n P.c, s.val] w fun e w' => e = .returned (.bool true) ∧ Gr w w' := by
  have l1 := Nat.le_trans hm.f.hc hm.f.hb; have l2 := Nat.le_trans hm.s.hc hm.s.hb; have l3 := Nat.le_trans hP.hc hP.hb; have l4 := Nat.le_trans hS.2.2.hc hS.2.2.hb
  clear hm hP hS
  unfold Ms.Mesh.val Ba.Ser.val at *
  generalize m.S.A = sA at *; generalize m.S.n = sn at *; generalize m.S.c = sc at *; generalize m.F.A = fA at *; generalize m.F.n = fn at *; generalize m.F.c = fc at *
  generalize s.fr = fr at *; generalize s.st = st at *; generalize s.ds.A = dA at *; generalize s.ds.n = dn at *; generalize s.ds.c = dc at *
  generalize P.A = pA at *; generalize P.n = pn at *; generalize P.c = pc at *
  have q0 : (sn : Int) ≤ 40 := by omega
  have q1 : (40 : Int) < (fn : Int) := by omega
  clear h0 h1
  go_enter Tryd.func9, Tryd.ntmps9
  go_wp2_with fail
  refine (awake_any _).mono ?_
  rintro e w1 ⟨rfl, hb1⟩
  have g1 : Gr w w1 := Gr.trans (by exact gr_auto) hb1
  have d0 := Gr.at hb1 (b := w.heap.size) (o := 0) (v := .slice sA sn sc) (by simp [go_sem])
  have d1 := Gr.at hb1 (b := w.heap.size) (o := 1) (v := .slice fA fn fc) (by simp [go_sem])
  have d2 := Gr.at hb1 (b := w.heap.size + 1) (o := 0) (v := .int .i64 fr) (by simp [go_sem])
  have d3 := Gr.at hb1 (b := w.heap.size + 1) (o := 1) (v := .int .i64 st) (by simp [go_sem])
  have d4 := Gr.at hb1 (b := w.heap.size + 1) (o := 2) (v := .slice dA dn dc) (by simp [go_sem])
  clear hb1
  go_wp2_with fail
  go_ret
  exact ⟨rfl, gr_auto⟩

set_option maxRecDepth 100000 in
set_option maxHeartbeats 8000000 in
theorem rar_far3 (m : Ms.Mesh) (P : Ba.SlI) (s : Ba.Ser) (w : World) (hm : m.At w) (hP : P.At w) (hS : s.Ok w) (h0 : m.S.n ≤ 40) (h1 : m.F.n ≤ 40) (h2 : P.n ≠ m.F.n) : Calls Tryd.prog 9 #[m.val, .slice P.A P.n P.c, s.val] w fun e w' => e = .returned (.bool true) ∧ Gr w w' := by
  have l1 := Nat.le_trans hm.f.hc hm.f.hb; have l2 := Nat.le_trans hm.s.hc hm.s.hb; have l3 := Nat.le_trans hP.hc hP.hb; have l4 := Nat.le_trans hS.2.2.hc hS.2.2.hb
  clear hm hP hS
  unfold Ms.Mesh.val Ba.Ser.val at *
  generalize m.S.A = sA at *; generalize m.S.n = sn at *; generalize m.S.c = sc at *; generalize m.F.A = fA at *; generalize m.F.n = fn at *; generalize m.F.c = fc at *
  generalize s.fr = fr at *; generalize s.st = st at *; generalize s.ds.A = dA at *; generalize s.ds.n = dn at *; generalize s.ds.c = dc at *
  generalize P.A = pA at *; generalize P.n = pn at *; generalize P.c = pc at *
  have q0 : (sn : Int) ≤ 40 := by omega
  have q1 : (fn : Int) ≤ 40 := by omega
  have q2 : ((pn : Int) != (fn : Int)) = true := bne_iff_ne.2 (by omega)
  clear h0 h1 h2
  go_enter Tryd.func9, Tryd.ntmps9
  go_wp2_with fail
  refine (awake_any _).mono ?_
  rintro e w1 ⟨rfl, hb1⟩
  have g1 : Gr w w1 := Gr.trans (by exact gr_auto) hb1
  have d0 := Gr.at hb1 (b := w.heap.size) (o := 0) (v := .slice sA sn sc) (by simp [go_sem])
  have d1 := Gr.at hb1 (b := w.heap.size) (o := 1) (v := .slice fA fn fc) (by simp [go_sem])
  have d2 := Gr.at hb1 (b := w.heap.size + 1) (o := 0) (v := .int .i64 fr) (by simp [go_sem])
  have d3 := Gr.at hb1 (b := w.heap.size + 1) (o := 1) (v := .int .i64 st) (by simp [go_sem])
  have d4 := Gr.at hb1 (b := w.heap.size + 1) (o := 2) (v := .slice dA dn dc) (by simp [go_sem])
  clear hb1
  go_wp2_with fail
  go_ret
  exact ⟨rfl, gr_auto⟩

set_option maxRecDepth 100000 in
set_option maxHeartbeats 8000000 in
theorem rar_far4 (m : Ms.Mesh) (P : Ba.SlI) (s : Ba.Ser) (w : World) (hm : m.At w) (hP : P.At w) (hS : s.Ok w) (h0 : m.S.n ≤ 40) (h1 : m.F.n ≤ 40) (h2 : P.n = m.F.n) (h3 : 60 < s.ds.n) : Calls Tryd.prog 9 #[m.val, .slice P.A P.n P.c, s.val] w fun e w' => e = .returned (.bool true) ∧ Gr w w' := by
  have l1 := Nat.le_trans hm.f.hc hm.f.hb; have l2 := Nat.le_trans hm.s.hc hm.s.hb; have l3 := Nat.le_trans hP.hc hP.hb; have l4 := Nat.le_trans hS.2.2.hc hS.2.2.hb
  clear hm hP hS
  unfold Ms.Mesh.val Ba.Ser.val at *
  generalize m.S.A = sA at *; generalize m.S.n = sn at *; generalize m.S.c = sc at *; generalize m.F.A = fA at *; generalize m.F.n = fn at *; generalize m.F.c = fc at *
  generalize s.fr = fr at *; generalize s.st = st at *; generalize s.ds.A = dA at *; generalize s.ds.n = dn at *; generalize s.ds.c = dc at *
  generalize P.A = pA at *; generalize P.n = pn at *; generalize P.c = pc at *
  have q0 : (sn : Int) ≤ 40 := by omega
  have q1 : (fn : Int) ≤ 40 := by omega
  have q2 : ((pn : Int) != (fn : Int)) = false := by simp only [bne_eq_false_iff_eq]; omega
  have q3 : (60 : Int) < (dn : Int) := by omega
  clear h0 h1 h2 h3
  go_enter Tryd.func9, Tryd.ntmps9
  go_wp2_with fail
  refine (awake_any _).mono ?_
  rintro e w1 ⟨rfl, hb1⟩
  have g1 : Gr w w1 := Gr.trans (by exact gr_auto) hb1
  have d0 := Gr.at hb1 (b := w.heap.size) (o := 0) (v := .slice sA sn sc) (by simp [go_sem])
  have d1 := Gr.at hb1 (b := w.heap.size) (o := 1) (v := .slice fA fn fc) (by simp [go_sem])
  have d2 := Gr.at hb1 (b := w.heap.size + 1) (o := 0) (v := .int .i64 fr) (by simp [go_sem])
  have d3 := Gr.at hb1 (b := w.heap.size + 1) (o := 1) (v := .int .i64 st) (by simp [go_sem])
  have d4 := Gr.at hb1 (b := w.heap.size + 1) (o := 2) (v := .slice dA dn dc) (by simp [go_sem])
  clear hb1
  go_wp2_with fail
  go_ret
  exact ⟨rfl, gr_auto⟩

set_option maxRecDepth 100000 in
set_option maxHeartbeats 8000000 in
theorem rar_far5 (m : Ms.Mesh) (P : Ba.SlI) (s : Ba.Ser) (w : World) (hm : m.At w) (hP : P.At w) (hS : s.Ok w) (h0 : m.S.n ≤ 40) (h1 : m.F.n ≤ 40) (h2 : P.n = m.F.n) (h3 : s.ds.n ≤ 60) (h : Ba.any (Ba.bad3 P) P.n = true) : Calls Tryd.prog 9 #[m.val, .slice P.A P.n P.c, s.val] w fun e w' => e = .returned (.bool true) ∧ Gr w w' := by
  have l1 := Nat.le_trans hm.f.hc hm.f.hb; have l2 := Nat.le_trans hm.s.hc hm.s.hb; have l3 := Nat.le_trans hP.hc hP.hb; have l4 := Nat.le_trans hS.2.2.hc hS.2.2.hb
  have HC := Lib.hid (fun W (hh : Gr w W) => has_int 44 #[] P (Ba.bad3 P) W (hP.gr hh) (enter_of Tryd.func44 (by kernel_rfl) (by kernel_rfl)) fun i _ W' _ => gr_of (rarf_any (P.X i) W'))
  rw [h] at HC
  clear hm hP hS h
  unfold Ms.Mesh.val Ba.Ser.val at *
  generalize m.S.A = sA at *; generalize m.S.n = sn at *; generalize m.S.c = sc at *; generalize m.F.A = fA at *; generalize m.F.n = fn at *; generalize m.F.c = fc at *
  generalize s.fr = fr at *; generalize s.st = st at *; generalize s.ds.A = dA at *; generalize s.ds.n = dn at *; generalize s.ds.c = dc at *
  generalize P.A = pA at *; generalize P.n = pn at *; generalize P.c = pc at *
  have q0 : (sn : Int) ≤ 40 := by omega
  have q1 : (fn : Int) ≤ 40 := by omega
  have q2 : ((pn : Int) != (fn : Int)) = false := by simp only [bne_eq_false_iff_eq]; omega
  have q3 : (dn : Int) ≤ 60 := by omega
  clear h0 h1 h2 h3
  go_enter Tryd.func9, Tryd.ntmps9
  go_wp2_with fail
  refine (awake_any _).mono ?_
  rintro e w1 ⟨rfl, hb1⟩
  have g1 : Gr w w1 := Gr.trans (by exact gr_auto) hb1
  have d0 := Gr.at hb1 (b := w.heap.size) (o := 0) (v := .slice sA sn sc) (by simp [go_sem])
  have d1 := Gr.at hb1 (b := w.heap.size) (o := 1) (v := .slice fA fn fc) (by simp [go_sem])
  have d2 := Gr.at hb1 (b := w.heap.size + 1) (o := 0) (v := .int .i64 fr) (by simp [go_sem])
  have d3 := Gr.at hb1 (b := w.heap.size + 1) (o := 1) (v := .int .i64 st) (by simp [go_sem])
  have d4 := Gr.at hb1 (b := w.heap.size + 1) (o := 2) (v := .slice dA dn dc) (by simp [go_sem])
  clear hb1
  go_wp2_with fail
  refine (HC.out _ g1).mono ?_
  rintro e w2 ⟨rfl, hb2⟩
  clear HC
  have g2 := g1.trans hb2
  go_wp2_with fail
  go_ret
  exact ⟨rfl, gr_auto⟩

theorem rq_tn {m : Ms.Mesh} (hv : Ms.vlB m = true) {i : Nat} (hi : i < m.F.n) : 0 < Ms.tTn (Ms.tri m (m.F.D i)) ∧ Ms.tTn (Ms.tri m (m.F.D i)) ≤ 2251799813685248 := ⟨Ms.vl_tn hv hi, (Ms.tTn_bd (Ms.tri_ok (Ms.vl_fc hv hi))).2⟩
theorem info_cls : (Tryd.prog.info? 86).map (fun i => (i.zero, i.size, i.bytes)) = some (some (.agg #[.string ⟨#[]⟩, .int .i64 0, .int .i64 0, .int .i64 0, .int .i64 0]), 5, 48) := by kernel_rfl

set_option maxRecDepth 100000 in
set_option maxHeartbeats 8000000 in
theorem rar_main (m : Ms.Mesh) (P : Ba.SlI) (s : Ba.Ser) (w : World) (hm : m.At w) (hP : P.At w) (hS : s.Ok w) (h0 : m.S.n ≤ 40) (h1 : m.F.n ≤ 40) (h2 : P.n = m.F.n) (h3 : s.ds.n ≤ 60) (h : Ba.any (Ba.bad3 P) P.n = false) : Calls Tryd.prog 9 #[m.val, .slice P.A P.n P.c, s.val] w fun e w' => e = .returned (.bool true) ∧ Gr w w' := by
  have l1 := Nat.le_trans hm.f.hc hm.f.hb; have l2 := Nat.le_trans hm.s.hc hm.s.hb; have l3 := Nat.le_trans hP.hc hP.hb; have l4 := Nat.le_trans hS.2.2.hc hS.2.2.hb
  have HC := Lib.hid (fun W (hh : Gr w W) => has_int 44 #[] P (Ba.bad3 P) W (hP.gr hh) (enter_of Tryd.func44 (by kernel_rfl) (by kernel_rfl)) fun i _ W' _ => gr_of (rarf_any (P.X i) W'))
  rw [h] at HC
  have HCall := Lib.hid (fun A c b nb ub u W (hW : Gr w W) hC hN hU => in_call m P s A c b nb ub u W ⟨hm.s.gr hW, hm.f.gr hW⟩ ⟨by omega, by omega⟩ (hP.gr hW) (hS.gr hW) h3 hC hN hU)
  have HV := Lib.hid (fun W (hW : Gr w W) => ms_valid m W ⟨hm.s.gr hW, hm.f.gr hW⟩ (Or.inr ⟨by omega, by omega⟩))
  have HG := Lib.hid (fun W (hW : Gr w W) => gvalid_any s W (hS.gr hW))
  have HT := Lib.hid (fun (hs : Ba.serB s = true) W (hW : Gr w W) => gtot_any s W (hS.gr hW) hs)
  have HTW := Lib.hid (fun (hv : Ms.vlB m = true) i (hi : i < m.F.n) W (hW : Gr w W) => ms_Twice m i W ⟨hm.s.gr hW, hm.f.gr hW⟩ ⟨by omega, by omega⟩ hv hi)
  have HTB := Lib.hid (fun (hv : Ms.vlB m = true) r k (hk : k ≤ m.F.n) => Ba.twI_bd hv (P := P.X) r k hk)
  have HTT := Lib.hid (fun (hv : Ms.vlB m = true) i (hi : i < m.F.n) => rq_tn hv hi)
  have HT0 := Lib.hid (fun r => show Ba.twI m P.X r 0 = 0 from rfl)
  have HTS := Lib.hid (fun r k => show Ba.twI m P.X r (k + 1) = Ba.twI m P.X r k + if P.X k = (r : Int) then Ms.tTn (Ms.tri m (m.F.D k)) else 0 from rfl)
  have HPX := Lib.hid (fun i (hi : i < P.n) => hP.hX i hi)
  have HPA := Lib.hid hP.hA
  clear hm hP hS h
  unfold RetA at HCall
  rw [h2] at *
  obtain ⟨RN, hRN⟩ : ∃ z, Ba.sumP s.ds.X s.ds.n = z := ⟨_, rfl⟩
  rw [hRN] at HCall HT
  clear hRN
  generalize Ba.serB s = SB at *
  generalize Ms.vlB m = VB at *
  generalize Ba.twI m P.X = TW at *
  obtain ⟨TN, hTN⟩ : ∃ z : Nat → Int, (fun i => Ms.tTn (Ms.tri m (m.F.D i))) = z := ⟨_, rfl⟩
  have hTN' : ∀ i, Ms.tTn (Ms.tri m (m.F.D i)) = TN i := fun i => by rw [← hTN]
  simp only [hTN'] at HTW HTT HTS
  clear hTN hTN'
  obtain ⟨j2, hj0, hz0, hz1, hz2⟩ := info_parts info_cls
  have LI := Lib.hid hj0; have LZ0 := Lib.hid hz0; have LZ1 := Lib.hid hz1; have LZ2 := Lib.hid hz2
  clear hj0 hz0 hz1 hz2
  unfold Ms.Mesh.val Ba.Ser.val at *
  generalize m.S.A = sA at *; generalize m.S.n = sn at *; generalize m.S.c = sc at *; generalize m.F.A = fA at *; generalize m.F.n = fn at *; generalize m.F.c = fc at *
  generalize s.fr = fr at *; generalize s.st = st at *; generalize s.ds.A = dA at *; generalize s.ds.n = dn at *; generalize s.ds.c = dc at *
  generalize P.A = pA at *; generalize P.n = pn at *; generalize P.c = pc at *
  generalize P.X = PX at *; generalize P.b = pb at *; generalize P.o = po at *
  have q0 : (sn : Int) ≤ 40 := by omega
  have q1 : (fn : Int) ≤ 40 := by omega
  have q2 : ((fn : Int) != (fn : Int)) = false := by simp
  have q3 : (dn : Int) ≤ 60 := by omega
  clear h0 h1 h2 h3
  go_enter Tryd.func9, Tryd.ntmps9
  go_wp2_with fail
  refine (awake_any _).mono ?_
  rintro e w1 ⟨rfl, hb1⟩
  have g1 : Gr w w1 := Gr.trans (by exact gr_auto) hb1
  have d0 := Gr.at hb1 (b := w.heap.size) (o := 0) (v := .slice sA sn sc) (by simp [go_sem])
  have d1 := Gr.at hb1 (b := w.heap.size) (o := 1) (v := .slice fA fn fc) (by simp [go_sem])
  have d2 := Gr.at hb1 (b := w.heap.size + 1) (o := 0) (v := .int .i64 fr) (by simp [go_sem])
  have d3 := Gr.at hb1 (b := w.heap.size + 1) (o := 1) (v := .int .i64 st) (by simp [go_sem])
  have d4 := Gr.at hb1 (b := w.heap.size + 1) (o := 2) (v := .slice dA dn dc) (by simp [go_sem])
  clear hb1
  go_wp2_with fail
  refine (HC.out _ g1).mono ?_
  rintro e w2 ⟨rfl, hb2⟩
  clear HC
  have g2 := g1.trans hb2
  replace d0 := Gr.at hb2 d0; replace d1 := Gr.at hb2 d1; replace d2 := Gr.at hb2 d2; replace d3 := Gr.at hb2 d3; replace d4 := Gr.at hb2 d4
  clear hb2 g1
  -- @a
  go_wp2_with fail
  -- @b
  go_loopw [7, 53] (fun v x wr => ∃ i : Nat, i ≤ 16 ∧ x = .int .i64 (i : Int) ∧ Hid (wr.ownsRow w2.heap.size 86 5 v i (Ba.flC i)) ∧ Gr w2 wr) (fun _ x _ => 16 - (intOf x).toNat)
  case atStart => exact ⟨0, Nat.zero_le _, rfl, Lib.hid (World.ownsRow_nil _ _ _ _), Gr.refl _⟩
  case round =>
    obtain ⟨i, hi, rfl, HO, hg⟩ := hrel
    rename World => W1
    by_cases hlt : i < 16
    · have ib0 : (0 : Int) ≤ (i : Int) := by omega
      have ib1 : (i : Int) < 16 := by omega
      have hgs := Gr.size hg
      have HFX := Lib.hid (show Ba.flC (i + 1) = Ba.flC i ++ [.string (Ba.nmC i), .int .i64 1000, .int .i64 0, .int .i64 0, .int .i64 0] from rfl)
      have HNM := Lib.hid (show (⟨#[99]⟩ : ByteArray) ++ ⟨#[UInt8.ofNat (97 + i)]⟩ = Ba.nmC i from by unfold Ba.nmC; apply ByteArray.ext; simp [ByteArray.data_append])
      have hcv : ∀ W : World, (convert 84 9 (.slice (some ⟨W.heap.size, 0, none⟩) 1 1)).run Tryd.prog (W.alloc (.cells #[.int .u8 (97 + (i : Int))] 5)) = .ok (.string ⟨#[UInt8.ofNat (97 + i)]⟩) (W.alloc (.cells #[.int .u8 (97 + (i : Int))] 5)) := fun W => by
        have := one_byte W (97 + i) (by omega)
        rw [show ((97 + i : Nat) : Int) = 97 + (i : Int) by omega] at this
        exact this
      generalize UInt8.ofNat (97 + i) = dc at *
      obtain ⟨NM, hNM⟩ : ∃ z, (⟨#[99]⟩ : ByteArray) ++ ⟨#[dc]⟩ = z := ⟨_, rfl⟩
      rw [hNM] at HNM
      obtain ⟨OA, oc, ob, rfl⟩ : ∃ (A : Option Addr) (c b : Nat), u7 = .slice A i c := by
        obtain ⟨hl', ⟨rfl, he⟩ | ⟨g, cap, cur, rfl, -⟩⟩ := HO.out
        · subst he
          exact ⟨none, 0, 0, rfl⟩
        · exact ⟨_, cap, g, rfl⟩
      clear HCall HV HG HT HTW HTB HTT HT0 HTS HPX HPA d0 d1 d2 d3 d4
      -- @c
      go_upto_region 9 with fail
      -- @d
      go_wp2_with (at_builtin; refine wpList_append_lies _ rfl _ _ 83 rfl w2.heap.size 86 j2 (.agg #[.string ⟨#[]⟩, .int .i64 0, .int .i64 0, .int .i64 0, .int .i64 0]) 5 48 Tryd.underlying83 LI.out LZ0.out LZ1.out LZ2.out rfl (by decide) (.slice OA i oc) i (Ba.flC i) rfl (ownsRow_gr HO.out (by exact gr_auto)) _ 1 1 [.string NM, .int .i64 1000, .int .i64 0, .int .i64 0, .int .i64 0] rfl rfl (by intro p u hp; rcases p with _ | _ | _ | _ | _ | p <;> simp at hp <;> (try subst hp) <;> first | (simp [Addr.add, go_sem]; done) | (simp [Addr.add]; done)) (by intro u hu; simp at hu; rcases hu with rfl | rfl | rfl <;> rfl) (by decide) (by unfold maxLen; omega) (by omega) (by first | omega | (simp; omega)) _ rfl ?_)
      intro GG pp w8 ho hr ht8 hl8
      -- @e
      have g28 : Gr w2 w8 := Gr.own (show Gr w2 _ from Gr.trans hg (by exact gr_auto)) (Nat.le_refl _) (ownsRow_gr HO.out (by exact gr_auto)) hr
      have HO8 := Lib.hid (show w8.ownsRow w2.heap.size 86 5 _ (i + 1) (Ba.flC (i + 1)) from by rw [HFX.out, ← HNM.out]; exact ho)
      clear ho hr ht8 hl8 HO
      go_wp2_with fail
      -- @f
      go_roundw
      case rel => exact ⟨i + 1, by omega, by go_num, HO8, g28⟩
      case measure => simp [intOf]; omega
    · obtain rfl : i = 16 := by omega
      obtain ⟨CA, cc, cb, rfl, hC⟩ := Ba.seC_at HO.out
      replace hC := Lib.hid hC
      replace d0 := Gr.at hg d0; replace d1 := Gr.at hg d1; replace d2 := Gr.at hg d2; replace d3 := Gr.at hg d3; replace d4 := Gr.at hg d4
      have g3 := g2.trans hg
      clear HO hg
      have bw1 := World.block_lt_of_cell? _ _ d2
      simp only at bw1
      have bw0 : w.heap.size < W1.heap.size := by omega
      -- @g
      go_wp2_with fail
      -- @h
      (first | refine name_world ?_ | refine (show (∀ W, W = _ → Calls _ _ _ W _) → Calls _ _ _ _ _ from fun h => h _ rfl) ?_); intro W4 hW4
      have g4 : Gr w W4 := by rw [hW4]; exact gr_auto
      have gb4_W1 : Gr W1 W4 := by (try clear g4); rw [hW4]; exact gr_auto
      have k4_0 : W4.cell? ⟨W1.heap.size, 0, none⟩ = some (.string ⟨#[97]⟩) := by rw [hW4]; first | (simp [go_sem, *]; done) | (refine Gr.at ?_ (by assumption); exact gr_auto)
      have b4_0 : W1.heap.size < W4.heap.size := World.block_lt_of_cell? _ _ k4_0
      have k4_1 : W4.cell? ⟨W1.heap.size, 1, none⟩ = some (.string ⟨#[98]⟩) := by rw [hW4]; first | (simp [go_sem, *]; done) | (refine Gr.at ?_ (by assumption); exact gr_auto)
      have k4_2 : W4.cell? ⟨W1.heap.size, 2, none⟩ = some (.string ⟨#[99]⟩) := by rw [hW4]; first | (simp [go_sem, *]; done) | (refine Gr.at ?_ (by assumption); exact gr_auto)
      have k4_3 : W4.cell? ⟨W1.heap.size, 3, none⟩ = some (.string ⟨#[100]⟩) := by rw [hW4]; first | (simp [go_sem, *]; done) | (refine Gr.at ?_ (by assumption); exact gr_auto)
      have k4_4 : W4.cell? ⟨W1.heap.size + 1, 0, none⟩ = some (.int .i64 1) := by rw [hW4]; first | (simp [go_sem, *]; done) | (refine Gr.at ?_ (by assumption); exact gr_auto)
      have b4_4 : W1.heap.size + 1 < W4.heap.size := World.block_lt_of_cell? _ _ k4_4
      have k4_5 : W4.cell? ⟨W1.heap.size + 1, 1, none⟩ = some (.int .i64 2) := by rw [hW4]; first | (simp [go_sem, *]; done) | (refine Gr.at ?_ (by assumption); exact gr_auto)
      have k4_6 : W4.cell? ⟨W1.heap.size + 1, 2, none⟩ = some (.int .i64 1) := by rw [hW4]; first | (simp [go_sem, *]; done) | (refine Gr.at ?_ (by assumption); exact gr_auto)
      have k4_7 : W4.cell? ⟨W1.heap.size + 1 + 1, 0, none⟩ = some (.slice (some ⟨W1.heap.size + 1, 0, none⟩) 3 3) := by rw [hW4]; first | (simp [go_sem, *]; done) | (refine Gr.at ?_ (by assumption); exact gr_auto)
      have b4_7 : W1.heap.size + 1 + 1 < W4.heap.size := World.block_lt_of_cell? _ _ k4_7
      have k4_8 : W4.cell? ⟨W1.heap.size + 1 + 1, 1, none⟩ = some (.slice (some ⟨W1.heap.size + 1, 0, none⟩) 3 3) := by rw [hW4]; first | (simp [go_sem, *]; done) | (refine Gr.at ?_ (by assumption); exact gr_auto)
      have k4_9 : W4.cell? ⟨W1.heap.size + 1 + 1, 2, none⟩ = some (.slice (some ⟨W1.heap.size + 1, 0, none⟩) 3 3) := by rw [hW4]; first | (simp [go_sem, *]; done) | (refine Gr.at ?_ (by assumption); exact gr_auto)
      have k4_10 : W4.cell? ⟨W1.heap.size + 1 + 1, 3, none⟩ = some (.slice (some ⟨W1.heap.size + 1, 0, none⟩) 3 3) := by rw [hW4]; first | (simp [go_sem, *]; done) | (refine Gr.at ?_ (by assumption); exact gr_auto)
      clear hW4
      replace d0 := Gr.at gb4_W1 d0; replace d1 := Gr.at gb4_W1 d1; replace d2 := Gr.at gb4_W1 d2; replace d3 := Gr.at gb4_W1 d3; replace d4 := Gr.at gb4_W1 d4
      have hN : (Ba.na4 W1.heap.size).At W4 := ⟨fun _ => rfl, Nat.le_refl _, by show 4 ≤ 9223372036854775807; omega, fun i hi => by
        have hi' : i < 4 := hi
        refine ⟨?_, by show (1 : Nat) ≤ _; omega⟩
        show W4.cell? ⟨W1.heap.size, 0 + i, none⟩ = some (.string (Ba.nm4 i))
        rw [Nat.zero_add]
        rcases (by omega : i = 0 ∨ i = 1 ∨ i = 2 ∨ i = 3) with rfl | rfl | rfl | rfl
        · exact k4_0
        · exact k4_1
        · exact k4_2
        · exact k4_3⟩
      have hUn : (Ba.un3 (W1.heap.size + 1)).At W4 := ⟨fun _ => rfl, Nat.le_refl _, by show 3 ≤ 9223372036854775807; omega, fun i hi => by
        have hi' : i < 3 := hi
        show W4.cell? ⟨W1.heap.size + 1, 0 + i, none⟩ = some (.int .i64 (Ba.unX i)) ∧ Ba.i64 (Ba.unX i)
        rw [Nat.zero_add]
        rcases (by omega : i = 0 ∨ i = 1 ∨ i = 2) with rfl | rfl | rfl
        · exact ⟨k4_4, by decide⟩
        · exact ⟨k4_5, by decide⟩
        · exact ⟨k4_6, by decide⟩⟩
      have hU : (Ba.us4 (W1.heap.size + 1 + 1) (W1.heap.size + 1)).At W4 := ⟨fun _ => rfl, Nat.le_refl _, by show 4 ≤ 9223372036854775807; omega, fun i hi => by
        have hi' : i < 4 := hi
        refine ⟨?_, hUn⟩
        show W4.cell? ⟨W1.heap.size + 1 + 1, 0 + i, none⟩ = some (.slice (some ⟨W1.heap.size + 1, 0, none⟩) 3 3)
        rw [Nat.zero_add]
        rcases (by omega : i = 0 ∨ i = 1 ∨ i = 2 ∨ i = 3) with rfl | rfl | rfl | rfl
        · exact k4_7
        · exact k4_8
        · exact k4_9
        · exact k4_10⟩
      have HNX := Lib.hid (fun i (hi : i < 4) => show W4.cell? ⟨W1.heap.size, i, none⟩ = some (.string (Ba.nm4 i)) from by
        have z : W4.cell? ⟨W1.heap.size, 0 + i, none⟩ = some (.string (Ba.nm4 i)) := (hN.hX i hi).1
        rw [Nat.zero_add] at z
        exact z)
      have HCl := Lib.hid (HCall.out CA cc cb W1.heap.size (W1.heap.size + 1 + 1) (W1.heap.size + 1) W4 (g3.trans gb4_W1) (hC.out.gr gb4_W1) hN hU)
      clear hN hU hUn hC HCall k4_0 k4_1 k4_2 k4_3 k4_4 k4_5 k4_6 k4_7 k4_8 k4_9 k4_10
      -- @i
      refine HCl.out.mono ?_
      clear HCl
      rintro e w5 ⟨err, LA, ln, lc, lb, V, rfl, hb5, h50, h51⟩
      have g5 := g4.trans hb5
      replace d0 := Gr.at hb5 d0; replace d1 := Gr.at hb5 d1; replace d2 := Gr.at hb5 d2; replace d3 := Gr.at hb5 d3; replace d4 := Gr.at hb5 d4
      have HNX5 := Lib.hid (fun i (hi : i < 4) => Gr.at hb5 (HNX.out i hi))
      clear HNX
      have nblt : W1.heap.size < w5.heap.size := by have := Gr.size hb5; omega
      by_cases he : err = 0
      · obtain ⟨hv, hs, rfl, rfl, lc1, lc2, rn, hV⟩ := h50 he
        subst he
        have HVV := Lib.hid hV
        have HTs := Lib.hid (HT.out hs)
        have HTWs := Lib.hid (HTW.out hv); have HTBs := Lib.hid (HTB.out hv); have HTTs := Lib.hid (HTT.out hv)
        clear h50 h51 hV hv hs HV HG HT HTW HTB HTT
        -- @j
        go_wp2_with fail
        refine (HTs.out _ g5).mono ?_
        rintro e w6 ⟨mx, rfl, hb6⟩
        have g6 := g5.trans hb6
        replace d0 := Gr.at hb6 d0; replace d1 := Gr.at hb6 d1; replace d2 := Gr.at hb6 d2; replace d3 := Gr.at hb6 d3; replace d4 := Gr.at hb6 d4
        clear HTs
        -- @k
        go_wp2_with fail
        -- @l
        have HD := Lib.hid (And.intro d0 (And.intro d1 g6))
        clear d0 d1 d2 d3 d4
        go_loopw [116] (fun x wr => ∃ i : Nat, i ≤ 4 ∧ x = .int .i64 (i : Int) ∧ Gr w6 wr) (fun x _ => 4 - (intOf x).toNat)
        case atStart => exact ⟨0, Nat.zero_le _, rfl, Gr.refl _⟩
        case round =>
          obtain ⟨i, hi, rfl, hg⟩ := hrel
          rename World => W2
          by_cases hl4 : i < 4
          · have ib0 : (0 : Int) ≤ (i : Int) := by omega
            have ib1 : (i : Int) < 4 := by omega
            obtain ⟨v0, v1, v2, v3, v4, v5⟩ := HVV.out i hl4
            have gg := hb6.trans hg
            replace v0 := Gr.at gg v0; replace v1 := Gr.at gg v1
            have nx := Gr.at gg (HNX5.out i hl4)
            have v2' := v2.gr gg
            have HSr := Lib.hid (fun W (hh : Gr W2 W) => show Calls Tryd.prog 48 #[.slice (V i).A (V i).n (V i).c] W fun e w' => e = .returned (.bool true) ∧ Gr W w' from v3 ▸ rseries_any (V i) W (v2'.gr hh))
            have HSu := Lib.hid (fun W (hh : Gr W2 W) => show Calls Tryd.prog 49 #[.slice (V i).A (V i).n (V i).c] W fun e w' => e = .returned (.int .i64 (TW i fn / 2000000 * RN)) ∧ Gr W w' from v5 ▸ lsum_any (V i) W (v2'.gr hh) v4)
            have pb5 : Ba.i64 (TW i fn / 2000000 * RN) := v5 ▸ v4 _ (Nat.le_refl _)
            have HT0i := Lib.hid (HT0.out i); have HTSi := Lib.hid (HTS.out i); have HTBi := Lib.hid (HTBs.out i)
            have D0 := Gr.at hg HD.out.1; have D1 := Gr.at hg HD.out.2.1; have G6 := HD.out.2.2
            have blb := World.block_lt_of_cell? _ _ v0
            have bnb := World.block_lt_of_cell? _ _ nx
            have bd0 := World.block_lt_of_cell? _ _ D0
            simp only at blb bnb bd0
            clear HVV HNX5 v2 v2' v3 v4 v5 HT0 HTS HTBs HD
            generalize TW i = TWi at *
            generalize Ba.nm4 i = nmi at *
            generalize (V i).A = vA at *; generalize (V i).n = vn at *; generalize (V i).c = vc at *
            -- @m
            go_wp2_with fail
            -- @n
            (first | refine name_world ?_ | refine (show (∀ W, W = _ → Calls _ _ _ W _) → Calls _ _ _ _ _ from fun h => h _ rfl) ?_); intro W3 hW3
            have g3 : Gr w W3 := by rw [hW3]; exact gr_auto
            have gb3_W2 : Gr W2 W3 := by (try clear g3); rw [hW3]; exact gr_auto
            have k3_0 : W3.cell? ⟨w.heap.size, 0, none⟩ = some (.slice sA sn sc) := by rw [hW3]; first | (simp [go_sem, *]; done) | (refine Gr.at ?_ (by assumption); exact gr_auto)
            have b3_0 : w.heap.size < W3.heap.size := World.block_lt_of_cell? _ _ k3_0
            have k3_1 : W3.cell? ⟨w.heap.size, 1, none⟩ = some (.slice fA fn fc) := by rw [hW3]; first | (simp [go_sem, *]; done) | (refine Gr.at ?_ (by assumption); exact gr_auto)
            have k3_2 : W3.cell? ⟨W2.heap.size, 0, none⟩ = some (.string nmi) := by rw [hW3]; first | (simp [go_sem, *]; done) | (refine Gr.at ?_ (by assumption); exact gr_auto)
            have b3_2 : W2.heap.size < W3.heap.size := World.block_lt_of_cell? _ _ k3_2
            have k3_3 : W3.cell? ⟨W2.heap.size, 1, none⟩ = some (.slice vA vn vc) := by rw [hW3]; first | (simp [go_sem, *]; done) | (refine Gr.at ?_ (by assumption); exact gr_auto)
            have k3_4 : W3.cell? ⟨W1.heap.size, i, none⟩ = some (.string nmi) := by rw [hW3]; first | (simp [go_sem, *]; done) | (refine Gr.at ?_ (by assumption); exact gr_auto)
            have b3_4 : W1.heap.size < W3.heap.size := World.block_lt_of_cell? _ _ k3_4
            clear hW3
            go_loopw [18, 123] (fun v x wr => ∃ k : Nat, k ≤ fn ∧ x = .int .i64 (k : Int) ∧ v = .int .i64 (TWi k) ∧ Gr W3 wr) (fun _ x _ => fn - (intOf x).toNat)
            case atStart => exact ⟨0, Nat.zero_le _, rfl, by rw [HT0i.out], Gr.refl _⟩
            case round =>
              obtain ⟨k, hk, rfl, rfl, hgk⟩ := hrel
              rename World => W5
              by_cases hlk : k < fn
              · have kb0 : (0 : Int) ≤ (k : Int) := by omega
                have kb1 : (k : Int) < (fn : Int) := by omega
                obtain rfl := HPA.out (by omega)
                obtain ⟨p0, p1⟩ := HPX.out k hlk
                have G5 : Gr w W5 := G6.trans (hg.trans (gb3_W2.trans hgk))
                replace p0 := Gr.at G5 p0
                have E0 := Gr.at hgk k3_0; have E1 := Gr.at hgk k3_1
                have tb := (HTBi.out (k + 1) hlk); have tb0 := HTBi.out k hk
                have HS1 := Lib.hid (HTSi.out k)
                have tt := HTTs.out k hlk
                have HTWk := Lib.hid (HTWs.out k hlk)
                rw [HS1.out] at tb
                clear HPX HPA HTSi HTBi HTTs HTWs HSr HSu
                by_cases hp : PX k = (i : Int)
                · rw [if_pos hp] at HS1 tb
                  rw [hp] at p0
                  have bq : ((i : Int) == (i : Int)) = true := beq_self_eq_true _
                  generalize TWi k = t0 at *
                  generalize TN k = t1 at *
                  -- @p
                  go_wp2_with fail
                  -- @q
                  refine (HTWk.out _ (by exact G5)).mono ?_
                  rintro e w9 ⟨rfl, hb9⟩
                  clear HTWk
                  go_wp2_with fail
                  -- @r
                  go_roundw
                  case rel => exact ⟨k + 1, by omega, by go_num, by rw [HS1.out], hgk.trans hb9⟩
                  case measure => simp [intOf]; omega
                · rw [if_neg hp] at HS1 tb
                  have bq : (PX k == (i : Int)) = false := beq_eq_false_iff_ne.2 hp
                  generalize TWi k = t0 at *
                  generalize TN k = t1 at *
                  generalize PX k = px at *
                  -- @s
                  go_wp2_with fail
                  -- @t
                  go_roundw
                  case rel => exact ⟨k + 1, by omega, by go_num, by rw [HS1.out, Int.add_zero], hgk⟩
                  case measure => simp [intOf]; omega
              · obtain rfl : fn = k := by omega
                have tb := HTBi.out fn hk
                have E2 := Gr.at hgk k3_2; have E3 := Gr.at hgk k3_3; have E4 := Gr.at hgk k3_4
                clear HPX HPA HTSi HTBi HTTs HTWs k3_0 k3_1 k3_2 k3_3 k3_4 nx v0 v1
                have bq : (TWi fn / 2000000 * RN != TWi fn / 2000000 * RN) = false := by simp
                have GW2 : Gr W2 W5 := gb3_W2.trans hgk
                generalize TWi fn = t0 at *
                have hdv : t0.tdiv 2000000 = t0 / 2000000 := Int.tdiv_eq_ediv_of_nonneg tb.1
                obtain ⟨dv, hdv2⟩ : ∃ z, t0 / 2000000 = z := ⟨_, rfl⟩
                rw [hdv2] at hdv pb5 bq HSu
                have dv0 : 0 ≤ dv := by omega
                have dv1 : dv ≤ 9223372036854775807 := by omega
                obtain ⟨pr, hpr⟩ : ∃ z, dv * RN = z := ⟨_, rfl⟩
                rw [hpr] at pb5 bq HSu
                unfold Ba.i64 at pb5
                -- @u
                go_wp2_with fail
                -- @v
                (first | refine name_world ?_ | refine (show (∀ W, W = _ → Calls _ _ _ W _) → Calls _ _ _ _ _ from fun h => h _ rfl) ?_); intro W7 hW7
                have g7 : Gr w W7 := by rw [hW7]; exact gr_auto
                have gb7_W2 : Gr W2 W7 := by (try clear g7); rw [hW7]; exact gr_auto
                have k7_0 : W7.cell? ⟨W2.heap.size, 0, none⟩ = some (.string nmi) := by rw [hW7]; first | (simp [go_sem, *]; done) | (refine Gr.at ?_ (by assumption); exact gr_auto)
                have b7_0 : W2.heap.size < W7.heap.size := World.block_lt_of_cell? _ _ k7_0
                have k7_1 : W7.cell? ⟨W2.heap.size, 1, none⟩ = some (.slice vA vn vc) := by rw [hW7]; first | (simp [go_sem, *]; done) | (refine Gr.at ?_ (by assumption); exact gr_auto)
                have k7_2 : W7.cell? ⟨W1.heap.size, i, none⟩ = some (.string nmi) := by rw [hW7]; first | (simp [go_sem, *]; done) | (refine Gr.at ?_ (by assumption); exact gr_auto)
                have b7_2 : W1.heap.size < W7.heap.size := World.block_lt_of_cell? _ _ k7_2
                clear hW7
                have s7_0 : ∀ gw : GW W7, gw.1.cell? ⟨W2.heap.size, 0, none⟩ = some (.string nmi) := fun gw => Gr.at gw.2 k7_0
                have s7_1 : ∀ gw : GW W7, gw.1.cell? ⟨W2.heap.size, 1, none⟩ = some (.slice vA vn vc) := fun gw => Gr.at gw.2 k7_1
                have s7_2 : ∀ gw : GW W7, gw.1.cell? ⟨W1.heap.size, i, none⟩ = some (.string nmi) := fun gw => Gr.at gw.2 k7_2
                have QS := Lib.hid (fun gw : GW W7 => gw_call (HSr.out gw.1 (gb7_W2.trans gw.2)))
                have QU := Lib.hid (fun gw : GW W7 => gw_call (HSu.out gw.1 (gb7_W2.trans gw.2)))
                refine wp_region_gr (by kernel_rfl) (by kernel_rfl) ?_
                repeat (go_big_quiet_step (first | (go_at_call 48; with_reducible exact QS.out _) | (go_at_call 49; with_reducible exact QU.out _)))
                refine wpQuiet_nil ?_
                intro w8 hb8
                clear s7_0 s7_1 s7_2
                have g8 : Gr w w8 := g7.trans hb8
                have k7_0 := Gr.at hb8 k7_0
                have k7_1 := Gr.at hb8 k7_1
                have k7_2 := Gr.at hb8 k7_2
                -- @x
                go_wp2_with fail
                -- @y
                go_roundw
                case rel => exact ⟨i + 1, by omega, by go_num, hg.trans (gb7_W2.trans hb8)⟩
                case measure => simp [intOf]; omega
          · obtain rfl : i = 4 := by omega
            clear HVV HNX5
            -- @z
            go_wp2_with fail
            go_ret
            exact ⟨rfl, HD.out.2.2.trans hg⟩
      · obtain ⟨rfl, hq⟩ := h51 he
        have q7 : (err != 0) = true := bne_iff_ne.2 he
        clear h50 h51 HT HTW HTB HTT HT0 HTS HPX HPA HNX5
        cases VB
        · -- @A
          go_wp2_with fail
          refine (HV.out _ g5).mono ?_
          rintro e w6 ⟨rfl, hb6⟩
          go_wp2_with fail
          go_ret
          exact ⟨rfl, g5.trans hb6⟩
        · cases SB
          · -- @B
            go_wp2_with fail
            refine (HV.out _ g5).mono ?_
            rintro e w6 ⟨rfl, hb6⟩
            replace d0 := Gr.at hb6 d0; replace d1 := Gr.at hb6 d1; replace d2 := Gr.at hb6 d2; replace d3 := Gr.at hb6 d3; replace d4 := Gr.at hb6 d4
            have g6 := g5.trans hb6
            go_wp2_with fail
            refine (HG.out _ g6).mono ?_
            rintro e w7 ⟨rfl, hb7⟩
            go_wp2_with fail
            go_ret
            exact ⟨rfl, g6.trans hb7⟩
          · have q8 : (err == 1) = false := hq
            -- @C
            go_wp2_with fail
            refine (HV.out _ g5).mono ?_
            rintro e w6 ⟨rfl, hb6⟩
            replace d0 := Gr.at hb6 d0; replace d1 := Gr.at hb6 d1; replace d2 := Gr.at hb6 d2; replace d3 := Gr.at hb6 d3; replace d4 := Gr.at hb6 d4
            have g6 := g5.trans hb6
            go_wp2_with fail
            refine (HG.out _ g6).mono ?_
            rintro e w7 ⟨rfl, hb7⟩
            go_wp2_with fail
            go_ret
            exact ⟨rfl, g6.trans hb7⟩

theorem areas_law (m : Ms.Mesh) (P : Ba.SlI) (s : Ba.Ser) (w : World) (hm : m.At w) (hP : P.At w) (hS : s.Ok w) : Calls Tryd.prog 9 #[m.val, .slice P.A P.n P.c, s.val] w fun e w' => e = .returned (.bool true) ∧ Gr w w' := by
  by_cases h0 : m.S.n ≤ 40
  · by_cases h1 : m.F.n ≤ 40
    · by_cases h2 : P.n = m.F.n
      · by_cases h3 : s.ds.n ≤ 60
        · cases h : Ba.any (Ba.bad3 P) P.n
          · exact rar_main m P s w hm hP hS h0 h1 h2 h3 h
          · exact rar_far5 m P s w hm hP hS h0 h1 h2 h3 h
        · exact rar_far4 m P s w hm hP hS h0 h1 h2 (by omega)
      · exact rar_far3 m P s w hm hP hS h0 h1 h2
    · exact rar_far2 m P s w hm hP hS h0 (by omega)
  · exact rar_far1 m P s w hm hP hS (by omega)

theorem areas_holdlaw (S : Ba.SlSpot) (F : Ba.SlFace) (P : Ba.SlI) (s : Ba.Ser) (w : World) (h1 : S.At w) (h2 : F.At w) (h3 : P.At w) (h4 : s.Ok w) : Calls Tryd.prog 9 #[(Ms.Mesh.mk S F).val, .slice P.A P.n P.c, s.val] w fun e w' => e = .returned (.bool true) ∧ Gr w w' := areas_law ⟨S, F⟩ P s w ⟨h1, h2⟩ h3 h4
end Go.Proofs.YtajhhplgcegodaaDoor
