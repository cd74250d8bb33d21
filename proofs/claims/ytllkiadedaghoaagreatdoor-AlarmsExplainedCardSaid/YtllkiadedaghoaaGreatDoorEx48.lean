/-
  Seat .ZD: the law AlarmsExplained. (Printed by mkzxh.py.)
-/
import Derived.Test.YtllkiadedaghoaaGreatDoorEx45
import Derived.Test.YtllkiadedaghoaaGreatDoorEx47

set_option linter.unusedVariables false
set_option linter.unusedSimpArgs false
namespace Go.Proofs.YtllkiadedaghoaaGreatDoor
open Go.RowKit Go.Shelf Go.Sort
attribute [local go_sem ↓] Go.wp_at_zero Go.wp_at_succ
namespace Al
theorem RetIx.at {l : List Nat} {w w' : World} {e : Ending} (h : RetIx l w e w') : ∃ d : Ba.SlI, e = .returned (.tuple #[.slice d.A d.n d.c, .int .i64 0]) ∧ d.At w' ∧ d.n = l.length ∧ (∀ j (hj : j < l.length), d.X j = (l[j] : Int)) ∧ Gr w w' := h
theorem RetIb.at {l : List Nat} {w w' : World} {e : Ending} (h : RetIb l w e w') : ∃ d : Ba.SlI, e = .returned (.tuple #[.slice d.A d.n d.c, .bool true]) ∧ d.At w' ∧ d.n = l.length ∧ (∀ j (hj : j < l.length), d.X j = (l[j] : Int)) ∧ Gr w w' := h
end Al
/-- Equal rows of ints. -/
theorem eqI_same (a b : Ba.SlI) (l : List Nat) (w : World) (ha : a.At w) (hb : b.At w) (h1 : a.n = l.length) (h2 : ∀ j (hj : j < l.length), a.X j = (l[j] : Int)) (h3 : b.n = l.length) (h4 : ∀ j (hj : j < l.length), b.X j = (l[j] : Int)) : Calls Tryz.prog 14 #[.slice a.A a.n a.c, .slice b.A b.n b.c] w fun e w' => e = .returned (.bool true) ∧ Gr w w' := by
  have := eqi_any a b w (Nat.le_trans ha.hc ha.hb) (Nat.le_trans hb.hc hb.hb) ha.hA (fun i hi => (ha.hX i hi).1) hb.hA (fun i hi => (hb.hX i hi).1)
  rw [show Ba.eqI a b = true from by
    unfold Ba.eqI
    rw [Bool.and_eq_true, decide_eq_true_eq]
    refine ⟨h1.trans h3.symm, ?_⟩
    rw [Ba.allB_iff]
    intro i hi
    rw [beq_iff_eq, h2 i (by omega), h4 i (by omega)]] at this
  exact this
set_option maxRecDepth 100000 in
set_option maxHeartbeats 4000000 in
theorem expl_few (N : Ba.SlNode) (L : Ba.SlLink) (s : Al.SlM) (jp sm tl : Int) (a : Al.A) (w : World) (hN : N.At w) (hL : L.At w) (h : s.At w) (ha : a.At w) (hf : Al.fewB N.n L.n s.n (Al.lngB s) = false) : Calls Tryz.prog 3 #[Ba.netVal N L, .slice s.A s.n s.c, .agg #[.int .i64 jp, .int .i64 sm, .int .i64 tl], .agg #[.int .i64 a.kd, .string a.nd, .int .i64 a.tm, .slice a.p a.n a.c]] w fun e w' => e = .returned (.bool true) ∧ Gr w w' := by
  have HAw := Lib.hid (fun W => awake_any W)
  have HFe := Lib.hid (fun W (hW : Gr w W) => few_any N L s W (hN.gr hW) (hL.gr hW) (h.gr hW))
  have han := ha.hn
  rw [hf] at HFe
  clear hf
  clear hN hL h ha
  unfold Ba.netVal at *
  generalize N.A = nA at *; generalize N.n = nn at *; generalize N.c = nc at *; generalize L.A = lA at *; generalize L.n = ln at *; generalize L.c = lc at *; generalize s.A = sA at *; generalize s.n = sn at *; generalize s.c = sc at *; generalize a.kd = akd at *; generalize a.nd = and_ at *; generalize a.tm = atm at *; generalize a.p = ap at *; generalize a.n = an at *; generalize a.c = ac at *
  go_enter Tryz.func3, Tryz.ntmps3
  go_wp2_with fail
  refine (HAw.out _).mono ?_
  rintro e w1 ⟨rfl, hb⟩
  have g : Gr w w1 := gr_auto
  have q0 := Gr.at (show Gr _ w1 from hb) (show World.cell? _ ⟨w.heap.size, 0, none⟩ = some (.slice nA nn nc) from by simp [go_sem])
  have q1 := Gr.at (show Gr _ w1 from hb) (show World.cell? _ ⟨w.heap.size, 1, none⟩ = some (.slice lA ln lc) from by simp [go_sem])
  have q2 := Gr.at (show Gr _ w1 from hb) (show World.cell? _ ⟨w.heap.size + 1, 0, none⟩ = some (.int .i64 jp) from by simp [go_sem])
  have q3 := Gr.at (show Gr _ w1 from hb) (show World.cell? _ ⟨w.heap.size + 1, 1, none⟩ = some (.int .i64 sm) from by simp [go_sem])
  have q4 := Gr.at (show Gr _ w1 from hb) (show World.cell? _ ⟨w.heap.size + 1, 2, none⟩ = some (.int .i64 tl) from by simp [go_sem])
  have q5 := Gr.at (show Gr _ w1 from hb) (show World.cell? _ ⟨w.heap.size + 1 + 1, 0, none⟩ = some (.int .i64 akd) from by simp [go_sem])
  have q6 := Gr.at (show Gr _ w1 from hb) (show World.cell? _ ⟨w.heap.size + 1 + 1, 1, none⟩ = some (.string and_) from by simp [go_sem])
  have q7 := Gr.at (show Gr _ w1 from hb) (show World.cell? _ ⟨w.heap.size + 1 + 1, 2, none⟩ = some (.int .i64 atm) from by simp [go_sem])
  have q8 := Gr.at (show Gr _ w1 from hb) (show World.cell? _ ⟨w.heap.size + 1 + 1, 3, none⟩ = some (.slice ap an ac) from by simp [go_sem])
  clear hb HAw
  go_wp2_with fail
  refine (HFe.out _ g).mono ?_
  rintro e w2 ⟨rfl, hb⟩
  replace q0 := Gr.at hb q0; replace q1 := Gr.at hb q1; replace q2 := Gr.at hb q2; replace q3 := Gr.at hb q3; replace q4 := Gr.at hb q4; replace q5 := Gr.at hb q5; replace q6 := Gr.at hb q6; replace q7 := Gr.at hb q7; replace q8 := Gr.at hb q8; replace g := g.trans hb
  clear hb
  go_wp2_with fail
  go_ret
  exact ⟨rfl, g⟩
set_option maxRecDepth 100000 in
set_option maxHeartbeats 4000000 in
theorem expl_far (N : Ba.SlNode) (L : Ba.SlLink) (s : Al.SlM) (jp sm tl : Int) (a : Al.A) (w : World) (hN : N.At w) (hL : L.At w) (h : s.At w) (ha : a.At w) (hf : Al.fewB N.n L.n s.n (Al.lngB s) = true) (hx : 40 < a.n) : Calls Tryz.prog 3 #[Ba.netVal N L, .slice s.A s.n s.c, .agg #[.int .i64 jp, .int .i64 sm, .int .i64 tl], .agg #[.int .i64 a.kd, .string a.nd, .int .i64 a.tm, .slice a.p a.n a.c]] w fun e w' => e = .returned (.bool true) ∧ Gr w w' := by
  have HAw := Lib.hid (fun W => awake_any W)
  have HFe := Lib.hid (fun W (hW : Gr w W) => few_any N L s W (hN.gr hW) (hL.gr hW) (h.gr hW))
  have han := ha.hn
  rw [hf] at HFe
  clear hf
  clear hN hL h ha
  unfold Ba.netVal at *
  generalize N.A = nA at *; generalize N.n = nn at *; generalize N.c = nc at *; generalize L.A = lA at *; generalize L.n = ln at *; generalize L.c = lc at *; generalize s.A = sA at *; generalize s.n = sn at *; generalize s.c = sc at *; generalize a.kd = akd at *; generalize a.nd = and_ at *; generalize a.tm = atm at *; generalize a.p = ap at *; generalize a.n = an at *; generalize a.c = ac at *
  go_enter Tryz.func3, Tryz.ntmps3
  go_wp2_with fail
  refine (HAw.out _).mono ?_
  rintro e w1 ⟨rfl, hb⟩
  have g : Gr w w1 := gr_auto
  have q0 := Gr.at (show Gr _ w1 from hb) (show World.cell? _ ⟨w.heap.size, 0, none⟩ = some (.slice nA nn nc) from by simp [go_sem])
  have q1 := Gr.at (show Gr _ w1 from hb) (show World.cell? _ ⟨w.heap.size, 1, none⟩ = some (.slice lA ln lc) from by simp [go_sem])
  have q2 := Gr.at (show Gr _ w1 from hb) (show World.cell? _ ⟨w.heap.size + 1, 0, none⟩ = some (.int .i64 jp) from by simp [go_sem])
  have q3 := Gr.at (show Gr _ w1 from hb) (show World.cell? _ ⟨w.heap.size + 1, 1, none⟩ = some (.int .i64 sm) from by simp [go_sem])
  have q4 := Gr.at (show Gr _ w1 from hb) (show World.cell? _ ⟨w.heap.size + 1, 2, none⟩ = some (.int .i64 tl) from by simp [go_sem])
  have q5 := Gr.at (show Gr _ w1 from hb) (show World.cell? _ ⟨w.heap.size + 1 + 1, 0, none⟩ = some (.int .i64 akd) from by simp [go_sem])
  have q6 := Gr.at (show Gr _ w1 from hb) (show World.cell? _ ⟨w.heap.size + 1 + 1, 1, none⟩ = some (.string and_) from by simp [go_sem])
  have q7 := Gr.at (show Gr _ w1 from hb) (show World.cell? _ ⟨w.heap.size + 1 + 1, 2, none⟩ = some (.int .i64 atm) from by simp [go_sem])
  have q8 := Gr.at (show Gr _ w1 from hb) (show World.cell? _ ⟨w.heap.size + 1 + 1, 3, none⟩ = some (.slice ap an ac) from by simp [go_sem])
  clear hb HAw
  go_wp2_with fail
  refine (HFe.out _ g).mono ?_
  rintro e w2 ⟨rfl, hb⟩
  replace q0 := Gr.at hb q0; replace q1 := Gr.at hb q1; replace q2 := Gr.at hb q2; replace q3 := Gr.at hb q3; replace q4 := Gr.at hb q4; replace q5 := Gr.at hb q5; replace q6 := Gr.at hb q6; replace q7 := Gr.at hb q7; replace q8 := Gr.at hb q8; replace g := g.trans hb
  clear hb
  go_wp2_with fail
  go_ret
  exact ⟨rfl, g⟩
set_option maxRecDepth 100000 in
set_option maxHeartbeats 4000000 in
theorem expl_long (N : Ba.SlNode) (L : Ba.SlLink) (s : Al.SlM) (jp sm tl : Int) (a : Al.A) (w : World) (hN : N.At w) (hL : L.At w) (h : s.At w) (ha : a.At w) (hf : Al.fewB N.n L.n s.n (Al.lngB s) = true) (hx : a.n ≤ 40) (hy : 50 < a.nd.size) : Calls Tryz.prog 3 #[Ba.netVal N L, .slice s.A s.n s.c, .agg #[.int .i64 jp, .int .i64 sm, .int .i64 tl], .agg #[.int .i64 a.kd, .string a.nd, .int .i64 a.tm, .slice a.p a.n a.c]] w fun e w' => e = .returned (.bool true) ∧ Gr w w' := by
  have HAw := Lib.hid (fun W => awake_any W)
  have HFe := Lib.hid (fun W (hW : Gr w W) => few_any N L s W (hN.gr hW) (hL.gr hW) (h.gr hW))
  have han := ha.hn
  rw [hf] at HFe
  clear hf
  clear hN hL h ha
  unfold Ba.netVal at *
  generalize N.A = nA at *; generalize N.n = nn at *; generalize N.c = nc at *; generalize L.A = lA at *; generalize L.n = ln at *; generalize L.c = lc at *; generalize s.A = sA at *; generalize s.n = sn at *; generalize s.c = sc at *; generalize a.kd = akd at *; generalize a.nd = and_ at *; generalize a.tm = atm at *; generalize a.p = ap at *; generalize a.n = an at *; generalize a.c = ac at *
  go_enter Tryz.func3, Tryz.ntmps3
  go_wp2_with fail
  refine (HAw.out _).mono ?_
  rintro e w1 ⟨rfl, hb⟩
  have g : Gr w w1 := gr_auto
  have q0 := Gr.at (show Gr _ w1 from hb) (show World.cell? _ ⟨w.heap.size, 0, none⟩ = some (.slice nA nn nc) from by simp [go_sem])
  have q1 := Gr.at (show Gr _ w1 from hb) (show World.cell? _ ⟨w.heap.size, 1, none⟩ = some (.slice lA ln lc) from by simp [go_sem])
  have q2 := Gr.at (show Gr _ w1 from hb) (show World.cell? _ ⟨w.heap.size + 1, 0, none⟩ = some (.int .i64 jp) from by simp [go_sem])
  have q3 := Gr.at (show Gr _ w1 from hb) (show World.cell? _ ⟨w.heap.size + 1, 1, none⟩ = some (.int .i64 sm) from by simp [go_sem])
  have q4 := Gr.at (show Gr _ w1 from hb) (show World.cell? _ ⟨w.heap.size + 1, 2, none⟩ = some (.int .i64 tl) from by simp [go_sem])
  have q5 := Gr.at (show Gr _ w1 from hb) (show World.cell? _ ⟨w.heap.size + 1 + 1, 0, none⟩ = some (.int .i64 akd) from by simp [go_sem])
  have q6 := Gr.at (show Gr _ w1 from hb) (show World.cell? _ ⟨w.heap.size + 1 + 1, 1, none⟩ = some (.string and_) from by simp [go_sem])
  have q7 := Gr.at (show Gr _ w1 from hb) (show World.cell? _ ⟨w.heap.size + 1 + 1, 2, none⟩ = some (.int .i64 atm) from by simp [go_sem])
  have q8 := Gr.at (show Gr _ w1 from hb) (show World.cell? _ ⟨w.heap.size + 1 + 1, 3, none⟩ = some (.slice ap an ac) from by simp [go_sem])
  clear hb HAw
  go_wp2_with fail
  refine (HFe.out _ g).mono ?_
  rintro e w2 ⟨rfl, hb⟩
  replace q0 := Gr.at hb q0; replace q1 := Gr.at hb q1; replace q2 := Gr.at hb q2; replace q3 := Gr.at hb q3; replace q4 := Gr.at hb q4; replace q5 := Gr.at hb q5; replace q6 := Gr.at hb q6; replace q7 := Gr.at hb q7; replace q8 := Gr.at hb q8; replace g := g.trans hb
  clear hb
  go_wp2_with fail
  go_ret
  exact ⟨rfl, g⟩
set_option maxRecDepth 100000 in
set_option maxHeartbeats 4000000 in
theorem expl_f (N : Ba.SlNode) (L : Ba.SlLink) (s : Al.SlM) (jp sm tl : Int) (a : Al.A) (w : World) (hN : N.At w) (hL : L.At w) (h : s.At w) (ha : a.At w) (hf : Al.fewB N.n L.n s.n (Al.lngB s) = true) (hx : a.n ≤ 40) (hy : a.nd.size ≤ 50) (hv : s.vB = false) : Calls Tryz.prog 3 #[Ba.netVal N L, .slice s.A s.n s.c, .agg #[.int .i64 jp, .int .i64 sm, .int .i64 tl], .agg #[.int .i64 a.kd, .string a.nd, .int .i64 a.tm, .slice a.p a.n a.c]] w fun e w' => e = .returned (.bool true) ∧ Gr w w' := by
  have hnv : (Ba.netB N L && s.vB) = false := by rw [hv, Bool.and_false]
  have HAw := Lib.hid (fun W => awake_any W)
  have HFe := Lib.hid (fun W (hW : Gr w W) => few_any N L s W (hN.gr hW) (hL.gr hW) (h.gr hW))
  have han := ha.hn
  rw [hf] at HFe
  clear hf
  have HV := Lib.hid (fun W (hW : Gr w W) => rvalid52_any s W (h.gr hW))
  rw [hv] at HV
  have HEx := Lib.hid (fun W (hW : Gr w W) => show Calls Tryz.prog 7 #[Ba.netVal N L, .slice s.A s.n s.c, .agg #[.int .i64 a.kd, .string a.nd, .int .i64 a.tm, .slice a.p a.n a.c]] W fun e w' => e = .returned (.tuple #[.string ⟨#[]⟩, .int .i64 1]) ∧ Gr W w' from Exp_no N.A L.A N.n N.c L.n L.c s a W (ha.gr hW) (fun W2 h2 => by
    have := aright_any N L s W2 (hN.gr (hW.trans h2)) (hL.gr (hW.trans h2)) (h.gr (hW.trans h2))
    rw [hnv] at this; exact this))
  have HCo := Lib.hid (fun W (hW : Gr w W) => Core_no N L s jp sm tl a W (hN.gr hW) (hL.gr hW) (h.gr hW) (ha.gr hW) 1 (by unfold Al.gvE; rw [hnv]; rfl) (by decide))
  clear hv hnv
  clear hN hL h ha
  unfold Ba.netVal at *
  generalize N.A = nA at *; generalize N.n = nn at *; generalize N.c = nc at *; generalize L.A = lA at *; generalize L.n = ln at *; generalize L.c = lc at *; generalize s.A = sA at *; generalize s.n = sn at *; generalize s.c = sc at *; generalize a.kd = akd at *; generalize a.nd = and_ at *; generalize a.tm = atm at *; generalize a.p = ap at *; generalize a.n = an at *; generalize a.c = ac at *
  go_enter Tryz.func3, Tryz.ntmps3
  go_wp2_with fail
  refine (HAw.out _).mono ?_
  rintro e w1 ⟨rfl, hb⟩
  have g : Gr w w1 := gr_auto
  have q0 := Gr.at (show Gr _ w1 from hb) (show World.cell? _ ⟨w.heap.size, 0, none⟩ = some (.slice nA nn nc) from by simp [go_sem])
  have q1 := Gr.at (show Gr _ w1 from hb) (show World.cell? _ ⟨w.heap.size, 1, none⟩ = some (.slice lA ln lc) from by simp [go_sem])
  have q2 := Gr.at (show Gr _ w1 from hb) (show World.cell? _ ⟨w.heap.size + 1, 0, none⟩ = some (.int .i64 jp) from by simp [go_sem])
  have q3 := Gr.at (show Gr _ w1 from hb) (show World.cell? _ ⟨w.heap.size + 1, 1, none⟩ = some (.int .i64 sm) from by simp [go_sem])
  have q4 := Gr.at (show Gr _ w1 from hb) (show World.cell? _ ⟨w.heap.size + 1, 2, none⟩ = some (.int .i64 tl) from by simp [go_sem])
  have q5 := Gr.at (show Gr _ w1 from hb) (show World.cell? _ ⟨w.heap.size + 1 + 1, 0, none⟩ = some (.int .i64 akd) from by simp [go_sem])
  have q6 := Gr.at (show Gr _ w1 from hb) (show World.cell? _ ⟨w.heap.size + 1 + 1, 1, none⟩ = some (.string and_) from by simp [go_sem])
  have q7 := Gr.at (show Gr _ w1 from hb) (show World.cell? _ ⟨w.heap.size + 1 + 1, 2, none⟩ = some (.int .i64 atm) from by simp [go_sem])
  have q8 := Gr.at (show Gr _ w1 from hb) (show World.cell? _ ⟨w.heap.size + 1 + 1, 3, none⟩ = some (.slice ap an ac) from by simp [go_sem])
  clear hb HAw
  go_wp2_with fail
  refine (HFe.out _ g).mono ?_
  rintro e w2 ⟨rfl, hb⟩
  replace q0 := Gr.at hb q0; replace q1 := Gr.at hb q1; replace q2 := Gr.at hb q2; replace q3 := Gr.at hb q3; replace q4 := Gr.at hb q4; replace q5 := Gr.at hb q5; replace q6 := Gr.at hb q6; replace q7 := Gr.at hb q7; replace q8 := Gr.at hb q8; replace g := g.trans hb
  clear hb
  go_wp2_with fail
  refine (HEx.out _ g).mono ?_
  rintro e w3 ⟨rfl, hb⟩
  replace q0 := Gr.at hb q0; replace q1 := Gr.at hb q1; replace q2 := Gr.at hb q2; replace q3 := Gr.at hb q3; replace q4 := Gr.at hb q4; replace q5 := Gr.at hb q5; replace q6 := Gr.at hb q6; replace q7 := Gr.at hb q7; replace q8 := Gr.at hb q8; replace g := g.trans hb
  clear hb
  go_wp2_with fail
  refine (HCo.out _ g).mono ?_
  rintro e w4 ⟨rfl, hb⟩
  replace q0 := Gr.at hb q0; replace q1 := Gr.at hb q1; replace q2 := Gr.at hb q2; replace q3 := Gr.at hb q3; replace q4 := Gr.at hb q4; replace q5 := Gr.at hb q5; replace q6 := Gr.at hb q6; replace q7 := Gr.at hb q7; replace q8 := Gr.at hb q8; replace g := g.trans hb
  clear hb
  go_wp2_with fail
  refine (HV.out _ g).mono ?_
  rintro e w5 ⟨rfl, hb⟩
  replace q0 := Gr.at hb q0; replace q1 := Gr.at hb q1; replace q2 := Gr.at hb q2; replace q3 := Gr.at hb q3; replace q4 := Gr.at hb q4; replace q5 := Gr.at hb q5; replace q6 := Gr.at hb q6; replace q7 := Gr.at hb q7; replace q8 := Gr.at hb q8; replace g := g.trans hb
  clear hb
  go_wp2_with fail
  go_ret
  exact ⟨rfl, g⟩
set_option maxRecDepth 100000 in
set_option maxHeartbeats 4000000 in
theorem expl_tf (N : Ba.SlNode) (L : Ba.SlLink) (s : Al.SlM) (jp sm tl : Int) (a : Al.A) (w : World) (hN : N.At w) (hL : L.At w) (h : s.At w) (ha : a.At w) (hf : Al.fewB N.n L.n s.n (Al.lngB s) = true) (hx : a.n ≤ 40) (hy : a.nd.size ≤ 50) (hv : s.vB = true) (hn : Ba.netB N L = false) : Calls Tryz.prog 3 #[Ba.netVal N L, .slice s.A s.n s.c, .agg #[.int .i64 jp, .int .i64 sm, .int .i64 tl], .agg #[.int .i64 a.kd, .string a.nd, .int .i64 a.tm, .slice a.p a.n a.c]] w fun e w' => e = .returned (.bool true) ∧ Gr w w' := by
  have hnv : (Ba.netB N L && s.vB) = false := by rw [hn, Bool.false_and]
  have HAw := Lib.hid (fun W => awake_any W)
  have HFe := Lib.hid (fun W (hW : Gr w W) => few_any N L s W (hN.gr hW) (hL.gr hW) (h.gr hW))
  have han := ha.hn
  rw [hf] at HFe
  clear hf
  have HV := Lib.hid (fun W (hW : Gr w W) => rvalid52_any s W (h.gr hW))
  rw [hv] at HV
  have HNv := Lib.hid (fun W (hW : Gr w W) => rnetvalid_any N L W (hN.gr hW) (hL.gr hW))
  rw [hn] at HNv
  have HEx := Lib.hid (fun W (hW : Gr w W) => show Calls Tryz.prog 7 #[Ba.netVal N L, .slice s.A s.n s.c, .agg #[.int .i64 a.kd, .string a.nd, .int .i64 a.tm, .slice a.p a.n a.c]] W fun e w' => e = .returned (.tuple #[.string ⟨#[]⟩, .int .i64 1]) ∧ Gr W w' from Exp_no N.A L.A N.n N.c L.n L.c s a W (ha.gr hW) (fun W2 h2 => by
    have := aright_any N L s W2 (hN.gr (hW.trans h2)) (hL.gr (hW.trans h2)) (h.gr (hW.trans h2))
    rw [hnv] at this; exact this))
  have HCo := Lib.hid (fun W (hW : Gr w W) => Core_no N L s jp sm tl a W (hN.gr hW) (hL.gr hW) (h.gr hW) (ha.gr hW) 1 (by unfold Al.gvE; rw [hnv]; rfl) (by decide))
  clear hv hn hnv
  clear hN hL h ha
  unfold Ba.netVal at *
  generalize N.A = nA at *; generalize N.n = nn at *; generalize N.c = nc at *; generalize L.A = lA at *; generalize L.n = ln at *; generalize L.c = lc at *; generalize s.A = sA at *; generalize s.n = sn at *; generalize s.c = sc at *; generalize a.kd = akd at *; generalize a.nd = and_ at *; generalize a.tm = atm at *; generalize a.p = ap at *; generalize a.n = an at *; generalize a.c = ac at *
  go_enter Tryz.func3, Tryz.ntmps3
  go_wp2_with fail
  refine (HAw.out _).mono ?_
  rintro e w1 ⟨rfl, hb⟩
  have g : Gr w w1 := gr_auto
  have q0 := Gr.at (show Gr _ w1 from hb) (show World.cell? _ ⟨w.heap.size, 0, none⟩ = some (.slice nA nn nc) from by simp [go_sem])
  have q1 := Gr.at (show Gr _ w1 from hb) (show World.cell? _ ⟨w.heap.size, 1, none⟩ = some (.slice lA ln lc) from by simp [go_sem])
  have q2 := Gr.at (show Gr _ w1 from hb) (show World.cell? _ ⟨w.heap.size + 1, 0, none⟩ = some (.int .i64 jp) from by simp [go_sem])
  have q3 := Gr.at (show Gr _ w1 from hb) (show World.cell? _ ⟨w.heap.size + 1, 1, none⟩ = some (.int .i64 sm) from by simp [go_sem])
  have q4 := Gr.at (show Gr _ w1 from hb) (show World.cell? _ ⟨w.heap.size + 1, 2, none⟩ = some (.int .i64 tl) from by simp [go_sem])
  have q5 := Gr.at (show Gr _ w1 from hb) (show World.cell? _ ⟨w.heap.size + 1 + 1, 0, none⟩ = some (.int .i64 akd) from by simp [go_sem])
  have q6 := Gr.at (show Gr _ w1 from hb) (show World.cell? _ ⟨w.heap.size + 1 + 1, 1, none⟩ = some (.string and_) from by simp [go_sem])
  have q7 := Gr.at (show Gr _ w1 from hb) (show World.cell? _ ⟨w.heap.size + 1 + 1, 2, none⟩ = some (.int .i64 atm) from by simp [go_sem])
  have q8 := Gr.at (show Gr _ w1 from hb) (show World.cell? _ ⟨w.heap.size + 1 + 1, 3, none⟩ = some (.slice ap an ac) from by simp [go_sem])
  clear hb HAw
  go_wp2_with fail
  refine (HFe.out _ g).mono ?_
  rintro e w2 ⟨rfl, hb⟩
  replace q0 := Gr.at hb q0; replace q1 := Gr.at hb q1; replace q2 := Gr.at hb q2; replace q3 := Gr.at hb q3; replace q4 := Gr.at hb q4; replace q5 := Gr.at hb q5; replace q6 := Gr.at hb q6; replace q7 := Gr.at hb q7; replace q8 := Gr.at hb q8; replace g := g.trans hb
  clear hb
  go_wp2_with fail
  refine (HEx.out _ g).mono ?_
  rintro e w3 ⟨rfl, hb⟩
  replace q0 := Gr.at hb q0; replace q1 := Gr.at hb q1; replace q2 := Gr.at hb q2; replace q3 := Gr.at hb q3; replace q4 := Gr.at hb q4; replace q5 := Gr.at hb q5; replace q6 := Gr.at hb q6; replace q7 := Gr.at hb q7; replace q8 := Gr.at hb q8; replace g := g.trans hb
  clear hb
  go_wp2_with fail
  refine (HCo.out _ g).mono ?_
  rintro e w4 ⟨rfl, hb⟩
  replace q0 := Gr.at hb q0; replace q1 := Gr.at hb q1; replace q2 := Gr.at hb q2; replace q3 := Gr.at hb q3; replace q4 := Gr.at hb q4; replace q5 := Gr.at hb q5; replace q6 := Gr.at hb q6; replace q7 := Gr.at hb q7; replace q8 := Gr.at hb q8; replace g := g.trans hb
  clear hb
  go_wp2_with fail
  refine (HV.out _ g).mono ?_
  rintro e w5 ⟨rfl, hb⟩
  replace q0 := Gr.at hb q0; replace q1 := Gr.at hb q1; replace q2 := Gr.at hb q2; replace q3 := Gr.at hb q3; replace q4 := Gr.at hb q4; replace q5 := Gr.at hb q5; replace q6 := Gr.at hb q6; replace q7 := Gr.at hb q7; replace q8 := Gr.at hb q8; replace g := g.trans hb
  clear hb
  go_wp2_with fail
  refine (HNv.out _ g).mono ?_
  rintro e w6 ⟨rfl, hb⟩
  replace q0 := Gr.at hb q0; replace q1 := Gr.at hb q1; replace q2 := Gr.at hb q2; replace q3 := Gr.at hb q3; replace q4 := Gr.at hb q4; replace q5 := Gr.at hb q5; replace q6 := Gr.at hb q6; replace q7 := Gr.at hb q7; replace q8 := Gr.at hb q8; replace g := g.trans hb
  clear hb
  go_wp2_with fail
  go_ret
  exact ⟨rfl, g⟩
set_option maxRecDepth 100000 in
set_option maxHeartbeats 4000000 in
theorem expl_ttf (N : Ba.SlNode) (L : Ba.SlLink) (s : Al.SlM) (jp sm tl : Int) (a : Al.A) (w : World) (hN : N.At w) (hL : L.At w) (h : s.At w) (ha : a.At w) (hf : Al.fewB N.n L.n s.n (Al.lngB s) = true) (hx : a.n ≤ 40) (hy : a.nd.size ≤ 50) (hv : s.vB = true) (hn : Ba.netB N L = true) (ht : Tab w) (hl : Al.lmO jp sm tl = false) : Calls Tryz.prog 3 #[Ba.netVal N L, .slice s.A s.n s.c, .agg #[.int .i64 jp, .int .i64 sm, .int .i64 tl], .agg #[.int .i64 a.kd, .string a.nd, .int .i64 a.tm, .slice a.p a.n a.c]] w fun e w' => e = .returned (.bool true) ∧ Gr w w' := by
  have HAw := Lib.hid (fun W => awake_any W)
  have HFe := Lib.hid (fun W (hW : Gr w W) => few_any N L s W (hN.gr hW) (hL.gr hW) (h.gr hW))
  have han := ha.hn
  rw [hf] at HFe
  clear hf
  have HV := Lib.hid (fun W (hW : Gr w W) => rvalid52_any s W (h.gr hW))
  rw [hv] at HV
  have HNv := Lib.hid (fun W (hW : Gr w W) => rnetvalid_any N L W (hN.gr hW) (hL.gr hW))
  rw [hn] at HNv
  obtain ⟨T, E, B1, B2, -⟩ := exp_both N L s a w hN hL h ha hn hv ht hx hy
  have HEx := Lib.hid B1; have RX := Lib.hid B2
  clear B1 B2
  have HRt := Lib.hid (fun W => rright53_any jp sm tl W)
  rw [hl] at HRt
  have HCo := Lib.hid (fun W (hW : Gr w W) => Core_no N L s jp sm tl a W (hN.gr hW) (hL.gr hW) (h.gr hW) (ha.gr hW) 2 (by unfold Al.gvE; rw [hn, hv, hl]; rfl) (by decide))
  clear hv hn hl ht
  have st0 : ((⟨T.toArray⟩ : ByteArray).toList != (⟨T.toArray⟩ : ByteArray).toList) = false := by simp
  have se0 : (E != E) = false := by simp
  generalize (⟨T.toArray⟩ : ByteArray) = TS at *
  clear hN hL h ha
  unfold Ba.netVal at *
  generalize N.A = nA at *; generalize N.n = nn at *; generalize N.c = nc at *; generalize L.A = lA at *; generalize L.n = ln at *; generalize L.c = lc at *; generalize s.A = sA at *; generalize s.n = sn at *; generalize s.c = sc at *; generalize a.kd = akd at *; generalize a.nd = and_ at *; generalize a.tm = atm at *; generalize a.p = ap at *; generalize a.n = an at *; generalize a.c = ac at *
  go_enter Tryz.func3, Tryz.ntmps3
  go_wp2_with fail
  refine (HAw.out _).mono ?_
  rintro e w1 ⟨rfl, hb⟩
  have g : Gr w w1 := gr_auto
  have q0 := Gr.at (show Gr _ w1 from hb) (show World.cell? _ ⟨w.heap.size, 0, none⟩ = some (.slice nA nn nc) from by simp [go_sem])
  have q1 := Gr.at (show Gr _ w1 from hb) (show World.cell? _ ⟨w.heap.size, 1, none⟩ = some (.slice lA ln lc) from by simp [go_sem])
  have q2 := Gr.at (show Gr _ w1 from hb) (show World.cell? _ ⟨w.heap.size + 1, 0, none⟩ = some (.int .i64 jp) from by simp [go_sem])
  have q3 := Gr.at (show Gr _ w1 from hb) (show World.cell? _ ⟨w.heap.size + 1, 1, none⟩ = some (.int .i64 sm) from by simp [go_sem])
  have q4 := Gr.at (show Gr _ w1 from hb) (show World.cell? _ ⟨w.heap.size + 1, 2, none⟩ = some (.int .i64 tl) from by simp [go_sem])
  have q5 := Gr.at (show Gr _ w1 from hb) (show World.cell? _ ⟨w.heap.size + 1 + 1, 0, none⟩ = some (.int .i64 akd) from by simp [go_sem])
  have q6 := Gr.at (show Gr _ w1 from hb) (show World.cell? _ ⟨w.heap.size + 1 + 1, 1, none⟩ = some (.string and_) from by simp [go_sem])
  have q7 := Gr.at (show Gr _ w1 from hb) (show World.cell? _ ⟨w.heap.size + 1 + 1, 2, none⟩ = some (.int .i64 atm) from by simp [go_sem])
  have q8 := Gr.at (show Gr _ w1 from hb) (show World.cell? _ ⟨w.heap.size + 1 + 1, 3, none⟩ = some (.slice ap an ac) from by simp [go_sem])
  clear hb HAw
  go_wp2_with fail
  refine (HFe.out _ g).mono ?_
  rintro e w2 ⟨rfl, hb⟩
  replace q0 := Gr.at hb q0; replace q1 := Gr.at hb q1; replace q2 := Gr.at hb q2; replace q3 := Gr.at hb q3; replace q4 := Gr.at hb q4; replace q5 := Gr.at hb q5; replace q6 := Gr.at hb q6; replace q7 := Gr.at hb q7; replace q8 := Gr.at hb q8; replace g := g.trans hb
  clear hb
  go_wp2_with fail
  refine (HEx.out _ g).mono ?_
  rintro e w3 ⟨rfl, hb⟩
  replace q0 := Gr.at hb q0; replace q1 := Gr.at hb q1; replace q2 := Gr.at hb q2; replace q3 := Gr.at hb q3; replace q4 := Gr.at hb q4; replace q5 := Gr.at hb q5; replace q6 := Gr.at hb q6; replace q7 := Gr.at hb q7; replace q8 := Gr.at hb q8; replace g := g.trans hb
  clear hb
  go_wp2_with fail
  refine (HCo.out _ g).mono ?_
  rintro e w4 ⟨rfl, hb⟩
  replace q0 := Gr.at hb q0; replace q1 := Gr.at hb q1; replace q2 := Gr.at hb q2; replace q3 := Gr.at hb q3; replace q4 := Gr.at hb q4; replace q5 := Gr.at hb q5; replace q6 := Gr.at hb q6; replace q7 := Gr.at hb q7; replace q8 := Gr.at hb q8; replace g := g.trans hb
  clear hb
  go_wp2_with fail
  refine (HV.out _ g).mono ?_
  rintro e w5 ⟨rfl, hb⟩
  replace q0 := Gr.at hb q0; replace q1 := Gr.at hb q1; replace q2 := Gr.at hb q2; replace q3 := Gr.at hb q3; replace q4 := Gr.at hb q4; replace q5 := Gr.at hb q5; replace q6 := Gr.at hb q6; replace q7 := Gr.at hb q7; replace q8 := Gr.at hb q8; replace g := g.trans hb
  clear hb
  go_wp2_with fail
  refine (HNv.out _ g).mono ?_
  rintro e w6 ⟨rfl, hb⟩
  replace q0 := Gr.at hb q0; replace q1 := Gr.at hb q1; replace q2 := Gr.at hb q2; replace q3 := Gr.at hb q3; replace q4 := Gr.at hb q4; replace q5 := Gr.at hb q5; replace q6 := Gr.at hb q6; replace q7 := Gr.at hb q7; replace q8 := Gr.at hb q8; replace g := g.trans hb
  clear hb
  go_wp2_with fail
  refine (RX.out _ g).mono ?_
  rintro e w7 ⟨rfl, hb⟩
  replace q0 := Gr.at hb q0; replace q1 := Gr.at hb q1; replace q2 := Gr.at hb q2; replace q3 := Gr.at hb q3; replace q4 := Gr.at hb q4; replace q5 := Gr.at hb q5; replace q6 := Gr.at hb q6; replace q7 := Gr.at hb q7; replace q8 := Gr.at hb q8; replace g := g.trans hb
  clear hb
  go_wp2_with fail
  refine (HRt.out _).mono ?_
  rintro e w8 ⟨rfl, hb⟩
  replace q0 := Gr.at hb q0; replace q1 := Gr.at hb q1; replace q2 := Gr.at hb q2; replace q3 := Gr.at hb q3; replace q4 := Gr.at hb q4; replace q5 := Gr.at hb q5; replace q6 := Gr.at hb q6; replace q7 := Gr.at hb q7; replace q8 := Gr.at hb q8; replace g := g.trans hb
  clear hb
  go_wp2_with fail
  go_ret
  exact ⟨rfl, g⟩
set_option maxRecDepth 100000 in
set_option maxHeartbeats 4000000 in
theorem expl_none (N : Ba.SlNode) (L : Ba.SlLink) (s : Al.SlM) (jp sm tl : Int) (a : Al.A) (w : World) (hN : N.At w) (hL : L.At w) (h : s.At w) (ha : a.At w) (hf : Al.fewB N.n L.n s.n (Al.lngB s) = true) (hx : a.n ≤ 40) (hy : a.nd.size ≤ 50) (hv : s.vB = true) (hn : Ba.netB N L = true) (ht : Tab w) (hl : Al.lmO jp sm tl = true) (hm : a.con ∉ Al.allC N s.lst jp sm) : Calls Tryz.prog 3 #[Ba.netVal N L, .slice s.A s.n s.c, .agg #[.int .i64 jp, .int .i64 sm, .int .i64 tl], .agg #[.int .i64 a.kd, .string a.nd, .int .i64 a.tm, .slice a.p a.n a.c]] w fun e w' => e = .returned (.bool true) ∧ Gr w w' := by
  have HAw := Lib.hid (fun W => awake_any W)
  have HFe := Lib.hid (fun W (hW : Gr w W) => few_any N L s W (hN.gr hW) (hL.gr hW) (h.gr hW))
  have han := ha.hn
  rw [hf] at HFe
  clear hf
  have HV := Lib.hid (fun W (hW : Gr w W) => rvalid52_any s W (h.gr hW))
  rw [hv] at HV
  have HNv := Lib.hid (fun W (hW : Gr w W) => rnetvalid_any N L W (hN.gr hW) (hL.gr hW))
  rw [hn] at HNv
  obtain ⟨T, E, B1, B2, -⟩ := exp_both N L s a w hN hL h ha hn hv ht hx hy
  have HEx := Lib.hid B1; have RX := Lib.hid B2
  clear B1 B2
  have HRt := Lib.hid (fun W => rright53_any jp sm tl W)
  rw [hl] at HRt
  have hk : Al.gvE (Ba.netB N L && s.vB) (Al.lmO jp sm tl) = 0 := by rw [hn, hv, hl]; rfl
  have hvl := (Al.vB_iff s).1 hv
  have hl1 : 0 ≤ jp ∧ jp ≤ 8388608 := by have := hl; unfold Al.lmO at this; rw [Bool.and_eq_true] at this; exact Al.jmO_iff.1 this.1
  have hl2 : 2 ≤ sm ∧ sm ≤ 10000 := by have := hl; unfold Al.lmO at this; rw [Bool.and_eq_true, Bool.and_eq_true] at this; exact Al.stO_iff.1 this.2.1
  have HCo := Lib.hid (fun W (hW : Gr w W) => Core_none N L s jp sm tl a W (hN.gr hW) (hL.gr hW) (h.gr hW) (ha.gr hW) hk hm)
  have RC := Lib.hid (fun W (hW : Gr w W) => rCore_none N L s jp sm tl a W (hN.gr hW) (hL.gr hW) (h.gr hW) (ha.gr hW) hvl hl1 hl2 hm)
  clear hv hn hl ht hk hvl hl1 hl2 hm
  have st0 : ((⟨T.toArray⟩ : ByteArray).toList != (⟨T.toArray⟩ : ByteArray).toList) = false := by simp
  have se0 : (E != E) = false := by simp
  generalize (⟨T.toArray⟩ : ByteArray) = TS at *
  clear hN hL h ha
  unfold Ba.netVal at *
  generalize N.A = nA at *; generalize N.n = nn at *; generalize N.c = nc at *; generalize L.A = lA at *; generalize L.n = ln at *; generalize L.c = lc at *; generalize s.A = sA at *; generalize s.n = sn at *; generalize s.c = sc at *; generalize a.kd = akd at *; generalize a.nd = and_ at *; generalize a.tm = atm at *; generalize a.p = ap at *; generalize a.n = an at *; generalize a.c = ac at *
  go_enter Tryz.func3, Tryz.ntmps3
  go_wp2_with fail
  refine (HAw.out _).mono ?_
  rintro e w1 ⟨rfl, hb⟩
  have g : Gr w w1 := gr_auto
  have q0 := Gr.at (show Gr _ w1 from hb) (show World.cell? _ ⟨w.heap.size, 0, none⟩ = some (.slice nA nn nc) from by simp [go_sem])
  have q1 := Gr.at (show Gr _ w1 from hb) (show World.cell? _ ⟨w.heap.size, 1, none⟩ = some (.slice lA ln lc) from by simp [go_sem])
  have q2 := Gr.at (show Gr _ w1 from hb) (show World.cell? _ ⟨w.heap.size + 1, 0, none⟩ = some (.int .i64 jp) from by simp [go_sem])
  have q3 := Gr.at (show Gr _ w1 from hb) (show World.cell? _ ⟨w.heap.size + 1, 1, none⟩ = some (.int .i64 sm) from by simp [go_sem])
  have q4 := Gr.at (show Gr _ w1 from hb) (show World.cell? _ ⟨w.heap.size + 1, 2, none⟩ = some (.int .i64 tl) from by simp [go_sem])
  have q5 := Gr.at (show Gr _ w1 from hb) (show World.cell? _ ⟨w.heap.size + 1 + 1, 0, none⟩ = some (.int .i64 akd) from by simp [go_sem])
  have q6 := Gr.at (show Gr _ w1 from hb) (show World.cell? _ ⟨w.heap.size + 1 + 1, 1, none⟩ = some (.string and_) from by simp [go_sem])
  have q7 := Gr.at (show Gr _ w1 from hb) (show World.cell? _ ⟨w.heap.size + 1 + 1, 2, none⟩ = some (.int .i64 atm) from by simp [go_sem])
  have q8 := Gr.at (show Gr _ w1 from hb) (show World.cell? _ ⟨w.heap.size + 1 + 1, 3, none⟩ = some (.slice ap an ac) from by simp [go_sem])
  clear hb HAw
  go_wp2_with fail
  refine (HFe.out _ g).mono ?_
  rintro e w2 ⟨rfl, hb⟩
  replace q0 := Gr.at hb q0; replace q1 := Gr.at hb q1; replace q2 := Gr.at hb q2; replace q3 := Gr.at hb q3; replace q4 := Gr.at hb q4; replace q5 := Gr.at hb q5; replace q6 := Gr.at hb q6; replace q7 := Gr.at hb q7; replace q8 := Gr.at hb q8; replace g := g.trans hb
  clear hb
  go_wp2_with fail
  refine (HEx.out _ g).mono ?_
  rintro e w3 ⟨rfl, hb⟩
  replace q0 := Gr.at hb q0; replace q1 := Gr.at hb q1; replace q2 := Gr.at hb q2; replace q3 := Gr.at hb q3; replace q4 := Gr.at hb q4; replace q5 := Gr.at hb q5; replace q6 := Gr.at hb q6; replace q7 := Gr.at hb q7; replace q8 := Gr.at hb q8; replace g := g.trans hb
  clear hb
  go_wp2_with fail
  refine (HCo.out _ g).mono ?_
  rintro e w4 ⟨rfl, hb⟩
  replace q0 := Gr.at hb q0; replace q1 := Gr.at hb q1; replace q2 := Gr.at hb q2; replace q3 := Gr.at hb q3; replace q4 := Gr.at hb q4; replace q5 := Gr.at hb q5; replace q6 := Gr.at hb q6; replace q7 := Gr.at hb q7; replace q8 := Gr.at hb q8; replace g := g.trans hb
  clear hb
  go_wp2_with fail
  refine (HV.out _ g).mono ?_
  rintro e w5 ⟨rfl, hb⟩
  replace q0 := Gr.at hb q0; replace q1 := Gr.at hb q1; replace q2 := Gr.at hb q2; replace q3 := Gr.at hb q3; replace q4 := Gr.at hb q4; replace q5 := Gr.at hb q5; replace q6 := Gr.at hb q6; replace q7 := Gr.at hb q7; replace q8 := Gr.at hb q8; replace g := g.trans hb
  clear hb
  go_wp2_with fail
  refine (HNv.out _ g).mono ?_
  rintro e w6 ⟨rfl, hb⟩
  replace q0 := Gr.at hb q0; replace q1 := Gr.at hb q1; replace q2 := Gr.at hb q2; replace q3 := Gr.at hb q3; replace q4 := Gr.at hb q4; replace q5 := Gr.at hb q5; replace q6 := Gr.at hb q6; replace q7 := Gr.at hb q7; replace q8 := Gr.at hb q8; replace g := g.trans hb
  clear hb
  go_wp2_with fail
  refine (RX.out _ g).mono ?_
  rintro e w7 ⟨rfl, hb⟩
  replace q0 := Gr.at hb q0; replace q1 := Gr.at hb q1; replace q2 := Gr.at hb q2; replace q3 := Gr.at hb q3; replace q4 := Gr.at hb q4; replace q5 := Gr.at hb q5; replace q6 := Gr.at hb q6; replace q7 := Gr.at hb q7; replace q8 := Gr.at hb q8; replace g := g.trans hb
  clear hb
  go_wp2_with fail
  refine (HRt.out _).mono ?_
  rintro e w8 ⟨rfl, hb⟩
  replace q0 := Gr.at hb q0; replace q1 := Gr.at hb q1; replace q2 := Gr.at hb q2; replace q3 := Gr.at hb q3; replace q4 := Gr.at hb q4; replace q5 := Gr.at hb q5; replace q6 := Gr.at hb q6; replace q7 := Gr.at hb q7; replace q8 := Gr.at hb q8; replace g := g.trans hb
  clear hb
  go_wp2_with fail
  refine (RC.out _ g).mono ?_
  rintro e w9 ⟨rfl, hb⟩
  replace q0 := Gr.at hb q0; replace q1 := Gr.at hb q1; replace q2 := Gr.at hb q2; replace q3 := Gr.at hb q3; replace q4 := Gr.at hb q4; replace q5 := Gr.at hb q5; replace q6 := Gr.at hb q6; replace q7 := Gr.at hb q7; replace q8 := Gr.at hb q8; replace g := g.trans hb
  clear hb
  go_wp2_with fail
  go_ret
  exact ⟨rfl, g⟩
set_option maxRecDepth 100000 in
set_option maxHeartbeats 4000000 in
theorem expl_ok (N : Ba.SlNode) (L : Ba.SlLink) (s : Al.SlM) (jp sm tl : Int) (a : Al.A) (w : World) (hN : N.At w) (hL : L.At w) (h : s.At w) (ha : a.At w) (hf : Al.fewB N.n L.n s.n (Al.lngB s) = true) (hx : a.n ≤ 40) (hy : a.nd.size ≤ 50) (hv : s.vB = true) (hn : Ba.netB N L = true) (ht : Tab w) (hl : Al.lmO jp sm tl = true) (hm : a.con ∈ Al.allC N s.lst jp sm) : Calls Tryz.prog 3 #[Ba.netVal N L, .slice s.A s.n s.c, .agg #[.int .i64 jp, .int .i64 sm, .int .i64 tl], .agg #[.int .i64 a.kd, .string a.nd, .int .i64 a.tm, .slice a.p a.n a.c]] w fun e w' => e = .returned (.bool true) ∧ Gr w w' := by
  have HAw := Lib.hid (fun W => awake_any W)
  have HFe := Lib.hid (fun W (hW : Gr w W) => few_any N L s W (hN.gr hW) (hL.gr hW) (h.gr hW))
  have han := ha.hn
  rw [hf] at HFe
  clear hf
  have HV := Lib.hid (fun W (hW : Gr w W) => rvalid52_any s W (h.gr hW))
  rw [hv] at HV
  have HNv := Lib.hid (fun W (hW : Gr w W) => rnetvalid_any N L W (hN.gr hW) (hL.gr hW))
  rw [hn] at HNv
  obtain ⟨T, E, B1, B2, -⟩ := exp_both N L s a w hN hL h ha hn hv ht hx hy
  have HEx := Lib.hid B1; have RX := Lib.hid B2
  clear B1 B2
  have HRt := Lib.hid (fun W => rright53_any jp sm tl W)
  rw [hl] at HRt
  have hk : Al.gvE (Ba.netB N L && s.vB) (Al.lmO jp sm tl) = 0 := by rw [hn, hv, hl]; rfl
  have hvl := (Al.vB_iff s).1 hv
  have hl1 : 0 ≤ jp ∧ jp ≤ 8388608 := by have := hl; unfold Al.lmO at this; rw [Bool.and_eq_true] at this; exact Al.jmO_iff.1 this.1
  have hl2 : 2 ≤ sm ∧ sm ≤ 10000 := by have := hl; unfold Al.lmO at this; rw [Bool.and_eq_true, Bool.and_eq_true] at this; exact Al.stO_iff.1 this.2.1
  have HCo := Lib.hid (fun W (hW : Gr w W) => Core_ok N L s jp sm tl a W (hN.gr hW) (hL.gr hW) (h.gr hW) (ha.gr hW) hk hm)
  have RC := Lib.hid (fun W (hW : Gr w W) => rCore_ok N L s jp sm tl a W (hN.gr hW) (hL.gr hW) (h.gr hW) (ha.gr hW) hvl hl1 hl2 hm)
  have HEq := Lib.hid (fun (x y : Ba.SlI) W hx hy h1 h2 h3 h4 => eqI_same x y (Al.cix a.con s.D s.n) W hx hy h1 h2 h3 h4)
  generalize Al.cix a.con s.D s.n = IX at *
  clear hv hn hl ht hk hvl hl1 hl2 hm
  have st0 : ((⟨T.toArray⟩ : ByteArray).toList != (⟨T.toArray⟩ : ByteArray).toList) = false := by simp
  have se0 : (E != E) = false := by simp
  generalize (⟨T.toArray⟩ : ByteArray) = TS at *
  clear hN hL h ha
  unfold Ba.netVal at *
  generalize N.A = nA at *; generalize N.n = nn at *; generalize N.c = nc at *; generalize L.A = lA at *; generalize L.n = ln at *; generalize L.c = lc at *; generalize s.A = sA at *; generalize s.n = sn at *; generalize s.c = sc at *; generalize a.kd = akd at *; generalize a.nd = and_ at *; generalize a.tm = atm at *; generalize a.p = ap at *; generalize a.n = an at *; generalize a.c = ac at *
  go_enter Tryz.func3, Tryz.ntmps3
  go_wp2_with fail
  refine (HAw.out _).mono ?_
  rintro e w1 ⟨rfl, hb⟩
  have g : Gr w w1 := gr_auto
  have q0 := Gr.at (show Gr _ w1 from hb) (show World.cell? _ ⟨w.heap.size, 0, none⟩ = some (.slice nA nn nc) from by simp [go_sem])
  have q1 := Gr.at (show Gr _ w1 from hb) (show World.cell? _ ⟨w.heap.size, 1, none⟩ = some (.slice lA ln lc) from by simp [go_sem])
  have q2 := Gr.at (show Gr _ w1 from hb) (show World.cell? _ ⟨w.heap.size + 1, 0, none⟩ = some (.int .i64 jp) from by simp [go_sem])
  have q3 := Gr.at (show Gr _ w1 from hb) (show World.cell? _ ⟨w.heap.size + 1, 1, none⟩ = some (.int .i64 sm) from by simp [go_sem])
  have q4 := Gr.at (show Gr _ w1 from hb) (show World.cell? _ ⟨w.heap.size + 1, 2, none⟩ = some (.int .i64 tl) from by simp [go_sem])
  have q5 := Gr.at (show Gr _ w1 from hb) (show World.cell? _ ⟨w.heap.size + 1 + 1, 0, none⟩ = some (.int .i64 akd) from by simp [go_sem])
  have q6 := Gr.at (show Gr _ w1 from hb) (show World.cell? _ ⟨w.heap.size + 1 + 1, 1, none⟩ = some (.string and_) from by simp [go_sem])
  have q7 := Gr.at (show Gr _ w1 from hb) (show World.cell? _ ⟨w.heap.size + 1 + 1, 2, none⟩ = some (.int .i64 atm) from by simp [go_sem])
  have q8 := Gr.at (show Gr _ w1 from hb) (show World.cell? _ ⟨w.heap.size + 1 + 1, 3, none⟩ = some (.slice ap an ac) from by simp [go_sem])
  clear hb HAw
  go_wp2_with fail
  refine (HFe.out _ g).mono ?_
  rintro e w2 ⟨rfl, hb⟩
  replace q0 := Gr.at hb q0; replace q1 := Gr.at hb q1; replace q2 := Gr.at hb q2; replace q3 := Gr.at hb q3; replace q4 := Gr.at hb q4; replace q5 := Gr.at hb q5; replace q6 := Gr.at hb q6; replace q7 := Gr.at hb q7; replace q8 := Gr.at hb q8; replace g := g.trans hb
  clear hb
  go_wp2_with fail
  refine (HEx.out _ g).mono ?_
  rintro e w3 ⟨rfl, hb⟩
  replace q0 := Gr.at hb q0; replace q1 := Gr.at hb q1; replace q2 := Gr.at hb q2; replace q3 := Gr.at hb q3; replace q4 := Gr.at hb q4; replace q5 := Gr.at hb q5; replace q6 := Gr.at hb q6; replace q7 := Gr.at hb q7; replace q8 := Gr.at hb q8; replace g := g.trans hb
  clear hb
  go_wp2_with fail
  refine (HCo.out _ g).mono ?_
  intro e w4 hR; obtain ⟨d1, rfl, hd1, hd2, hd3, hb⟩ := hR.at; clear hR
  replace q0 := Gr.at hb q0; replace q1 := Gr.at hb q1; replace q2 := Gr.at hb q2; replace q3 := Gr.at hb q3; replace q4 := Gr.at hb q4; replace q5 := Gr.at hb q5; replace q6 := Gr.at hb q6; replace q7 := Gr.at hb q7; replace q8 := Gr.at hb q8; replace g := g.trans hb
  clear hb
  have HD1 := Lib.hid hd1; have HD2 := Lib.hid hd2; have HD3 := Lib.hid hd3; clear hd1 hd2 hd3
  go_wp2_with fail
  refine (HV.out _ g).mono ?_
  rintro e w5 ⟨rfl, hb⟩
  replace q0 := Gr.at hb q0; replace q1 := Gr.at hb q1; replace q2 := Gr.at hb q2; replace q3 := Gr.at hb q3; replace q4 := Gr.at hb q4; replace q5 := Gr.at hb q5; replace q6 := Gr.at hb q6; replace q7 := Gr.at hb q7; replace q8 := Gr.at hb q8; replace g := g.trans hb
  replace HD1 := Lib.hid (HD1.out.gr hb)
  clear hb
  go_wp2_with fail
  refine (HNv.out _ g).mono ?_
  rintro e w6 ⟨rfl, hb⟩
  replace q0 := Gr.at hb q0; replace q1 := Gr.at hb q1; replace q2 := Gr.at hb q2; replace q3 := Gr.at hb q3; replace q4 := Gr.at hb q4; replace q5 := Gr.at hb q5; replace q6 := Gr.at hb q6; replace q7 := Gr.at hb q7; replace q8 := Gr.at hb q8; replace g := g.trans hb
  replace HD1 := Lib.hid (HD1.out.gr hb)
  clear hb
  go_wp2_with fail
  refine (RX.out _ g).mono ?_
  rintro e w7 ⟨rfl, hb⟩
  replace q0 := Gr.at hb q0; replace q1 := Gr.at hb q1; replace q2 := Gr.at hb q2; replace q3 := Gr.at hb q3; replace q4 := Gr.at hb q4; replace q5 := Gr.at hb q5; replace q6 := Gr.at hb q6; replace q7 := Gr.at hb q7; replace q8 := Gr.at hb q8; replace g := g.trans hb
  replace HD1 := Lib.hid (HD1.out.gr hb)
  clear hb
  go_wp2_with fail
  refine (HRt.out _).mono ?_
  rintro e w8 ⟨rfl, hb⟩
  replace q0 := Gr.at hb q0; replace q1 := Gr.at hb q1; replace q2 := Gr.at hb q2; replace q3 := Gr.at hb q3; replace q4 := Gr.at hb q4; replace q5 := Gr.at hb q5; replace q6 := Gr.at hb q6; replace q7 := Gr.at hb q7; replace q8 := Gr.at hb q8; replace g := g.trans hb
  replace HD1 := Lib.hid (HD1.out.gr hb)
  clear hb
  go_wp2_with fail
  refine (RC.out _ g).mono ?_
  intro e w9 hR; obtain ⟨d2, rfl, hd1, hd2, hd3, hb⟩ := hR.at; clear hR
  replace q0 := Gr.at hb q0; replace q1 := Gr.at hb q1; replace q2 := Gr.at hb q2; replace q3 := Gr.at hb q3; replace q4 := Gr.at hb q4; replace q5 := Gr.at hb q5; replace q6 := Gr.at hb q6; replace q7 := Gr.at hb q7; replace q8 := Gr.at hb q8; replace g := g.trans hb
  replace HD1 := Lib.hid (HD1.out.gr hb)
  clear hb
  have HE1 := Lib.hid hd1; have HE2 := Lib.hid hd2; have HE3 := Lib.hid hd3; clear hd1 hd2 hd3
  go_wp2_with fail
  refine (HEq.out _ _ _ HD1.out HE1.out HD2.out HD3.out HE2.out HE3.out).mono ?_
  rintro e w10 ⟨rfl, hb⟩
  replace q0 := Gr.at hb q0; replace q1 := Gr.at hb q1; replace q2 := Gr.at hb q2; replace q3 := Gr.at hb q3; replace q4 := Gr.at hb q4; replace q5 := Gr.at hb q5; replace q6 := Gr.at hb q6; replace q7 := Gr.at hb q7; replace q8 := Gr.at hb q8; replace g := g.trans hb
  clear hb
  clear HD1 HD2 HD3 HE1 HE2 HE3
  go_wp2_with fail
  go_ret
  exact ⟨rfl, g⟩
theorem expl_law (N : Ba.SlNode) (L : Ba.SlLink) (s : Al.SlM) (jp sm tl : Int) (a : Al.A) (w : World) (hN : N.At w) (hL : L.At w) (h : s.At w) (ha : a.At w) (ht : Tab w) : Calls Tryz.prog 3 #[Ba.netVal N L, .slice s.A s.n s.c, .agg #[.int .i64 jp, .int .i64 sm, .int .i64 tl], .agg #[.int .i64 a.kd, .string a.nd, .int .i64 a.tm, .slice a.p a.n a.c]] w fun e w' => e = .returned (.bool true) ∧ Gr w w' := by
  cases hf : Al.fewB N.n L.n s.n (Al.lngB s)
  · exact expl_few N L s jp sm tl a w hN hL h ha hf
  by_cases hx : a.n ≤ 40
  case neg => exact expl_far N L s jp sm tl a w hN hL h ha hf (by omega)
  by_cases hy : a.nd.size ≤ 50
  case neg => exact expl_long N L s jp sm tl a w hN hL h ha hf hx (by omega)
  cases hv : s.vB
  · exact expl_f N L s jp sm tl a w hN hL h ha hf hx hy hv
  cases hn : Ba.netB N L
  · exact expl_tf N L s jp sm tl a w hN hL h ha hf hx hy hv hn
  cases hl : Al.lmO jp sm tl
  · exact expl_ttf N L s jp sm tl a w hN hL h ha hf hx hy hv hn ht hl
  by_cases hm : a.con ∈ Al.allC N s.lst jp sm
  · exact expl_ok N L s jp sm tl a w hN hL h ha hf hx hy hv hn ht hl hm
  · exact expl_none N L s jp sm tl a w hN hL h ha hf hx hy hv hn ht hl hm
theorem explained_in (N : Ba.SlNode) (L : Ba.SlLink) (s : Al.SlM) (jp sm tl : Int) (a : Al.A) (w : World) (ht : Tab w) (hN : N.At w) (hL : L.At w) (h : s.At w) (_ : Ba.i64 jp) (_ : Ba.i64 sm) (_ : Ba.i64 tl) (ha : a.At w) : Calls Tryz.prog 3 #[Ba.netVal N L, .slice s.A s.n s.c, .agg #[.int .i64 jp, .int .i64 sm, .int .i64 tl], .agg #[.int .i64 a.kd, .string a.nd, .int .i64 a.tm, .slice a.p a.n a.c]] w fun e w' => e = .returned (.bool true) ∧ Gr w w' := expl_law N L s jp sm tl a w hN hL h ha ht
end Go.Proofs.YtllkiadedaghoaaGreatDoor
