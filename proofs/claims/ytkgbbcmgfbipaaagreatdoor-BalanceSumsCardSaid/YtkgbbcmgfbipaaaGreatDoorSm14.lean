/-
  Links: network.plain, network.sameLink. (Printed by mklink.py.)
-/
import Derived.Test.YtkgbbcmgfbipaaaGreatDoorSm13

set_option linter.unusedVariables false
set_option linter.unusedSimpArgs false
namespace Go.Proofs.YtkgbbcmgfbipaaaGreatDoor
open Go.RowKit
namespace Ba
def noK : SlK := ⟨none, 0, 0, 0, 0, fun _ => 0, fun _ => 0⟩
/-- A link with the fields that its kind uses alone. -/
def plainL (d : Link) : Link := ⟨d.nm, d.fr, d.tt, d.kd, if d.kd = 1 then d.ln else 0, d.up, if d.kd = 1 ∨ d.kd = 4 then d.dn else 0, if d.kd = 1 then d.sc else ⟨#[]⟩,
  if d.kd = 2 ∨ d.kd = 3 then d.wd else 0, if d.kd = 3 then d.ht else 0, if d.kd = 4 then d.cv else noK⟩
end Ba
set_option maxRecDepth 100000 in
set_option maxHeartbeats 4000000 in
theorem plain_any (d : Ba.Link) (w : World) : Calls Tryz.prog 73 #[d.val] w fun e w' => e = .returned (Ba.plainL d).val ∧ Gr w w' := by
  unfold Ba.Link.val Ba.plainL Ba.noK
  obtain ⟨nm, fr, tt, kd, ln, up, dn, sc, wd, ht, ⟨A, n, c, b, o, X, Y⟩⟩ := d
  simp only at *

  by_cases h1 : kd = 1
  · subst h1
    simp only [if_true, if_false, true_or, or_true, or_false, false_or, show ¬ ((1 : Int) = 2) by decide, show ¬ ((1 : Int) = 3) by decide, show ¬ ((1 : Int) = 4) by decide]
    go_enter Tryz.func73, Tryz.ntmps73
    go_wp2_with fail
    go_region
    all_goals
      go_wp2_with fail
      refine bodyPost_ret (by simp [results, Tryz.results73, go_sem]; try rfl) rfl ?_
      exact ⟨rfl, gr_auto⟩
  by_cases h2 : kd = 2
  · subst h2
    simp only [if_true, if_false, true_or, or_true, or_false, false_or, show ¬ ((2 : Int) = 3) by decide, show ¬ ((2 : Int) = 4) by decide, show ¬ ((2 : Int) = 1) by decide]
    go_enter Tryz.func73, Tryz.ntmps73
    go_wp2_with fail
    refine bodyPost_ret (by simp [results, Tryz.results73, go_sem]; try rfl) rfl ?_
    exact ⟨rfl, gr_auto⟩
  by_cases h3 : kd = 3
  · subst h3
    simp only [if_true, if_false, true_or, or_true, or_false, false_or, show ¬ ((3 : Int) = 4) by decide, show ¬ ((3 : Int) = 1) by decide, show ¬ ((3 : Int) = 2) by decide]
    go_enter Tryz.func73, Tryz.ntmps73
    go_wp2_with fail
    go_region
    all_goals
      go_wp2_with fail
      refine bodyPost_ret (by simp [results, Tryz.results73, go_sem]; try rfl) rfl ?_
      exact ⟨rfl, gr_auto⟩
  by_cases h4 : kd = 4
  · subst h4
    simp only [if_true, if_false, true_or, or_true, or_false, false_or, show ¬ ((4 : Int) = 1) by decide, show ¬ ((4 : Int) = 2) by decide, show ¬ ((4 : Int) = 3) by decide]
    go_enter Tryz.func73, Tryz.ntmps73
    go_wp2_with fail
    go_region
    all_goals
      go_wp2_with fail
      refine bodyPost_ret (by simp [results, Tryz.results73, go_sem]; try rfl) rfl ?_
      exact ⟨rfl, gr_auto⟩
  simp only [h1, h2, h3, h4, if_false, or_self]
  have t1 : (kd == 1) = false := by rw [beq_eq_false_iff_ne]; exact h1
  have t2 : (kd == 2) = false := by rw [beq_eq_false_iff_ne]; exact h2
  have t3 : (kd == 3) = false := by rw [beq_eq_false_iff_ne]; exact h3
  have t4 : (kd == 4) = false := by rw [beq_eq_false_iff_ne]; exact h4
  clear h1 h2 h3 h4
  go_enter Tryz.func73, Tryz.ntmps73
  go_wp2_with fail
  refine bodyPost_ret (by simp [results, Tryz.results73, go_sem]; try rfl) rfl ?_
  exact ⟨rfl, gr_auto⟩
set_option maxRecDepth 100000 in
set_option maxHeartbeats 4000000 in
theorem samelink_any (d : Ba.Link) (ln dn wd ht : Int) (sc : ByteArray) (A : Option Addr) (n c : Nat) (qe : Bool) (w : World)
    (HE : Hid (∀ W, Gr w W → Calls Tryz.prog 91 #[.slice d.cv.A d.cv.n d.cv.c, .slice A n c] W fun e w' => e = .returned (.bool qe) ∧ Gr W w')) :
    Calls Tryz.prog 72 #[d.val, .agg #[.string d.nm, .string d.fr, .string d.tt, .int .i64 d.kd, .int .i64 ln, .int .i64 d.up, .int .i64 dn, .string sc, .int .i64 wd, .int .i64 ht, .slice A n c]] w fun e w' =>
      e = .returned (.bool ((d.ln == ln) && ((d.dn == dn) && (Ba.eqS d.sc sc && ((d.wd == wd) && ((d.ht == ht) && qe)))))) ∧ Gr w w' := by
  unfold Ba.Link.val Ba.eqS
  obtain ⟨nm, fr, tt, kd, ln', up, dn', sc', wd', ht', ⟨A', n', c', b', o', X', Y'⟩⟩ := d
  simp only at *

  cases e0 : (ln' == ln)
  · clear HE
    go_enter Tryz.func72, Tryz.ntmps72
    go_wp2_with fail
    go_ret
    exact ⟨rfl, gr_auto⟩
  cases e1 : (dn' == dn)
  · clear HE
    go_enter Tryz.func72, Tryz.ntmps72
    go_wp2_with fail
    go_ret
    exact ⟨rfl, gr_auto⟩
  cases e2 : (sc'.toList == sc.toList)
  · clear HE
    go_enter Tryz.func72, Tryz.ntmps72
    go_wp2_with fail
    go_ret
    exact ⟨rfl, gr_auto⟩
  cases e3 : (wd' == wd)
  · clear HE
    go_enter Tryz.func72, Tryz.ntmps72
    go_wp2_with fail
    go_ret
    exact ⟨rfl, gr_auto⟩
  cases e4 : (ht' == ht)
  · clear HE
    go_enter Tryz.func72, Tryz.ntmps72
    go_wp2_with fail
    go_ret
    exact ⟨rfl, gr_auto⟩
  go_enter Tryz.func72, Tryz.ntmps72
  go_wp2_with fail
  refine (HE.out _ gr_auto).mono ?_
  rintro e w1 ⟨rfl, hb1⟩
  go_wp2_with fail
  go_ret
  exact ⟨rfl, gr_auto⟩
end Go.Proofs.YtkgbbcmgfbipaaaGreatDoor
