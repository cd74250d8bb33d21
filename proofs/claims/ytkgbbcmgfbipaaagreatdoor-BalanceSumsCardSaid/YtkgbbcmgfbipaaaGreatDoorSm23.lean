/-
  Links: network.rightLink behind the names. (Printed by mklinke.py.)
-/
import Derived.Test.YtkgbbcmgfbipaaaGreatDoorSm17
import Derived.Test.YtkgbbcmgfbipaaaGreatDoorSm18
import Derived.Test.YtkgbbcmgfbipaaaGreatDoorSm19
import Derived.Test.YtkgbbcmgfbipaaaGreatDoorSm20
import Derived.Test.YtkgbbcmgfbipaaaGreatDoorSm21
import Derived.Test.YtkgbbcmgfbipaaaGreatDoorSm22

set_option linter.unusedVariables false
set_option linter.unusedSimpArgs false
namespace Go.Proofs.YtkgbbcmgfbipaaaGreatDoor
open Go.RowKit
attribute [local go_sem ↓] Go.wp_at_zero Go.wp_at_succ
theorem rightlink_any (d : Ba.Link) (w : World) (h : d.Ok w) : Calls Tryz.prog 53 #[d.val] w fun e w' => e = .returned (.bool (Ba.rlink d)) ∧ Gr w w' := by
  obtain ⟨i1, i2, i3, i4, i5, i6, i7, i8, i9, i10, hs⟩ := h
  rw [← Ba.rlN_eq]
  unfold Ba.rlN
  cases e0 : Dc.isName d.nm.data.toList
  · exact rightlink_n0 d w i7 i8 i9 e0
  cases e1 : Dc.isName d.fr.data.toList
  · exact rightlink_n1 d w i7 i8 i9 e0 e1
  cases e2 : Dc.isName d.tt.data.toList
  · exact rightlink_n2 d w i7 i8 i9 e0 e1 e2
  cases e3 : Ba.eqS d.fr d.tt
  rotate_left
  · exact rightlink_n3 d w i7 i8 i9 e0 e1 e2 e3
  cases e4 : Ba.bet d.up (-4194304) 4194304
  · exact rightlink_u d w i7 i8 i9 i10 i3 i4 hs e0 e1 e2 e3 e4
  cases e5 : Ba.sml d
  · exact rightlink_s d w i7 i8 i9 i10 i3 i4 hs e0 e1 e2 e3 e4 e5
  simp only [Bool.true_and, Bool.not_false]
  unfold Ba.rlK
  by_cases k1 : d.kd = 1
  · rw [if_pos k1]
    cases q1 : Ba.bet d.ln 1 16777216
    · exact rightlink_k10 d w i7 i8 i9 i10 i3 i4 hs e0 e1 e2 e3 e4 e5 k1 q1
    cases q2 : Ba.bet d.dn (-4194304) 4194304
    · exact rightlink_k11 d w i7 i8 i9 i10 i3 i4 hs e0 e1 e2 e3 e4 e5 k1 q1 q2
    cases q3 : Dc.isName d.sc.data.toList
    · exact rightlink_k12 d w i7 i8 i9 i10 i3 i4 hs e0 e1 e2 e3 e4 e5 k1 q1 q2 q3
    exact rightlink_k13 d w i7 i8 i9 i10 i3 i4 hs e0 e1 e2 e3 e4 e5 k1 q1 q2 q3
  rw [if_neg k1]
  by_cases k2 : d.kd = 2
  · rw [if_pos k2]
    cases q1 : Ba.bet d.wd 1 1048576
    · exact rightlink_k20 d w i7 i8 i9 i10 i3 i4 hs e0 e1 e2 e3 e4 e5 k2 q1
    exact rightlink_k21 d w i7 i8 i9 i10 i3 i4 hs e0 e1 e2 e3 e4 e5 k2 q1
  rw [if_neg k2]
  by_cases k3 : d.kd = 3
  · rw [if_pos k3]
    cases q1 : Ba.bet d.wd 1 32768
    · exact rightlink_k30 d w i7 i8 i9 i10 i3 i4 hs e0 e1 e2 e3 e4 e5 k3 q1
    cases q2 : Ba.bet d.ht 1 32768
    · exact rightlink_k31 d w i7 i8 i9 i10 i3 i4 hs e0 e1 e2 e3 e4 e5 k3 q1 q2
    exact rightlink_k32 d w i7 i8 i9 i10 i3 i4 hs e0 e1 e2 e3 e4 e5 k3 q1 q2
  rw [if_neg k3]
  by_cases k4 : d.kd = 4
  · rw [if_pos k4]
    cases q2 : Ba.bet d.dn (-4194304) 4194304
    · exact rightlink_k40 d w i7 i8 i9 i10 i3 i4 hs e0 e1 e2 e3 e4 e5 k4 q2
    cases q9 : decide (d.dn < d.up)
    · exact rightlink_k41 d w i7 i8 i9 i10 i3 i4 hs e0 e1 e2 e3 e4 e5 k4 q2 q9
    cases q3 : Ba.tblB d.cv
    · exact rightlink_k42 d w i7 i8 i9 i10 i3 i4 hs e0 e1 e2 e3 e4 e5 k4 q2 q9 q3
    cases q4 : Ba.crv d.cv
    · exact rightlink_k43 d w i7 i8 i9 i10 i3 i4 hs e0 e1 e2 e3 e4 e5 k4 q2 q9 q3 q4
    exact rightlink_k44 d w i7 i8 i9 i10 i3 i4 hs e0 e1 e2 e3 e4 e5 k4 q2 q9 q3 q4
  rw [if_neg k4]
  exact rightlink_k0 d w i7 i8 i9 i10 i3 i4 hs e0 e1 e2 e3 e4 e5 k1 k2 k3 k4
end Go.Proofs.YtkgbbcmgfbipaaaGreatDoor
