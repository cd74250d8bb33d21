/-
  Links: network.plain, network.sameLink. (Printed by mklink.py.)
  Links: network.rightLink. (Printed by mklink.py.)
  Links: network.rightLink, where it refuses early. (Printed by mklinkd.py.)
-/
import Derived.Test.YtllkiadedaghoaaGreatDoorOr29
import Derived.Deep.RegionWith
import Derived.Deep.DrawnRows
set_option linter.unusedVariables false
set_option linter.unusedSimpArgs false
namespace Go.Proofs.YtllkiadedaghoaaGreatDoor
open Go.RowKit
namespace Ba
def noK : SlK := ⟨none, 0, 0, 0, 0, fun _ => 0, fun _ => 0⟩
/-- A link with the fields that its kind uses alone. -/
def plainL (d : Link) : Link := ⟨d.nm, d.fr, d.tt, d.kd, if d.kd = 1 then d.ln else 0, d.up, if d.kd = 1 ∨ d.kd = 4 then d.dn else 0, if d.kd = 1 then d.sc else ⟨#[]⟩,
  if d.kd = 2 ∨ d.kd = 3 then d.wd else 0, if d.kd = 3 then d.ht else 0, if d.kd = 4 then d.cv else noK⟩
end Ba
set_option maxRecDepth 100000 in
set_option maxHeartbeats 4000000 in
theorem plain_any (d : Ba.Link) (w : World) : Calls Tryz.prog 133 #[d.val] w fun e w' => e = .returned (Ba.plainL d).val ∧ Gr w w' := by
  unfold Ba.Link.val Ba.plainL Ba.noK
  obtain ⟨nm, fr, tt, kd, ln, up, dn, sc, wd, ht, ⟨A, n, c, b, o, X, Y⟩⟩ := d
  simp only at *

  by_cases h1 : kd = 1
  · subst h1
    simp only [if_true, if_false, true_or, or_true, or_false, false_or, show ¬ ((1 : Int) = 2) by decide, show ¬ ((1 : Int) = 3) by decide, show ¬ ((1 : Int) = 4) by decide]
    go_enter Tryz.func133, Tryz.ntmps133
    go_wp2_with fail
    go_region
    all_goals
      go_wp2_with fail
      refine bodyPost_ret (by simp [results, Tryz.results133, go_sem]; try rfl) rfl ?_
      exact ⟨rfl, gr_auto⟩
  by_cases h2 : kd = 2
  · subst h2
    simp only [if_true, if_false, true_or, or_true, or_false, false_or, show ¬ ((2 : Int) = 3) by decide, show ¬ ((2 : Int) = 4) by decide, show ¬ ((2 : Int) = 1) by decide]
    go_enter Tryz.func133, Tryz.ntmps133
    go_wp2_with fail
    refine bodyPost_ret (by simp [results, Tryz.results133, go_sem]; try rfl) rfl ?_
    exact ⟨rfl, gr_auto⟩
  by_cases h3 : kd = 3
  · subst h3
    simp only [if_true, if_false, true_or, or_true, or_false, false_or, show ¬ ((3 : Int) = 4) by decide, show ¬ ((3 : Int) = 1) by decide, show ¬ ((3 : Int) = 2) by decide]
    go_enter Tryz.func133, Tryz.ntmps133
    go_wp2_with fail
    go_region
    all_goals
      go_wp2_with fail
      refine bodyPost_ret (by simp [results, Tryz.results133, go_sem]; try rfl) rfl ?_
      exact ⟨rfl, gr_auto⟩
  by_cases h4 : kd = 4
  · subst h4
    simp only [if_true, if_false, true_or, or_true, or_false, false_or, show ¬ ((4 : Int) = 1) by decide, show ¬ ((4 : Int) = 2) by decide, show ¬ ((4 : Int) = 3) by decide]
    go_enter Tryz.func133, Tryz.ntmps133
    go_wp2_with fail
    go_region
    all_goals
      go_wp2_with fail
      refine bodyPost_ret (by simp [results, Tryz.results133, go_sem]; try rfl) rfl ?_
      exact ⟨rfl, gr_auto⟩
  simp only [h1, h2, h3, h4, if_false, or_self]
  have t1 : (kd == 1) = false := by rw [beq_eq_false_iff_ne]; exact h1
  have t2 : (kd == 2) = false := by rw [beq_eq_false_iff_ne]; exact h2
  have t3 : (kd == 3) = false := by rw [beq_eq_false_iff_ne]; exact h3
  have t4 : (kd == 4) = false := by rw [beq_eq_false_iff_ne]; exact h4
  clear h1 h2 h3 h4
  go_enter Tryz.func133, Tryz.ntmps133
  go_wp2_with fail
  refine bodyPost_ret (by simp [results, Tryz.results133, go_sem]; try rfl) rfl ?_
  exact ⟨rfl, gr_auto⟩
set_option maxRecDepth 100000 in
set_option maxHeartbeats 4000000 in
theorem samelink_any (d : Ba.Link) (ln dn wd ht : Int) (sc : ByteArray) (A : Option Addr) (n c : Nat) (qe : Bool) (w : World)
    (HE : Hid (∀ W, Gr w W → Calls Tryz.prog 168 #[.slice d.cv.A d.cv.n d.cv.c, .slice A n c] W fun e w' => e = .returned (.bool qe) ∧ Gr W w')) :
    Calls Tryz.prog 132 #[d.val, .agg #[.string d.nm, .string d.fr, .string d.tt, .int .i64 d.kd, .int .i64 ln, .int .i64 d.up, .int .i64 dn, .string sc, .int .i64 wd, .int .i64 ht, .slice A n c]] w fun e w' =>
      e = .returned (.bool ((d.ln == ln) && ((d.dn == dn) && (Ba.eqS d.sc sc && ((d.wd == wd) && ((d.ht == ht) && qe)))))) ∧ Gr w w' := by
  unfold Ba.Link.val Ba.eqS
  obtain ⟨nm, fr, tt, kd, ln', up, dn', sc', wd', ht', ⟨A', n', c', b', o', X', Y'⟩⟩ := d
  simp only at *

  cases e0 : (ln' == ln)
  · clear HE
    go_enter Tryz.func132, Tryz.ntmps132
    go_wp2_with fail
    go_ret
    exact ⟨rfl, gr_auto⟩
  cases e1 : (dn' == dn)
  · clear HE
    go_enter Tryz.func132, Tryz.ntmps132
    go_wp2_with fail
    go_ret
    exact ⟨rfl, gr_auto⟩
  cases e2 : (sc'.toList == sc.toList)
  · clear HE
    go_enter Tryz.func132, Tryz.ntmps132
    go_wp2_with fail
    go_ret
    exact ⟨rfl, gr_auto⟩
  cases e3 : (wd' == wd)
  · clear HE
    go_enter Tryz.func132, Tryz.ntmps132
    go_wp2_with fail
    go_ret
    exact ⟨rfl, gr_auto⟩
  cases e4 : (ht' == ht)
  · clear HE
    go_enter Tryz.func132, Tryz.ntmps132
    go_wp2_with fail
    go_ret
    exact ⟨rfl, gr_auto⟩
  go_enter Tryz.func132, Tryz.ntmps132
  go_wp2_with fail
  refine (HE.out _ gr_auto).mono ?_
  rintro e w1 ⟨rfl, hb1⟩
  go_wp2_with fail
  go_ret
  exact ⟨rfl, gr_auto⟩
end Go.Proofs.YtllkiadedaghoaaGreatDoor
set_option linter.unusedVariables false
set_option linter.unusedSimpArgs false
namespace Go.Proofs.YtllkiadedaghoaaGreatDoor
open Go.RowKit
namespace Ba
/-- Does a link keep to the fields of its kind? -/
def sml (d : Link) : Bool := (d.ln == (plainL d).ln) && ((d.dn == (plainL d).dn) && (eqS d.sc (plainL d).sc && ((d.wd == (plainL d).wd) && ((d.ht == (plainL d).ht) && (if d.kd = 4 then true else decide (d.cv.n = 0))))))
/-- What network tests of a link that keeps to them. -/
def rlK (d : Link) : Bool := if d.kd = 1 then bet d.ln 1 16777216 && (bet d.dn (-4194304) 4194304 && Dc.isName d.sc.data.toList) else if d.kd = 2 then bet d.wd 1 1048576 else if d.kd = 3 then bet d.wd 1 32768 && bet d.ht 1 32768
  else if d.kd = 4 then bet d.dn (-4194304) 4194304 && (decide (d.dn < d.up) && (tblB d.cv && crv d.cv)) else false
def rlN (d : Link) : Bool := Dc.isName d.nm.data.toList && (Dc.isName d.fr.data.toList && (Dc.isName d.tt.data.toList && (!eqS d.fr d.tt && (bet d.up (-4194304) 4194304 && (sml d && rlK d)))))
theorem eqS_self (s : ByteArray) : eqS s s = true := by unfold eqS; simp
theorem eqS_nil (s : ByteArray) : eqS s ⟨#[]⟩ = s.toList.isEmpty := by
  unfold eqS
  rw [show (ByteArray.toList ⟨#[]⟩) = [] from List.isEmpty_iff.1 (empty_yes _ rfl)]
  cases s.toList <;> rfl
theorem crv_tbl (s : SlK) : (tblB s && crv s) = crv s := by unfold crv; cases tblB s <;> rfl
theorem rlN_eq (d : Link) : rlN d = rlink d := by
  unfold rlN rlink rlA rlK sml plainL
  obtain ⟨nm, fr, tt, kd, ln, up, dn, sc, wd, ht, cv⟩ := d
  simp only
  have z0 : bet 0 (-4194304) 4194304 = true := by decide
  generalize Dc.isName nm.data.toList = q0
  generalize Dc.isName fr.data.toList = q1
  generalize Dc.isName tt.data.toList = q2
  generalize eqS fr tt = q3
  generalize bet up (-4194304) 4194304 = q4
  by_cases h1 : kd = 1
  · subst h1
    simp only [if_true, if_false, true_or, or_true, or_false, false_or, show ¬ ((1 : Int) = 4) by decide, show ¬ ((1 : Int) = 2) by decide, show ¬ ((1 : Int) = 3) by decide, eqS_self, beq_self_eq_true, Bool.true_and]
    unfold rlP
    simp only
    generalize Dc.isName sc.data.toList = p0
    generalize (wd == 0) = p1; generalize (ht == 0) = p2; generalize decide (cv.n = 0) = p3; generalize bet ln 1 16777216 = p4; generalize bet dn (-4194304) 4194304 = p5
    revert q0 q1 q2 q3 q4 p0 p1 p2 p3 p4 p5; decide
  by_cases h2 : kd = 2
  · subst h2
    simp only [if_true, if_false, true_or, or_true, or_false, false_or, show ¬ ((2 : Int) = 4) by decide, show ¬ ((2 : Int) = 1) by decide, show ¬ ((2 : Int) = 3) by decide, eqS_self, eqS_nil, beq_self_eq_true, Bool.true_and]
    unfold rlW
    simp only
    by_cases hd : dn = 0
    · subst hd
      rw [z0]
      generalize sc.toList.isEmpty = p0
      generalize (ln == 0) = p1; generalize (ht == 0) = p2; generalize decide (cv.n = 0) = p3; generalize bet wd 1 1048576 = p4
      simp only [beq_self_eq_true, Bool.true_and]
      revert q0 q1 q2 q3 q4 p0 p1 p2 p3 p4; decide
    · rw [show (dn == 0) = false by rw [beq_eq_false_iff_ne]; exact hd]
      simp only [Bool.false_and, Bool.and_false]
  by_cases h3 : kd = 3
  · subst h3
    simp only [if_true, if_false, true_or, or_true, or_false, false_or, show ¬ ((3 : Int) = 4) by decide, show ¬ ((3 : Int) = 1) by decide, show ¬ ((3 : Int) = 2) by decide, eqS_self, eqS_nil, beq_self_eq_true, Bool.true_and]
    unfold rlG
    simp only
    by_cases hd : dn = 0
    · subst hd
      rw [z0]
      generalize sc.toList.isEmpty = p0
      generalize (ln == 0) = p1; generalize bet ht 1 32768 = p2; generalize decide (cv.n = 0) = p3; generalize bet wd 1 32768 = p4
      simp only [beq_self_eq_true, Bool.true_and]
      revert q0 q1 q2 q3 q4 p0 p1 p2 p3 p4; decide
    · rw [show (dn == 0) = false by rw [beq_eq_false_iff_ne]; exact hd]
      simp only [Bool.false_and, Bool.and_false]
  by_cases h4 : kd = 4
  · subst h4
    simp only [if_true, if_false, true_or, or_true, or_false, false_or, show ¬ ((4 : Int) = 1) by decide, show ¬ ((4 : Int) = 2) by decide, show ¬ ((4 : Int) = 3) by decide, eqS_self, eqS_nil, beq_self_eq_true, Bool.true_and, crv_tbl]
    unfold rlU
    simp only
    generalize sc.toList.isEmpty = p0
    generalize (ln == 0) = p1; generalize (wd == 0) = p2; generalize (ht == 0) = p3; generalize crv cv = p4; generalize decide (dn < up) = p5; generalize bet dn (-4194304) 4194304 = p6
    revert q0 q1 q2 q3 q4 p0 p1 p2 p3 p4 p5 p6; decide
  · simp only [h1, h2, h3, h4, if_false, Bool.and_false]
end Ba
set_option maxRecDepth 100000 in
theorem same_plain (d : Ba.Link) (w : World) (h : d.cv.At w) : Calls Tryz.prog 132 #[d.val, (Ba.plainL d).val] w fun e w' => e = .returned (.bool (Ba.sml d)) ∧ Gr w w' := by
  unfold Ba.sml
  exact samelink_any d (Ba.plainL d).ln (Ba.plainL d).dn (Ba.plainL d).wd (Ba.plainL d).ht (Ba.plainL d).sc (Ba.plainL d).cv.A (Ba.plainL d).cv.n (Ba.plainL d).cv.c _ w (Lib.hid fun W hg => by
    unfold Ba.plainL
    simp only
    by_cases hk : d.kd = 4
    · simp only [hk, if_true]
      exact eqk_self d.cv W (h.gr hg)
    · simp only [hk, if_false]
      exact eqk_nil d.cv W (h.gr hg))
end Go.Proofs.YtllkiadedaghoaaGreatDoor
set_option linter.unusedVariables false
set_option linter.unusedSimpArgs false
namespace Go.Proofs.YtllkiadedaghoaaGreatDoor
open Go.RowKit
attribute [local go_sem ↓] Go.wp_at_zero Go.wp_at_succ
set_option maxRecDepth 100000 in
set_option maxHeartbeats 4000000 in
theorem rightlink_n0 (d : Ba.Link) (w : World) (i7 : d.nm.size ≤ 9223372036854775807) (i8 : d.fr.size ≤ 9223372036854775807) (i9 : d.tt.size ≤ 9223372036854775807) (e0 : Dc.isName d.nm.data.toList = false) : Calls Tryz.prog 96 #[d.val] w fun e w' => e = .returned (.bool false) ∧ Gr w w' := by
  have HQ := Lib.hid (fun (s : ByteArray) (q : Bool) (W : World) (hs : s.size ≤ 9223372036854775807) (e : Dc.isName s.data.toList = q) => e ▸ isname_all s W hs)
  unfold Ba.Link.val
  obtain ⟨nm, fr, tt, kd, ln, up, dn, sc, wd, ht, cv⟩ := d
  simp only at *
  have E0 := Lib.hid e0; clear e0
  go_enter Tryz.func96, Tryz.ntmps96
  go_wp2_with fail
  go_quiet ((go_at_call 126; first | (with_reducible exact quiet_eq (HQ.out nm _ _ i7 E0.out)) | (with_reducible exact quiet_add_left (HQ.out nm _ _ i7 E0.out)) ))
  go_wp2_with fail
  go_ret
  exact ⟨rfl, gr_auto⟩
set_option maxRecDepth 100000 in
set_option maxHeartbeats 4000000 in
theorem rightlink_n1 (d : Ba.Link) (w : World) (i7 : d.nm.size ≤ 9223372036854775807) (i8 : d.fr.size ≤ 9223372036854775807) (i9 : d.tt.size ≤ 9223372036854775807) (e0 : Dc.isName d.nm.data.toList = true) (e1 : Dc.isName d.fr.data.toList = false) : Calls Tryz.prog 96 #[d.val] w fun e w' => e = .returned (.bool false) ∧ Gr w w' := by
  have HQ := Lib.hid (fun (s : ByteArray) (q : Bool) (W : World) (hs : s.size ≤ 9223372036854775807) (e : Dc.isName s.data.toList = q) => e ▸ isname_all s W hs)
  unfold Ba.Link.val
  obtain ⟨nm, fr, tt, kd, ln, up, dn, sc, wd, ht, cv⟩ := d
  simp only at *
  have E0 := Lib.hid e0; clear e0
  have E1 := Lib.hid e1; clear e1
  go_enter Tryz.func96, Tryz.ntmps96
  go_wp2_with fail
  go_quiet ((go_at_call 126; first | (with_reducible exact quiet_eq (HQ.out nm _ _ i7 E0.out)) | (with_reducible exact quiet_add_left (HQ.out nm _ _ i7 E0.out)) | (with_reducible exact quiet_eq (HQ.out fr _ _ i8 E1.out)) | (with_reducible exact quiet_add_left (HQ.out fr _ _ i8 E1.out)) ))
  go_wp2_with fail
  go_ret
  exact ⟨rfl, gr_auto⟩
set_option maxRecDepth 100000 in
set_option maxHeartbeats 4000000 in
theorem rightlink_n2 (d : Ba.Link) (w : World) (i7 : d.nm.size ≤ 9223372036854775807) (i8 : d.fr.size ≤ 9223372036854775807) (i9 : d.tt.size ≤ 9223372036854775807) (e0 : Dc.isName d.nm.data.toList = true) (e1 : Dc.isName d.fr.data.toList = true) (e2 : Dc.isName d.tt.data.toList = false) : Calls Tryz.prog 96 #[d.val] w fun e w' => e = .returned (.bool false) ∧ Gr w w' := by
  have HQ := Lib.hid (fun (s : ByteArray) (q : Bool) (W : World) (hs : s.size ≤ 9223372036854775807) (e : Dc.isName s.data.toList = q) => e ▸ isname_all s W hs)
  unfold Ba.Link.val
  obtain ⟨nm, fr, tt, kd, ln, up, dn, sc, wd, ht, cv⟩ := d
  simp only at *
  have E0 := Lib.hid e0; clear e0
  have E1 := Lib.hid e1; clear e1
  have E2 := Lib.hid e2; clear e2
  go_enter Tryz.func96, Tryz.ntmps96
  go_wp2_with fail
  go_quiet ((go_at_call 126; first | (with_reducible exact quiet_eq (HQ.out nm _ _ i7 E0.out)) | (with_reducible exact quiet_add_left (HQ.out nm _ _ i7 E0.out)) | (with_reducible exact quiet_eq (HQ.out fr _ _ i8 E1.out)) | (with_reducible exact quiet_add_left (HQ.out fr _ _ i8 E1.out)) | (with_reducible exact quiet_eq (HQ.out tt _ _ i9 E2.out)) | (with_reducible exact quiet_add_left (HQ.out tt _ _ i9 E2.out)) ))
  go_wp2_with fail
  go_ret
  exact ⟨rfl, gr_auto⟩
set_option maxRecDepth 100000 in
set_option maxHeartbeats 4000000 in
theorem rightlink_n3 (d : Ba.Link) (w : World) (i7 : d.nm.size ≤ 9223372036854775807) (i8 : d.fr.size ≤ 9223372036854775807) (i9 : d.tt.size ≤ 9223372036854775807) (e0 : Dc.isName d.nm.data.toList = true) (e1 : Dc.isName d.fr.data.toList = true) (e2 : Dc.isName d.tt.data.toList = true) (e3 : Ba.eqS d.fr d.tt = true) : Calls Tryz.prog 96 #[d.val] w fun e w' => e = .returned (.bool false) ∧ Gr w w' := by
  have HQ := Lib.hid (fun (s : ByteArray) (q : Bool) (W : World) (hs : s.size ≤ 9223372036854775807) (e : Dc.isName s.data.toList = q) => e ▸ isname_all s W hs)
  unfold Ba.Link.val
  obtain ⟨nm, fr, tt, kd, ln, up, dn, sc, wd, ht, cv⟩ := d
  simp only at *
  have E0 := Lib.hid e0; clear e0
  have E1 := Lib.hid e1; clear e1
  have E2 := Lib.hid e2; clear e2
  have t3 : (fr.toList == tt.toList) = true := by simpa [Ba.eqS] using e3
  clear e3
  go_enter Tryz.func96, Tryz.ntmps96
  go_wp2_with fail
  go_quiet ((go_at_call 126; first | (with_reducible exact quiet_eq (HQ.out nm _ _ i7 E0.out)) | (with_reducible exact quiet_add_left (HQ.out nm _ _ i7 E0.out)) | (with_reducible exact quiet_eq (HQ.out fr _ _ i8 E1.out)) | (with_reducible exact quiet_add_left (HQ.out fr _ _ i8 E1.out)) | (with_reducible exact quiet_eq (HQ.out tt _ _ i9 E2.out)) | (with_reducible exact quiet_add_left (HQ.out tt _ _ i9 E2.out)) ))
  go_wp2_with fail
  go_ret
  exact ⟨rfl, gr_auto⟩
end Go.Proofs.YtllkiadedaghoaaGreatDoor
