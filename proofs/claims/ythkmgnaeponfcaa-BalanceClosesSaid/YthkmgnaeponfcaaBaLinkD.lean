/-
  Links: network.rightLink, where it refuses early. (Printed by mklinkd.py.)
-/
import Derived.Test.YthkmgnaeponfcaaBaLinkA
import Derived.Deep.RegionWith
import Derived.Deep.DrawnRows
set_option linter.unusedVariables false
set_option linter.unusedSimpArgs false
namespace Go.Proofs.Ythkmgnaeponfcaa
open Go.RowKit
attribute [local go_sem ↓] Go.wp_at_zero Go.wp_at_succ

set_option maxRecDepth 100000 in
set_option maxHeartbeats 4000000 in
theorem rightlink_n0 (d : Ba.Link) (w : World) (i7 : d.nm.size ≤ 9223372036854775807) (i8 : d.fr.size ≤ 9223372036854775807) (i9 : d.tt.size ≤ 9223372036854775807) (e0 : Dc.isName d.nm.data.toList = false) : Calls Try.prog 76 #[d.val] w fun e w' => e = .returned (.bool false) ∧ Gr w w' := by
  have HQ := Lib.hid (fun (s : ByteArray) (q : Bool) (W : World) (hs : s.size ≤ 9223372036854775807) (e : Dc.isName s.data.toList = q) => e ▸ isname_all s W hs)
  unfold Ba.Link.val
  obtain ⟨nm, fr, tt, kd, ln, up, dn, sc, wd, ht, cv⟩ := d
  simp only at *
  have E0 := Lib.hid e0; clear e0
  go_enter Try.func76, Try.ntmps76
  go_wp2_with fail
  go_quiet ((go_at_call 93; first | (with_reducible exact quiet_eq (HQ.out nm _ _ i7 E0.out)) | (with_reducible exact quiet_add_left (HQ.out nm _ _ i7 E0.out)) ))
  go_wp2_with fail
  go_ret
  exact ⟨rfl, gr_auto⟩

set_option maxRecDepth 100000 in
set_option maxHeartbeats 4000000 in
theorem rightlink_n1 (d : Ba.Link) (w : World) (i7 : d.nm.size ≤ 9223372036854775807) (i8 : d.fr.size ≤ 9223372036854775807) (i9 : d.tt.size ≤ 9223372036854775807) (e0 : Dc.isName d.nm.data.toList = true) (e1 : Dc.isName d.fr.data.toList = false) : Calls Try.prog 76 #[d.val] w fun e w' => e = .returned (.bool false) ∧ Gr w w' := by
  have HQ := Lib.hid (fun (s : ByteArray) (q : Bool) (W : World) (hs : s.size ≤ 9223372036854775807) (e : Dc.isName s.data.toList = q) => e ▸ isname_all s W hs)
  unfold Ba.Link.val
  obtain ⟨nm, fr, tt, kd, ln, up, dn, sc, wd, ht, cv⟩ := d
  simp only at *
  have E0 := Lib.hid e0; clear e0
  have E1 := Lib.hid e1; clear e1
  go_enter Try.func76, Try.ntmps76
  go_wp2_with fail
  go_quiet ((go_at_call 93; first | (with_reducible exact quiet_eq (HQ.out nm _ _ i7 E0.out)) | (with_reducible exact quiet_add_left (HQ.out nm _ _ i7 E0.out)) | (with_reducible exact quiet_eq (HQ.out fr _ _ i8 E1.out)) | (with_reducible exact quiet_add_left (HQ.out fr _ _ i8 E1.out)) ))
  go_wp2_with fail
  go_ret
  exact ⟨rfl, gr_auto⟩

set_option maxRecDepth 100000 in
set_option maxHeartbeats 4000000 in
theorem rightlink_n2 (d : Ba.Link) (w : World) (i7 : d.nm.size ≤ 9223372036854775807) (i8 : d.fr.size ≤ 9223372036854775807) (i9 : d.tt.size ≤ 9223372036854775807) (e0 : Dc.isName d.nm.data.toList = true) (e1 : Dc.isName d.fr.data.toList = true) (e2 : Dc.isName d.tt.data.toList = false) : Calls Try.prog 76 #[d.val] w fun e w' => e = .returned (.bool false) ∧ Gr w w' := by
  have HQ := Lib.hid (fun (s : ByteArray) (q : Bool) (W : World) (hs : s.size ≤ 9223372036854775807) (e : Dc.isName s.data.toList = q) => e ▸ isname_all s W hs)
  unfold Ba.Link.val
  obtain ⟨nm, fr, tt, kd, ln, up, dn, sc, wd, ht, cv⟩ := d
  simp only at *
  have E0 := Lib.hid e0; clear e0
  have E1 := Lib.hid e1; clear e1
  have E2 := Lib.hid e2; clear e2
  go_enter Try.func76, Try.ntmps76
  go_wp2_with fail
  go_quiet ((go_at_call 93; first | (with_reducible exact quiet_eq (HQ.out nm _ _ i7 E0.out)) | (with_reducible exact quiet_add_left (HQ.out nm _ _ i7 E0.out)) | (with_reducible exact quiet_eq (HQ.out fr _ _ i8 E1.out)) | (with_reducible exact quiet_add_left (HQ.out fr _ _ i8 E1.out)) | (with_reducible exact quiet_eq (HQ.out tt _ _ i9 E2.out)) | (with_reducible exact quiet_add_left (HQ.out tt _ _ i9 E2.out)) ))
  go_wp2_with fail
  go_ret
  exact ⟨rfl, gr_auto⟩

set_option maxRecDepth 100000 in
set_option maxHeartbeats 4000000 in
theorem rightlink_n3 (d : Ba.Link) (w : World) (i7 : d.nm.size ≤ 9223372036854775807) (i8 : d.fr.size ≤ 9223372036854775807) (i9 : d.tt.size ≤ 9223372036854775807) (e0 : Dc.isName d.nm.data.toList = true) (e1 : Dc.isName d.fr.data.toList = true) (e2 : Dc.isName d.tt.data.toList = true) (e3 : Ba.eqS d.fr d.tt = true) : Calls Try.prog 76 #[d.val] w fun e w' => e = .returned (.bool false) ∧ Gr w w' := by
  have HQ := Lib.hid (fun (s : ByteArray) (q : Bool) (W : World) (hs : s.size ≤ 9223372036854775807) (e : Dc.isName s.data.toList = q) => e ▸ isname_all s W hs)
  unfold Ba.Link.val
  obtain ⟨nm, fr, tt, kd, ln, up, dn, sc, wd, ht, cv⟩ := d
  simp only at *
  have E0 := Lib.hid e0; clear e0
  have E1 := Lib.hid e1; clear e1
  have E2 := Lib.hid e2; clear e2
  have t3 : (fr.toList == tt.toList) = true := by simpa [Ba.eqS] using e3
  clear e3
  go_enter Try.func76, Try.ntmps76
  go_wp2_with fail
  go_quiet ((go_at_call 93; first | (with_reducible exact quiet_eq (HQ.out nm _ _ i7 E0.out)) | (with_reducible exact quiet_add_left (HQ.out nm _ _ i7 E0.out)) | (with_reducible exact quiet_eq (HQ.out fr _ _ i8 E1.out)) | (with_reducible exact quiet_add_left (HQ.out fr _ _ i8 E1.out)) | (with_reducible exact quiet_eq (HQ.out tt _ _ i9 E2.out)) | (with_reducible exact quiet_add_left (HQ.out tt _ _ i9 E2.out)) ))
  go_wp2_with fail
  go_ret
  exact ⟨rfl, gr_auto⟩

end Go.Proofs.Ythkmgnaeponfcaa
