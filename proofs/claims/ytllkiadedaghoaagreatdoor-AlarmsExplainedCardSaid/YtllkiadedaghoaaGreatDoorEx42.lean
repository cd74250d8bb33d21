/-
  Links: the reference's RightLink. (Printed by mklink.py.)
-/
import Derived.Test.YtllkiadedaghoaaGreatDoorEx22

set_option linter.unusedVariables false
set_option linter.unusedSimpArgs false
namespace Go.Proofs.YtllkiadedaghoaaGreatDoor
open Go.RowKit
set_option maxRecDepth 100000 in
set_option maxHeartbeats 2000000 in
theorem rrl_h0 (d : Ba.Link) (w : World) (h : d.Ok w) (e0 : (Dc.isName d.nm.data.toList) = false) : Calls Tryz.prog 41 #[d.val] w fun e w' => e = .returned (.bool false) ∧ Gr w w' := by
  obtain ⟨i1, i2, i3, i4, i5, i6, i7, i8, i9, i10, hs⟩ := h
  have hn : d.cv.n ≤ 9223372036854775807 := Nat.le_trans hs.hc hs.hb
  unfold Ba.Link.val
  obtain ⟨nm, fr, tt, kd, ln, up, dn, sc, wd, ht, cv⟩ := d
  simp only at *
  have E0 := Lib.hid (fun W => risname_all nm W i7); rw [e0] at E0
  clear hs i1 i2 i3 i4 i5 i6 i7 i8 i9 i10 e0
  go_enter Tryz.func41, Tryz.ntmps41
  go_wp2_with fail
  refine (E0.out _).mono ?_
  rintro e w9 ⟨rfl, rfl⟩
  go_wp2_with fail
  go_ret
  exact ⟨rfl, gr_auto⟩
set_option maxRecDepth 100000 in
set_option maxHeartbeats 2000000 in
theorem rrl_h1 (d : Ba.Link) (w : World) (h : d.Ok w) (e0 : (Dc.isName d.nm.data.toList) = true) (e1 : (Dc.isName d.fr.data.toList) = false) : Calls Tryz.prog 41 #[d.val] w fun e w' => e = .returned (.bool false) ∧ Gr w w' := by
  obtain ⟨i1, i2, i3, i4, i5, i6, i7, i8, i9, i10, hs⟩ := h
  have hn : d.cv.n ≤ 9223372036854775807 := Nat.le_trans hs.hc hs.hb
  unfold Ba.Link.val
  obtain ⟨nm, fr, tt, kd, ln, up, dn, sc, wd, ht, cv⟩ := d
  simp only at *
  have E0 := Lib.hid (fun W => risname_all nm W i7); rw [e0] at E0
  have E1 := Lib.hid (fun W => risname_all fr W i8); rw [e1] at E1
  clear hs i1 i2 i3 i4 i5 i6 i7 i8 i9 i10 e0 e1
  go_enter Tryz.func41, Tryz.ntmps41
  go_wp2_with fail
  refine (E0.out _).mono ?_
  rintro e w9 ⟨rfl, rfl⟩
  go_wp2_with fail
  refine (E1.out _).mono ?_
  rintro e w9 ⟨rfl, rfl⟩
  go_wp2_with fail
  go_ret
  exact ⟨rfl, gr_auto⟩
set_option maxRecDepth 100000 in
set_option maxHeartbeats 2000000 in
theorem rrl_h2 (d : Ba.Link) (w : World) (h : d.Ok w) (e0 : (Dc.isName d.nm.data.toList) = true) (e1 : (Dc.isName d.fr.data.toList) = true) (e2 : (Dc.isName d.tt.data.toList) = false) : Calls Tryz.prog 41 #[d.val] w fun e w' => e = .returned (.bool false) ∧ Gr w w' := by
  obtain ⟨i1, i2, i3, i4, i5, i6, i7, i8, i9, i10, hs⟩ := h
  have hn : d.cv.n ≤ 9223372036854775807 := Nat.le_trans hs.hc hs.hb
  unfold Ba.Link.val
  obtain ⟨nm, fr, tt, kd, ln, up, dn, sc, wd, ht, cv⟩ := d
  simp only at *
  have E0 := Lib.hid (fun W => risname_all nm W i7); rw [e0] at E0
  have E1 := Lib.hid (fun W => risname_all fr W i8); rw [e1] at E1
  have E2 := Lib.hid (fun W => risname_all tt W i9); rw [e2] at E2
  clear hs i1 i2 i3 i4 i5 i6 i7 i8 i9 i10 e0 e1 e2
  go_enter Tryz.func41, Tryz.ntmps41
  go_wp2_with fail
  refine (E0.out _).mono ?_
  rintro e w9 ⟨rfl, rfl⟩
  go_wp2_with fail
  refine (E1.out _).mono ?_
  rintro e w9 ⟨rfl, rfl⟩
  go_wp2_with fail
  refine (E2.out _).mono ?_
  rintro e w9 ⟨rfl, rfl⟩
  go_wp2_with fail
  go_ret
  exact ⟨rfl, gr_auto⟩
set_option maxRecDepth 100000 in
set_option maxHeartbeats 2000000 in
theorem rrl_h3 (d : Ba.Link) (w : World) (h : d.Ok w) (e0 : (Dc.isName d.nm.data.toList) = true) (e1 : (Dc.isName d.fr.data.toList) = true) (e2 : (Dc.isName d.tt.data.toList) = true) (e3 : (Ba.eqS d.fr d.tt) = true) : Calls Tryz.prog 41 #[d.val] w fun e w' => e = .returned (.bool false) ∧ Gr w w' := by
  obtain ⟨i1, i2, i3, i4, i5, i6, i7, i8, i9, i10, hs⟩ := h
  have hn : d.cv.n ≤ 9223372036854775807 := Nat.le_trans hs.hc hs.hb
  unfold Ba.Link.val
  obtain ⟨nm, fr, tt, kd, ln, up, dn, sc, wd, ht, cv⟩ := d
  simp only at *
  have E0 := Lib.hid (fun W => risname_all nm W i7); rw [e0] at E0
  have E1 := Lib.hid (fun W => risname_all fr W i8); rw [e1] at E1
  have E2 := Lib.hid (fun W => risname_all tt W i9); rw [e2] at E2
  have T3 : (fr.toList == tt.toList) = true := by simpa [Ba.eqS] using e3
  clear hs i1 i2 i3 i4 i5 i6 i7 i8 i9 i10 e0 e1 e2 e3
  go_enter Tryz.func41, Tryz.ntmps41
  go_wp2_with fail
  refine (E0.out _).mono ?_
  rintro e w9 ⟨rfl, rfl⟩
  go_wp2_with fail
  refine (E1.out _).mono ?_
  rintro e w9 ⟨rfl, rfl⟩
  go_wp2_with fail
  refine (E2.out _).mono ?_
  rintro e w9 ⟨rfl, rfl⟩
  go_wp2_with fail
  go_ret
  exact ⟨rfl, gr_auto⟩
set_option maxRecDepth 100000 in
set_option maxHeartbeats 2000000 in
theorem rrl_h4 (d : Ba.Link) (w : World) (h : d.Ok w) (e0 : (Dc.isName d.nm.data.toList) = true) (e1 : (Dc.isName d.fr.data.toList) = true) (e2 : (Dc.isName d.tt.data.toList) = true) (e3 : (Ba.eqS d.fr d.tt) = false) (e4 : (Ba.bet d.up (-4194304) 4194304) = false) : Calls Tryz.prog 41 #[d.val] w fun e w' => e = .returned (.bool false) ∧ Gr w w' := by
  obtain ⟨i1, i2, i3, i4, i5, i6, i7, i8, i9, i10, hs⟩ := h
  have hn : d.cv.n ≤ 9223372036854775807 := Nat.le_trans hs.hc hs.hb
  unfold Ba.Link.val
  obtain ⟨nm, fr, tt, kd, ln, up, dn, sc, wd, ht, cv⟩ := d
  simp only at *
  have E0 := Lib.hid (fun W => risname_all nm W i7); rw [e0] at E0
  have E1 := Lib.hid (fun W => risname_all fr W i8); rw [e1] at E1
  have E2 := Lib.hid (fun W => risname_all tt W i9); rw [e2] at E2
  have T3 : (fr.toList == tt.toList) = false := by simpa [Ba.eqS] using e3
  have E4 := Lib.hid (rlevel_any up); rw [e4] at E4
  clear hs i1 i2 i3 i4 i5 i6 i7 i8 i9 i10 e0 e1 e2 e3 e4
  go_enter Tryz.func41, Tryz.ntmps41
  go_wp2_with fail
  refine (E0.out _).mono ?_
  rintro e w9 ⟨rfl, rfl⟩
  go_wp2_with fail
  refine (E1.out _).mono ?_
  rintro e w9 ⟨rfl, rfl⟩
  go_wp2_with fail
  refine (E2.out _).mono ?_
  rintro e w9 ⟨rfl, rfl⟩
  go_wp2_with fail
  refine (E4.out _).mono ?_
  rintro e w9 ⟨rfl, rfl⟩
  go_wp2_with fail
  go_ret
  exact ⟨rfl, gr_auto⟩
set_option maxRecDepth 100000 in
set_option maxHeartbeats 2000000 in
theorem rrl_h5 (d : Ba.Link) (w : World) (h : d.Ok w) (e0 : (Dc.isName d.nm.data.toList) = true) (e1 : (Dc.isName d.fr.data.toList) = true) (e2 : (Dc.isName d.tt.data.toList) = true) (e3 : (Ba.eqS d.fr d.tt) = false) (e4 : (Ba.bet d.up (-4194304) 4194304) = true) (e5 : (Ba.bet d.dn (-4194304) 4194304) = false) : Calls Tryz.prog 41 #[d.val] w fun e w' => e = .returned (.bool false) ∧ Gr w w' := by
  obtain ⟨i1, i2, i3, i4, i5, i6, i7, i8, i9, i10, hs⟩ := h
  have hn : d.cv.n ≤ 9223372036854775807 := Nat.le_trans hs.hc hs.hb
  unfold Ba.Link.val
  obtain ⟨nm, fr, tt, kd, ln, up, dn, sc, wd, ht, cv⟩ := d
  simp only at *
  have E0 := Lib.hid (fun W => risname_all nm W i7); rw [e0] at E0
  have E1 := Lib.hid (fun W => risname_all fr W i8); rw [e1] at E1
  have E2 := Lib.hid (fun W => risname_all tt W i9); rw [e2] at E2
  have T3 : (fr.toList == tt.toList) = false := by simpa [Ba.eqS] using e3
  have E4 := Lib.hid (rlevel_any up); rw [e4] at E4
  have E5 := Lib.hid (rlevel_any dn); rw [e5] at E5
  clear hs i1 i2 i3 i4 i5 i6 i7 i8 i9 i10 e0 e1 e2 e3 e4 e5
  go_enter Tryz.func41, Tryz.ntmps41
  go_wp2_with fail
  refine (E0.out _).mono ?_
  rintro e w9 ⟨rfl, rfl⟩
  go_wp2_with fail
  refine (E1.out _).mono ?_
  rintro e w9 ⟨rfl, rfl⟩
  go_wp2_with fail
  refine (E2.out _).mono ?_
  rintro e w9 ⟨rfl, rfl⟩
  go_wp2_with fail
  refine (E4.out _).mono ?_
  rintro e w9 ⟨rfl, rfl⟩
  go_wp2_with fail
  refine (E5.out _).mono ?_
  rintro e w9 ⟨rfl, rfl⟩
  go_wp2_with fail
  go_ret
  exact ⟨rfl, gr_auto⟩
set_option maxRecDepth 100000 in
set_option maxHeartbeats 2000000 in
theorem rrl_k10 (d : Ba.Link) (w : World) (h : d.Ok w) (hk : d.kd = 1) (e0 : (Dc.isName d.nm.data.toList) = true) (e1 : (Dc.isName d.fr.data.toList) = true) (e2 : (Dc.isName d.tt.data.toList) = true) (e3 : (Ba.eqS d.fr d.tt) = false) (e4 : (Ba.bet d.up (-4194304) 4194304) = true) (e5 : (Ba.bet d.dn (-4194304) 4194304) = true) (e6 : (Ba.bet d.ln 1 16777216) = false) : Calls Tryz.prog 41 #[d.val] w fun e w' => e = .returned (.bool false) ∧ Gr w w' := by
  obtain ⟨i1, i2, i3, i4, i5, i6, i7, i8, i9, i10, hs⟩ := h
  have hn : d.cv.n ≤ 9223372036854775807 := Nat.le_trans hs.hc hs.hb
  unfold Ba.Link.val
  obtain ⟨nm, fr, tt, kd, ln, up, dn, sc, wd, ht, cv⟩ := d
  simp only at *
  subst hk
  have E0 := Lib.hid (fun W => risname_all nm W i7); rw [e0] at E0
  have E1 := Lib.hid (fun W => risname_all fr W i8); rw [e1] at E1
  have E2 := Lib.hid (fun W => risname_all tt W i9); rw [e2] at E2
  have T3 : (fr.toList == tt.toList) = false := by simpa [Ba.eqS] using e3
  have E4 := Lib.hid (rlevel_any up); rw [e4] at E4
  have E5 := Lib.hid (rlevel_any dn); rw [e5] at E5
  have E6 := Lib.hid (rwithin_any ln 16777216); rw [e6] at E6
  clear hs i1 i2 i3 i4 i5 i6 i7 i8 i9 i10 e0 e1 e2 e3 e4 e5 e6
  go_enter Tryz.func41, Tryz.ntmps41
  go_wp2_with fail
  refine (E0.out _).mono ?_
  rintro e w9 ⟨rfl, rfl⟩
  go_wp2_with fail
  refine (E1.out _).mono ?_
  rintro e w9 ⟨rfl, rfl⟩
  go_wp2_with fail
  refine (E2.out _).mono ?_
  rintro e w9 ⟨rfl, rfl⟩
  go_wp2_with fail
  refine (E4.out _).mono ?_
  rintro e w9 ⟨rfl, rfl⟩
  go_wp2_with fail
  refine (E5.out _).mono ?_
  rintro e w9 ⟨rfl, rfl⟩
  go_wp2_with fail
  refine (E6.out _).mono ?_
  rintro e w9 ⟨rfl, rfl⟩
  go_wp2_with fail
  go_ret
  exact ⟨rfl, gr_auto⟩
set_option maxRecDepth 100000 in
set_option maxHeartbeats 2000000 in
theorem rrl_k11 (d : Ba.Link) (w : World) (h : d.Ok w) (hk : d.kd = 1) (e0 : (Dc.isName d.nm.data.toList) = true) (e1 : (Dc.isName d.fr.data.toList) = true) (e2 : (Dc.isName d.tt.data.toList) = true) (e3 : (Ba.eqS d.fr d.tt) = false) (e4 : (Ba.bet d.up (-4194304) 4194304) = true) (e5 : (Ba.bet d.dn (-4194304) 4194304) = true) (e6 : (Ba.bet d.ln 1 16777216) = true) (e7 : (Dc.isName d.sc.data.toList) = false) : Calls Tryz.prog 41 #[d.val] w fun e w' => e = .returned (.bool false) ∧ Gr w w' := by
  obtain ⟨i1, i2, i3, i4, i5, i6, i7, i8, i9, i10, hs⟩ := h
  have hn : d.cv.n ≤ 9223372036854775807 := Nat.le_trans hs.hc hs.hb
  unfold Ba.Link.val
  obtain ⟨nm, fr, tt, kd, ln, up, dn, sc, wd, ht, cv⟩ := d
  simp only at *
  subst hk
  have E0 := Lib.hid (fun W => risname_all nm W i7); rw [e0] at E0
  have E1 := Lib.hid (fun W => risname_all fr W i8); rw [e1] at E1
  have E2 := Lib.hid (fun W => risname_all tt W i9); rw [e2] at E2
  have T3 : (fr.toList == tt.toList) = false := by simpa [Ba.eqS] using e3
  have E4 := Lib.hid (rlevel_any up); rw [e4] at E4
  have E5 := Lib.hid (rlevel_any dn); rw [e5] at E5
  have E6 := Lib.hid (rwithin_any ln 16777216); rw [e6] at E6
  have E7 := Lib.hid (fun W => risname_all sc W i10); rw [e7] at E7
  clear hs i1 i2 i3 i4 i5 i6 i7 i8 i9 i10 e0 e1 e2 e3 e4 e5 e6 e7
  go_enter Tryz.func41, Tryz.ntmps41
  go_wp2_with fail
  refine (E0.out _).mono ?_
  rintro e w9 ⟨rfl, rfl⟩
  go_wp2_with fail
  refine (E1.out _).mono ?_
  rintro e w9 ⟨rfl, rfl⟩
  go_wp2_with fail
  refine (E2.out _).mono ?_
  rintro e w9 ⟨rfl, rfl⟩
  go_wp2_with fail
  refine (E4.out _).mono ?_
  rintro e w9 ⟨rfl, rfl⟩
  go_wp2_with fail
  refine (E5.out _).mono ?_
  rintro e w9 ⟨rfl, rfl⟩
  go_wp2_with fail
  refine (E6.out _).mono ?_
  rintro e w9 ⟨rfl, rfl⟩
  go_wp2_with fail
  refine (E7.out _).mono ?_
  rintro e w9 ⟨rfl, rfl⟩
  go_wp2_with fail
  go_ret
  exact ⟨rfl, gr_auto⟩
set_option maxRecDepth 100000 in
set_option maxHeartbeats 2000000 in
theorem rrl_k12 (d : Ba.Link) (w : World) (h : d.Ok w) (hk : d.kd = 1) (e0 : (Dc.isName d.nm.data.toList) = true) (e1 : (Dc.isName d.fr.data.toList) = true) (e2 : (Dc.isName d.tt.data.toList) = true) (e3 : (Ba.eqS d.fr d.tt) = false) (e4 : (Ba.bet d.up (-4194304) 4194304) = true) (e5 : (Ba.bet d.dn (-4194304) 4194304) = true) (e6 : (Ba.bet d.ln 1 16777216) = true) (e7 : (Dc.isName d.sc.data.toList) = true) (e8 : (d.wd == 0) = false) : Calls Tryz.prog 41 #[d.val] w fun e w' => e = .returned (.bool false) ∧ Gr w w' := by
  obtain ⟨i1, i2, i3, i4, i5, i6, i7, i8, i9, i10, hs⟩ := h
  have hn : d.cv.n ≤ 9223372036854775807 := Nat.le_trans hs.hc hs.hb
  unfold Ba.Link.val
  obtain ⟨nm, fr, tt, kd, ln, up, dn, sc, wd, ht, cv⟩ := d
  simp only at *
  subst hk
  have E0 := Lib.hid (fun W => risname_all nm W i7); rw [e0] at E0
  have E1 := Lib.hid (fun W => risname_all fr W i8); rw [e1] at E1
  have E2 := Lib.hid (fun W => risname_all tt W i9); rw [e2] at E2
  have T3 : (fr.toList == tt.toList) = false := by simpa [Ba.eqS] using e3
  have E4 := Lib.hid (rlevel_any up); rw [e4] at E4
  have E5 := Lib.hid (rlevel_any dn); rw [e5] at E5
  have E6 := Lib.hid (rwithin_any ln 16777216); rw [e6] at E6
  have E7 := Lib.hid (fun W => risname_all sc W i10); rw [e7] at E7
  clear hs i1 i2 i3 i4 i5 i6 i7 i8 i9 i10 e0 e1 e2 e3 e4 e5 e6 e7
  go_enter Tryz.func41, Tryz.ntmps41
  go_wp2_with fail
  refine (E0.out _).mono ?_
  rintro e w9 ⟨rfl, rfl⟩
  go_wp2_with fail
  refine (E1.out _).mono ?_
  rintro e w9 ⟨rfl, rfl⟩
  go_wp2_with fail
  refine (E2.out _).mono ?_
  rintro e w9 ⟨rfl, rfl⟩
  go_wp2_with fail
  refine (E4.out _).mono ?_
  rintro e w9 ⟨rfl, rfl⟩
  go_wp2_with fail
  refine (E5.out _).mono ?_
  rintro e w9 ⟨rfl, rfl⟩
  go_wp2_with fail
  refine (E6.out _).mono ?_
  rintro e w9 ⟨rfl, rfl⟩
  go_wp2_with fail
  refine (E7.out _).mono ?_
  rintro e w9 ⟨rfl, rfl⟩
  go_wp2_with fail
  go_ret
  exact ⟨rfl, gr_auto⟩
set_option maxRecDepth 100000 in
set_option maxHeartbeats 2000000 in
theorem rrl_k13 (d : Ba.Link) (w : World) (h : d.Ok w) (hk : d.kd = 1) (e0 : (Dc.isName d.nm.data.toList) = true) (e1 : (Dc.isName d.fr.data.toList) = true) (e2 : (Dc.isName d.tt.data.toList) = true) (e3 : (Ba.eqS d.fr d.tt) = false) (e4 : (Ba.bet d.up (-4194304) 4194304) = true) (e5 : (Ba.bet d.dn (-4194304) 4194304) = true) (e6 : (Ba.bet d.ln 1 16777216) = true) (e7 : (Dc.isName d.sc.data.toList) = true) (e8 : (d.wd == 0) = true) (e9 : (d.ht == 0) = false) : Calls Tryz.prog 41 #[d.val] w fun e w' => e = .returned (.bool false) ∧ Gr w w' := by
  obtain ⟨i1, i2, i3, i4, i5, i6, i7, i8, i9, i10, hs⟩ := h
  have hn : d.cv.n ≤ 9223372036854775807 := Nat.le_trans hs.hc hs.hb
  unfold Ba.Link.val
  obtain ⟨nm, fr, tt, kd, ln, up, dn, sc, wd, ht, cv⟩ := d
  simp only at *
  subst hk
  have E0 := Lib.hid (fun W => risname_all nm W i7); rw [e0] at E0
  have E1 := Lib.hid (fun W => risname_all fr W i8); rw [e1] at E1
  have E2 := Lib.hid (fun W => risname_all tt W i9); rw [e2] at E2
  have T3 : (fr.toList == tt.toList) = false := by simpa [Ba.eqS] using e3
  have E4 := Lib.hid (rlevel_any up); rw [e4] at E4
  have E5 := Lib.hid (rlevel_any dn); rw [e5] at E5
  have E6 := Lib.hid (rwithin_any ln 16777216); rw [e6] at E6
  have E7 := Lib.hid (fun W => risname_all sc W i10); rw [e7] at E7
  clear hs i1 i2 i3 i4 i5 i6 i7 i8 i9 i10 e0 e1 e2 e3 e4 e5 e6 e7
  go_enter Tryz.func41, Tryz.ntmps41
  go_wp2_with fail
  refine (E0.out _).mono ?_
  rintro e w9 ⟨rfl, rfl⟩
  go_wp2_with fail
  refine (E1.out _).mono ?_
  rintro e w9 ⟨rfl, rfl⟩
  go_wp2_with fail
  refine (E2.out _).mono ?_
  rintro e w9 ⟨rfl, rfl⟩
  go_wp2_with fail
  refine (E4.out _).mono ?_
  rintro e w9 ⟨rfl, rfl⟩
  go_wp2_with fail
  refine (E5.out _).mono ?_
  rintro e w9 ⟨rfl, rfl⟩
  go_wp2_with fail
  refine (E6.out _).mono ?_
  rintro e w9 ⟨rfl, rfl⟩
  go_wp2_with fail
  refine (E7.out _).mono ?_
  rintro e w9 ⟨rfl, rfl⟩
  go_wp2_with fail
  go_ret
  exact ⟨rfl, gr_auto⟩
set_option maxRecDepth 100000 in
set_option maxHeartbeats 2000000 in
theorem rrl_k14 (d : Ba.Link) (w : World) (h : d.Ok w) (hk : d.kd = 1) (e0 : (Dc.isName d.nm.data.toList) = true) (e1 : (Dc.isName d.fr.data.toList) = true) (e2 : (Dc.isName d.tt.data.toList) = true) (e3 : (Ba.eqS d.fr d.tt) = false) (e4 : (Ba.bet d.up (-4194304) 4194304) = true) (e5 : (Ba.bet d.dn (-4194304) 4194304) = true) (e6 : (Ba.bet d.ln 1 16777216) = true) (e7 : (Dc.isName d.sc.data.toList) = true) (e8 : (d.wd == 0) = true) (e9 : (d.ht == 0) = true) (e10 : (decide (d.cv.n = 0)) = false) : Calls Tryz.prog 41 #[d.val] w fun e w' => e = .returned (.bool false) ∧ Gr w w' := by
  obtain ⟨i1, i2, i3, i4, i5, i6, i7, i8, i9, i10, hs⟩ := h
  have hn : d.cv.n ≤ 9223372036854775807 := Nat.le_trans hs.hc hs.hb
  unfold Ba.Link.val
  obtain ⟨nm, fr, tt, kd, ln, up, dn, sc, wd, ht, cv⟩ := d
  simp only at *
  subst hk
  have E0 := Lib.hid (fun W => risname_all nm W i7); rw [e0] at E0
  have E1 := Lib.hid (fun W => risname_all fr W i8); rw [e1] at E1
  have E2 := Lib.hid (fun W => risname_all tt W i9); rw [e2] at E2
  have T3 : (fr.toList == tt.toList) = false := by simpa [Ba.eqS] using e3
  have E4 := Lib.hid (rlevel_any up); rw [e4] at E4
  have E5 := Lib.hid (rlevel_any dn); rw [e5] at E5
  have E6 := Lib.hid (rwithin_any ln 16777216); rw [e6] at E6
  have E7 := Lib.hid (fun W => risname_all sc W i10); rw [e7] at E7
  have T10 : ((cv.n : Int) == 0) = false := by rw [← e10, Bool.eq_iff_iff]; simp
  clear hs i1 i2 i3 i4 i5 i6 i7 i8 i9 i10 e0 e1 e2 e3 e4 e5 e6 e7 e10
  go_enter Tryz.func41, Tryz.ntmps41
  go_wp2_with fail
  refine (E0.out _).mono ?_
  rintro e w9 ⟨rfl, rfl⟩
  go_wp2_with fail
  refine (E1.out _).mono ?_
  rintro e w9 ⟨rfl, rfl⟩
  go_wp2_with fail
  refine (E2.out _).mono ?_
  rintro e w9 ⟨rfl, rfl⟩
  go_wp2_with fail
  refine (E4.out _).mono ?_
  rintro e w9 ⟨rfl, rfl⟩
  go_wp2_with fail
  refine (E5.out _).mono ?_
  rintro e w9 ⟨rfl, rfl⟩
  go_wp2_with fail
  refine (E6.out _).mono ?_
  rintro e w9 ⟨rfl, rfl⟩
  go_wp2_with fail
  refine (E7.out _).mono ?_
  rintro e w9 ⟨rfl, rfl⟩
  go_wp2_with fail
  go_ret
  exact ⟨rfl, gr_auto⟩
set_option maxRecDepth 100000 in
set_option maxHeartbeats 2000000 in
theorem rrl_k15 (d : Ba.Link) (w : World) (h : d.Ok w) (hk : d.kd = 1) (e0 : (Dc.isName d.nm.data.toList) = true) (e1 : (Dc.isName d.fr.data.toList) = true) (e2 : (Dc.isName d.tt.data.toList) = true) (e3 : (Ba.eqS d.fr d.tt) = false) (e4 : (Ba.bet d.up (-4194304) 4194304) = true) (e5 : (Ba.bet d.dn (-4194304) 4194304) = true) (e6 : (Ba.bet d.ln 1 16777216) = true) (e7 : (Dc.isName d.sc.data.toList) = true) (e8 : (d.wd == 0) = true) (e9 : (d.ht == 0) = true) (e10 : (decide (d.cv.n = 0)) = true) : Calls Tryz.prog 41 #[d.val] w fun e w' => e = .returned (.bool true) ∧ Gr w w' := by
  obtain ⟨i1, i2, i3, i4, i5, i6, i7, i8, i9, i10, hs⟩ := h
  have hn : d.cv.n ≤ 9223372036854775807 := Nat.le_trans hs.hc hs.hb
  unfold Ba.Link.val
  obtain ⟨nm, fr, tt, kd, ln, up, dn, sc, wd, ht, cv⟩ := d
  simp only at *
  subst hk
  have E0 := Lib.hid (fun W => risname_all nm W i7); rw [e0] at E0
  have E1 := Lib.hid (fun W => risname_all fr W i8); rw [e1] at E1
  have E2 := Lib.hid (fun W => risname_all tt W i9); rw [e2] at E2
  have T3 : (fr.toList == tt.toList) = false := by simpa [Ba.eqS] using e3
  have E4 := Lib.hid (rlevel_any up); rw [e4] at E4
  have E5 := Lib.hid (rlevel_any dn); rw [e5] at E5
  have E6 := Lib.hid (rwithin_any ln 16777216); rw [e6] at E6
  have E7 := Lib.hid (fun W => risname_all sc W i10); rw [e7] at E7
  have T10 : ((cv.n : Int) == 0) = true := by rw [← e10, Bool.eq_iff_iff]; simp
  clear hs i1 i2 i3 i4 i5 i6 i7 i8 i9 i10 e0 e1 e2 e3 e4 e5 e6 e7 e10
  go_enter Tryz.func41, Tryz.ntmps41
  go_wp2_with fail
  refine (E0.out _).mono ?_
  rintro e w9 ⟨rfl, rfl⟩
  go_wp2_with fail
  refine (E1.out _).mono ?_
  rintro e w9 ⟨rfl, rfl⟩
  go_wp2_with fail
  refine (E2.out _).mono ?_
  rintro e w9 ⟨rfl, rfl⟩
  go_wp2_with fail
  refine (E4.out _).mono ?_
  rintro e w9 ⟨rfl, rfl⟩
  go_wp2_with fail
  refine (E5.out _).mono ?_
  rintro e w9 ⟨rfl, rfl⟩
  go_wp2_with fail
  refine (E6.out _).mono ?_
  rintro e w9 ⟨rfl, rfl⟩
  go_wp2_with fail
  refine (E7.out _).mono ?_
  rintro e w9 ⟨rfl, rfl⟩
  go_wp2_with fail
  go_ret
  exact ⟨rfl, gr_auto⟩
set_option maxRecDepth 100000 in
set_option maxHeartbeats 2000000 in
theorem rrl_k20 (d : Ba.Link) (w : World) (h : d.Ok w) (hk : d.kd = 2) (e0 : (Dc.isName d.nm.data.toList) = true) (e1 : (Dc.isName d.fr.data.toList) = true) (e2 : (Dc.isName d.tt.data.toList) = true) (e3 : (Ba.eqS d.fr d.tt) = false) (e4 : (Ba.bet d.up (-4194304) 4194304) = true) (e5 : (Ba.bet d.dn (-4194304) 4194304) = true) (e6 : (d.ln == 0) = false) : Calls Tryz.prog 41 #[d.val] w fun e w' => e = .returned (.bool false) ∧ Gr w w' := by
  obtain ⟨i1, i2, i3, i4, i5, i6, i7, i8, i9, i10, hs⟩ := h
  have hn : d.cv.n ≤ 9223372036854775807 := Nat.le_trans hs.hc hs.hb
  unfold Ba.Link.val
  obtain ⟨nm, fr, tt, kd, ln, up, dn, sc, wd, ht, cv⟩ := d
  simp only at *
  subst hk
  have E0 := Lib.hid (fun W => risname_all nm W i7); rw [e0] at E0
  have E1 := Lib.hid (fun W => risname_all fr W i8); rw [e1] at E1
  have E2 := Lib.hid (fun W => risname_all tt W i9); rw [e2] at E2
  have T3 : (fr.toList == tt.toList) = false := by simpa [Ba.eqS] using e3
  have E4 := Lib.hid (rlevel_any up); rw [e4] at E4
  have E5 := Lib.hid (rlevel_any dn); rw [e5] at E5
  clear hs i1 i2 i3 i4 i5 i6 i7 i8 i9 i10 e0 e1 e2 e3 e4 e5
  go_enter Tryz.func41, Tryz.ntmps41
  go_wp2_with fail
  refine (E0.out _).mono ?_
  rintro e w9 ⟨rfl, rfl⟩
  go_wp2_with fail
  refine (E1.out _).mono ?_
  rintro e w9 ⟨rfl, rfl⟩
  go_wp2_with fail
  refine (E2.out _).mono ?_
  rintro e w9 ⟨rfl, rfl⟩
  go_wp2_with fail
  refine (E4.out _).mono ?_
  rintro e w9 ⟨rfl, rfl⟩
  go_wp2_with fail
  refine (E5.out _).mono ?_
  rintro e w9 ⟨rfl, rfl⟩
  go_wp2_with fail
  go_ret
  exact ⟨rfl, gr_auto⟩
set_option maxRecDepth 100000 in
set_option maxHeartbeats 2000000 in
theorem rrl_k21 (d : Ba.Link) (w : World) (h : d.Ok w) (hk : d.kd = 2) (e0 : (Dc.isName d.nm.data.toList) = true) (e1 : (Dc.isName d.fr.data.toList) = true) (e2 : (Dc.isName d.tt.data.toList) = true) (e3 : (Ba.eqS d.fr d.tt) = false) (e4 : (Ba.bet d.up (-4194304) 4194304) = true) (e5 : (Ba.bet d.dn (-4194304) 4194304) = true) (e6 : (d.ln == 0) = true) (e7 : (d.dn == 0) = false) : Calls Tryz.prog 41 #[d.val] w fun e w' => e = .returned (.bool false) ∧ Gr w w' := by
  obtain ⟨i1, i2, i3, i4, i5, i6, i7, i8, i9, i10, hs⟩ := h
  have hn : d.cv.n ≤ 9223372036854775807 := Nat.le_trans hs.hc hs.hb
  unfold Ba.Link.val
  obtain ⟨nm, fr, tt, kd, ln, up, dn, sc, wd, ht, cv⟩ := d
  simp only at *
  subst hk
  have E0 := Lib.hid (fun W => risname_all nm W i7); rw [e0] at E0
  have E1 := Lib.hid (fun W => risname_all fr W i8); rw [e1] at E1
  have E2 := Lib.hid (fun W => risname_all tt W i9); rw [e2] at E2
  have T3 : (fr.toList == tt.toList) = false := by simpa [Ba.eqS] using e3
  have E4 := Lib.hid (rlevel_any up); rw [e4] at E4
  have E5 := Lib.hid (rlevel_any dn); rw [e5] at E5
  clear hs i1 i2 i3 i4 i5 i6 i7 i8 i9 i10 e0 e1 e2 e3 e4 e5
  go_enter Tryz.func41, Tryz.ntmps41
  go_wp2_with fail
  refine (E0.out _).mono ?_
  rintro e w9 ⟨rfl, rfl⟩
  go_wp2_with fail
  refine (E1.out _).mono ?_
  rintro e w9 ⟨rfl, rfl⟩
  go_wp2_with fail
  refine (E2.out _).mono ?_
  rintro e w9 ⟨rfl, rfl⟩
  go_wp2_with fail
  refine (E4.out _).mono ?_
  rintro e w9 ⟨rfl, rfl⟩
  go_wp2_with fail
  refine (E5.out _).mono ?_
  rintro e w9 ⟨rfl, rfl⟩
  go_wp2_with fail
  go_ret
  exact ⟨rfl, gr_auto⟩
set_option maxRecDepth 100000 in
set_option maxHeartbeats 2000000 in
theorem rrl_k22 (d : Ba.Link) (w : World) (h : d.Ok w) (hk : d.kd = 2) (e0 : (Dc.isName d.nm.data.toList) = true) (e1 : (Dc.isName d.fr.data.toList) = true) (e2 : (Dc.isName d.tt.data.toList) = true) (e3 : (Ba.eqS d.fr d.tt) = false) (e4 : (Ba.bet d.up (-4194304) 4194304) = true) (e5 : (Ba.bet d.dn (-4194304) 4194304) = true) (e6 : (d.ln == 0) = true) (e7 : (d.dn == 0) = true) (e8 : (d.sc.toList.isEmpty) = false) : Calls Tryz.prog 41 #[d.val] w fun e w' => e = .returned (.bool false) ∧ Gr w w' := by
  obtain ⟨i1, i2, i3, i4, i5, i6, i7, i8, i9, i10, hs⟩ := h
  have hn : d.cv.n ≤ 9223372036854775807 := Nat.le_trans hs.hc hs.hb
  unfold Ba.Link.val
  obtain ⟨nm, fr, tt, kd, ln, up, dn, sc, wd, ht, cv⟩ := d
  simp only at *
  subst hk
  have E0 := Lib.hid (fun W => risname_all nm W i7); rw [e0] at E0
  have E1 := Lib.hid (fun W => risname_all fr W i8); rw [e1] at E1
  have E2 := Lib.hid (fun W => risname_all tt W i9); rw [e2] at E2
  have T3 : (fr.toList == tt.toList) = false := by simpa [Ba.eqS] using e3
  have E4 := Lib.hid (rlevel_any up); rw [e4] at E4
  have E5 := Lib.hid (rlevel_any dn); rw [e5] at E5
  have T8 : (sc.toList == []) = false := by rw [← e8]; cases sc.toList <;> rfl
  clear hs i1 i2 i3 i4 i5 i6 i7 i8 i9 i10 e0 e1 e2 e3 e4 e5
  go_enter Tryz.func41, Tryz.ntmps41
  go_wp2_with fail
  refine (E0.out _).mono ?_
  rintro e w9 ⟨rfl, rfl⟩
  go_wp2_with fail
  refine (E1.out _).mono ?_
  rintro e w9 ⟨rfl, rfl⟩
  go_wp2_with fail
  refine (E2.out _).mono ?_
  rintro e w9 ⟨rfl, rfl⟩
  go_wp2_with fail
  refine (E4.out _).mono ?_
  rintro e w9 ⟨rfl, rfl⟩
  go_wp2_with fail
  refine (E5.out _).mono ?_
  rintro e w9 ⟨rfl, rfl⟩
  go_wp2_with fail
  go_ret
  exact ⟨rfl, gr_auto⟩
set_option maxRecDepth 100000 in
set_option maxHeartbeats 2000000 in
theorem rrl_k23 (d : Ba.Link) (w : World) (h : d.Ok w) (hk : d.kd = 2) (e0 : (Dc.isName d.nm.data.toList) = true) (e1 : (Dc.isName d.fr.data.toList) = true) (e2 : (Dc.isName d.tt.data.toList) = true) (e3 : (Ba.eqS d.fr d.tt) = false) (e4 : (Ba.bet d.up (-4194304) 4194304) = true) (e5 : (Ba.bet d.dn (-4194304) 4194304) = true) (e6 : (d.ln == 0) = true) (e7 : (d.dn == 0) = true) (e8 : (d.sc.toList.isEmpty) = true) (e9 : (Ba.bet d.wd 1 1048576) = false) : Calls Tryz.prog 41 #[d.val] w fun e w' => e = .returned (.bool false) ∧ Gr w w' := by
  obtain ⟨i1, i2, i3, i4, i5, i6, i7, i8, i9, i10, hs⟩ := h
  have hn : d.cv.n ≤ 9223372036854775807 := Nat.le_trans hs.hc hs.hb
  unfold Ba.Link.val
  obtain ⟨nm, fr, tt, kd, ln, up, dn, sc, wd, ht, cv⟩ := d
  simp only at *
  subst hk
  have E0 := Lib.hid (fun W => risname_all nm W i7); rw [e0] at E0
  have E1 := Lib.hid (fun W => risname_all fr W i8); rw [e1] at E1
  have E2 := Lib.hid (fun W => risname_all tt W i9); rw [e2] at E2
  have T3 : (fr.toList == tt.toList) = false := by simpa [Ba.eqS] using e3
  have E4 := Lib.hid (rlevel_any up); rw [e4] at E4
  have E5 := Lib.hid (rlevel_any dn); rw [e5] at E5
  have T8 : (sc.toList == []) = true := by rw [← e8]; cases sc.toList <;> rfl
  have E9 := Lib.hid (rwithin_any wd 1048576); rw [e9] at E9
  clear hs i1 i2 i3 i4 i5 i6 i7 i8 i9 i10 e0 e1 e2 e3 e4 e5 e9
  go_enter Tryz.func41, Tryz.ntmps41
  go_wp2_with fail
  refine (E0.out _).mono ?_
  rintro e w9 ⟨rfl, rfl⟩
  go_wp2_with fail
  refine (E1.out _).mono ?_
  rintro e w9 ⟨rfl, rfl⟩
  go_wp2_with fail
  refine (E2.out _).mono ?_
  rintro e w9 ⟨rfl, rfl⟩
  go_wp2_with fail
  refine (E4.out _).mono ?_
  rintro e w9 ⟨rfl, rfl⟩
  go_wp2_with fail
  refine (E5.out _).mono ?_
  rintro e w9 ⟨rfl, rfl⟩
  go_wp2_with fail
  refine (E9.out _).mono ?_
  rintro e w9 ⟨rfl, rfl⟩
  go_wp2_with fail
  go_ret
  exact ⟨rfl, gr_auto⟩
set_option maxRecDepth 100000 in
set_option maxHeartbeats 2000000 in
theorem rrl_k24 (d : Ba.Link) (w : World) (h : d.Ok w) (hk : d.kd = 2) (e0 : (Dc.isName d.nm.data.toList) = true) (e1 : (Dc.isName d.fr.data.toList) = true) (e2 : (Dc.isName d.tt.data.toList) = true) (e3 : (Ba.eqS d.fr d.tt) = false) (e4 : (Ba.bet d.up (-4194304) 4194304) = true) (e5 : (Ba.bet d.dn (-4194304) 4194304) = true) (e6 : (d.ln == 0) = true) (e7 : (d.dn == 0) = true) (e8 : (d.sc.toList.isEmpty) = true) (e9 : (Ba.bet d.wd 1 1048576) = true) (e10 : (d.ht == 0) = false) : Calls Tryz.prog 41 #[d.val] w fun e w' => e = .returned (.bool false) ∧ Gr w w' := by
  obtain ⟨i1, i2, i3, i4, i5, i6, i7, i8, i9, i10, hs⟩ := h
  have hn : d.cv.n ≤ 9223372036854775807 := Nat.le_trans hs.hc hs.hb
  unfold Ba.Link.val
  obtain ⟨nm, fr, tt, kd, ln, up, dn, sc, wd, ht, cv⟩ := d
  simp only at *
  subst hk
  have E0 := Lib.hid (fun W => risname_all nm W i7); rw [e0] at E0
  have E1 := Lib.hid (fun W => risname_all fr W i8); rw [e1] at E1
  have E2 := Lib.hid (fun W => risname_all tt W i9); rw [e2] at E2
  have T3 : (fr.toList == tt.toList) = false := by simpa [Ba.eqS] using e3
  have E4 := Lib.hid (rlevel_any up); rw [e4] at E4
  have E5 := Lib.hid (rlevel_any dn); rw [e5] at E5
  have T8 : (sc.toList == []) = true := by rw [← e8]; cases sc.toList <;> rfl
  have E9 := Lib.hid (rwithin_any wd 1048576); rw [e9] at E9
  clear hs i1 i2 i3 i4 i5 i6 i7 i8 i9 i10 e0 e1 e2 e3 e4 e5 e9
  go_enter Tryz.func41, Tryz.ntmps41
  go_wp2_with fail
  refine (E0.out _).mono ?_
  rintro e w9 ⟨rfl, rfl⟩
  go_wp2_with fail
  refine (E1.out _).mono ?_
  rintro e w9 ⟨rfl, rfl⟩
  go_wp2_with fail
  refine (E2.out _).mono ?_
  rintro e w9 ⟨rfl, rfl⟩
  go_wp2_with fail
  refine (E4.out _).mono ?_
  rintro e w9 ⟨rfl, rfl⟩
  go_wp2_with fail
  refine (E5.out _).mono ?_
  rintro e w9 ⟨rfl, rfl⟩
  go_wp2_with fail
  refine (E9.out _).mono ?_
  rintro e w9 ⟨rfl, rfl⟩
  go_wp2_with fail
  go_ret
  exact ⟨rfl, gr_auto⟩
set_option maxRecDepth 100000 in
set_option maxHeartbeats 2000000 in
theorem rrl_k25 (d : Ba.Link) (w : World) (h : d.Ok w) (hk : d.kd = 2) (e0 : (Dc.isName d.nm.data.toList) = true) (e1 : (Dc.isName d.fr.data.toList) = true) (e2 : (Dc.isName d.tt.data.toList) = true) (e3 : (Ba.eqS d.fr d.tt) = false) (e4 : (Ba.bet d.up (-4194304) 4194304) = true) (e5 : (Ba.bet d.dn (-4194304) 4194304) = true) (e6 : (d.ln == 0) = true) (e7 : (d.dn == 0) = true) (e8 : (d.sc.toList.isEmpty) = true) (e9 : (Ba.bet d.wd 1 1048576) = true) (e10 : (d.ht == 0) = true) (e11 : (decide (d.cv.n = 0)) = false) : Calls Tryz.prog 41 #[d.val] w fun e w' => e = .returned (.bool false) ∧ Gr w w' := by
  obtain ⟨i1, i2, i3, i4, i5, i6, i7, i8, i9, i10, hs⟩ := h
  have hn : d.cv.n ≤ 9223372036854775807 := Nat.le_trans hs.hc hs.hb
  unfold Ba.Link.val
  obtain ⟨nm, fr, tt, kd, ln, up, dn, sc, wd, ht, cv⟩ := d
  simp only at *
  subst hk
  have E0 := Lib.hid (fun W => risname_all nm W i7); rw [e0] at E0
  have E1 := Lib.hid (fun W => risname_all fr W i8); rw [e1] at E1
  have E2 := Lib.hid (fun W => risname_all tt W i9); rw [e2] at E2
  have T3 : (fr.toList == tt.toList) = false := by simpa [Ba.eqS] using e3
  have E4 := Lib.hid (rlevel_any up); rw [e4] at E4
  have E5 := Lib.hid (rlevel_any dn); rw [e5] at E5
  have T8 : (sc.toList == []) = true := by rw [← e8]; cases sc.toList <;> rfl
  have E9 := Lib.hid (rwithin_any wd 1048576); rw [e9] at E9
  have T11 : ((cv.n : Int) == 0) = false := by rw [← e11, Bool.eq_iff_iff]; simp
  clear hs i1 i2 i3 i4 i5 i6 i7 i8 i9 i10 e0 e1 e2 e3 e4 e5 e9 e11
  go_enter Tryz.func41, Tryz.ntmps41
  go_wp2_with fail
  refine (E0.out _).mono ?_
  rintro e w9 ⟨rfl, rfl⟩
  go_wp2_with fail
  refine (E1.out _).mono ?_
  rintro e w9 ⟨rfl, rfl⟩
  go_wp2_with fail
  refine (E2.out _).mono ?_
  rintro e w9 ⟨rfl, rfl⟩
  go_wp2_with fail
  refine (E4.out _).mono ?_
  rintro e w9 ⟨rfl, rfl⟩
  go_wp2_with fail
  refine (E5.out _).mono ?_
  rintro e w9 ⟨rfl, rfl⟩
  go_wp2_with fail
  refine (E9.out _).mono ?_
  rintro e w9 ⟨rfl, rfl⟩
  go_wp2_with fail
  go_ret
  exact ⟨rfl, gr_auto⟩
set_option maxRecDepth 100000 in
set_option maxHeartbeats 2000000 in
theorem rrl_k26 (d : Ba.Link) (w : World) (h : d.Ok w) (hk : d.kd = 2) (e0 : (Dc.isName d.nm.data.toList) = true) (e1 : (Dc.isName d.fr.data.toList) = true) (e2 : (Dc.isName d.tt.data.toList) = true) (e3 : (Ba.eqS d.fr d.tt) = false) (e4 : (Ba.bet d.up (-4194304) 4194304) = true) (e5 : (Ba.bet d.dn (-4194304) 4194304) = true) (e6 : (d.ln == 0) = true) (e7 : (d.dn == 0) = true) (e8 : (d.sc.toList.isEmpty) = true) (e9 : (Ba.bet d.wd 1 1048576) = true) (e10 : (d.ht == 0) = true) (e11 : (decide (d.cv.n = 0)) = true) : Calls Tryz.prog 41 #[d.val] w fun e w' => e = .returned (.bool true) ∧ Gr w w' := by
  obtain ⟨i1, i2, i3, i4, i5, i6, i7, i8, i9, i10, hs⟩ := h
  have hn : d.cv.n ≤ 9223372036854775807 := Nat.le_trans hs.hc hs.hb
  unfold Ba.Link.val
  obtain ⟨nm, fr, tt, kd, ln, up, dn, sc, wd, ht, cv⟩ := d
  simp only at *
  subst hk
  have E0 := Lib.hid (fun W => risname_all nm W i7); rw [e0] at E0
  have E1 := Lib.hid (fun W => risname_all fr W i8); rw [e1] at E1
  have E2 := Lib.hid (fun W => risname_all tt W i9); rw [e2] at E2
  have T3 : (fr.toList == tt.toList) = false := by simpa [Ba.eqS] using e3
  have E4 := Lib.hid (rlevel_any up); rw [e4] at E4
  have E5 := Lib.hid (rlevel_any dn); rw [e5] at E5
  have T8 : (sc.toList == []) = true := by rw [← e8]; cases sc.toList <;> rfl
  have E9 := Lib.hid (rwithin_any wd 1048576); rw [e9] at E9
  have T11 : ((cv.n : Int) == 0) = true := by rw [← e11, Bool.eq_iff_iff]; simp
  clear hs i1 i2 i3 i4 i5 i6 i7 i8 i9 i10 e0 e1 e2 e3 e4 e5 e9 e11
  go_enter Tryz.func41, Tryz.ntmps41
  go_wp2_with fail
  refine (E0.out _).mono ?_
  rintro e w9 ⟨rfl, rfl⟩
  go_wp2_with fail
  refine (E1.out _).mono ?_
  rintro e w9 ⟨rfl, rfl⟩
  go_wp2_with fail
  refine (E2.out _).mono ?_
  rintro e w9 ⟨rfl, rfl⟩
  go_wp2_with fail
  refine (E4.out _).mono ?_
  rintro e w9 ⟨rfl, rfl⟩
  go_wp2_with fail
  refine (E5.out _).mono ?_
  rintro e w9 ⟨rfl, rfl⟩
  go_wp2_with fail
  refine (E9.out _).mono ?_
  rintro e w9 ⟨rfl, rfl⟩
  go_wp2_with fail
  go_ret
  exact ⟨rfl, gr_auto⟩
set_option maxRecDepth 100000 in
set_option maxHeartbeats 2000000 in
theorem rrl_k30 (d : Ba.Link) (w : World) (h : d.Ok w) (hk : d.kd = 3) (e0 : (Dc.isName d.nm.data.toList) = true) (e1 : (Dc.isName d.fr.data.toList) = true) (e2 : (Dc.isName d.tt.data.toList) = true) (e3 : (Ba.eqS d.fr d.tt) = false) (e4 : (Ba.bet d.up (-4194304) 4194304) = true) (e5 : (Ba.bet d.dn (-4194304) 4194304) = true) (e6 : (d.ln == 0) = false) : Calls Tryz.prog 41 #[d.val] w fun e w' => e = .returned (.bool false) ∧ Gr w w' := by
  obtain ⟨i1, i2, i3, i4, i5, i6, i7, i8, i9, i10, hs⟩ := h
  have hn : d.cv.n ≤ 9223372036854775807 := Nat.le_trans hs.hc hs.hb
  unfold Ba.Link.val
  obtain ⟨nm, fr, tt, kd, ln, up, dn, sc, wd, ht, cv⟩ := d
  simp only at *
  subst hk
  have E0 := Lib.hid (fun W => risname_all nm W i7); rw [e0] at E0
  have E1 := Lib.hid (fun W => risname_all fr W i8); rw [e1] at E1
  have E2 := Lib.hid (fun W => risname_all tt W i9); rw [e2] at E2
  have T3 : (fr.toList == tt.toList) = false := by simpa [Ba.eqS] using e3
  have E4 := Lib.hid (rlevel_any up); rw [e4] at E4
  have E5 := Lib.hid (rlevel_any dn); rw [e5] at E5
  clear hs i1 i2 i3 i4 i5 i6 i7 i8 i9 i10 e0 e1 e2 e3 e4 e5
  go_enter Tryz.func41, Tryz.ntmps41
  go_wp2_with fail
  refine (E0.out _).mono ?_
  rintro e w9 ⟨rfl, rfl⟩
  go_wp2_with fail
  refine (E1.out _).mono ?_
  rintro e w9 ⟨rfl, rfl⟩
  go_wp2_with fail
  refine (E2.out _).mono ?_
  rintro e w9 ⟨rfl, rfl⟩
  go_wp2_with fail
  refine (E4.out _).mono ?_
  rintro e w9 ⟨rfl, rfl⟩
  go_wp2_with fail
  refine (E5.out _).mono ?_
  rintro e w9 ⟨rfl, rfl⟩
  go_wp2_with fail
  go_ret
  exact ⟨rfl, gr_auto⟩
set_option maxRecDepth 100000 in
set_option maxHeartbeats 2000000 in
theorem rrl_k31 (d : Ba.Link) (w : World) (h : d.Ok w) (hk : d.kd = 3) (e0 : (Dc.isName d.nm.data.toList) = true) (e1 : (Dc.isName d.fr.data.toList) = true) (e2 : (Dc.isName d.tt.data.toList) = true) (e3 : (Ba.eqS d.fr d.tt) = false) (e4 : (Ba.bet d.up (-4194304) 4194304) = true) (e5 : (Ba.bet d.dn (-4194304) 4194304) = true) (e6 : (d.ln == 0) = true) (e7 : (d.dn == 0) = false) : Calls Tryz.prog 41 #[d.val] w fun e w' => e = .returned (.bool false) ∧ Gr w w' := by
  obtain ⟨i1, i2, i3, i4, i5, i6, i7, i8, i9, i10, hs⟩ := h
  have hn : d.cv.n ≤ 9223372036854775807 := Nat.le_trans hs.hc hs.hb
  unfold Ba.Link.val
  obtain ⟨nm, fr, tt, kd, ln, up, dn, sc, wd, ht, cv⟩ := d
  simp only at *
  subst hk
  have E0 := Lib.hid (fun W => risname_all nm W i7); rw [e0] at E0
  have E1 := Lib.hid (fun W => risname_all fr W i8); rw [e1] at E1
  have E2 := Lib.hid (fun W => risname_all tt W i9); rw [e2] at E2
  have T3 : (fr.toList == tt.toList) = false := by simpa [Ba.eqS] using e3
  have E4 := Lib.hid (rlevel_any up); rw [e4] at E4
  have E5 := Lib.hid (rlevel_any dn); rw [e5] at E5
  clear hs i1 i2 i3 i4 i5 i6 i7 i8 i9 i10 e0 e1 e2 e3 e4 e5
  go_enter Tryz.func41, Tryz.ntmps41
  go_wp2_with fail
  refine (E0.out _).mono ?_
  rintro e w9 ⟨rfl, rfl⟩
  go_wp2_with fail
  refine (E1.out _).mono ?_
  rintro e w9 ⟨rfl, rfl⟩
  go_wp2_with fail
  refine (E2.out _).mono ?_
  rintro e w9 ⟨rfl, rfl⟩
  go_wp2_with fail
  refine (E4.out _).mono ?_
  rintro e w9 ⟨rfl, rfl⟩
  go_wp2_with fail
  refine (E5.out _).mono ?_
  rintro e w9 ⟨rfl, rfl⟩
  go_wp2_with fail
  go_ret
  exact ⟨rfl, gr_auto⟩
set_option maxRecDepth 100000 in
set_option maxHeartbeats 2000000 in
theorem rrl_k32 (d : Ba.Link) (w : World) (h : d.Ok w) (hk : d.kd = 3) (e0 : (Dc.isName d.nm.data.toList) = true) (e1 : (Dc.isName d.fr.data.toList) = true) (e2 : (Dc.isName d.tt.data.toList) = true) (e3 : (Ba.eqS d.fr d.tt) = false) (e4 : (Ba.bet d.up (-4194304) 4194304) = true) (e5 : (Ba.bet d.dn (-4194304) 4194304) = true) (e6 : (d.ln == 0) = true) (e7 : (d.dn == 0) = true) (e8 : (d.sc.toList.isEmpty) = false) : Calls Tryz.prog 41 #[d.val] w fun e w' => e = .returned (.bool false) ∧ Gr w w' := by
  obtain ⟨i1, i2, i3, i4, i5, i6, i7, i8, i9, i10, hs⟩ := h
  have hn : d.cv.n ≤ 9223372036854775807 := Nat.le_trans hs.hc hs.hb
  unfold Ba.Link.val
  obtain ⟨nm, fr, tt, kd, ln, up, dn, sc, wd, ht, cv⟩ := d
  simp only at *
  subst hk
  have E0 := Lib.hid (fun W => risname_all nm W i7); rw [e0] at E0
  have E1 := Lib.hid (fun W => risname_all fr W i8); rw [e1] at E1
  have E2 := Lib.hid (fun W => risname_all tt W i9); rw [e2] at E2
  have T3 : (fr.toList == tt.toList) = false := by simpa [Ba.eqS] using e3
  have E4 := Lib.hid (rlevel_any up); rw [e4] at E4
  have E5 := Lib.hid (rlevel_any dn); rw [e5] at E5
  have T8 : (sc.toList == []) = false := by rw [← e8]; cases sc.toList <;> rfl
  clear hs i1 i2 i3 i4 i5 i6 i7 i8 i9 i10 e0 e1 e2 e3 e4 e5
  go_enter Tryz.func41, Tryz.ntmps41
  go_wp2_with fail
  refine (E0.out _).mono ?_
  rintro e w9 ⟨rfl, rfl⟩
  go_wp2_with fail
  refine (E1.out _).mono ?_
  rintro e w9 ⟨rfl, rfl⟩
  go_wp2_with fail
  refine (E2.out _).mono ?_
  rintro e w9 ⟨rfl, rfl⟩
  go_wp2_with fail
  refine (E4.out _).mono ?_
  rintro e w9 ⟨rfl, rfl⟩
  go_wp2_with fail
  refine (E5.out _).mono ?_
  rintro e w9 ⟨rfl, rfl⟩
  go_wp2_with fail
  go_ret
  exact ⟨rfl, gr_auto⟩
set_option maxRecDepth 100000 in
set_option maxHeartbeats 2000000 in
theorem rrl_k33 (d : Ba.Link) (w : World) (h : d.Ok w) (hk : d.kd = 3) (e0 : (Dc.isName d.nm.data.toList) = true) (e1 : (Dc.isName d.fr.data.toList) = true) (e2 : (Dc.isName d.tt.data.toList) = true) (e3 : (Ba.eqS d.fr d.tt) = false) (e4 : (Ba.bet d.up (-4194304) 4194304) = true) (e5 : (Ba.bet d.dn (-4194304) 4194304) = true) (e6 : (d.ln == 0) = true) (e7 : (d.dn == 0) = true) (e8 : (d.sc.toList.isEmpty) = true) (e9 : (Ba.bet d.wd 1 32768) = false) : Calls Tryz.prog 41 #[d.val] w fun e w' => e = .returned (.bool false) ∧ Gr w w' := by
  obtain ⟨i1, i2, i3, i4, i5, i6, i7, i8, i9, i10, hs⟩ := h
  have hn : d.cv.n ≤ 9223372036854775807 := Nat.le_trans hs.hc hs.hb
  unfold Ba.Link.val
  obtain ⟨nm, fr, tt, kd, ln, up, dn, sc, wd, ht, cv⟩ := d
  simp only at *
  subst hk
  have E0 := Lib.hid (fun W => risname_all nm W i7); rw [e0] at E0
  have E1 := Lib.hid (fun W => risname_all fr W i8); rw [e1] at E1
  have E2 := Lib.hid (fun W => risname_all tt W i9); rw [e2] at E2
  have T3 : (fr.toList == tt.toList) = false := by simpa [Ba.eqS] using e3
  have E4 := Lib.hid (rlevel_any up); rw [e4] at E4
  have E5 := Lib.hid (rlevel_any dn); rw [e5] at E5
  have T8 : (sc.toList == []) = true := by rw [← e8]; cases sc.toList <;> rfl
  have E9 := Lib.hid (rwithin_any wd 32768); rw [e9] at E9
  clear hs i1 i2 i3 i4 i5 i6 i7 i8 i9 i10 e0 e1 e2 e3 e4 e5 e9
  go_enter Tryz.func41, Tryz.ntmps41
  go_wp2_with fail
  refine (E0.out _).mono ?_
  rintro e w9 ⟨rfl, rfl⟩
  go_wp2_with fail
  refine (E1.out _).mono ?_
  rintro e w9 ⟨rfl, rfl⟩
  go_wp2_with fail
  refine (E2.out _).mono ?_
  rintro e w9 ⟨rfl, rfl⟩
  go_wp2_with fail
  refine (E4.out _).mono ?_
  rintro e w9 ⟨rfl, rfl⟩
  go_wp2_with fail
  refine (E5.out _).mono ?_
  rintro e w9 ⟨rfl, rfl⟩
  go_wp2_with fail
  refine (E9.out _).mono ?_
  rintro e w9 ⟨rfl, rfl⟩
  go_wp2_with fail
  go_ret
  exact ⟨rfl, gr_auto⟩
set_option maxRecDepth 100000 in
set_option maxHeartbeats 2000000 in
theorem rrl_k34 (d : Ba.Link) (w : World) (h : d.Ok w) (hk : d.kd = 3) (e0 : (Dc.isName d.nm.data.toList) = true) (e1 : (Dc.isName d.fr.data.toList) = true) (e2 : (Dc.isName d.tt.data.toList) = true) (e3 : (Ba.eqS d.fr d.tt) = false) (e4 : (Ba.bet d.up (-4194304) 4194304) = true) (e5 : (Ba.bet d.dn (-4194304) 4194304) = true) (e6 : (d.ln == 0) = true) (e7 : (d.dn == 0) = true) (e8 : (d.sc.toList.isEmpty) = true) (e9 : (Ba.bet d.wd 1 32768) = true) (e10 : (Ba.bet d.ht 1 32768) = false) : Calls Tryz.prog 41 #[d.val] w fun e w' => e = .returned (.bool false) ∧ Gr w w' := by
  obtain ⟨i1, i2, i3, i4, i5, i6, i7, i8, i9, i10, hs⟩ := h
  have hn : d.cv.n ≤ 9223372036854775807 := Nat.le_trans hs.hc hs.hb
  unfold Ba.Link.val
  obtain ⟨nm, fr, tt, kd, ln, up, dn, sc, wd, ht, cv⟩ := d
  simp only at *
  subst hk
  have E0 := Lib.hid (fun W => risname_all nm W i7); rw [e0] at E0
  have E1 := Lib.hid (fun W => risname_all fr W i8); rw [e1] at E1
  have E2 := Lib.hid (fun W => risname_all tt W i9); rw [e2] at E2
  have T3 : (fr.toList == tt.toList) = false := by simpa [Ba.eqS] using e3
  have E4 := Lib.hid (rlevel_any up); rw [e4] at E4
  have E5 := Lib.hid (rlevel_any dn); rw [e5] at E5
  have T8 : (sc.toList == []) = true := by rw [← e8]; cases sc.toList <;> rfl
  have E9 := Lib.hid (rwithin_any wd 32768); rw [e9] at E9
  have E10 := Lib.hid (rwithin_any ht 32768); rw [e10] at E10
  clear hs i1 i2 i3 i4 i5 i6 i7 i8 i9 i10 e0 e1 e2 e3 e4 e5 e9 e10
  go_enter Tryz.func41, Tryz.ntmps41
  go_wp2_with fail
  refine (E0.out _).mono ?_
  rintro e w9 ⟨rfl, rfl⟩
  go_wp2_with fail
  refine (E1.out _).mono ?_
  rintro e w9 ⟨rfl, rfl⟩
  go_wp2_with fail
  refine (E2.out _).mono ?_
  rintro e w9 ⟨rfl, rfl⟩
  go_wp2_with fail
  refine (E4.out _).mono ?_
  rintro e w9 ⟨rfl, rfl⟩
  go_wp2_with fail
  refine (E5.out _).mono ?_
  rintro e w9 ⟨rfl, rfl⟩
  go_wp2_with fail
  refine (E9.out _).mono ?_
  rintro e w9 ⟨rfl, rfl⟩
  go_wp2_with fail
  refine (E10.out _).mono ?_
  rintro e w9 ⟨rfl, rfl⟩
  go_wp2_with fail
  go_ret
  exact ⟨rfl, gr_auto⟩
set_option maxRecDepth 100000 in
set_option maxHeartbeats 2000000 in
theorem rrl_k35 (d : Ba.Link) (w : World) (h : d.Ok w) (hk : d.kd = 3) (e0 : (Dc.isName d.nm.data.toList) = true) (e1 : (Dc.isName d.fr.data.toList) = true) (e2 : (Dc.isName d.tt.data.toList) = true) (e3 : (Ba.eqS d.fr d.tt) = false) (e4 : (Ba.bet d.up (-4194304) 4194304) = true) (e5 : (Ba.bet d.dn (-4194304) 4194304) = true) (e6 : (d.ln == 0) = true) (e7 : (d.dn == 0) = true) (e8 : (d.sc.toList.isEmpty) = true) (e9 : (Ba.bet d.wd 1 32768) = true) (e10 : (Ba.bet d.ht 1 32768) = true) (e11 : (decide (d.cv.n = 0)) = false) : Calls Tryz.prog 41 #[d.val] w fun e w' => e = .returned (.bool false) ∧ Gr w w' := by
  obtain ⟨i1, i2, i3, i4, i5, i6, i7, i8, i9, i10, hs⟩ := h
  have hn : d.cv.n ≤ 9223372036854775807 := Nat.le_trans hs.hc hs.hb
  unfold Ba.Link.val
  obtain ⟨nm, fr, tt, kd, ln, up, dn, sc, wd, ht, cv⟩ := d
  simp only at *
  subst hk
  have E0 := Lib.hid (fun W => risname_all nm W i7); rw [e0] at E0
  have E1 := Lib.hid (fun W => risname_all fr W i8); rw [e1] at E1
  have E2 := Lib.hid (fun W => risname_all tt W i9); rw [e2] at E2
  have T3 : (fr.toList == tt.toList) = false := by simpa [Ba.eqS] using e3
  have E4 := Lib.hid (rlevel_any up); rw [e4] at E4
  have E5 := Lib.hid (rlevel_any dn); rw [e5] at E5
  have T8 : (sc.toList == []) = true := by rw [← e8]; cases sc.toList <;> rfl
  have E9 := Lib.hid (rwithin_any wd 32768); rw [e9] at E9
  have E10 := Lib.hid (rwithin_any ht 32768); rw [e10] at E10
  have T11 : ((cv.n : Int) == 0) = false := by rw [← e11, Bool.eq_iff_iff]; simp
  clear hs i1 i2 i3 i4 i5 i6 i7 i8 i9 i10 e0 e1 e2 e3 e4 e5 e9 e10 e11
  go_enter Tryz.func41, Tryz.ntmps41
  go_wp2_with fail
  refine (E0.out _).mono ?_
  rintro e w9 ⟨rfl, rfl⟩
  go_wp2_with fail
  refine (E1.out _).mono ?_
  rintro e w9 ⟨rfl, rfl⟩
  go_wp2_with fail
  refine (E2.out _).mono ?_
  rintro e w9 ⟨rfl, rfl⟩
  go_wp2_with fail
  refine (E4.out _).mono ?_
  rintro e w9 ⟨rfl, rfl⟩
  go_wp2_with fail
  refine (E5.out _).mono ?_
  rintro e w9 ⟨rfl, rfl⟩
  go_wp2_with fail
  refine (E9.out _).mono ?_
  rintro e w9 ⟨rfl, rfl⟩
  go_wp2_with fail
  refine (E10.out _).mono ?_
  rintro e w9 ⟨rfl, rfl⟩
  go_wp2_with fail
  go_ret
  exact ⟨rfl, gr_auto⟩
set_option maxRecDepth 100000 in
set_option maxHeartbeats 2000000 in
theorem rrl_k36 (d : Ba.Link) (w : World) (h : d.Ok w) (hk : d.kd = 3) (e0 : (Dc.isName d.nm.data.toList) = true) (e1 : (Dc.isName d.fr.data.toList) = true) (e2 : (Dc.isName d.tt.data.toList) = true) (e3 : (Ba.eqS d.fr d.tt) = false) (e4 : (Ba.bet d.up (-4194304) 4194304) = true) (e5 : (Ba.bet d.dn (-4194304) 4194304) = true) (e6 : (d.ln == 0) = true) (e7 : (d.dn == 0) = true) (e8 : (d.sc.toList.isEmpty) = true) (e9 : (Ba.bet d.wd 1 32768) = true) (e10 : (Ba.bet d.ht 1 32768) = true) (e11 : (decide (d.cv.n = 0)) = true) : Calls Tryz.prog 41 #[d.val] w fun e w' => e = .returned (.bool true) ∧ Gr w w' := by
  obtain ⟨i1, i2, i3, i4, i5, i6, i7, i8, i9, i10, hs⟩ := h
  have hn : d.cv.n ≤ 9223372036854775807 := Nat.le_trans hs.hc hs.hb
  unfold Ba.Link.val
  obtain ⟨nm, fr, tt, kd, ln, up, dn, sc, wd, ht, cv⟩ := d
  simp only at *
  subst hk
  have E0 := Lib.hid (fun W => risname_all nm W i7); rw [e0] at E0
  have E1 := Lib.hid (fun W => risname_all fr W i8); rw [e1] at E1
  have E2 := Lib.hid (fun W => risname_all tt W i9); rw [e2] at E2
  have T3 : (fr.toList == tt.toList) = false := by simpa [Ba.eqS] using e3
  have E4 := Lib.hid (rlevel_any up); rw [e4] at E4
  have E5 := Lib.hid (rlevel_any dn); rw [e5] at E5
  have T8 : (sc.toList == []) = true := by rw [← e8]; cases sc.toList <;> rfl
  have E9 := Lib.hid (rwithin_any wd 32768); rw [e9] at E9
  have E10 := Lib.hid (rwithin_any ht 32768); rw [e10] at E10
  have T11 : ((cv.n : Int) == 0) = true := by rw [← e11, Bool.eq_iff_iff]; simp
  clear hs i1 i2 i3 i4 i5 i6 i7 i8 i9 i10 e0 e1 e2 e3 e4 e5 e9 e10 e11
  go_enter Tryz.func41, Tryz.ntmps41
  go_wp2_with fail
  refine (E0.out _).mono ?_
  rintro e w9 ⟨rfl, rfl⟩
  go_wp2_with fail
  refine (E1.out _).mono ?_
  rintro e w9 ⟨rfl, rfl⟩
  go_wp2_with fail
  refine (E2.out _).mono ?_
  rintro e w9 ⟨rfl, rfl⟩
  go_wp2_with fail
  refine (E4.out _).mono ?_
  rintro e w9 ⟨rfl, rfl⟩
  go_wp2_with fail
  refine (E5.out _).mono ?_
  rintro e w9 ⟨rfl, rfl⟩
  go_wp2_with fail
  refine (E9.out _).mono ?_
  rintro e w9 ⟨rfl, rfl⟩
  go_wp2_with fail
  refine (E10.out _).mono ?_
  rintro e w9 ⟨rfl, rfl⟩
  go_wp2_with fail
  go_ret
  exact ⟨rfl, gr_auto⟩
set_option maxRecDepth 100000 in
set_option maxHeartbeats 2000000 in
theorem rrl_k40 (d : Ba.Link) (w : World) (h : d.Ok w) (hk : d.kd = 4) (e0 : (Dc.isName d.nm.data.toList) = true) (e1 : (Dc.isName d.fr.data.toList) = true) (e2 : (Dc.isName d.tt.data.toList) = true) (e3 : (Ba.eqS d.fr d.tt) = false) (e4 : (Ba.bet d.up (-4194304) 4194304) = true) (e5 : (Ba.bet d.dn (-4194304) 4194304) = true) (e6 : (d.ln == 0) = false) : Calls Tryz.prog 41 #[d.val] w fun e w' => e = .returned (.bool false) ∧ Gr w w' := by
  obtain ⟨i1, i2, i3, i4, i5, i6, i7, i8, i9, i10, hs⟩ := h
  have hn : d.cv.n ≤ 9223372036854775807 := Nat.le_trans hs.hc hs.hb
  unfold Ba.Link.val
  obtain ⟨nm, fr, tt, kd, ln, up, dn, sc, wd, ht, cv⟩ := d
  simp only at *
  subst hk
  have E0 := Lib.hid (fun W => risname_all nm W i7); rw [e0] at E0
  have E1 := Lib.hid (fun W => risname_all fr W i8); rw [e1] at E1
  have E2 := Lib.hid (fun W => risname_all tt W i9); rw [e2] at E2
  have T3 : (fr.toList == tt.toList) = false := by simpa [Ba.eqS] using e3
  have E4 := Lib.hid (rlevel_any up); rw [e4] at E4
  have E5 := Lib.hid (rlevel_any dn); rw [e5] at E5
  clear hs i1 i2 i3 i4 i5 i6 i7 i8 i9 i10 e0 e1 e2 e3 e4 e5
  go_enter Tryz.func41, Tryz.ntmps41
  go_wp2_with fail
  refine (E0.out _).mono ?_
  rintro e w9 ⟨rfl, rfl⟩
  go_wp2_with fail
  refine (E1.out _).mono ?_
  rintro e w9 ⟨rfl, rfl⟩
  go_wp2_with fail
  refine (E2.out _).mono ?_
  rintro e w9 ⟨rfl, rfl⟩
  go_wp2_with fail
  refine (E4.out _).mono ?_
  rintro e w9 ⟨rfl, rfl⟩
  go_wp2_with fail
  refine (E5.out _).mono ?_
  rintro e w9 ⟨rfl, rfl⟩
  go_wp2_with fail
  go_ret
  exact ⟨rfl, gr_auto⟩
set_option maxRecDepth 100000 in
set_option maxHeartbeats 2000000 in
theorem rrl_k41 (d : Ba.Link) (w : World) (h : d.Ok w) (hk : d.kd = 4) (e0 : (Dc.isName d.nm.data.toList) = true) (e1 : (Dc.isName d.fr.data.toList) = true) (e2 : (Dc.isName d.tt.data.toList) = true) (e3 : (Ba.eqS d.fr d.tt) = false) (e4 : (Ba.bet d.up (-4194304) 4194304) = true) (e5 : (Ba.bet d.dn (-4194304) 4194304) = true) (e6 : (d.ln == 0) = true) (e7 : (decide (d.dn < d.up)) = false) : Calls Tryz.prog 41 #[d.val] w fun e w' => e = .returned (.bool false) ∧ Gr w w' := by
  obtain ⟨i1, i2, i3, i4, i5, i6, i7, i8, i9, i10, hs⟩ := h
  have hn : d.cv.n ≤ 9223372036854775807 := Nat.le_trans hs.hc hs.hb
  unfold Ba.Link.val
  obtain ⟨nm, fr, tt, kd, ln, up, dn, sc, wd, ht, cv⟩ := d
  simp only at *
  subst hk
  have E0 := Lib.hid (fun W => risname_all nm W i7); rw [e0] at E0
  have E1 := Lib.hid (fun W => risname_all fr W i8); rw [e1] at E1
  have E2 := Lib.hid (fun W => risname_all tt W i9); rw [e2] at E2
  have T3 : (fr.toList == tt.toList) = false := by simpa [Ba.eqS] using e3
  have E4 := Lib.hid (rlevel_any up); rw [e4] at E4
  have E5 := Lib.hid (rlevel_any dn); rw [e5] at E5
  clear hs i1 i2 i3 i4 i5 i6 i7 i8 i9 i10 e0 e1 e2 e3 e4 e5
  go_enter Tryz.func41, Tryz.ntmps41
  go_wp2_with fail
  refine (E0.out _).mono ?_
  rintro e w9 ⟨rfl, rfl⟩
  go_wp2_with fail
  refine (E1.out _).mono ?_
  rintro e w9 ⟨rfl, rfl⟩
  go_wp2_with fail
  refine (E2.out _).mono ?_
  rintro e w9 ⟨rfl, rfl⟩
  go_wp2_with fail
  refine (E4.out _).mono ?_
  rintro e w9 ⟨rfl, rfl⟩
  go_wp2_with fail
  refine (E5.out _).mono ?_
  rintro e w9 ⟨rfl, rfl⟩
  go_wp2_with fail
  go_ret
  exact ⟨rfl, gr_auto⟩
set_option maxRecDepth 100000 in
set_option maxHeartbeats 2000000 in
theorem rrl_k42 (d : Ba.Link) (w : World) (h : d.Ok w) (hk : d.kd = 4) (e0 : (Dc.isName d.nm.data.toList) = true) (e1 : (Dc.isName d.fr.data.toList) = true) (e2 : (Dc.isName d.tt.data.toList) = true) (e3 : (Ba.eqS d.fr d.tt) = false) (e4 : (Ba.bet d.up (-4194304) 4194304) = true) (e5 : (Ba.bet d.dn (-4194304) 4194304) = true) (e6 : (d.ln == 0) = true) (e7 : (decide (d.dn < d.up)) = true) (e8 : (d.sc.toList.isEmpty) = false) : Calls Tryz.prog 41 #[d.val] w fun e w' => e = .returned (.bool false) ∧ Gr w w' := by
  obtain ⟨i1, i2, i3, i4, i5, i6, i7, i8, i9, i10, hs⟩ := h
  have hn : d.cv.n ≤ 9223372036854775807 := Nat.le_trans hs.hc hs.hb
  unfold Ba.Link.val
  obtain ⟨nm, fr, tt, kd, ln, up, dn, sc, wd, ht, cv⟩ := d
  simp only at *
  subst hk
  have E0 := Lib.hid (fun W => risname_all nm W i7); rw [e0] at E0
  have E1 := Lib.hid (fun W => risname_all fr W i8); rw [e1] at E1
  have E2 := Lib.hid (fun W => risname_all tt W i9); rw [e2] at E2
  have T3 : (fr.toList == tt.toList) = false := by simpa [Ba.eqS] using e3
  have E4 := Lib.hid (rlevel_any up); rw [e4] at E4
  have E5 := Lib.hid (rlevel_any dn); rw [e5] at E5
  have T8 : (sc.toList == []) = false := by rw [← e8]; cases sc.toList <;> rfl
  clear hs i1 i2 i3 i4 i5 i6 i7 i8 i9 i10 e0 e1 e2 e3 e4 e5
  go_enter Tryz.func41, Tryz.ntmps41
  go_wp2_with fail
  refine (E0.out _).mono ?_
  rintro e w9 ⟨rfl, rfl⟩
  go_wp2_with fail
  refine (E1.out _).mono ?_
  rintro e w9 ⟨rfl, rfl⟩
  go_wp2_with fail
  refine (E2.out _).mono ?_
  rintro e w9 ⟨rfl, rfl⟩
  go_wp2_with fail
  refine (E4.out _).mono ?_
  rintro e w9 ⟨rfl, rfl⟩
  go_wp2_with fail
  refine (E5.out _).mono ?_
  rintro e w9 ⟨rfl, rfl⟩
  go_wp2_with fail
  go_ret
  exact ⟨rfl, gr_auto⟩
set_option maxRecDepth 100000 in
set_option maxHeartbeats 2000000 in
theorem rrl_k43 (d : Ba.Link) (w : World) (h : d.Ok w) (hk : d.kd = 4) (e0 : (Dc.isName d.nm.data.toList) = true) (e1 : (Dc.isName d.fr.data.toList) = true) (e2 : (Dc.isName d.tt.data.toList) = true) (e3 : (Ba.eqS d.fr d.tt) = false) (e4 : (Ba.bet d.up (-4194304) 4194304) = true) (e5 : (Ba.bet d.dn (-4194304) 4194304) = true) (e6 : (d.ln == 0) = true) (e7 : (decide (d.dn < d.up)) = true) (e8 : (d.sc.toList.isEmpty) = true) (e9 : (d.wd == 0) = false) : Calls Tryz.prog 41 #[d.val] w fun e w' => e = .returned (.bool false) ∧ Gr w w' := by
  obtain ⟨i1, i2, i3, i4, i5, i6, i7, i8, i9, i10, hs⟩ := h
  have hn : d.cv.n ≤ 9223372036854775807 := Nat.le_trans hs.hc hs.hb
  unfold Ba.Link.val
  obtain ⟨nm, fr, tt, kd, ln, up, dn, sc, wd, ht, cv⟩ := d
  simp only at *
  subst hk
  have E0 := Lib.hid (fun W => risname_all nm W i7); rw [e0] at E0
  have E1 := Lib.hid (fun W => risname_all fr W i8); rw [e1] at E1
  have E2 := Lib.hid (fun W => risname_all tt W i9); rw [e2] at E2
  have T3 : (fr.toList == tt.toList) = false := by simpa [Ba.eqS] using e3
  have E4 := Lib.hid (rlevel_any up); rw [e4] at E4
  have E5 := Lib.hid (rlevel_any dn); rw [e5] at E5
  have T8 : (sc.toList == []) = true := by rw [← e8]; cases sc.toList <;> rfl
  clear hs i1 i2 i3 i4 i5 i6 i7 i8 i9 i10 e0 e1 e2 e3 e4 e5
  go_enter Tryz.func41, Tryz.ntmps41
  go_wp2_with fail
  refine (E0.out _).mono ?_
  rintro e w9 ⟨rfl, rfl⟩
  go_wp2_with fail
  refine (E1.out _).mono ?_
  rintro e w9 ⟨rfl, rfl⟩
  go_wp2_with fail
  refine (E2.out _).mono ?_
  rintro e w9 ⟨rfl, rfl⟩
  go_wp2_with fail
  refine (E4.out _).mono ?_
  rintro e w9 ⟨rfl, rfl⟩
  go_wp2_with fail
  refine (E5.out _).mono ?_
  rintro e w9 ⟨rfl, rfl⟩
  go_wp2_with fail
  go_ret
  exact ⟨rfl, gr_auto⟩
set_option maxRecDepth 100000 in
set_option maxHeartbeats 2000000 in
theorem rrl_k44 (d : Ba.Link) (w : World) (h : d.Ok w) (hk : d.kd = 4) (e0 : (Dc.isName d.nm.data.toList) = true) (e1 : (Dc.isName d.fr.data.toList) = true) (e2 : (Dc.isName d.tt.data.toList) = true) (e3 : (Ba.eqS d.fr d.tt) = false) (e4 : (Ba.bet d.up (-4194304) 4194304) = true) (e5 : (Ba.bet d.dn (-4194304) 4194304) = true) (e6 : (d.ln == 0) = true) (e7 : (decide (d.dn < d.up)) = true) (e8 : (d.sc.toList.isEmpty) = true) (e9 : (d.wd == 0) = true) (e10 : (d.ht == 0) = false) : Calls Tryz.prog 41 #[d.val] w fun e w' => e = .returned (.bool false) ∧ Gr w w' := by
  obtain ⟨i1, i2, i3, i4, i5, i6, i7, i8, i9, i10, hs⟩ := h
  have hn : d.cv.n ≤ 9223372036854775807 := Nat.le_trans hs.hc hs.hb
  unfold Ba.Link.val
  obtain ⟨nm, fr, tt, kd, ln, up, dn, sc, wd, ht, cv⟩ := d
  simp only at *
  subst hk
  have E0 := Lib.hid (fun W => risname_all nm W i7); rw [e0] at E0
  have E1 := Lib.hid (fun W => risname_all fr W i8); rw [e1] at E1
  have E2 := Lib.hid (fun W => risname_all tt W i9); rw [e2] at E2
  have T3 : (fr.toList == tt.toList) = false := by simpa [Ba.eqS] using e3
  have E4 := Lib.hid (rlevel_any up); rw [e4] at E4
  have E5 := Lib.hid (rlevel_any dn); rw [e5] at E5
  have T8 : (sc.toList == []) = true := by rw [← e8]; cases sc.toList <;> rfl
  clear hs i1 i2 i3 i4 i5 i6 i7 i8 i9 i10 e0 e1 e2 e3 e4 e5
  go_enter Tryz.func41, Tryz.ntmps41
  go_wp2_with fail
  refine (E0.out _).mono ?_
  rintro e w9 ⟨rfl, rfl⟩
  go_wp2_with fail
  refine (E1.out _).mono ?_
  rintro e w9 ⟨rfl, rfl⟩
  go_wp2_with fail
  refine (E2.out _).mono ?_
  rintro e w9 ⟨rfl, rfl⟩
  go_wp2_with fail
  refine (E4.out _).mono ?_
  rintro e w9 ⟨rfl, rfl⟩
  go_wp2_with fail
  refine (E5.out _).mono ?_
  rintro e w9 ⟨rfl, rfl⟩
  go_wp2_with fail
  go_ret
  exact ⟨rfl, gr_auto⟩
set_option maxRecDepth 100000 in
set_option maxHeartbeats 2000000 in
theorem rrl_k45 (d : Ba.Link) (w : World) (h : d.Ok w) (hk : d.kd = 4) (e0 : (Dc.isName d.nm.data.toList) = true) (e1 : (Dc.isName d.fr.data.toList) = true) (e2 : (Dc.isName d.tt.data.toList) = true) (e3 : (Ba.eqS d.fr d.tt) = false) (e4 : (Ba.bet d.up (-4194304) 4194304) = true) (e5 : (Ba.bet d.dn (-4194304) 4194304) = true) (e6 : (d.ln == 0) = true) (e7 : (decide (d.dn < d.up)) = true) (e8 : (d.sc.toList.isEmpty) = true) (e9 : (d.wd == 0) = true) (e10 : (d.ht == 0) = true) (e11 : (Ba.crv d.cv) = false) : Calls Tryz.prog 41 #[d.val] w fun e w' => e = .returned (.bool false) ∧ Gr w w' := by
  obtain ⟨i1, i2, i3, i4, i5, i6, i7, i8, i9, i10, hs⟩ := h
  have hn : d.cv.n ≤ 9223372036854775807 := Nat.le_trans hs.hc hs.hb
  unfold Ba.Link.val
  obtain ⟨nm, fr, tt, kd, ln, up, dn, sc, wd, ht, cv⟩ := d
  simp only at *
  subst hk
  have E0 := Lib.hid (fun W => risname_all nm W i7); rw [e0] at E0
  have E1 := Lib.hid (fun W => risname_all fr W i8); rw [e1] at E1
  have E2 := Lib.hid (fun W => risname_all tt W i9); rw [e2] at E2
  have T3 : (fr.toList == tt.toList) = false := by simpa [Ba.eqS] using e3
  have E4 := Lib.hid (rlevel_any up); rw [e4] at E4
  have E5 := Lib.hid (rlevel_any dn); rw [e5] at E5
  have T8 : (sc.toList == []) = true := by rw [← e8]; cases sc.toList <;> rfl
  have E11 := Lib.hid (fun W (hg : Gr w W) => rcurve_any cv W (hs.gr hg)); rw [e11] at E11
  clear hs i1 i2 i3 i4 i5 i6 i7 i8 i9 i10 e0 e1 e2 e3 e4 e5 e11
  go_enter Tryz.func41, Tryz.ntmps41
  go_wp2_with fail
  refine (E0.out _).mono ?_
  rintro e w9 ⟨rfl, rfl⟩
  go_wp2_with fail
  refine (E1.out _).mono ?_
  rintro e w9 ⟨rfl, rfl⟩
  go_wp2_with fail
  refine (E2.out _).mono ?_
  rintro e w9 ⟨rfl, rfl⟩
  go_wp2_with fail
  refine (E4.out _).mono ?_
  rintro e w9 ⟨rfl, rfl⟩
  go_wp2_with fail
  refine (E5.out _).mono ?_
  rintro e w9 ⟨rfl, rfl⟩
  go_wp2_with fail
  refine (E11.out _ gr_auto).mono ?_
  rintro e w1 ⟨rfl, hb1⟩
  obtain ⟨hc1, hf1⟩ := Gr.cells hb1; have hz1 := Gr.size hb1; (try simp at hz1); (try have hy1_0 : w.heap.size < w1.heap.size := by omega); (try have hy1_1 : w.heap.size + 1 < w1.heap.size := by omega); (try have hy1_2 : w.heap.size + 1 + 1 < w1.heap.size := by omega); (try have hy1_3 : w.heap.size + 1 + 1 + 1 < w1.heap.size := by omega); (try have hy1_4 : w.heap.size + 1 + 1 + 1 + 1 < w1.heap.size := by omega); (try have hy1_5 : w.heap.size + 1 + 1 + 1 + 1 + 1 < w1.heap.size := by omega)
  go_wp2_with fail
  go_ret
  exact ⟨rfl, gr_auto⟩
set_option maxRecDepth 100000 in
set_option maxHeartbeats 2000000 in
theorem rrl_k46 (d : Ba.Link) (w : World) (h : d.Ok w) (hk : d.kd = 4) (e0 : (Dc.isName d.nm.data.toList) = true) (e1 : (Dc.isName d.fr.data.toList) = true) (e2 : (Dc.isName d.tt.data.toList) = true) (e3 : (Ba.eqS d.fr d.tt) = false) (e4 : (Ba.bet d.up (-4194304) 4194304) = true) (e5 : (Ba.bet d.dn (-4194304) 4194304) = true) (e6 : (d.ln == 0) = true) (e7 : (decide (d.dn < d.up)) = true) (e8 : (d.sc.toList.isEmpty) = true) (e9 : (d.wd == 0) = true) (e10 : (d.ht == 0) = true) (e11 : (Ba.crv d.cv) = true) : Calls Tryz.prog 41 #[d.val] w fun e w' => e = .returned (.bool true) ∧ Gr w w' := by
  obtain ⟨i1, i2, i3, i4, i5, i6, i7, i8, i9, i10, hs⟩ := h
  have hn : d.cv.n ≤ 9223372036854775807 := Nat.le_trans hs.hc hs.hb
  unfold Ba.Link.val
  obtain ⟨nm, fr, tt, kd, ln, up, dn, sc, wd, ht, cv⟩ := d
  simp only at *
  subst hk
  have E0 := Lib.hid (fun W => risname_all nm W i7); rw [e0] at E0
  have E1 := Lib.hid (fun W => risname_all fr W i8); rw [e1] at E1
  have E2 := Lib.hid (fun W => risname_all tt W i9); rw [e2] at E2
  have T3 : (fr.toList == tt.toList) = false := by simpa [Ba.eqS] using e3
  have E4 := Lib.hid (rlevel_any up); rw [e4] at E4
  have E5 := Lib.hid (rlevel_any dn); rw [e5] at E5
  have T8 : (sc.toList == []) = true := by rw [← e8]; cases sc.toList <;> rfl
  have E11 := Lib.hid (fun W (hg : Gr w W) => rcurve_any cv W (hs.gr hg)); rw [e11] at E11
  clear hs i1 i2 i3 i4 i5 i6 i7 i8 i9 i10 e0 e1 e2 e3 e4 e5 e11
  go_enter Tryz.func41, Tryz.ntmps41
  go_wp2_with fail
  refine (E0.out _).mono ?_
  rintro e w9 ⟨rfl, rfl⟩
  go_wp2_with fail
  refine (E1.out _).mono ?_
  rintro e w9 ⟨rfl, rfl⟩
  go_wp2_with fail
  refine (E2.out _).mono ?_
  rintro e w9 ⟨rfl, rfl⟩
  go_wp2_with fail
  refine (E4.out _).mono ?_
  rintro e w9 ⟨rfl, rfl⟩
  go_wp2_with fail
  refine (E5.out _).mono ?_
  rintro e w9 ⟨rfl, rfl⟩
  go_wp2_with fail
  refine (E11.out _ gr_auto).mono ?_
  rintro e w1 ⟨rfl, hb1⟩
  obtain ⟨hc1, hf1⟩ := Gr.cells hb1; have hz1 := Gr.size hb1; (try simp at hz1); (try have hy1_0 : w.heap.size < w1.heap.size := by omega); (try have hy1_1 : w.heap.size + 1 < w1.heap.size := by omega); (try have hy1_2 : w.heap.size + 1 + 1 < w1.heap.size := by omega); (try have hy1_3 : w.heap.size + 1 + 1 + 1 < w1.heap.size := by omega); (try have hy1_4 : w.heap.size + 1 + 1 + 1 + 1 < w1.heap.size := by omega); (try have hy1_5 : w.heap.size + 1 + 1 + 1 + 1 + 1 < w1.heap.size := by omega)
  go_wp2_with fail
  go_ret
  exact ⟨rfl, gr_auto⟩
set_option maxRecDepth 100000 in
set_option maxHeartbeats 2000000 in
theorem rrl_k0 (d : Ba.Link) (w : World) (h : d.Ok w) (k1 : d.kd ≠ 1) (k2 : d.kd ≠ 2) (k3 : d.kd ≠ 3) (k4 : d.kd ≠ 4) (e0 : (Dc.isName d.nm.data.toList) = true) (e1 : (Dc.isName d.fr.data.toList) = true) (e2 : (Dc.isName d.tt.data.toList) = true) (e3 : (Ba.eqS d.fr d.tt) = false) (e4 : (Ba.bet d.up (-4194304) 4194304) = true) (e5 : (Ba.bet d.dn (-4194304) 4194304) = true) : Calls Tryz.prog 41 #[d.val] w fun e w' => e = .returned (.bool false) ∧ Gr w w' := by
  obtain ⟨i1, i2, i3, i4, i5, i6, i7, i8, i9, i10, hs⟩ := h
  have hn : d.cv.n ≤ 9223372036854775807 := Nat.le_trans hs.hc hs.hb
  unfold Ba.Link.val
  obtain ⟨nm, fr, tt, kd, ln, up, dn, sc, wd, ht, cv⟩ := d
  simp only at *
  have E0 := Lib.hid (fun W => risname_all nm W i7); rw [e0] at E0
  have E1 := Lib.hid (fun W => risname_all fr W i8); rw [e1] at E1
  have E2 := Lib.hid (fun W => risname_all tt W i9); rw [e2] at E2
  have T3 : (fr.toList == tt.toList) = false := by simpa [Ba.eqS] using e3
  have E4 := Lib.hid (rlevel_any up); rw [e4] at E4
  have E5 := Lib.hid (rlevel_any dn); rw [e5] at E5
  have t1 : (kd == 1) = false := by rw [beq_eq_false_iff_ne]; exact k1
  have t2 : (kd == 2) = false := by rw [beq_eq_false_iff_ne]; exact k2
  have t3 : (kd == 3) = false := by rw [beq_eq_false_iff_ne]; exact k3
  have t4 : (kd == 4) = false := by rw [beq_eq_false_iff_ne]; exact k4
  clear k1 k2 k3 k4
  clear hs i1 i2 i3 i4 i5 i6 i7 i8 i9 i10 e0 e1 e2 e3 e4 e5
  go_enter Tryz.func41, Tryz.ntmps41
  go_wp2_with fail
  refine (E0.out _).mono ?_
  rintro e w9 ⟨rfl, rfl⟩
  go_wp2_with fail
  refine (E1.out _).mono ?_
  rintro e w9 ⟨rfl, rfl⟩
  go_wp2_with fail
  refine (E2.out _).mono ?_
  rintro e w9 ⟨rfl, rfl⟩
  go_wp2_with fail
  refine (E4.out _).mono ?_
  rintro e w9 ⟨rfl, rfl⟩
  go_wp2_with fail
  refine (E5.out _).mono ?_
  rintro e w9 ⟨rfl, rfl⟩
  go_wp2_with fail
  go_ret
  exact ⟨rfl, gr_auto⟩
theorem rrightlink_any (d : Ba.Link) (w : World) (h : d.Ok w) : Calls Tryz.prog 41 #[d.val] w fun e w' => e = .returned (.bool (Ba.rlink d)) ∧ Gr w w' := by
  unfold Ba.rlink Ba.rlA
  cases e0 : Dc.isName d.nm.data.toList
  · exact rrl_h0 d w h e0
  cases e1 : Dc.isName d.fr.data.toList
  · exact rrl_h1 d w h e0 e1
  cases e2 : Dc.isName d.tt.data.toList
  · exact rrl_h2 d w h e0 e1 e2
  cases e3 : Ba.eqS d.fr d.tt
  rotate_left
  · exact rrl_h3 d w h e0 e1 e2 e3
  cases e4 : Ba.bet d.up (-4194304) 4194304
  · exact rrl_h4 d w h e0 e1 e2 e3 e4
  cases e5 : Ba.bet d.dn (-4194304) 4194304
  · exact rrl_h5 d w h e0 e1 e2 e3 e4 e5
  simp only [Bool.true_and, Bool.not_false]
  by_cases k1 : d.kd = 1
  · rw [if_pos k1]
    unfold Ba.rlP
    cases e6 : (Ba.bet d.ln 1 16777216)
    · exact rrl_k10 d w h k1 e0 e1 e2 e3 e4 e5 e6
    cases e7 : (Dc.isName d.sc.data.toList)
    · exact rrl_k11 d w h k1 e0 e1 e2 e3 e4 e5 e6 e7
    cases e8 : (d.wd == 0)
    · exact rrl_k12 d w h k1 e0 e1 e2 e3 e4 e5 e6 e7 e8
    cases e9 : (d.ht == 0)
    · exact rrl_k13 d w h k1 e0 e1 e2 e3 e4 e5 e6 e7 e8 e9
    cases e10 : (decide (d.cv.n = 0))
    · exact rrl_k14 d w h k1 e0 e1 e2 e3 e4 e5 e6 e7 e8 e9 e10
    exact rrl_k15 d w h k1 e0 e1 e2 e3 e4 e5 e6 e7 e8 e9 e10
  rw [if_neg k1]
  by_cases k2 : d.kd = 2
  · rw [if_pos k2]
    unfold Ba.rlW
    cases e6 : (d.ln == 0)
    · exact rrl_k20 d w h k2 e0 e1 e2 e3 e4 e5 e6
    cases e7 : (d.dn == 0)
    · exact rrl_k21 d w h k2 e0 e1 e2 e3 e4 e5 e6 e7
    cases e8 : (d.sc.toList.isEmpty)
    · exact rrl_k22 d w h k2 e0 e1 e2 e3 e4 e5 e6 e7 e8
    cases e9 : (Ba.bet d.wd 1 1048576)
    · exact rrl_k23 d w h k2 e0 e1 e2 e3 e4 e5 e6 e7 e8 e9
    cases e10 : (d.ht == 0)
    · exact rrl_k24 d w h k2 e0 e1 e2 e3 e4 e5 e6 e7 e8 e9 e10
    cases e11 : (decide (d.cv.n = 0))
    · exact rrl_k25 d w h k2 e0 e1 e2 e3 e4 e5 e6 e7 e8 e9 e10 e11
    exact rrl_k26 d w h k2 e0 e1 e2 e3 e4 e5 e6 e7 e8 e9 e10 e11
  rw [if_neg k2]
  by_cases k3 : d.kd = 3
  · rw [if_pos k3]
    unfold Ba.rlG
    cases e6 : (d.ln == 0)
    · exact rrl_k30 d w h k3 e0 e1 e2 e3 e4 e5 e6
    cases e7 : (d.dn == 0)
    · exact rrl_k31 d w h k3 e0 e1 e2 e3 e4 e5 e6 e7
    cases e8 : (d.sc.toList.isEmpty)
    · exact rrl_k32 d w h k3 e0 e1 e2 e3 e4 e5 e6 e7 e8
    cases e9 : (Ba.bet d.wd 1 32768)
    · exact rrl_k33 d w h k3 e0 e1 e2 e3 e4 e5 e6 e7 e8 e9
    cases e10 : (Ba.bet d.ht 1 32768)
    · exact rrl_k34 d w h k3 e0 e1 e2 e3 e4 e5 e6 e7 e8 e9 e10
    cases e11 : (decide (d.cv.n = 0))
    · exact rrl_k35 d w h k3 e0 e1 e2 e3 e4 e5 e6 e7 e8 e9 e10 e11
    exact rrl_k36 d w h k3 e0 e1 e2 e3 e4 e5 e6 e7 e8 e9 e10 e11
  rw [if_neg k3]
  by_cases k4 : d.kd = 4
  · rw [if_pos k4]
    unfold Ba.rlU
    cases e6 : (d.ln == 0)
    · exact rrl_k40 d w h k4 e0 e1 e2 e3 e4 e5 e6
    cases e7 : (decide (d.dn < d.up))
    · exact rrl_k41 d w h k4 e0 e1 e2 e3 e4 e5 e6 e7
    cases e8 : (d.sc.toList.isEmpty)
    · exact rrl_k42 d w h k4 e0 e1 e2 e3 e4 e5 e6 e7 e8
    cases e9 : (d.wd == 0)
    · exact rrl_k43 d w h k4 e0 e1 e2 e3 e4 e5 e6 e7 e8 e9
    cases e10 : (d.ht == 0)
    · exact rrl_k44 d w h k4 e0 e1 e2 e3 e4 e5 e6 e7 e8 e9 e10
    cases e11 : (Ba.crv d.cv)
    · exact rrl_k45 d w h k4 e0 e1 e2 e3 e4 e5 e6 e7 e8 e9 e10 e11
    exact rrl_k46 d w h k4 e0 e1 e2 e3 e4 e5 e6 e7 e8 e9 e10 e11
  rw [if_neg k4]
  exact rrl_k0 d w h k1 k2 k3 k4 e0 e1 e2 e3 e4 e5
end Go.Proofs.YtllkiadedaghoaaGreatDoor
