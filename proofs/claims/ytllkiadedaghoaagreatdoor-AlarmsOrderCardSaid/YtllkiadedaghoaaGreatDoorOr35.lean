/-
  Links: network.rightLink behind the names. (Printed by mklinke.py.)
  Links: network.rightLink behind the names. (Printed by mklinke.py.)
-/
import Derived.Test.YtllkiadedaghoaaGreatDoorOr30
import Derived.Test.YtllkiadedaghoaaGreatDoorOr31
import Derived.Test.YtllkiadedaghoaaGreatDoorOr32
import Derived.Test.YtllkiadedaghoaaGreatDoorOr33
import Derived.Test.YtllkiadedaghoaaGreatDoorOr34

set_option linter.unusedVariables false
set_option linter.unusedSimpArgs false
namespace Go.Proofs.YtllkiadedaghoaaGreatDoor
open Go.RowKit
attribute [local go_sem ↓] Go.wp_at_zero Go.wp_at_succ
set_option maxRecDepth 100000 in
set_option maxHeartbeats 8000000 in
theorem rightlink_k43 (d : Ba.Link) (w : World) (i7 : d.nm.size ≤ 9223372036854775807) (i8 : d.fr.size ≤ 9223372036854775807) (i9 : d.tt.size ≤ 9223372036854775807) (i10 : d.sc.size ≤ 9223372036854775807) (iu : Ba.i64 d.up) (id : Ba.i64 d.dn) (hs : d.cv.At w) (e0 : Dc.isName d.nm.data.toList = true) (e1 : Dc.isName d.fr.data.toList = true) (e2 : Dc.isName d.tt.data.toList = true) (e3 : Ba.eqS d.fr d.tt = false) (e4 : Ba.bet d.up (-4194304) 4194304 = true) (e5 : Ba.sml d = true) (hk : d.kd = 4) (q2 : Ba.bet d.dn (-4194304) 4194304 = true) (q9 : decide (d.dn < d.up) = true) (q3 : Ba.tblB d.cv = true) (q4 : Ba.crv d.cv = false) : Calls Tryz.prog 96 #[d.val] w fun e w' => e = .returned (.bool false) ∧ Gr w w' := by
  have HQ := Lib.hid (fun (s : ByteArray) (q : Bool) (W : World) (hs : s.size ≤ 9223372036854775807) (e : Dc.isName s.data.toList = q) => e ▸ isname_all s W hs)
  have HL := Lib.hid (fun (x : Int) (q : Bool) (B : Nat) (W : World) (e : Ba.bet x (-4194304) 4194304 = q) (hx : Ba.i64 x) (h0 : W.cell? ⟨B, 0, none⟩ = some (.int .i64 x)) => e ▸ level_one x B W h0 hx)
  have HP := Lib.hid (fun W => plain_any d W)
  have HS := Lib.hid (fun W (hg : Gr w W) => same_plain d W (hs.gr hg))
  have HB := Lib.hid (fun (x h : Int) => between_any x 1 h)
  have HTB := Lib.hid (fun W (hg : Gr w W) => table_any d.cv W (hs.gr hg))
  have HCV := Lib.hid (fun (hb : Ba.tblB d.cv = true) W (hg : Gr w W) => curve_any d.cv W (hs.gr hg) hb)
  generalize (Ba.plainL d).val = pv at *
  rw [e5] at HS
  unfold Ba.Link.val at *
  obtain ⟨nm, fr, tt, kd, ln, up, dn, sc, wd, ht, ⟨A, n, c, b, o, X, Y⟩⟩ := d
  simp only at *
  have t3 : (fr.toList == tt.toList) = false := by simpa [Ba.eqS] using e3
  clear e3
  have E0 := Lib.hid e0; clear e0
  have E1 := Lib.hid e1; clear e1
  have E2 := Lib.hid e2; clear e2
  have E4 := Lib.hid e4; clear e4 e5
  subst hk
  have Q2 := Lib.hid q2
  have T9 : decide (dn < up) = true := q9
  clear q9
  rw [q3] at HTB
  have Q3 := Lib.hid q3
  have HCW := Lib.hid (HCV.out q3); clear HCV
  rw [q4] at HCW
  have Q4 := Lib.hid q4
  clear hs HB q2 q3 q4
  go_enter Tryz.func96, Tryz.ntmps96
  go_wp2_with fail
  go_region_with (first | (go_at_call 126; with_reducible refine (HQ.out nm _ _ i7 E0.out).mono ?_; rintro e w9 ⟨rfl, rfl⟩) | (go_at_call 126; with_reducible refine (HQ.out fr _ _ i8 E1.out).mono ?_; rintro e w9 ⟨rfl, rfl⟩) | (go_at_call 126; with_reducible refine (HQ.out tt _ _ i9 E2.out).mono ?_; rintro e w9 ⟨rfl, rfl⟩) | (go_at_call 128; refine (HL.out up _ _ _ E4.out iu (by simp [go_sem])).mono ?_; rintro e w1 ⟨rfl, hb1⟩; obtain ⟨hc1, hf1⟩ := Gr.cells hb1; have hz1 := Gr.size hb1; (try simp at hz1); (try have hy1_0 : w.heap.size < w1.heap.size := by omega); (try have hy1_1 : w.heap.size + 1 < w1.heap.size := by omega); (try have hy1_2 : w.heap.size + 1 + 1 < w1.heap.size := by omega); (try have hy1_3 : w.heap.size + 1 + 1 + 1 < w1.heap.size := by omega); (try have hy1_4 : w.heap.size + 1 + 1 + 1 + 1 < w1.heap.size := by omega); (try have hy1_5 : w.heap.size + 1 + 1 + 1 + 1 + 1 < w1.heap.size := by omega)) | (go_at_call 133; refine (HP.out _).mono ?_; rintro e w2 ⟨rfl, hb2⟩; obtain ⟨hc2, hf2⟩ := Gr.cells hb2; have hz2 := Gr.size hb2; (try simp at hz2); (try have hy2_0 : w.heap.size < w2.heap.size := by omega); (try have hy2_1 : w.heap.size + 1 < w2.heap.size := by omega); (try have hy2_2 : w.heap.size + 1 + 1 < w2.heap.size := by omega); (try have hy2_3 : w.heap.size + 1 + 1 + 1 < w2.heap.size := by omega); (try have hy2_4 : w.heap.size + 1 + 1 + 1 + 1 < w2.heap.size := by omega); (try have hy2_5 : w.heap.size + 1 + 1 + 1 + 1 + 1 < w2.heap.size := by omega); (try have hy2_1_0 : w1.heap.size < w2.heap.size := by omega); (try have hy2_1_1 : w1.heap.size + 1 < w2.heap.size := by omega)) | (go_at_call 132; refine (HS.out _ gr_auto).mono ?_; rintro e w3 ⟨rfl, hb3⟩; obtain ⟨hc3, hf3⟩ := Gr.cells hb3; have hz3 := Gr.size hb3; (try simp at hz3); (try have hy3_0 : w.heap.size < w3.heap.size := by omega); (try have hy3_1 : w.heap.size + 1 < w3.heap.size := by omega); (try have hy3_2 : w.heap.size + 1 + 1 < w3.heap.size := by omega); (try have hy3_3 : w.heap.size + 1 + 1 + 1 < w3.heap.size := by omega); (try have hy3_4 : w.heap.size + 1 + 1 + 1 + 1 < w3.heap.size := by omega); (try have hy3_5 : w.heap.size + 1 + 1 + 1 + 1 + 1 < w3.heap.size := by omega); (try have hy3_1_0 : w1.heap.size < w3.heap.size := by omega); (try have hy3_1_1 : w1.heap.size + 1 < w3.heap.size := by omega); (try have hy3_2_0 : w2.heap.size < w3.heap.size := by omega); (try have hy3_2_1 : w2.heap.size + 1 < w3.heap.size := by omega)))
  all_goals
    go_wp2_with fail
    refine (HL.out dn _ _ _ Q2.out id (by simp [go_sem])).mono ?_
    rintro e w4 ⟨rfl, hb4⟩
    obtain ⟨hc4, hf4⟩ := Gr.cells hb4; have hz4 := Gr.size hb4; (try simp at hz4); (try have hy4_0 : w.heap.size < w4.heap.size := by omega); (try have hy4_1 : w.heap.size + 1 < w4.heap.size := by omega); (try have hy4_2 : w.heap.size + 1 + 1 < w4.heap.size := by omega); (try have hy4_3 : w.heap.size + 1 + 1 + 1 < w4.heap.size := by omega); (try have hy4_4 : w.heap.size + 1 + 1 + 1 + 1 < w4.heap.size := by omega); (try have hy4_5 : w.heap.size + 1 + 1 + 1 + 1 + 1 < w4.heap.size := by omega); (try have hy4_1_0 : w1.heap.size < w4.heap.size := by omega); (try have hy4_1_1 : w1.heap.size + 1 < w4.heap.size := by omega); (try have hy4_2_0 : w2.heap.size < w4.heap.size := by omega); (try have hy4_2_1 : w2.heap.size + 1 < w4.heap.size := by omega); (try have hy4_3_0 : w3.heap.size < w4.heap.size := by omega); (try have hy4_3_1 : w3.heap.size + 1 < w4.heap.size := by omega)
    go_wp2_with fail
    refine (HTB.out _ gr_auto).mono ?_
    rintro e w5 ⟨rfl, hb5⟩
    obtain ⟨hc5, hf5⟩ := Gr.cells hb5; have hz5 := Gr.size hb5; (try simp at hz5); (try have hy5_0 : w.heap.size < w5.heap.size := by omega); (try have hy5_1 : w.heap.size + 1 < w5.heap.size := by omega); (try have hy5_2 : w.heap.size + 1 + 1 < w5.heap.size := by omega); (try have hy5_3 : w.heap.size + 1 + 1 + 1 < w5.heap.size := by omega); (try have hy5_4 : w.heap.size + 1 + 1 + 1 + 1 < w5.heap.size := by omega); (try have hy5_5 : w.heap.size + 1 + 1 + 1 + 1 + 1 < w5.heap.size := by omega); (try have hy5_1_0 : w1.heap.size < w5.heap.size := by omega); (try have hy5_1_1 : w1.heap.size + 1 < w5.heap.size := by omega); (try have hy5_2_0 : w2.heap.size < w5.heap.size := by omega); (try have hy5_2_1 : w2.heap.size + 1 < w5.heap.size := by omega); (try have hy5_3_0 : w3.heap.size < w5.heap.size := by omega); (try have hy5_3_1 : w3.heap.size + 1 < w5.heap.size := by omega); (try have hy5_4_0 : w4.heap.size < w5.heap.size := by omega); (try have hy5_4_1 : w4.heap.size + 1 < w5.heap.size := by omega)
    go_wp2_with fail
    refine (HCW.out _ gr_auto).mono ?_
    rintro e w6 ⟨rfl, hb6⟩
    obtain ⟨hc6, hf6⟩ := Gr.cells hb6; have hz6 := Gr.size hb6; (try simp at hz6); (try have hy6_0 : w.heap.size < w6.heap.size := by omega); (try have hy6_1 : w.heap.size + 1 < w6.heap.size := by omega); (try have hy6_2 : w.heap.size + 1 + 1 < w6.heap.size := by omega); (try have hy6_3 : w.heap.size + 1 + 1 + 1 < w6.heap.size := by omega); (try have hy6_4 : w.heap.size + 1 + 1 + 1 + 1 < w6.heap.size := by omega); (try have hy6_5 : w.heap.size + 1 + 1 + 1 + 1 + 1 < w6.heap.size := by omega); (try have hy6_1_0 : w1.heap.size < w6.heap.size := by omega); (try have hy6_1_1 : w1.heap.size + 1 < w6.heap.size := by omega); (try have hy6_2_0 : w2.heap.size < w6.heap.size := by omega); (try have hy6_2_1 : w2.heap.size + 1 < w6.heap.size := by omega); (try have hy6_3_0 : w3.heap.size < w6.heap.size := by omega); (try have hy6_3_1 : w3.heap.size + 1 < w6.heap.size := by omega); (try have hy6_4_0 : w4.heap.size < w6.heap.size := by omega); (try have hy6_4_1 : w4.heap.size + 1 < w6.heap.size := by omega); (try have hy6_5_0 : w5.heap.size < w6.heap.size := by omega); (try have hy6_5_1 : w5.heap.size + 1 < w6.heap.size := by omega)
    go_wp2_with fail
    go_ret
    exact ⟨rfl, gr_auto⟩
set_option maxRecDepth 100000 in
set_option maxHeartbeats 8000000 in
theorem rightlink_k44 (d : Ba.Link) (w : World) (i7 : d.nm.size ≤ 9223372036854775807) (i8 : d.fr.size ≤ 9223372036854775807) (i9 : d.tt.size ≤ 9223372036854775807) (i10 : d.sc.size ≤ 9223372036854775807) (iu : Ba.i64 d.up) (id : Ba.i64 d.dn) (hs : d.cv.At w) (e0 : Dc.isName d.nm.data.toList = true) (e1 : Dc.isName d.fr.data.toList = true) (e2 : Dc.isName d.tt.data.toList = true) (e3 : Ba.eqS d.fr d.tt = false) (e4 : Ba.bet d.up (-4194304) 4194304 = true) (e5 : Ba.sml d = true) (hk : d.kd = 4) (q2 : Ba.bet d.dn (-4194304) 4194304 = true) (q9 : decide (d.dn < d.up) = true) (q3 : Ba.tblB d.cv = true) (q4 : Ba.crv d.cv = true) : Calls Tryz.prog 96 #[d.val] w fun e w' => e = .returned (.bool true) ∧ Gr w w' := by
  have HQ := Lib.hid (fun (s : ByteArray) (q : Bool) (W : World) (hs : s.size ≤ 9223372036854775807) (e : Dc.isName s.data.toList = q) => e ▸ isname_all s W hs)
  have HL := Lib.hid (fun (x : Int) (q : Bool) (B : Nat) (W : World) (e : Ba.bet x (-4194304) 4194304 = q) (hx : Ba.i64 x) (h0 : W.cell? ⟨B, 0, none⟩ = some (.int .i64 x)) => e ▸ level_one x B W h0 hx)
  have HP := Lib.hid (fun W => plain_any d W)
  have HS := Lib.hid (fun W (hg : Gr w W) => same_plain d W (hs.gr hg))
  have HB := Lib.hid (fun (x h : Int) => between_any x 1 h)
  have HTB := Lib.hid (fun W (hg : Gr w W) => table_any d.cv W (hs.gr hg))
  have HCV := Lib.hid (fun (hb : Ba.tblB d.cv = true) W (hg : Gr w W) => curve_any d.cv W (hs.gr hg) hb)
  generalize (Ba.plainL d).val = pv at *
  rw [e5] at HS
  unfold Ba.Link.val at *
  obtain ⟨nm, fr, tt, kd, ln, up, dn, sc, wd, ht, ⟨A, n, c, b, o, X, Y⟩⟩ := d
  simp only at *
  have t3 : (fr.toList == tt.toList) = false := by simpa [Ba.eqS] using e3
  clear e3
  have E0 := Lib.hid e0; clear e0
  have E1 := Lib.hid e1; clear e1
  have E2 := Lib.hid e2; clear e2
  have E4 := Lib.hid e4; clear e4 e5
  subst hk
  have Q2 := Lib.hid q2
  have T9 : decide (dn < up) = true := q9
  clear q9
  rw [q3] at HTB
  have Q3 := Lib.hid q3
  have HCW := Lib.hid (HCV.out q3); clear HCV
  rw [q4] at HCW
  have Q4 := Lib.hid q4
  clear hs HB q2 q3 q4
  go_enter Tryz.func96, Tryz.ntmps96
  go_wp2_with fail
  go_region_with (first | (go_at_call 126; with_reducible refine (HQ.out nm _ _ i7 E0.out).mono ?_; rintro e w9 ⟨rfl, rfl⟩) | (go_at_call 126; with_reducible refine (HQ.out fr _ _ i8 E1.out).mono ?_; rintro e w9 ⟨rfl, rfl⟩) | (go_at_call 126; with_reducible refine (HQ.out tt _ _ i9 E2.out).mono ?_; rintro e w9 ⟨rfl, rfl⟩) | (go_at_call 128; refine (HL.out up _ _ _ E4.out iu (by simp [go_sem])).mono ?_; rintro e w1 ⟨rfl, hb1⟩; obtain ⟨hc1, hf1⟩ := Gr.cells hb1; have hz1 := Gr.size hb1; (try simp at hz1); (try have hy1_0 : w.heap.size < w1.heap.size := by omega); (try have hy1_1 : w.heap.size + 1 < w1.heap.size := by omega); (try have hy1_2 : w.heap.size + 1 + 1 < w1.heap.size := by omega); (try have hy1_3 : w.heap.size + 1 + 1 + 1 < w1.heap.size := by omega); (try have hy1_4 : w.heap.size + 1 + 1 + 1 + 1 < w1.heap.size := by omega); (try have hy1_5 : w.heap.size + 1 + 1 + 1 + 1 + 1 < w1.heap.size := by omega)) | (go_at_call 133; refine (HP.out _).mono ?_; rintro e w2 ⟨rfl, hb2⟩; obtain ⟨hc2, hf2⟩ := Gr.cells hb2; have hz2 := Gr.size hb2; (try simp at hz2); (try have hy2_0 : w.heap.size < w2.heap.size := by omega); (try have hy2_1 : w.heap.size + 1 < w2.heap.size := by omega); (try have hy2_2 : w.heap.size + 1 + 1 < w2.heap.size := by omega); (try have hy2_3 : w.heap.size + 1 + 1 + 1 < w2.heap.size := by omega); (try have hy2_4 : w.heap.size + 1 + 1 + 1 + 1 < w2.heap.size := by omega); (try have hy2_5 : w.heap.size + 1 + 1 + 1 + 1 + 1 < w2.heap.size := by omega); (try have hy2_1_0 : w1.heap.size < w2.heap.size := by omega); (try have hy2_1_1 : w1.heap.size + 1 < w2.heap.size := by omega)) | (go_at_call 132; refine (HS.out _ gr_auto).mono ?_; rintro e w3 ⟨rfl, hb3⟩; obtain ⟨hc3, hf3⟩ := Gr.cells hb3; have hz3 := Gr.size hb3; (try simp at hz3); (try have hy3_0 : w.heap.size < w3.heap.size := by omega); (try have hy3_1 : w.heap.size + 1 < w3.heap.size := by omega); (try have hy3_2 : w.heap.size + 1 + 1 < w3.heap.size := by omega); (try have hy3_3 : w.heap.size + 1 + 1 + 1 < w3.heap.size := by omega); (try have hy3_4 : w.heap.size + 1 + 1 + 1 + 1 < w3.heap.size := by omega); (try have hy3_5 : w.heap.size + 1 + 1 + 1 + 1 + 1 < w3.heap.size := by omega); (try have hy3_1_0 : w1.heap.size < w3.heap.size := by omega); (try have hy3_1_1 : w1.heap.size + 1 < w3.heap.size := by omega); (try have hy3_2_0 : w2.heap.size < w3.heap.size := by omega); (try have hy3_2_1 : w2.heap.size + 1 < w3.heap.size := by omega)))
  all_goals
    go_wp2_with fail
    refine (HL.out dn _ _ _ Q2.out id (by simp [go_sem])).mono ?_
    rintro e w4 ⟨rfl, hb4⟩
    obtain ⟨hc4, hf4⟩ := Gr.cells hb4; have hz4 := Gr.size hb4; (try simp at hz4); (try have hy4_0 : w.heap.size < w4.heap.size := by omega); (try have hy4_1 : w.heap.size + 1 < w4.heap.size := by omega); (try have hy4_2 : w.heap.size + 1 + 1 < w4.heap.size := by omega); (try have hy4_3 : w.heap.size + 1 + 1 + 1 < w4.heap.size := by omega); (try have hy4_4 : w.heap.size + 1 + 1 + 1 + 1 < w4.heap.size := by omega); (try have hy4_5 : w.heap.size + 1 + 1 + 1 + 1 + 1 < w4.heap.size := by omega); (try have hy4_1_0 : w1.heap.size < w4.heap.size := by omega); (try have hy4_1_1 : w1.heap.size + 1 < w4.heap.size := by omega); (try have hy4_2_0 : w2.heap.size < w4.heap.size := by omega); (try have hy4_2_1 : w2.heap.size + 1 < w4.heap.size := by omega); (try have hy4_3_0 : w3.heap.size < w4.heap.size := by omega); (try have hy4_3_1 : w3.heap.size + 1 < w4.heap.size := by omega)
    go_wp2_with fail
    refine (HTB.out _ gr_auto).mono ?_
    rintro e w5 ⟨rfl, hb5⟩
    obtain ⟨hc5, hf5⟩ := Gr.cells hb5; have hz5 := Gr.size hb5; (try simp at hz5); (try have hy5_0 : w.heap.size < w5.heap.size := by omega); (try have hy5_1 : w.heap.size + 1 < w5.heap.size := by omega); (try have hy5_2 : w.heap.size + 1 + 1 < w5.heap.size := by omega); (try have hy5_3 : w.heap.size + 1 + 1 + 1 < w5.heap.size := by omega); (try have hy5_4 : w.heap.size + 1 + 1 + 1 + 1 < w5.heap.size := by omega); (try have hy5_5 : w.heap.size + 1 + 1 + 1 + 1 + 1 < w5.heap.size := by omega); (try have hy5_1_0 : w1.heap.size < w5.heap.size := by omega); (try have hy5_1_1 : w1.heap.size + 1 < w5.heap.size := by omega); (try have hy5_2_0 : w2.heap.size < w5.heap.size := by omega); (try have hy5_2_1 : w2.heap.size + 1 < w5.heap.size := by omega); (try have hy5_3_0 : w3.heap.size < w5.heap.size := by omega); (try have hy5_3_1 : w3.heap.size + 1 < w5.heap.size := by omega); (try have hy5_4_0 : w4.heap.size < w5.heap.size := by omega); (try have hy5_4_1 : w4.heap.size + 1 < w5.heap.size := by omega)
    go_wp2_with fail
    refine (HCW.out _ gr_auto).mono ?_
    rintro e w6 ⟨rfl, hb6⟩
    obtain ⟨hc6, hf6⟩ := Gr.cells hb6; have hz6 := Gr.size hb6; (try simp at hz6); (try have hy6_0 : w.heap.size < w6.heap.size := by omega); (try have hy6_1 : w.heap.size + 1 < w6.heap.size := by omega); (try have hy6_2 : w.heap.size + 1 + 1 < w6.heap.size := by omega); (try have hy6_3 : w.heap.size + 1 + 1 + 1 < w6.heap.size := by omega); (try have hy6_4 : w.heap.size + 1 + 1 + 1 + 1 < w6.heap.size := by omega); (try have hy6_5 : w.heap.size + 1 + 1 + 1 + 1 + 1 < w6.heap.size := by omega); (try have hy6_1_0 : w1.heap.size < w6.heap.size := by omega); (try have hy6_1_1 : w1.heap.size + 1 < w6.heap.size := by omega); (try have hy6_2_0 : w2.heap.size < w6.heap.size := by omega); (try have hy6_2_1 : w2.heap.size + 1 < w6.heap.size := by omega); (try have hy6_3_0 : w3.heap.size < w6.heap.size := by omega); (try have hy6_3_1 : w3.heap.size + 1 < w6.heap.size := by omega); (try have hy6_4_0 : w4.heap.size < w6.heap.size := by omega); (try have hy6_4_1 : w4.heap.size + 1 < w6.heap.size := by omega); (try have hy6_5_0 : w5.heap.size < w6.heap.size := by omega); (try have hy6_5_1 : w5.heap.size + 1 < w6.heap.size := by omega)
    go_wp2_with fail
    go_ret
    exact ⟨rfl, gr_auto⟩
end Go.Proofs.YtllkiadedaghoaaGreatDoor
set_option linter.unusedVariables false
set_option linter.unusedSimpArgs false
namespace Go.Proofs.YtllkiadedaghoaaGreatDoor
open Go.RowKit
attribute [local go_sem ↓] Go.wp_at_zero Go.wp_at_succ
theorem rightlink_any (d : Ba.Link) (w : World) (h : d.Ok w) : Calls Tryz.prog 96 #[d.val] w fun e w' => e = .returned (.bool (Ba.rlink d)) ∧ Gr w w' := by
  obtain ⟨i1, i2, i3, i4, i5, i6, i7, i8, i9, i10, hs⟩ := h
  rw [← Ba.rlN_eq]
  unfold Ba.rlN
  cases e0 : Dc.isName d.nm.data.toList
  · exact rightlink_n0 d w i7 i8 i9 e0
  cases e1 : Dc.isName d.fr.data.toList
  · exact rightlink_n1 d w i7 i8 i9 e0 e1
  cases e2 : Dc.isName d.tt.data.toList
  · exact rightlink_n2 d w i7 i8 i9 e0 e1 e2
  cases e3 : Ba.eqS d.fr d.tt
  rotate_left
  · exact rightlink_n3 d w i7 i8 i9 e0 e1 e2 e3
  cases e4 : Ba.bet d.up (-4194304) 4194304
  · exact rightlink_u d w i7 i8 i9 i10 i3 i4 hs e0 e1 e2 e3 e4
  cases e5 : Ba.sml d
  · exact rightlink_s d w i7 i8 i9 i10 i3 i4 hs e0 e1 e2 e3 e4 e5
  simp only [Bool.true_and, Bool.not_false]
  unfold Ba.rlK
  by_cases k1 : d.kd = 1
  · rw [if_pos k1]
    cases q1 : Ba.bet d.ln 1 16777216
    · exact rightlink_k10 d w i7 i8 i9 i10 i3 i4 hs e0 e1 e2 e3 e4 e5 k1 q1
    cases q2 : Ba.bet d.dn (-4194304) 4194304
    · exact rightlink_k11 d w i7 i8 i9 i10 i3 i4 hs e0 e1 e2 e3 e4 e5 k1 q1 q2
    cases q3 : Dc.isName d.sc.data.toList
    · exact rightlink_k12 d w i7 i8 i9 i10 i3 i4 hs e0 e1 e2 e3 e4 e5 k1 q1 q2 q3
    exact rightlink_k13 d w i7 i8 i9 i10 i3 i4 hs e0 e1 e2 e3 e4 e5 k1 q1 q2 q3
  rw [if_neg k1]
  by_cases k2 : d.kd = 2
  · rw [if_pos k2]
    cases q1 : Ba.bet d.wd 1 1048576
    · exact rightlink_k20 d w i7 i8 i9 i10 i3 i4 hs e0 e1 e2 e3 e4 e5 k2 q1
    exact rightlink_k21 d w i7 i8 i9 i10 i3 i4 hs e0 e1 e2 e3 e4 e5 k2 q1
  rw [if_neg k2]
  by_cases k3 : d.kd = 3
  · rw [if_pos k3]
    cases q1 : Ba.bet d.wd 1 32768
    · exact rightlink_k30 d w i7 i8 i9 i10 i3 i4 hs e0 e1 e2 e3 e4 e5 k3 q1
    cases q2 : Ba.bet d.ht 1 32768
    · exact rightlink_k31 d w i7 i8 i9 i10 i3 i4 hs e0 e1 e2 e3 e4 e5 k3 q1 q2
    exact rightlink_k32 d w i7 i8 i9 i10 i3 i4 hs e0 e1 e2 e3 e4 e5 k3 q1 q2
  rw [if_neg k3]
  by_cases k4 : d.kd = 4
  · rw [if_pos k4]
    cases q2 : Ba.bet d.dn (-4194304) 4194304
    · exact rightlink_k40 d w i7 i8 i9 i10 i3 i4 hs e0 e1 e2 e3 e4 e5 k4 q2
    cases q9 : decide (d.dn < d.up)
    · exact rightlink_k41 d w i7 i8 i9 i10 i3 i4 hs e0 e1 e2 e3 e4 e5 k4 q2 q9
    cases q3 : Ba.tblB d.cv
    · exact rightlink_k42 d w i7 i8 i9 i10 i3 i4 hs e0 e1 e2 e3 e4 e5 k4 q2 q9 q3
    cases q4 : Ba.crv d.cv
    · exact rightlink_k43 d w i7 i8 i9 i10 i3 i4 hs e0 e1 e2 e3 e4 e5 k4 q2 q9 q3 q4
    exact rightlink_k44 d w i7 i8 i9 i10 i3 i4 hs e0 e1 e2 e3 e4 e5 k4 q2 q9 q3 q4
  rw [if_neg k4]
  exact rightlink_k0 d w i7 i8 i9 i10 i3 i4 hs e0 e1 e2 e3 e4 e5 k1 k2 k3 k4
end Go.Proofs.YtllkiadedaghoaaGreatDoor
