/-
  Links: network.rightLink behind the names. (Printed by mklinke.py.)
-/
import Derived.Test.YtllkiadedaghoaaGreatDoorOr30

set_option linter.unusedVariables false
set_option linter.unusedSimpArgs false
namespace Go.Proofs.YtllkiadedaghoaaGreatDoor
open Go.RowKit
attribute [local go_sem ↓] Go.wp_at_zero Go.wp_at_succ
set_option maxRecDepth 100000 in
set_option maxHeartbeats 8000000 in
theorem rightlink_k20 (d : Ba.Link) (w : World) (i7 : d.nm.size ≤ 9223372036854775807) (i8 : d.fr.size ≤ 9223372036854775807) (i9 : d.tt.size ≤ 9223372036854775807) (i10 : d.sc.size ≤ 9223372036854775807) (iu : Ba.i64 d.up) (id : Ba.i64 d.dn) (hs : d.cv.At w) (e0 : Dc.isName d.nm.data.toList = true) (e1 : Dc.isName d.fr.data.toList = true) (e2 : Dc.isName d.tt.data.toList = true) (e3 : Ba.eqS d.fr d.tt = false) (e4 : Ba.bet d.up (-4194304) 4194304 = true) (e5 : Ba.sml d = true) (hk : d.kd = 2) (q1 : Ba.bet d.wd 1 1048576 = false) : Calls Tryz.prog 96 #[d.val] w fun e w' => e = .returned (.bool false) ∧ Gr w w' := by
  have HQ := Lib.hid (fun (s : ByteArray) (q : Bool) (W : World) (hs : s.size ≤ 9223372036854775807) (e : Dc.isName s.data.toList = q) => e ▸ isname_all s W hs)
  have HL := Lib.hid (fun (x : Int) (q : Bool) (B : Nat) (W : World) (e : Ba.bet x (-4194304) 4194304 = q) (hx : Ba.i64 x) (h0 : W.cell? ⟨B, 0, none⟩ = some (.int .i64 x)) => e ▸ level_one x B W h0 hx)
  have HP := Lib.hid (fun W => plain_any d W)
  have HS := Lib.hid (fun W (hg : Gr w W) => same_plain d W (hs.gr hg))
  have HB := Lib.hid (fun (x h : Int) => between_any x 1 h)
  have HTB := Lib.hid (fun W (hg : Gr w W) => table_any d.cv W (hs.gr hg))
  have HCV := Lib.hid (fun (hb : Ba.tblB d.cv = true) W (hg : Gr w W) => curve_any d.cv W (hs.gr hg) hb)
  generalize (Ba.plainL d).val = pv at *
  rw [e5] at HS
  unfold Ba.Link.val at *
  obtain ⟨nm, fr, tt, kd, ln, up, dn, sc, wd, ht, ⟨A, n, c, b, o, X, Y⟩⟩ := d
  simp only at *
  have t3 : (fr.toList == tt.toList) = false := by simpa [Ba.eqS] using e3
  clear e3
  have E0 := Lib.hid e0; clear e0
  have E1 := Lib.hid e1; clear e1
  have E2 := Lib.hid e2; clear e2
  have E4 := Lib.hid e4; clear e4 e5
  subst hk
  have HB1 := Lib.hid (HB.out wd 1048576); rw [q1] at HB1
  have Q1 := Lib.hid q1
  clear hs HTB HCV q1
  go_enter Tryz.func96, Tryz.ntmps96
  go_wp2_with fail
  go_region_with (first | (go_at_call 126; with_reducible refine (HQ.out nm _ _ i7 E0.out).mono ?_; rintro e w9 ⟨rfl, rfl⟩) | (go_at_call 126; with_reducible refine (HQ.out fr _ _ i8 E1.out).mono ?_; rintro e w9 ⟨rfl, rfl⟩) | (go_at_call 126; with_reducible refine (HQ.out tt _ _ i9 E2.out).mono ?_; rintro e w9 ⟨rfl, rfl⟩) | (go_at_call 128; refine (HL.out up _ _ _ E4.out iu (by simp [go_sem])).mono ?_; rintro e w1 ⟨rfl, hb1⟩; obtain ⟨hc1, hf1⟩ := Gr.cells hb1; have hz1 := Gr.size hb1; (try simp at hz1); (try have hy1_0 : w.heap.size < w1.heap.size := by omega); (try have hy1_1 : w.heap.size + 1 < w1.heap.size := by omega); (try have hy1_2 : w.heap.size + 1 + 1 < w1.heap.size := by omega); (try have hy1_3 : w.heap.size + 1 + 1 + 1 < w1.heap.size := by omega); (try have hy1_4 : w.heap.size + 1 + 1 + 1 + 1 < w1.heap.size := by omega); (try have hy1_5 : w.heap.size + 1 + 1 + 1 + 1 + 1 < w1.heap.size := by omega)) | (go_at_call 133; refine (HP.out _).mono ?_; rintro e w2 ⟨rfl, hb2⟩; obtain ⟨hc2, hf2⟩ := Gr.cells hb2; have hz2 := Gr.size hb2; (try simp at hz2); (try have hy2_0 : w.heap.size < w2.heap.size := by omega); (try have hy2_1 : w.heap.size + 1 < w2.heap.size := by omega); (try have hy2_2 : w.heap.size + 1 + 1 < w2.heap.size := by omega); (try have hy2_3 : w.heap.size + 1 + 1 + 1 < w2.heap.size := by omega); (try have hy2_4 : w.heap.size + 1 + 1 + 1 + 1 < w2.heap.size := by omega); (try have hy2_5 : w.heap.size + 1 + 1 + 1 + 1 + 1 < w2.heap.size := by omega); (try have hy2_1_0 : w1.heap.size < w2.heap.size := by omega); (try have hy2_1_1 : w1.heap.size + 1 < w2.heap.size := by omega)) | (go_at_call 132; refine (HS.out _ gr_auto).mono ?_; rintro e w3 ⟨rfl, hb3⟩; obtain ⟨hc3, hf3⟩ := Gr.cells hb3; have hz3 := Gr.size hb3; (try simp at hz3); (try have hy3_0 : w.heap.size < w3.heap.size := by omega); (try have hy3_1 : w.heap.size + 1 < w3.heap.size := by omega); (try have hy3_2 : w.heap.size + 1 + 1 < w3.heap.size := by omega); (try have hy3_3 : w.heap.size + 1 + 1 + 1 < w3.heap.size := by omega); (try have hy3_4 : w.heap.size + 1 + 1 + 1 + 1 < w3.heap.size := by omega); (try have hy3_5 : w.heap.size + 1 + 1 + 1 + 1 + 1 < w3.heap.size := by omega); (try have hy3_1_0 : w1.heap.size < w3.heap.size := by omega); (try have hy3_1_1 : w1.heap.size + 1 < w3.heap.size := by omega); (try have hy3_2_0 : w2.heap.size < w3.heap.size := by omega); (try have hy3_2_1 : w2.heap.size + 1 < w3.heap.size := by omega)))
  all_goals
    go_wp2_with fail
    refine (HB1.out _).mono ?_
    rintro e w9 ⟨rfl, rfl⟩
    go_wp2_with fail
    go_ret
    exact ⟨rfl, gr_auto⟩
set_option maxRecDepth 100000 in
set_option maxHeartbeats 8000000 in
theorem rightlink_k21 (d : Ba.Link) (w : World) (i7 : d.nm.size ≤ 9223372036854775807) (i8 : d.fr.size ≤ 9223372036854775807) (i9 : d.tt.size ≤ 9223372036854775807) (i10 : d.sc.size ≤ 9223372036854775807) (iu : Ba.i64 d.up) (id : Ba.i64 d.dn) (hs : d.cv.At w) (e0 : Dc.isName d.nm.data.toList = true) (e1 : Dc.isName d.fr.data.toList = true) (e2 : Dc.isName d.tt.data.toList = true) (e3 : Ba.eqS d.fr d.tt = false) (e4 : Ba.bet d.up (-4194304) 4194304 = true) (e5 : Ba.sml d = true) (hk : d.kd = 2) (q1 : Ba.bet d.wd 1 1048576 = true) : Calls Tryz.prog 96 #[d.val] w fun e w' => e = .returned (.bool true) ∧ Gr w w' := by
  have HQ := Lib.hid (fun (s : ByteArray) (q : Bool) (W : World) (hs : s.size ≤ 9223372036854775807) (e : Dc.isName s.data.toList = q) => e ▸ isname_all s W hs)
  have HL := Lib.hid (fun (x : Int) (q : Bool) (B : Nat) (W : World) (e : Ba.bet x (-4194304) 4194304 = q) (hx : Ba.i64 x) (h0 : W.cell? ⟨B, 0, none⟩ = some (.int .i64 x)) => e ▸ level_one x B W h0 hx)
  have HP := Lib.hid (fun W => plain_any d W)
  have HS := Lib.hid (fun W (hg : Gr w W) => same_plain d W (hs.gr hg))
  have HB := Lib.hid (fun (x h : Int) => between_any x 1 h)
  have HTB := Lib.hid (fun W (hg : Gr w W) => table_any d.cv W (hs.gr hg))
  have HCV := Lib.hid (fun (hb : Ba.tblB d.cv = true) W (hg : Gr w W) => curve_any d.cv W (hs.gr hg) hb)
  generalize (Ba.plainL d).val = pv at *
  rw [e5] at HS
  unfold Ba.Link.val at *
  obtain ⟨nm, fr, tt, kd, ln, up, dn, sc, wd, ht, ⟨A, n, c, b, o, X, Y⟩⟩ := d
  simp only at *
  have t3 : (fr.toList == tt.toList) = false := by simpa [Ba.eqS] using e3
  clear e3
  have E0 := Lib.hid e0; clear e0
  have E1 := Lib.hid e1; clear e1
  have E2 := Lib.hid e2; clear e2
  have E4 := Lib.hid e4; clear e4 e5
  subst hk
  have HB1 := Lib.hid (HB.out wd 1048576); rw [q1] at HB1
  have Q1 := Lib.hid q1
  clear hs HTB HCV q1
  go_enter Tryz.func96, Tryz.ntmps96
  go_wp2_with fail
  go_region_with (first | (go_at_call 126; with_reducible refine (HQ.out nm _ _ i7 E0.out).mono ?_; rintro e w9 ⟨rfl, rfl⟩) | (go_at_call 126; with_reducible refine (HQ.out fr _ _ i8 E1.out).mono ?_; rintro e w9 ⟨rfl, rfl⟩) | (go_at_call 126; with_reducible refine (HQ.out tt _ _ i9 E2.out).mono ?_; rintro e w9 ⟨rfl, rfl⟩) | (go_at_call 128; refine (HL.out up _ _ _ E4.out iu (by simp [go_sem])).mono ?_; rintro e w1 ⟨rfl, hb1⟩; obtain ⟨hc1, hf1⟩ := Gr.cells hb1; have hz1 := Gr.size hb1; (try simp at hz1); (try have hy1_0 : w.heap.size < w1.heap.size := by omega); (try have hy1_1 : w.heap.size + 1 < w1.heap.size := by omega); (try have hy1_2 : w.heap.size + 1 + 1 < w1.heap.size := by omega); (try have hy1_3 : w.heap.size + 1 + 1 + 1 < w1.heap.size := by omega); (try have hy1_4 : w.heap.size + 1 + 1 + 1 + 1 < w1.heap.size := by omega); (try have hy1_5 : w.heap.size + 1 + 1 + 1 + 1 + 1 < w1.heap.size := by omega)) | (go_at_call 133; refine (HP.out _).mono ?_; rintro e w2 ⟨rfl, hb2⟩; obtain ⟨hc2, hf2⟩ := Gr.cells hb2; have hz2 := Gr.size hb2; (try simp at hz2); (try have hy2_0 : w.heap.size < w2.heap.size := by omega); (try have hy2_1 : w.heap.size + 1 < w2.heap.size := by omega); (try have hy2_2 : w.heap.size + 1 + 1 < w2.heap.size := by omega); (try have hy2_3 : w.heap.size + 1 + 1 + 1 < w2.heap.size := by omega); (try have hy2_4 : w.heap.size + 1 + 1 + 1 + 1 < w2.heap.size := by omega); (try have hy2_5 : w.heap.size + 1 + 1 + 1 + 1 + 1 < w2.heap.size := by omega); (try have hy2_1_0 : w1.heap.size < w2.heap.size := by omega); (try have hy2_1_1 : w1.heap.size + 1 < w2.heap.size := by omega)) | (go_at_call 132; refine (HS.out _ gr_auto).mono ?_; rintro e w3 ⟨rfl, hb3⟩; obtain ⟨hc3, hf3⟩ := Gr.cells hb3; have hz3 := Gr.size hb3; (try simp at hz3); (try have hy3_0 : w.heap.size < w3.heap.size := by omega); (try have hy3_1 : w.heap.size + 1 < w3.heap.size := by omega); (try have hy3_2 : w.heap.size + 1 + 1 < w3.heap.size := by omega); (try have hy3_3 : w.heap.size + 1 + 1 + 1 < w3.heap.size := by omega); (try have hy3_4 : w.heap.size + 1 + 1 + 1 + 1 < w3.heap.size := by omega); (try have hy3_5 : w.heap.size + 1 + 1 + 1 + 1 + 1 < w3.heap.size := by omega); (try have hy3_1_0 : w1.heap.size < w3.heap.size := by omega); (try have hy3_1_1 : w1.heap.size + 1 < w3.heap.size := by omega); (try have hy3_2_0 : w2.heap.size < w3.heap.size := by omega); (try have hy3_2_1 : w2.heap.size + 1 < w3.heap.size := by omega)))
  all_goals
    go_wp2_with fail
    refine (HB1.out _).mono ?_
    rintro e w9 ⟨rfl, rfl⟩
    go_wp2_with fail
    go_ret
    exact ⟨rfl, gr_auto⟩
set_option maxRecDepth 100000 in
set_option maxHeartbeats 8000000 in
theorem rightlink_k30 (d : Ba.Link) (w : World) (i7 : d.nm.size ≤ 9223372036854775807) (i8 : d.fr.size ≤ 9223372036854775807) (i9 : d.tt.size ≤ 9223372036854775807) (i10 : d.sc.size ≤ 9223372036854775807) (iu : Ba.i64 d.up) (id : Ba.i64 d.dn) (hs : d.cv.At w) (e0 : Dc.isName d.nm.data.toList = true) (e1 : Dc.isName d.fr.data.toList = true) (e2 : Dc.isName d.tt.data.toList = true) (e3 : Ba.eqS d.fr d.tt = false) (e4 : Ba.bet d.up (-4194304) 4194304 = true) (e5 : Ba.sml d = true) (hk : d.kd = 3) (q1 : Ba.bet d.wd 1 32768 = false) : Calls Tryz.prog 96 #[d.val] w fun e w' => e = .returned (.bool false) ∧ Gr w w' := by
  have HQ := Lib.hid (fun (s : ByteArray) (q : Bool) (W : World) (hs : s.size ≤ 9223372036854775807) (e : Dc.isName s.data.toList = q) => e ▸ isname_all s W hs)
  have HL := Lib.hid (fun (x : Int) (q : Bool) (B : Nat) (W : World) (e : Ba.bet x (-4194304) 4194304 = q) (hx : Ba.i64 x) (h0 : W.cell? ⟨B, 0, none⟩ = some (.int .i64 x)) => e ▸ level_one x B W h0 hx)
  have HP := Lib.hid (fun W => plain_any d W)
  have HS := Lib.hid (fun W (hg : Gr w W) => same_plain d W (hs.gr hg))
  have HB := Lib.hid (fun (x h : Int) => between_any x 1 h)
  have HTB := Lib.hid (fun W (hg : Gr w W) => table_any d.cv W (hs.gr hg))
  have HCV := Lib.hid (fun (hb : Ba.tblB d.cv = true) W (hg : Gr w W) => curve_any d.cv W (hs.gr hg) hb)
  generalize (Ba.plainL d).val = pv at *
  rw [e5] at HS
  unfold Ba.Link.val at *
  obtain ⟨nm, fr, tt, kd, ln, up, dn, sc, wd, ht, ⟨A, n, c, b, o, X, Y⟩⟩ := d
  simp only at *
  have t3 : (fr.toList == tt.toList) = false := by simpa [Ba.eqS] using e3
  clear e3
  have E0 := Lib.hid e0; clear e0
  have E1 := Lib.hid e1; clear e1
  have E2 := Lib.hid e2; clear e2
  have E4 := Lib.hid e4; clear e4 e5
  subst hk
  have HB1 := Lib.hid (HB.out wd 32768); rw [q1] at HB1
  have Q1 := Lib.hid q1
  clear hs HTB HCV q1
  go_enter Tryz.func96, Tryz.ntmps96
  go_wp2_with fail
  go_region_with (first | (go_at_call 126; with_reducible refine (HQ.out nm _ _ i7 E0.out).mono ?_; rintro e w9 ⟨rfl, rfl⟩) | (go_at_call 126; with_reducible refine (HQ.out fr _ _ i8 E1.out).mono ?_; rintro e w9 ⟨rfl, rfl⟩) | (go_at_call 126; with_reducible refine (HQ.out tt _ _ i9 E2.out).mono ?_; rintro e w9 ⟨rfl, rfl⟩) | (go_at_call 128; refine (HL.out up _ _ _ E4.out iu (by simp [go_sem])).mono ?_; rintro e w1 ⟨rfl, hb1⟩; obtain ⟨hc1, hf1⟩ := Gr.cells hb1; have hz1 := Gr.size hb1; (try simp at hz1); (try have hy1_0 : w.heap.size < w1.heap.size := by omega); (try have hy1_1 : w.heap.size + 1 < w1.heap.size := by omega); (try have hy1_2 : w.heap.size + 1 + 1 < w1.heap.size := by omega); (try have hy1_3 : w.heap.size + 1 + 1 + 1 < w1.heap.size := by omega); (try have hy1_4 : w.heap.size + 1 + 1 + 1 + 1 < w1.heap.size := by omega); (try have hy1_5 : w.heap.size + 1 + 1 + 1 + 1 + 1 < w1.heap.size := by omega)) | (go_at_call 133; refine (HP.out _).mono ?_; rintro e w2 ⟨rfl, hb2⟩; obtain ⟨hc2, hf2⟩ := Gr.cells hb2; have hz2 := Gr.size hb2; (try simp at hz2); (try have hy2_0 : w.heap.size < w2.heap.size := by omega); (try have hy2_1 : w.heap.size + 1 < w2.heap.size := by omega); (try have hy2_2 : w.heap.size + 1 + 1 < w2.heap.size := by omega); (try have hy2_3 : w.heap.size + 1 + 1 + 1 < w2.heap.size := by omega); (try have hy2_4 : w.heap.size + 1 + 1 + 1 + 1 < w2.heap.size := by omega); (try have hy2_5 : w.heap.size + 1 + 1 + 1 + 1 + 1 < w2.heap.size := by omega); (try have hy2_1_0 : w1.heap.size < w2.heap.size := by omega); (try have hy2_1_1 : w1.heap.size + 1 < w2.heap.size := by omega)) | (go_at_call 132; refine (HS.out _ gr_auto).mono ?_; rintro e w3 ⟨rfl, hb3⟩; obtain ⟨hc3, hf3⟩ := Gr.cells hb3; have hz3 := Gr.size hb3; (try simp at hz3); (try have hy3_0 : w.heap.size < w3.heap.size := by omega); (try have hy3_1 : w.heap.size + 1 < w3.heap.size := by omega); (try have hy3_2 : w.heap.size + 1 + 1 < w3.heap.size := by omega); (try have hy3_3 : w.heap.size + 1 + 1 + 1 < w3.heap.size := by omega); (try have hy3_4 : w.heap.size + 1 + 1 + 1 + 1 < w3.heap.size := by omega); (try have hy3_5 : w.heap.size + 1 + 1 + 1 + 1 + 1 < w3.heap.size := by omega); (try have hy3_1_0 : w1.heap.size < w3.heap.size := by omega); (try have hy3_1_1 : w1.heap.size + 1 < w3.heap.size := by omega); (try have hy3_2_0 : w2.heap.size < w3.heap.size := by omega); (try have hy3_2_1 : w2.heap.size + 1 < w3.heap.size := by omega)))
  all_goals
    go_wp2_with fail
    refine (HB1.out _).mono ?_
    rintro e w9 ⟨rfl, rfl⟩
    go_wp2_with fail
    go_ret
    exact ⟨rfl, gr_auto⟩
set_option maxRecDepth 100000 in
set_option maxHeartbeats 8000000 in
theorem rightlink_k31 (d : Ba.Link) (w : World) (i7 : d.nm.size ≤ 9223372036854775807) (i8 : d.fr.size ≤ 9223372036854775807) (i9 : d.tt.size ≤ 9223372036854775807) (i10 : d.sc.size ≤ 9223372036854775807) (iu : Ba.i64 d.up) (id : Ba.i64 d.dn) (hs : d.cv.At w) (e0 : Dc.isName d.nm.data.toList = true) (e1 : Dc.isName d.fr.data.toList = true) (e2 : Dc.isName d.tt.data.toList = true) (e3 : Ba.eqS d.fr d.tt = false) (e4 : Ba.bet d.up (-4194304) 4194304 = true) (e5 : Ba.sml d = true) (hk : d.kd = 3) (q1 : Ba.bet d.wd 1 32768 = true) (q2 : Ba.bet d.ht 1 32768 = false) : Calls Tryz.prog 96 #[d.val] w fun e w' => e = .returned (.bool false) ∧ Gr w w' := by
  have HQ := Lib.hid (fun (s : ByteArray) (q : Bool) (W : World) (hs : s.size ≤ 9223372036854775807) (e : Dc.isName s.data.toList = q) => e ▸ isname_all s W hs)
  have HL := Lib.hid (fun (x : Int) (q : Bool) (B : Nat) (W : World) (e : Ba.bet x (-4194304) 4194304 = q) (hx : Ba.i64 x) (h0 : W.cell? ⟨B, 0, none⟩ = some (.int .i64 x)) => e ▸ level_one x B W h0 hx)
  have HP := Lib.hid (fun W => plain_any d W)
  have HS := Lib.hid (fun W (hg : Gr w W) => same_plain d W (hs.gr hg))
  have HB := Lib.hid (fun (x h : Int) => between_any x 1 h)
  have HTB := Lib.hid (fun W (hg : Gr w W) => table_any d.cv W (hs.gr hg))
  have HCV := Lib.hid (fun (hb : Ba.tblB d.cv = true) W (hg : Gr w W) => curve_any d.cv W (hs.gr hg) hb)
  generalize (Ba.plainL d).val = pv at *
  rw [e5] at HS
  unfold Ba.Link.val at *
  obtain ⟨nm, fr, tt, kd, ln, up, dn, sc, wd, ht, ⟨A, n, c, b, o, X, Y⟩⟩ := d
  simp only at *
  have t3 : (fr.toList == tt.toList) = false := by simpa [Ba.eqS] using e3
  clear e3
  have E0 := Lib.hid e0; clear e0
  have E1 := Lib.hid e1; clear e1
  have E2 := Lib.hid e2; clear e2
  have E4 := Lib.hid e4; clear e4 e5
  subst hk
  have HB1 := Lib.hid (HB.out wd 32768); rw [q1] at HB1
  have Q1 := Lib.hid q1
  have HB2 := Lib.hid (HB.out ht 32768); rw [q2] at HB2
  have Q2 := Lib.hid q2
  clear hs HTB HCV q1 q2
  go_enter Tryz.func96, Tryz.ntmps96
  go_wp2_with fail
  go_region_with (first | (go_at_call 126; with_reducible refine (HQ.out nm _ _ i7 E0.out).mono ?_; rintro e w9 ⟨rfl, rfl⟩) | (go_at_call 126; with_reducible refine (HQ.out fr _ _ i8 E1.out).mono ?_; rintro e w9 ⟨rfl, rfl⟩) | (go_at_call 126; with_reducible refine (HQ.out tt _ _ i9 E2.out).mono ?_; rintro e w9 ⟨rfl, rfl⟩) | (go_at_call 128; refine (HL.out up _ _ _ E4.out iu (by simp [go_sem])).mono ?_; rintro e w1 ⟨rfl, hb1⟩; obtain ⟨hc1, hf1⟩ := Gr.cells hb1; have hz1 := Gr.size hb1; (try simp at hz1); (try have hy1_0 : w.heap.size < w1.heap.size := by omega); (try have hy1_1 : w.heap.size + 1 < w1.heap.size := by omega); (try have hy1_2 : w.heap.size + 1 + 1 < w1.heap.size := by omega); (try have hy1_3 : w.heap.size + 1 + 1 + 1 < w1.heap.size := by omega); (try have hy1_4 : w.heap.size + 1 + 1 + 1 + 1 < w1.heap.size := by omega); (try have hy1_5 : w.heap.size + 1 + 1 + 1 + 1 + 1 < w1.heap.size := by omega)) | (go_at_call 133; refine (HP.out _).mono ?_; rintro e w2 ⟨rfl, hb2⟩; obtain ⟨hc2, hf2⟩ := Gr.cells hb2; have hz2 := Gr.size hb2; (try simp at hz2); (try have hy2_0 : w.heap.size < w2.heap.size := by omega); (try have hy2_1 : w.heap.size + 1 < w2.heap.size := by omega); (try have hy2_2 : w.heap.size + 1 + 1 < w2.heap.size := by omega); (try have hy2_3 : w.heap.size + 1 + 1 + 1 < w2.heap.size := by omega); (try have hy2_4 : w.heap.size + 1 + 1 + 1 + 1 < w2.heap.size := by omega); (try have hy2_5 : w.heap.size + 1 + 1 + 1 + 1 + 1 < w2.heap.size := by omega); (try have hy2_1_0 : w1.heap.size < w2.heap.size := by omega); (try have hy2_1_1 : w1.heap.size + 1 < w2.heap.size := by omega)) | (go_at_call 132; refine (HS.out _ gr_auto).mono ?_; rintro e w3 ⟨rfl, hb3⟩; obtain ⟨hc3, hf3⟩ := Gr.cells hb3; have hz3 := Gr.size hb3; (try simp at hz3); (try have hy3_0 : w.heap.size < w3.heap.size := by omega); (try have hy3_1 : w.heap.size + 1 < w3.heap.size := by omega); (try have hy3_2 : w.heap.size + 1 + 1 < w3.heap.size := by omega); (try have hy3_3 : w.heap.size + 1 + 1 + 1 < w3.heap.size := by omega); (try have hy3_4 : w.heap.size + 1 + 1 + 1 + 1 < w3.heap.size := by omega); (try have hy3_5 : w.heap.size + 1 + 1 + 1 + 1 + 1 < w3.heap.size := by omega); (try have hy3_1_0 : w1.heap.size < w3.heap.size := by omega); (try have hy3_1_1 : w1.heap.size + 1 < w3.heap.size := by omega); (try have hy3_2_0 : w2.heap.size < w3.heap.size := by omega); (try have hy3_2_1 : w2.heap.size + 1 < w3.heap.size := by omega)))
  all_goals
    go_wp2_with fail
    refine (HB1.out _).mono ?_
    rintro e w9 ⟨rfl, rfl⟩
    go_wp2_with fail
    refine (HB2.out _).mono ?_
    rintro e w9 ⟨rfl, rfl⟩
    go_wp2_with fail
    go_ret
    exact ⟨rfl, gr_auto⟩
set_option maxRecDepth 100000 in
set_option maxHeartbeats 8000000 in
theorem rightlink_k32 (d : Ba.Link) (w : World) (i7 : d.nm.size ≤ 9223372036854775807) (i8 : d.fr.size ≤ 9223372036854775807) (i9 : d.tt.size ≤ 9223372036854775807) (i10 : d.sc.size ≤ 9223372036854775807) (iu : Ba.i64 d.up) (id : Ba.i64 d.dn) (hs : d.cv.At w) (e0 : Dc.isName d.nm.data.toList = true) (e1 : Dc.isName d.fr.data.toList = true) (e2 : Dc.isName d.tt.data.toList = true) (e3 : Ba.eqS d.fr d.tt = false) (e4 : Ba.bet d.up (-4194304) 4194304 = true) (e5 : Ba.sml d = true) (hk : d.kd = 3) (q1 : Ba.bet d.wd 1 32768 = true) (q2 : Ba.bet d.ht 1 32768 = true) : Calls Tryz.prog 96 #[d.val] w fun e w' => e = .returned (.bool true) ∧ Gr w w' := by
  have HQ := Lib.hid (fun (s : ByteArray) (q : Bool) (W : World) (hs : s.size ≤ 9223372036854775807) (e : Dc.isName s.data.toList = q) => e ▸ isname_all s W hs)
  have HL := Lib.hid (fun (x : Int) (q : Bool) (B : Nat) (W : World) (e : Ba.bet x (-4194304) 4194304 = q) (hx : Ba.i64 x) (h0 : W.cell? ⟨B, 0, none⟩ = some (.int .i64 x)) => e ▸ level_one x B W h0 hx)
  have HP := Lib.hid (fun W => plain_any d W)
  have HS := Lib.hid (fun W (hg : Gr w W) => same_plain d W (hs.gr hg))
  have HB := Lib.hid (fun (x h : Int) => between_any x 1 h)
  have HTB := Lib.hid (fun W (hg : Gr w W) => table_any d.cv W (hs.gr hg))
  have HCV := Lib.hid (fun (hb : Ba.tblB d.cv = true) W (hg : Gr w W) => curve_any d.cv W (hs.gr hg) hb)
  generalize (Ba.plainL d).val = pv at *
  rw [e5] at HS
  unfold Ba.Link.val at *
  obtain ⟨nm, fr, tt, kd, ln, up, dn, sc, wd, ht, ⟨A, n, c, b, o, X, Y⟩⟩ := d
  simp only at *
  have t3 : (fr.toList == tt.toList) = false := by simpa [Ba.eqS] using e3
  clear e3
  have E0 := Lib.hid e0; clear e0
  have E1 := Lib.hid e1; clear e1
  have E2 := Lib.hid e2; clear e2
  have E4 := Lib.hid e4; clear e4 e5
  subst hk
  have HB1 := Lib.hid (HB.out wd 32768); rw [q1] at HB1
  have Q1 := Lib.hid q1
  have HB2 := Lib.hid (HB.out ht 32768); rw [q2] at HB2
  have Q2 := Lib.hid q2
  clear hs HTB HCV q1 q2
  go_enter Tryz.func96, Tryz.ntmps96
  go_wp2_with fail
  go_region_with (first | (go_at_call 126; with_reducible refine (HQ.out nm _ _ i7 E0.out).mono ?_; rintro e w9 ⟨rfl, rfl⟩) | (go_at_call 126; with_reducible refine (HQ.out fr _ _ i8 E1.out).mono ?_; rintro e w9 ⟨rfl, rfl⟩) | (go_at_call 126; with_reducible refine (HQ.out tt _ _ i9 E2.out).mono ?_; rintro e w9 ⟨rfl, rfl⟩) | (go_at_call 128; refine (HL.out up _ _ _ E4.out iu (by simp [go_sem])).mono ?_; rintro e w1 ⟨rfl, hb1⟩; obtain ⟨hc1, hf1⟩ := Gr.cells hb1; have hz1 := Gr.size hb1; (try simp at hz1); (try have hy1_0 : w.heap.size < w1.heap.size := by omega); (try have hy1_1 : w.heap.size + 1 < w1.heap.size := by omega); (try have hy1_2 : w.heap.size + 1 + 1 < w1.heap.size := by omega); (try have hy1_3 : w.heap.size + 1 + 1 + 1 < w1.heap.size := by omega); (try have hy1_4 : w.heap.size + 1 + 1 + 1 + 1 < w1.heap.size := by omega); (try have hy1_5 : w.heap.size + 1 + 1 + 1 + 1 + 1 < w1.heap.size := by omega)) | (go_at_call 133; refine (HP.out _).mono ?_; rintro e w2 ⟨rfl, hb2⟩; obtain ⟨hc2, hf2⟩ := Gr.cells hb2; have hz2 := Gr.size hb2; (try simp at hz2); (try have hy2_0 : w.heap.size < w2.heap.size := by omega); (try have hy2_1 : w.heap.size + 1 < w2.heap.size := by omega); (try have hy2_2 : w.heap.size + 1 + 1 < w2.heap.size := by omega); (try have hy2_3 : w.heap.size + 1 + 1 + 1 < w2.heap.size := by omega); (try have hy2_4 : w.heap.size + 1 + 1 + 1 + 1 < w2.heap.size := by omega); (try have hy2_5 : w.heap.size + 1 + 1 + 1 + 1 + 1 < w2.heap.size := by omega); (try have hy2_1_0 : w1.heap.size < w2.heap.size := by omega); (try have hy2_1_1 : w1.heap.size + 1 < w2.heap.size := by omega)) | (go_at_call 132; refine (HS.out _ gr_auto).mono ?_; rintro e w3 ⟨rfl, hb3⟩; obtain ⟨hc3, hf3⟩ := Gr.cells hb3; have hz3 := Gr.size hb3; (try simp at hz3); (try have hy3_0 : w.heap.size < w3.heap.size := by omega); (try have hy3_1 : w.heap.size + 1 < w3.heap.size := by omega); (try have hy3_2 : w.heap.size + 1 + 1 < w3.heap.size := by omega); (try have hy3_3 : w.heap.size + 1 + 1 + 1 < w3.heap.size := by omega); (try have hy3_4 : w.heap.size + 1 + 1 + 1 + 1 < w3.heap.size := by omega); (try have hy3_5 : w.heap.size + 1 + 1 + 1 + 1 + 1 < w3.heap.size := by omega); (try have hy3_1_0 : w1.heap.size < w3.heap.size := by omega); (try have hy3_1_1 : w1.heap.size + 1 < w3.heap.size := by omega); (try have hy3_2_0 : w2.heap.size < w3.heap.size := by omega); (try have hy3_2_1 : w2.heap.size + 1 < w3.heap.size := by omega)))
  all_goals
    go_wp2_with fail
    refine (HB1.out _).mono ?_
    rintro e w9 ⟨rfl, rfl⟩
    go_wp2_with fail
    refine (HB2.out _).mono ?_
    rintro e w9 ⟨rfl, rfl⟩
    go_wp2_with fail
    go_ret
    exact ⟨rfl, gr_auto⟩
end Go.Proofs.YtllkiadedaghoaaGreatDoor
