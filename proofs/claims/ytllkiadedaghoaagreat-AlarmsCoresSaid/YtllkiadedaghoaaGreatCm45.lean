/-
  Alarms: the law AlarmsKinds. (Printed by mkams.py.)
-/
import Derived.Test.YtllkiadedaghoaaGreatCm41
import Derived.Test.YtllkiadedaghoaaGreatCm43
import Derived.Test.YtllkiadedaghoaaGreatCm44
import Derived.Test.YtllkiadedaghoaaGreatCm36

set_option linter.unusedVariables false
set_option linter.unusedSimpArgs false
namespace Go.Proofs.YtllkiadedaghoaaGreat
open Go.RowKit Go.Shelf Go.Sort
attribute [local go_sem ↓] Go.wp_at_zero Go.wp_at_succ
namespace Al
theorem RetAe.nil {k : Int} {w w' : World} {e : Ending} (h : RetAe [] k w e w') : ∃ A c, e = .returned (.tuple #[.slice A 0 c, .int .i64 k]) ∧ Gr w w' := by
  obtain ⟨r, rfl, -, hc, hg⟩ := h
  have : r.n = 0 := by rw [← r.con_len, hc]; rfl
  exact ⟨r.A, r.c, by unfold SlA.val; rw [this], hg⟩
theorem RetAe.at {X : List C} {k : Int} {w w' : World} {e : Ending} (h : RetAe X k w e w') : ∃ r : SlA, e = .returned (.tuple #[.slice r.A r.n r.c, .int .i64 k]) ∧ r.At w' ∧ r.con = X ∧ Gr w w' := h
theorem RetAl.at {X : List C} {w w' : World} {e : Ending} (h : RetAl X w e w') : ∃ r : SlA, e = .returned (.slice r.A r.n r.c) ∧ r.At w' ∧ r.con = X ∧ Gr w w' := h
theorem RetAl.own {X : List C} {w w' : World} {b : Nat} {e : Ending} (h : ∃ v d, e = .returned v ∧ OwnA w' b v d ∧ d.map A.con = X ∧ Gr w w') : RetAl X w e w' := by
  obtain ⟨v, d, rfl, ho, hc, hg⟩ := h
  obtain ⟨r, hr, hr1, hr2⟩ := ho.sl
  exact ⟨r, by rw [hr]; try rfl, hr1, hr2.trans hc, hg⟩
end Al
theorem same_yes (r t : Al.SlA) (w : World) (hr : r.At w) (ht : t.At w) (h : r.con = t.con) : Calls Tryz.prog 15 #[.slice r.A r.n r.c, .slice t.A t.n t.c] w fun e w' => e = .returned (.bool true) ∧ Gr w w' := by
  have := rsameA_any r t w hr.rd ht.rd
  rw [Al.samB_iff.2 h] at this
  exact this
set_option maxRecDepth 100000 in
set_option maxHeartbeats 4000000 in
theorem kinds_few (N : Ba.SlNode) (L : Ba.SlLink) (s : Al.SlM) (most count : Int) (w : World) (hN : N.At w) (hL : L.At w) (h : s.At w) (hf : Al.fewB N.n L.n s.n (Al.lngB s) = false) : Calls Tryz.prog 5 #[Ba.netVal N L, .slice s.A s.n s.c, .int .i64 most, .int .i64 count] w fun e w' => e = .returned (.bool true) ∧ Gr w w' := by
  have HAw := Lib.hid (fun W => awake_any W)
  have HFe := Lib.hid (fun W (hW : Gr w W) => few_any N L s W (hN.gr hW) (hL.gr hW) (h.gr hW))
  rw [hf] at HFe
  clear hN hL h hf
  unfold Ba.netVal at *
  generalize N.A = nA at *; generalize N.n = nn at *; generalize N.c = nc at *; generalize L.A = lA at *; generalize L.n = ln at *; generalize L.c = lc at *; generalize s.A = sA at *; generalize s.n = sn at *; generalize s.c = sc at *
  go_enter Tryz.func5, Tryz.ntmps5
  go_wp2_with fail
  refine (HAw.out _).mono ?_
  rintro e w1 ⟨rfl, hb⟩
  have g : Gr w w1 := gr_auto
  have q0 := Gr.at (show Gr _ w1 from hb) (show World.cell? _ ⟨w.heap.size, 0, none⟩ = some (.slice nA nn nc) from by simp [go_sem])
  have q1 := Gr.at (show Gr _ w1 from hb) (show World.cell? _ ⟨w.heap.size, 1, none⟩ = some (.slice lA ln lc) from by simp [go_sem])
  clear hb HAw
  go_wp2_with fail
  refine (HFe.out _ g).mono ?_
  rintro e w2 ⟨rfl, hb⟩
  replace q0 := Gr.at hb q0; replace q1 := Gr.at hb q1; replace g := g.trans hb
  clear hb
  go_wp2_with fail
  go_ret
  exact ⟨rfl, g⟩
set_option maxRecDepth 100000 in
set_option maxHeartbeats 4000000 in
theorem kinds_f (N : Ba.SlNode) (L : Ba.SlLink) (s : Al.SlM) (most count : Int) (w : World) (hN : N.At w) (hL : L.At w) (h : s.At w) (hf : Al.fewB N.n L.n s.n (Al.lngB s) = true) (hv : s.vB = false) : Calls Tryz.prog 5 #[Ba.netVal N L, .slice s.A s.n s.c, .int .i64 most, .int .i64 count] w fun e w' => e = .returned (.bool true) ∧ Gr w w' := by
  have HAw := Lib.hid (fun W => awake_any W)
  have HFe := Lib.hid (fun W (hW : Gr w W) => few_any N L s W (hN.gr hW) (hL.gr hW) (h.gr hW))
  rw [hf] at HFe
  have HV := Lib.hid (fun W (hW : Gr w W) => rvalid52_any s W (h.gr hW))
  rw [hv] at HV
  have HLi := Lib.hid (fun W (hW : Gr w W) => Limits_no N L s W (hN.gr hW) (hL.gr hW) (h.gr hW) (by rw [hv, Bool.and_false]))
  have HJu := Lib.hid (fun W (hW : Gr w W) => Jumps_no s most W (h.gr hW) hv)
  have HFr := Lib.hid (fun W (hW : Gr w W) => Frozen_no s count W (h.gr hW) hv)
  clear hN hL h hf hv
  unfold Ba.netVal at *
  generalize N.A = nA at *; generalize N.n = nn at *; generalize N.c = nc at *; generalize L.A = lA at *; generalize L.n = ln at *; generalize L.c = lc at *; generalize s.A = sA at *; generalize s.n = sn at *; generalize s.c = sc at *
  go_enter Tryz.func5, Tryz.ntmps5
  go_wp2_with fail
  refine (HAw.out _).mono ?_
  rintro e w1 ⟨rfl, hb⟩
  have g : Gr w w1 := gr_auto
  have q0 := Gr.at (show Gr _ w1 from hb) (show World.cell? _ ⟨w.heap.size, 0, none⟩ = some (.slice nA nn nc) from by simp [go_sem])
  have q1 := Gr.at (show Gr _ w1 from hb) (show World.cell? _ ⟨w.heap.size, 1, none⟩ = some (.slice lA ln lc) from by simp [go_sem])
  clear hb HAw
  go_wp2_with fail
  refine (HFe.out _ g).mono ?_
  rintro e w2 ⟨rfl, hb⟩
  replace q0 := Gr.at hb q0; replace q1 := Gr.at hb q1; replace g := g.trans hb
  clear hb
  go_wp2_with fail
  refine (HLi.out _ g).mono ?_
  intro e w3 hR; obtain ⟨A1, c1, rfl, hb⟩ := hR.nil; clear hR
  replace q0 := Gr.at hb q0; replace q1 := Gr.at hb q1; replace g := g.trans hb
  clear hb
  go_wp2_with fail
  refine (HJu.out _ g).mono ?_
  intro e w4 hR; obtain ⟨A2, c2, rfl, hb⟩ := hR.nil; clear hR
  replace q0 := Gr.at hb q0; replace q1 := Gr.at hb q1; replace g := g.trans hb
  clear hb
  go_wp2_with fail
  refine (HFr.out _ g).mono ?_
  intro e w5 hR; obtain ⟨A3, c3, rfl, hb⟩ := hR.nil; clear hR
  replace q0 := Gr.at hb q0; replace q1 := Gr.at hb q1; replace g := g.trans hb
  clear hb
  go_wp2_with fail
  refine (HV.out _ g).mono ?_
  rintro e w6 ⟨rfl, hb⟩
  replace q0 := Gr.at hb q0; replace q1 := Gr.at hb q1; replace g := g.trans hb
  clear hb
  go_wp2_with fail
  go_ret
  exact ⟨rfl, g⟩
set_option maxRecDepth 100000 in
set_option maxHeartbeats 4000000 in
theorem kinds_tfff (N : Ba.SlNode) (L : Ba.SlLink) (s : Al.SlM) (most count : Int) (w : World) (hN : N.At w) (hL : L.At w) (h : s.At w) (hf : Al.fewB N.n L.n s.n (Al.lngB s) = true) (hv : s.vB = true) (hn : Ba.netB N L = false) (hj : Al.jmO most = false) (hs : Al.stO count = false) : Calls Tryz.prog 5 #[Ba.netVal N L, .slice s.A s.n s.c, .int .i64 most, .int .i64 count] w fun e w' => e = .returned (.bool true) ∧ Gr w w' := by
  have HAw := Lib.hid (fun W => awake_any W)
  have HFe := Lib.hid (fun W (hW : Gr w W) => few_any N L s W (hN.gr hW) (hL.gr hW) (h.gr hW))
  rw [hf] at HFe
  have HV := Lib.hid (fun W (hW : Gr w W) => rvalid52_any s W (h.gr hW))
  rw [hv] at HV
  have hsn := Al.vB_len hv
  have hvl := (Al.vB_iff s).1 hv
  have HNv := Lib.hid (fun W (hW : Gr w W) => rnetvalid_any N L W (hN.gr hW) (hL.gr hW))
  rw [hn] at HNv
  have HJr := Lib.hid (fun W => rjmp_range most W); have HSr := Lib.hid (fun W => rsam_range count W)
  rw [hj] at HJr; rw [hs] at HSr
  have HSm := Lib.hid (fun r t W hr ht hc => same_yes r t W hr ht hc)
  have HLi := Lib.hid (fun W (hW : Gr w W) => Limits_no N L s W (hN.gr hW) (hL.gr hW) (h.gr hW) (by rw [hn, Bool.false_and]))
  have HJu := Lib.hid (fun W (hW : Gr w W) => Jumps_range s most W (h.gr hW) hv hj)
  have HFr := Lib.hid (fun W (hW : Gr w W) => Frozen_range s count W (h.gr hW) hv hs)
  generalize Al.srt (Al.limC N s.lst) = X1 at *; generalize Al.srt (Al.jmpC most s.lst) = X2 at *; generalize Al.srt (Al.runC count s.lst) = X3 at *
  clear hvl hsn hn hj hs
  clear hN hL h hf hv
  unfold Ba.netVal at *
  generalize N.A = nA at *; generalize N.n = nn at *; generalize N.c = nc at *; generalize L.A = lA at *; generalize L.n = ln at *; generalize L.c = lc at *; generalize s.A = sA at *; generalize s.n = sn at *; generalize s.c = sc at *
  go_enter Tryz.func5, Tryz.ntmps5
  go_wp2_with fail
  refine (HAw.out _).mono ?_
  rintro e w1 ⟨rfl, hb⟩
  have g : Gr w w1 := gr_auto
  have q0 := Gr.at (show Gr _ w1 from hb) (show World.cell? _ ⟨w.heap.size, 0, none⟩ = some (.slice nA nn nc) from by simp [go_sem])
  have q1 := Gr.at (show Gr _ w1 from hb) (show World.cell? _ ⟨w.heap.size, 1, none⟩ = some (.slice lA ln lc) from by simp [go_sem])
  clear hb HAw
  go_wp2_with fail
  refine (HFe.out _ g).mono ?_
  rintro e w2 ⟨rfl, hb⟩
  replace q0 := Gr.at hb q0; replace q1 := Gr.at hb q1; replace g := g.trans hb
  clear hb
  go_wp2_with fail
  refine (HLi.out _ g).mono ?_
  intro e w3 hR; obtain ⟨A1, c1, rfl, hb⟩ := hR.nil; clear hR
  replace q0 := Gr.at hb q0; replace q1 := Gr.at hb q1; replace g := g.trans hb
  clear hb
  go_wp2_with fail
  refine (HJu.out _ g).mono ?_
  intro e w4 hR; obtain ⟨A2, c2, rfl, hb⟩ := hR.nil; clear hR
  replace q0 := Gr.at hb q0; replace q1 := Gr.at hb q1; replace g := g.trans hb
  clear hb
  go_wp2_with fail
  refine (HFr.out _ g).mono ?_
  intro e w5 hR; obtain ⟨A3, c3, rfl, hb⟩ := hR.nil; clear hR
  replace q0 := Gr.at hb q0; replace q1 := Gr.at hb q1; replace g := g.trans hb
  clear hb
  go_wp2_with fail
  refine (HV.out _ g).mono ?_
  rintro e w6 ⟨rfl, hb⟩
  replace q0 := Gr.at hb q0; replace q1 := Gr.at hb q1; replace g := g.trans hb
  clear hb
  go_wp2_with fail
  refine (HNv.out _ g).mono ?_
  rintro e w7 ⟨rfl, hb⟩
  replace q0 := Gr.at hb q0; replace q1 := Gr.at hb q1; replace g := g.trans hb
  clear hb
  go_wp2_with fail
  refine (HJr.out _).mono ?_
  rintro e w8 ⟨rfl, hw⟩; have hb : Gr w7 w8 := hw ▸ Gr.refl _; clear hw
  replace q0 := Gr.at hb q0; replace q1 := Gr.at hb q1; replace g := g.trans hb
  clear hb
  go_wp2_with fail
  refine (HSr.out _).mono ?_
  rintro e w9 ⟨rfl, hw⟩; have hb : Gr w8 w9 := hw ▸ Gr.refl _; clear hw
  replace q0 := Gr.at hb q0; replace q1 := Gr.at hb q1; replace g := g.trans hb
  clear hb
  go_wp2_with fail
  go_ret
  exact ⟨rfl, g⟩
set_option maxRecDepth 100000 in
set_option maxHeartbeats 4000000 in
theorem kinds_tfft (N : Ba.SlNode) (L : Ba.SlLink) (s : Al.SlM) (most count : Int) (w : World) (hN : N.At w) (hL : L.At w) (h : s.At w) (hf : Al.fewB N.n L.n s.n (Al.lngB s) = true) (hv : s.vB = true) (hn : Ba.netB N L = false) (hj : Al.jmO most = false) (hs : Al.stO count = true) : Calls Tryz.prog 5 #[Ba.netVal N L, .slice s.A s.n s.c, .int .i64 most, .int .i64 count] w fun e w' => e = .returned (.bool true) ∧ Gr w w' := by
  have HAw := Lib.hid (fun W => awake_any W)
  have HFe := Lib.hid (fun W (hW : Gr w W) => few_any N L s W (hN.gr hW) (hL.gr hW) (h.gr hW))
  rw [hf] at HFe
  have HV := Lib.hid (fun W (hW : Gr w W) => rvalid52_any s W (h.gr hW))
  rw [hv] at HV
  have hsn := Al.vB_len hv
  have hvl := (Al.vB_iff s).1 hv
  have HNv := Lib.hid (fun W (hW : Gr w W) => rnetvalid_any N L W (hN.gr hW) (hL.gr hW))
  rw [hn] at HNv
  have HJr := Lib.hid (fun W => rjmp_range most W); have HSr := Lib.hid (fun W => rsam_range count W)
  rw [hj] at HJr; rw [hs] at HSr
  have HSm := Lib.hid (fun r t W hr ht hc => same_yes r t W hr ht hc)
  have HLi := Lib.hid (fun W (hW : Gr w W) => Limits_no N L s W (hN.gr hW) (hL.gr hW) (h.gr hW) (by rw [hn, Bool.false_and]))
  have HJu := Lib.hid (fun W (hW : Gr w W) => Jumps_range s most W (h.gr hW) hv hj)
  have HFr := Lib.hid (fun W (hW : Gr w W) => Frozen_ok s count W (h.gr hW) hv hs)
  have RFr := Lib.hid (fun W (hW : Gr w W) => (rruns_any s count W (h.gr hW) hvl (Al.stO_iff.1 hs)).mono fun _ _ q => Al.RetAl.own q)
  generalize Al.srt (Al.limC N s.lst) = X1 at *; generalize Al.srt (Al.jmpC most s.lst) = X2 at *; generalize Al.srt (Al.runC count s.lst) = X3 at *
  clear hvl hsn hn hj hs
  clear hN hL h hf hv
  unfold Ba.netVal at *
  generalize N.A = nA at *; generalize N.n = nn at *; generalize N.c = nc at *; generalize L.A = lA at *; generalize L.n = ln at *; generalize L.c = lc at *; generalize s.A = sA at *; generalize s.n = sn at *; generalize s.c = sc at *
  go_enter Tryz.func5, Tryz.ntmps5
  go_wp2_with fail
  refine (HAw.out _).mono ?_
  rintro e w1 ⟨rfl, hb⟩
  have g : Gr w w1 := gr_auto
  have q0 := Gr.at (show Gr _ w1 from hb) (show World.cell? _ ⟨w.heap.size, 0, none⟩ = some (.slice nA nn nc) from by simp [go_sem])
  have q1 := Gr.at (show Gr _ w1 from hb) (show World.cell? _ ⟨w.heap.size, 1, none⟩ = some (.slice lA ln lc) from by simp [go_sem])
  clear hb HAw
  go_wp2_with fail
  refine (HFe.out _ g).mono ?_
  rintro e w2 ⟨rfl, hb⟩
  replace q0 := Gr.at hb q0; replace q1 := Gr.at hb q1; replace g := g.trans hb
  clear hb
  go_wp2_with fail
  refine (HLi.out _ g).mono ?_
  intro e w3 hR; obtain ⟨A1, c1, rfl, hb⟩ := hR.nil; clear hR
  replace q0 := Gr.at hb q0; replace q1 := Gr.at hb q1; replace g := g.trans hb
  clear hb
  go_wp2_with fail
  refine (HJu.out _ g).mono ?_
  intro e w4 hR; obtain ⟨A2, c2, rfl, hb⟩ := hR.nil; clear hR
  replace q0 := Gr.at hb q0; replace q1 := Gr.at hb q1; replace g := g.trans hb
  clear hb
  go_wp2_with fail
  refine (HFr.out _ g).mono ?_
  intro e w5 hR; obtain ⟨r3, rfl, hr, hc3, hb⟩ := hR.at; clear hR
  replace q0 := Gr.at hb q0; replace q1 := Gr.at hb q1; replace g := g.trans hb
  clear hb
  have HR3 := Lib.hid hr; have HC3 := Lib.hid hc3; clear hr hc3
  go_wp2_with fail
  refine (HV.out _ g).mono ?_
  rintro e w6 ⟨rfl, hb⟩
  replace q0 := Gr.at hb q0; replace q1 := Gr.at hb q1; replace g := g.trans hb
  replace HR3 := Lib.hid (HR3.out.gr hb)
  clear hb
  go_wp2_with fail
  refine (HNv.out _ g).mono ?_
  rintro e w7 ⟨rfl, hb⟩
  replace q0 := Gr.at hb q0; replace q1 := Gr.at hb q1; replace g := g.trans hb
  replace HR3 := Lib.hid (HR3.out.gr hb)
  clear hb
  go_wp2_with fail
  refine (HJr.out _).mono ?_
  rintro e w8 ⟨rfl, hw⟩; have hb : Gr w7 w8 := hw ▸ Gr.refl _; clear hw
  replace q0 := Gr.at hb q0; replace q1 := Gr.at hb q1; replace g := g.trans hb
  replace HR3 := Lib.hid (HR3.out.gr hb)
  clear hb
  go_wp2_with fail
  refine (HSr.out _).mono ?_
  rintro e w9 ⟨rfl, hw⟩; have hb : Gr w8 w9 := hw ▸ Gr.refl _; clear hw
  replace q0 := Gr.at hb q0; replace q1 := Gr.at hb q1; replace g := g.trans hb
  replace HR3 := Lib.hid (HR3.out.gr hb)
  clear hb
  go_wp2_with fail
  refine (RFr.out _ g).mono ?_
  intro e w10 hR; obtain ⟨t3, rfl, ht, hct3, hb⟩ := hR.at; clear hR
  replace q0 := Gr.at hb q0; replace q1 := Gr.at hb q1; replace g := g.trans hb
  replace HR3 := Lib.hid (HR3.out.gr hb)
  clear hb
  have HT3 := Lib.hid ht; have HCT3 := Lib.hid (HC3.out.trans hct3.symm); clear ht hct3 HC3
  go_wp2_with fail
  refine (HSm.out _ _ _ HR3.out HT3.out HCT3.out).mono ?_
  rintro e w11 ⟨rfl, hb⟩
  replace q0 := Gr.at hb q0; replace q1 := Gr.at hb q1; replace g := g.trans hb
  clear hb
  clear HR3 HT3 HCT3
  go_wp2_with fail
  go_ret
  exact ⟨rfl, g⟩
set_option maxRecDepth 100000 in
set_option maxHeartbeats 4000000 in
theorem kinds_tftf (N : Ba.SlNode) (L : Ba.SlLink) (s : Al.SlM) (most count : Int) (w : World) (hN : N.At w) (hL : L.At w) (h : s.At w) (hf : Al.fewB N.n L.n s.n (Al.lngB s) = true) (hv : s.vB = true) (hn : Ba.netB N L = false) (hj : Al.jmO most = true) (hs : Al.stO count = false) : Calls Tryz.prog 5 #[Ba.netVal N L, .slice s.A s.n s.c, .int .i64 most, .int .i64 count] w fun e w' => e = .returned (.bool true) ∧ Gr w w' := by
  have HAw := Lib.hid (fun W => awake_any W)
  have HFe := Lib.hid (fun W (hW : Gr w W) => few_any N L s W (hN.gr hW) (hL.gr hW) (h.gr hW))
  rw [hf] at HFe
  have HV := Lib.hid (fun W (hW : Gr w W) => rvalid52_any s W (h.gr hW))
  rw [hv] at HV
  have hsn := Al.vB_len hv
  have hvl := (Al.vB_iff s).1 hv
  have HNv := Lib.hid (fun W (hW : Gr w W) => rnetvalid_any N L W (hN.gr hW) (hL.gr hW))
  rw [hn] at HNv
  have HJr := Lib.hid (fun W => rjmp_range most W); have HSr := Lib.hid (fun W => rsam_range count W)
  rw [hj] at HJr; rw [hs] at HSr
  have HSm := Lib.hid (fun r t W hr ht hc => same_yes r t W hr ht hc)
  have HLi := Lib.hid (fun W (hW : Gr w W) => Limits_no N L s W (hN.gr hW) (hL.gr hW) (h.gr hW) (by rw [hn, Bool.false_and]))
  have HJu := Lib.hid (fun W (hW : Gr w W) => Jumps_ok s most W (h.gr hW) hv hj)
  have RJu := Lib.hid (fun W (hW : Gr w W) => (rjumps_any s most W (h.gr hW) hvl (Al.jmO_iff.1 hj)).mono fun _ _ q => Al.RetAl.own q)
  have HFr := Lib.hid (fun W (hW : Gr w W) => Frozen_range s count W (h.gr hW) hv hs)
  generalize Al.srt (Al.limC N s.lst) = X1 at *; generalize Al.srt (Al.jmpC most s.lst) = X2 at *; generalize Al.srt (Al.runC count s.lst) = X3 at *
  clear hvl hsn hn hj hs
  clear hN hL h hf hv
  unfold Ba.netVal at *
  generalize N.A = nA at *; generalize N.n = nn at *; generalize N.c = nc at *; generalize L.A = lA at *; generalize L.n = ln at *; generalize L.c = lc at *; generalize s.A = sA at *; generalize s.n = sn at *; generalize s.c = sc at *
  go_enter Tryz.func5, Tryz.ntmps5
  go_wp2_with fail
  refine (HAw.out _).mono ?_
  rintro e w1 ⟨rfl, hb⟩
  have g : Gr w w1 := gr_auto
  have q0 := Gr.at (show Gr _ w1 from hb) (show World.cell? _ ⟨w.heap.size, 0, none⟩ = some (.slice nA nn nc) from by simp [go_sem])
  have q1 := Gr.at (show Gr _ w1 from hb) (show World.cell? _ ⟨w.heap.size, 1, none⟩ = some (.slice lA ln lc) from by simp [go_sem])
  clear hb HAw
  go_wp2_with fail
  refine (HFe.out _ g).mono ?_
  rintro e w2 ⟨rfl, hb⟩
  replace q0 := Gr.at hb q0; replace q1 := Gr.at hb q1; replace g := g.trans hb
  clear hb
  go_wp2_with fail
  refine (HLi.out _ g).mono ?_
  intro e w3 hR; obtain ⟨A1, c1, rfl, hb⟩ := hR.nil; clear hR
  replace q0 := Gr.at hb q0; replace q1 := Gr.at hb q1; replace g := g.trans hb
  clear hb
  go_wp2_with fail
  refine (HJu.out _ g).mono ?_
  intro e w4 hR; obtain ⟨r2, rfl, hr, hc2, hb⟩ := hR.at; clear hR
  replace q0 := Gr.at hb q0; replace q1 := Gr.at hb q1; replace g := g.trans hb
  clear hb
  have HR2 := Lib.hid hr; have HC2 := Lib.hid hc2; clear hr hc2
  go_wp2_with fail
  refine (HFr.out _ g).mono ?_
  intro e w5 hR; obtain ⟨A3, c3, rfl, hb⟩ := hR.nil; clear hR
  replace q0 := Gr.at hb q0; replace q1 := Gr.at hb q1; replace g := g.trans hb
  replace HR2 := Lib.hid (HR2.out.gr hb)
  clear hb
  go_wp2_with fail
  refine (HV.out _ g).mono ?_
  rintro e w6 ⟨rfl, hb⟩
  replace q0 := Gr.at hb q0; replace q1 := Gr.at hb q1; replace g := g.trans hb
  replace HR2 := Lib.hid (HR2.out.gr hb)
  clear hb
  go_wp2_with fail
  refine (HNv.out _ g).mono ?_
  rintro e w7 ⟨rfl, hb⟩
  replace q0 := Gr.at hb q0; replace q1 := Gr.at hb q1; replace g := g.trans hb
  replace HR2 := Lib.hid (HR2.out.gr hb)
  clear hb
  go_wp2_with fail
  refine (HJr.out _).mono ?_
  rintro e w8 ⟨rfl, hw⟩; have hb : Gr w7 w8 := hw ▸ Gr.refl _; clear hw
  replace q0 := Gr.at hb q0; replace q1 := Gr.at hb q1; replace g := g.trans hb
  replace HR2 := Lib.hid (HR2.out.gr hb)
  clear hb
  go_wp2_with fail
  refine (RJu.out _ g).mono ?_
  intro e w9 hR; obtain ⟨t2, rfl, ht, hct2, hb⟩ := hR.at; clear hR
  replace q0 := Gr.at hb q0; replace q1 := Gr.at hb q1; replace g := g.trans hb
  replace HR2 := Lib.hid (HR2.out.gr hb)
  clear hb
  have HT2 := Lib.hid ht; have HCT2 := Lib.hid (HC2.out.trans hct2.symm); clear ht hct2 HC2
  go_wp2_with fail
  refine (HSm.out _ _ _ HR2.out HT2.out HCT2.out).mono ?_
  rintro e w10 ⟨rfl, hb⟩
  replace q0 := Gr.at hb q0; replace q1 := Gr.at hb q1; replace g := g.trans hb
  clear hb
  clear HR2 HT2 HCT2
  go_wp2_with fail
  refine (HSr.out _).mono ?_
  rintro e w11 ⟨rfl, hw⟩; have hb : Gr w10 w11 := hw ▸ Gr.refl _; clear hw
  replace q0 := Gr.at hb q0; replace q1 := Gr.at hb q1; replace g := g.trans hb
  clear hb
  go_wp2_with fail
  go_ret
  exact ⟨rfl, g⟩
set_option maxRecDepth 100000 in
set_option maxHeartbeats 4000000 in
theorem kinds_tftt (N : Ba.SlNode) (L : Ba.SlLink) (s : Al.SlM) (most count : Int) (w : World) (hN : N.At w) (hL : L.At w) (h : s.At w) (hf : Al.fewB N.n L.n s.n (Al.lngB s) = true) (hv : s.vB = true) (hn : Ba.netB N L = false) (hj : Al.jmO most = true) (hs : Al.stO count = true) : Calls Tryz.prog 5 #[Ba.netVal N L, .slice s.A s.n s.c, .int .i64 most, .int .i64 count] w fun e w' => e = .returned (.bool true) ∧ Gr w w' := by
  have HAw := Lib.hid (fun W => awake_any W)
  have HFe := Lib.hid (fun W (hW : Gr w W) => few_any N L s W (hN.gr hW) (hL.gr hW) (h.gr hW))
  rw [hf] at HFe
  have HV := Lib.hid (fun W (hW : Gr w W) => rvalid52_any s W (h.gr hW))
  rw [hv] at HV
  have hsn := Al.vB_len hv
  have hvl := (Al.vB_iff s).1 hv
  have HNv := Lib.hid (fun W (hW : Gr w W) => rnetvalid_any N L W (hN.gr hW) (hL.gr hW))
  rw [hn] at HNv
  have HJr := Lib.hid (fun W => rjmp_range most W); have HSr := Lib.hid (fun W => rsam_range count W)
  rw [hj] at HJr; rw [hs] at HSr
  have HSm := Lib.hid (fun r t W hr ht hc => same_yes r t W hr ht hc)
  have HLi := Lib.hid (fun W (hW : Gr w W) => Limits_no N L s W (hN.gr hW) (hL.gr hW) (h.gr hW) (by rw [hn, Bool.false_and]))
  have HJu := Lib.hid (fun W (hW : Gr w W) => Jumps_ok s most W (h.gr hW) hv hj)
  have RJu := Lib.hid (fun W (hW : Gr w W) => (rjumps_any s most W (h.gr hW) hvl (Al.jmO_iff.1 hj)).mono fun _ _ q => Al.RetAl.own q)
  have HFr := Lib.hid (fun W (hW : Gr w W) => Frozen_ok s count W (h.gr hW) hv hs)
  have RFr := Lib.hid (fun W (hW : Gr w W) => (rruns_any s count W (h.gr hW) hvl (Al.stO_iff.1 hs)).mono fun _ _ q => Al.RetAl.own q)
  generalize Al.srt (Al.limC N s.lst) = X1 at *; generalize Al.srt (Al.jmpC most s.lst) = X2 at *; generalize Al.srt (Al.runC count s.lst) = X3 at *
  clear hvl hsn hn hj hs
  clear hN hL h hf hv
  unfold Ba.netVal at *
  generalize N.A = nA at *; generalize N.n = nn at *; generalize N.c = nc at *; generalize L.A = lA at *; generalize L.n = ln at *; generalize L.c = lc at *; generalize s.A = sA at *; generalize s.n = sn at *; generalize s.c = sc at *
  go_enter Tryz.func5, Tryz.ntmps5
  go_wp2_with fail
  refine (HAw.out _).mono ?_
  rintro e w1 ⟨rfl, hb⟩
  have g : Gr w w1 := gr_auto
  have q0 := Gr.at (show Gr _ w1 from hb) (show World.cell? _ ⟨w.heap.size, 0, none⟩ = some (.slice nA nn nc) from by simp [go_sem])
  have q1 := Gr.at (show Gr _ w1 from hb) (show World.cell? _ ⟨w.heap.size, 1, none⟩ = some (.slice lA ln lc) from by simp [go_sem])
  clear hb HAw
  go_wp2_with fail
  refine (HFe.out _ g).mono ?_
  rintro e w2 ⟨rfl, hb⟩
  replace q0 := Gr.at hb q0; replace q1 := Gr.at hb q1; replace g := g.trans hb
  clear hb
  go_wp2_with fail
  refine (HLi.out _ g).mono ?_
  intro e w3 hR; obtain ⟨A1, c1, rfl, hb⟩ := hR.nil; clear hR
  replace q0 := Gr.at hb q0; replace q1 := Gr.at hb q1; replace g := g.trans hb
  clear hb
  go_wp2_with fail
  refine (HJu.out _ g).mono ?_
  intro e w4 hR; obtain ⟨r2, rfl, hr, hc2, hb⟩ := hR.at; clear hR
  replace q0 := Gr.at hb q0; replace q1 := Gr.at hb q1; replace g := g.trans hb
  clear hb
  have HR2 := Lib.hid hr; have HC2 := Lib.hid hc2; clear hr hc2
  go_wp2_with fail
  refine (HFr.out _ g).mono ?_
  intro e w5 hR; obtain ⟨r3, rfl, hr, hc3, hb⟩ := hR.at; clear hR
  replace q0 := Gr.at hb q0; replace q1 := Gr.at hb q1; replace g := g.trans hb
  replace HR2 := Lib.hid (HR2.out.gr hb)
  clear hb
  have HR3 := Lib.hid hr; have HC3 := Lib.hid hc3; clear hr hc3
  go_wp2_with fail
  refine (HV.out _ g).mono ?_
  rintro e w6 ⟨rfl, hb⟩
  replace q0 := Gr.at hb q0; replace q1 := Gr.at hb q1; replace g := g.trans hb
  replace HR2 := Lib.hid (HR2.out.gr hb)
  replace HR3 := Lib.hid (HR3.out.gr hb)
  clear hb
  go_wp2_with fail
  refine (HNv.out _ g).mono ?_
  rintro e w7 ⟨rfl, hb⟩
  replace q0 := Gr.at hb q0; replace q1 := Gr.at hb q1; replace g := g.trans hb
  replace HR2 := Lib.hid (HR2.out.gr hb)
  replace HR3 := Lib.hid (HR3.out.gr hb)
  clear hb
  go_wp2_with fail
  refine (HJr.out _).mono ?_
  rintro e w8 ⟨rfl, hw⟩; have hb : Gr w7 w8 := hw ▸ Gr.refl _; clear hw
  replace q0 := Gr.at hb q0; replace q1 := Gr.at hb q1; replace g := g.trans hb
  replace HR2 := Lib.hid (HR2.out.gr hb)
  replace HR3 := Lib.hid (HR3.out.gr hb)
  clear hb
  go_wp2_with fail
  refine (RJu.out _ g).mono ?_
  intro e w9 hR; obtain ⟨t2, rfl, ht, hct2, hb⟩ := hR.at; clear hR
  replace q0 := Gr.at hb q0; replace q1 := Gr.at hb q1; replace g := g.trans hb
  replace HR2 := Lib.hid (HR2.out.gr hb)
  replace HR3 := Lib.hid (HR3.out.gr hb)
  clear hb
  have HT2 := Lib.hid ht; have HCT2 := Lib.hid (HC2.out.trans hct2.symm); clear ht hct2 HC2
  go_wp2_with fail
  refine (HSm.out _ _ _ HR2.out HT2.out HCT2.out).mono ?_
  rintro e w10 ⟨rfl, hb⟩
  replace q0 := Gr.at hb q0; replace q1 := Gr.at hb q1; replace g := g.trans hb
  replace HR3 := Lib.hid (HR3.out.gr hb)
  clear hb
  clear HR2 HT2 HCT2
  go_wp2_with fail
  refine (HSr.out _).mono ?_
  rintro e w11 ⟨rfl, hw⟩; have hb : Gr w10 w11 := hw ▸ Gr.refl _; clear hw
  replace q0 := Gr.at hb q0; replace q1 := Gr.at hb q1; replace g := g.trans hb
  replace HR3 := Lib.hid (HR3.out.gr hb)
  clear hb
  go_wp2_with fail
  refine (RFr.out _ g).mono ?_
  intro e w12 hR; obtain ⟨t3, rfl, ht, hct3, hb⟩ := hR.at; clear hR
  replace q0 := Gr.at hb q0; replace q1 := Gr.at hb q1; replace g := g.trans hb
  replace HR3 := Lib.hid (HR3.out.gr hb)
  clear hb
  have HT3 := Lib.hid ht; have HCT3 := Lib.hid (HC3.out.trans hct3.symm); clear ht hct3 HC3
  go_wp2_with fail
  refine (HSm.out _ _ _ HR3.out HT3.out HCT3.out).mono ?_
  rintro e w13 ⟨rfl, hb⟩
  replace q0 := Gr.at hb q0; replace q1 := Gr.at hb q1; replace g := g.trans hb
  clear hb
  clear HR3 HT3 HCT3
  go_wp2_with fail
  go_ret
  exact ⟨rfl, g⟩
set_option maxRecDepth 100000 in
set_option maxHeartbeats 4000000 in
theorem kinds_ttff (N : Ba.SlNode) (L : Ba.SlLink) (s : Al.SlM) (most count : Int) (w : World) (hN : N.At w) (hL : L.At w) (h : s.At w) (hf : Al.fewB N.n L.n s.n (Al.lngB s) = true) (hv : s.vB = true) (hn : Ba.netB N L = true) (hj : Al.jmO most = false) (hs : Al.stO count = false) : Calls Tryz.prog 5 #[Ba.netVal N L, .slice s.A s.n s.c, .int .i64 most, .int .i64 count] w fun e w' => e = .returned (.bool true) ∧ Gr w w' := by
  have HAw := Lib.hid (fun W => awake_any W)
  have HFe := Lib.hid (fun W (hW : Gr w W) => few_any N L s W (hN.gr hW) (hL.gr hW) (h.gr hW))
  rw [hf] at HFe
  have HV := Lib.hid (fun W (hW : Gr w W) => rvalid52_any s W (h.gr hW))
  rw [hv] at HV
  have hsn := Al.vB_len hv
  have hvl := (Al.vB_iff s).1 hv
  have HNv := Lib.hid (fun W (hW : Gr w W) => rnetvalid_any N L W (hN.gr hW) (hL.gr hW))
  rw [hn] at HNv
  have HJr := Lib.hid (fun W => rjmp_range most W); have HSr := Lib.hid (fun W => rsam_range count W)
  rw [hj] at HJr; rw [hs] at HSr
  have HSm := Lib.hid (fun r t W hr ht hc => same_yes r t W hr ht hc)
  have HLi := Lib.hid (fun W (hW : Gr w W) => Limits_ok N L s W (hN.gr hW) (hL.gr hW) (h.gr hW) (by rw [hv, hn]; rfl))
  have RLi := Lib.hid (fun W (hW : Gr w W) => (rlimits_any N L s W (hN.gr hW) (hL.gr hW) (h.gr hW) hsn).mono fun _ _ q => Al.RetAl.own q)
  have HJu := Lib.hid (fun W (hW : Gr w W) => Jumps_range s most W (h.gr hW) hv hj)
  have HFr := Lib.hid (fun W (hW : Gr w W) => Frozen_range s count W (h.gr hW) hv hs)
  generalize Al.srt (Al.limC N s.lst) = X1 at *; generalize Al.srt (Al.jmpC most s.lst) = X2 at *; generalize Al.srt (Al.runC count s.lst) = X3 at *
  clear hvl hsn hn hj hs
  clear hN hL h hf hv
  unfold Ba.netVal at *
  generalize N.A = nA at *; generalize N.n = nn at *; generalize N.c = nc at *; generalize L.A = lA at *; generalize L.n = ln at *; generalize L.c = lc at *; generalize s.A = sA at *; generalize s.n = sn at *; generalize s.c = sc at *
  go_enter Tryz.func5, Tryz.ntmps5
  go_wp2_with fail
  refine (HAw.out _).mono ?_
  rintro e w1 ⟨rfl, hb⟩
  have g : Gr w w1 := gr_auto
  have q0 := Gr.at (show Gr _ w1 from hb) (show World.cell? _ ⟨w.heap.size, 0, none⟩ = some (.slice nA nn nc) from by simp [go_sem])
  have q1 := Gr.at (show Gr _ w1 from hb) (show World.cell? _ ⟨w.heap.size, 1, none⟩ = some (.slice lA ln lc) from by simp [go_sem])
  clear hb HAw
  go_wp2_with fail
  refine (HFe.out _ g).mono ?_
  rintro e w2 ⟨rfl, hb⟩
  replace q0 := Gr.at hb q0; replace q1 := Gr.at hb q1; replace g := g.trans hb
  clear hb
  go_wp2_with fail
  refine (HLi.out _ g).mono ?_
  intro e w3 hR; obtain ⟨r1, rfl, hr, hc1, hb⟩ := hR.at; clear hR
  replace q0 := Gr.at hb q0; replace q1 := Gr.at hb q1; replace g := g.trans hb
  clear hb
  have HR1 := Lib.hid hr; have HC1 := Lib.hid hc1; clear hr hc1
  go_wp2_with fail
  refine (HJu.out _ g).mono ?_
  intro e w4 hR; obtain ⟨A2, c2, rfl, hb⟩ := hR.nil; clear hR
  replace q0 := Gr.at hb q0; replace q1 := Gr.at hb q1; replace g := g.trans hb
  replace HR1 := Lib.hid (HR1.out.gr hb)
  clear hb
  go_wp2_with fail
  refine (HFr.out _ g).mono ?_
  intro e w5 hR; obtain ⟨A3, c3, rfl, hb⟩ := hR.nil; clear hR
  replace q0 := Gr.at hb q0; replace q1 := Gr.at hb q1; replace g := g.trans hb
  replace HR1 := Lib.hid (HR1.out.gr hb)
  clear hb
  go_wp2_with fail
  refine (HV.out _ g).mono ?_
  rintro e w6 ⟨rfl, hb⟩
  replace q0 := Gr.at hb q0; replace q1 := Gr.at hb q1; replace g := g.trans hb
  replace HR1 := Lib.hid (HR1.out.gr hb)
  clear hb
  go_wp2_with fail
  refine (HNv.out _ g).mono ?_
  rintro e w7 ⟨rfl, hb⟩
  replace q0 := Gr.at hb q0; replace q1 := Gr.at hb q1; replace g := g.trans hb
  replace HR1 := Lib.hid (HR1.out.gr hb)
  clear hb
  go_wp2_with fail
  refine (RLi.out _ g).mono ?_
  intro e w8 hR; obtain ⟨t1, rfl, ht, hct1, hb⟩ := hR.at; clear hR
  replace q0 := Gr.at hb q0; replace q1 := Gr.at hb q1; replace g := g.trans hb
  replace HR1 := Lib.hid (HR1.out.gr hb)
  clear hb
  have HT1 := Lib.hid ht; have HCT1 := Lib.hid (HC1.out.trans hct1.symm); clear ht hct1 HC1
  go_wp2_with fail
  refine (HSm.out _ _ _ HR1.out HT1.out HCT1.out).mono ?_
  rintro e w9 ⟨rfl, hb⟩
  replace q0 := Gr.at hb q0; replace q1 := Gr.at hb q1; replace g := g.trans hb
  clear hb
  clear HR1 HT1 HCT1
  go_wp2_with fail
  refine (HJr.out _).mono ?_
  rintro e w10 ⟨rfl, hw⟩; have hb : Gr w9 w10 := hw ▸ Gr.refl _; clear hw
  replace q0 := Gr.at hb q0; replace q1 := Gr.at hb q1; replace g := g.trans hb
  clear hb
  go_wp2_with fail
  refine (HSr.out _).mono ?_
  rintro e w11 ⟨rfl, hw⟩; have hb : Gr w10 w11 := hw ▸ Gr.refl _; clear hw
  replace q0 := Gr.at hb q0; replace q1 := Gr.at hb q1; replace g := g.trans hb
  clear hb
  go_wp2_with fail
  go_ret
  exact ⟨rfl, g⟩
set_option maxRecDepth 100000 in
set_option maxHeartbeats 4000000 in
theorem kinds_ttft (N : Ba.SlNode) (L : Ba.SlLink) (s : Al.SlM) (most count : Int) (w : World) (hN : N.At w) (hL : L.At w) (h : s.At w) (hf : Al.fewB N.n L.n s.n (Al.lngB s) = true) (hv : s.vB = true) (hn : Ba.netB N L = true) (hj : Al.jmO most = false) (hs : Al.stO count = true) : Calls Tryz.prog 5 #[Ba.netVal N L, .slice s.A s.n s.c, .int .i64 most, .int .i64 count] w fun e w' => e = .returned (.bool true) ∧ Gr w w' := by
  have HAw := Lib.hid (fun W => awake_any W)
  have HFe := Lib.hid (fun W (hW : Gr w W) => few_any N L s W (hN.gr hW) (hL.gr hW) (h.gr hW))
  rw [hf] at HFe
  have HV := Lib.hid (fun W (hW : Gr w W) => rvalid52_any s W (h.gr hW))
  rw [hv] at HV
  have hsn := Al.vB_len hv
  have hvl := (Al.vB_iff s).1 hv
  have HNv := Lib.hid (fun W (hW : Gr w W) => rnetvalid_any N L W (hN.gr hW) (hL.gr hW))
  rw [hn] at HNv
  have HJr := Lib.hid (fun W => rjmp_range most W); have HSr := Lib.hid (fun W => rsam_range count W)
  rw [hj] at HJr; rw [hs] at HSr
  have HSm := Lib.hid (fun r t W hr ht hc => same_yes r t W hr ht hc)
  have HLi := Lib.hid (fun W (hW : Gr w W) => Limits_ok N L s W (hN.gr hW) (hL.gr hW) (h.gr hW) (by rw [hv, hn]; rfl))
  have RLi := Lib.hid (fun W (hW : Gr w W) => (rlimits_any N L s W (hN.gr hW) (hL.gr hW) (h.gr hW) hsn).mono fun _ _ q => Al.RetAl.own q)
  have HJu := Lib.hid (fun W (hW : Gr w W) => Jumps_range s most W (h.gr hW) hv hj)
  have HFr := Lib.hid (fun W (hW : Gr w W) => Frozen_ok s count W (h.gr hW) hv hs)
  have RFr := Lib.hid (fun W (hW : Gr w W) => (rruns_any s count W (h.gr hW) hvl (Al.stO_iff.1 hs)).mono fun _ _ q => Al.RetAl.own q)
  generalize Al.srt (Al.limC N s.lst) = X1 at *; generalize Al.srt (Al.jmpC most s.lst) = X2 at *; generalize Al.srt (Al.runC count s.lst) = X3 at *
  clear hvl hsn hn hj hs
  clear hN hL h hf hv
  unfold Ba.netVal at *
  generalize N.A = nA at *; generalize N.n = nn at *; generalize N.c = nc at *; generalize L.A = lA at *; generalize L.n = ln at *; generalize L.c = lc at *; generalize s.A = sA at *; generalize s.n = sn at *; generalize s.c = sc at *
  go_enter Tryz.func5, Tryz.ntmps5
  go_wp2_with fail
  refine (HAw.out _).mono ?_
  rintro e w1 ⟨rfl, hb⟩
  have g : Gr w w1 := gr_auto
  have q0 := Gr.at (show Gr _ w1 from hb) (show World.cell? _ ⟨w.heap.size, 0, none⟩ = some (.slice nA nn nc) from by simp [go_sem])
  have q1 := Gr.at (show Gr _ w1 from hb) (show World.cell? _ ⟨w.heap.size, 1, none⟩ = some (.slice lA ln lc) from by simp [go_sem])
  clear hb HAw
  go_wp2_with fail
  refine (HFe.out _ g).mono ?_
  rintro e w2 ⟨rfl, hb⟩
  replace q0 := Gr.at hb q0; replace q1 := Gr.at hb q1; replace g := g.trans hb
  clear hb
  go_wp2_with fail
  refine (HLi.out _ g).mono ?_
  intro e w3 hR; obtain ⟨r1, rfl, hr, hc1, hb⟩ := hR.at; clear hR
  replace q0 := Gr.at hb q0; replace q1 := Gr.at hb q1; replace g := g.trans hb
  clear hb
  have HR1 := Lib.hid hr; have HC1 := Lib.hid hc1; clear hr hc1
  go_wp2_with fail
  refine (HJu.out _ g).mono ?_
  intro e w4 hR; obtain ⟨A2, c2, rfl, hb⟩ := hR.nil; clear hR
  replace q0 := Gr.at hb q0; replace q1 := Gr.at hb q1; replace g := g.trans hb
  replace HR1 := Lib.hid (HR1.out.gr hb)
  clear hb
  go_wp2_with fail
  refine (HFr.out _ g).mono ?_
  intro e w5 hR; obtain ⟨r3, rfl, hr, hc3, hb⟩ := hR.at; clear hR
  replace q0 := Gr.at hb q0; replace q1 := Gr.at hb q1; replace g := g.trans hb
  replace HR1 := Lib.hid (HR1.out.gr hb)
  clear hb
  have HR3 := Lib.hid hr; have HC3 := Lib.hid hc3; clear hr hc3
  go_wp2_with fail
  refine (HV.out _ g).mono ?_
  rintro e w6 ⟨rfl, hb⟩
  replace q0 := Gr.at hb q0; replace q1 := Gr.at hb q1; replace g := g.trans hb
  replace HR1 := Lib.hid (HR1.out.gr hb)
  replace HR3 := Lib.hid (HR3.out.gr hb)
  clear hb
  go_wp2_with fail
  refine (HNv.out _ g).mono ?_
  rintro e w7 ⟨rfl, hb⟩
  replace q0 := Gr.at hb q0; replace q1 := Gr.at hb q1; replace g := g.trans hb
  replace HR1 := Lib.hid (HR1.out.gr hb)
  replace HR3 := Lib.hid (HR3.out.gr hb)
  clear hb
  go_wp2_with fail
  refine (RLi.out _ g).mono ?_
  intro e w8 hR; obtain ⟨t1, rfl, ht, hct1, hb⟩ := hR.at; clear hR
  replace q0 := Gr.at hb q0; replace q1 := Gr.at hb q1; replace g := g.trans hb
  replace HR1 := Lib.hid (HR1.out.gr hb)
  replace HR3 := Lib.hid (HR3.out.gr hb)
  clear hb
  have HT1 := Lib.hid ht; have HCT1 := Lib.hid (HC1.out.trans hct1.symm); clear ht hct1 HC1
  go_wp2_with fail
  refine (HSm.out _ _ _ HR1.out HT1.out HCT1.out).mono ?_
  rintro e w9 ⟨rfl, hb⟩
  replace q0 := Gr.at hb q0; replace q1 := Gr.at hb q1; replace g := g.trans hb
  replace HR3 := Lib.hid (HR3.out.gr hb)
  clear hb
  clear HR1 HT1 HCT1
  go_wp2_with fail
  refine (HJr.out _).mono ?_
  rintro e w10 ⟨rfl, hw⟩; have hb : Gr w9 w10 := hw ▸ Gr.refl _; clear hw
  replace q0 := Gr.at hb q0; replace q1 := Gr.at hb q1; replace g := g.trans hb
  replace HR3 := Lib.hid (HR3.out.gr hb)
  clear hb
  go_wp2_with fail
  refine (HSr.out _).mono ?_
  rintro e w11 ⟨rfl, hw⟩; have hb : Gr w10 w11 := hw ▸ Gr.refl _; clear hw
  replace q0 := Gr.at hb q0; replace q1 := Gr.at hb q1; replace g := g.trans hb
  replace HR3 := Lib.hid (HR3.out.gr hb)
  clear hb
  go_wp2_with fail
  refine (RFr.out _ g).mono ?_
  intro e w12 hR; obtain ⟨t3, rfl, ht, hct3, hb⟩ := hR.at; clear hR
  replace q0 := Gr.at hb q0; replace q1 := Gr.at hb q1; replace g := g.trans hb
  replace HR3 := Lib.hid (HR3.out.gr hb)
  clear hb
  have HT3 := Lib.hid ht; have HCT3 := Lib.hid (HC3.out.trans hct3.symm); clear ht hct3 HC3
  go_wp2_with fail
  refine (HSm.out _ _ _ HR3.out HT3.out HCT3.out).mono ?_
  rintro e w13 ⟨rfl, hb⟩
  replace q0 := Gr.at hb q0; replace q1 := Gr.at hb q1; replace g := g.trans hb
  clear hb
  clear HR3 HT3 HCT3
  go_wp2_with fail
  go_ret
  exact ⟨rfl, g⟩
set_option maxRecDepth 100000 in
set_option maxHeartbeats 4000000 in
theorem kinds_tttf (N : Ba.SlNode) (L : Ba.SlLink) (s : Al.SlM) (most count : Int) (w : World) (hN : N.At w) (hL : L.At w) (h : s.At w) (hf : Al.fewB N.n L.n s.n (Al.lngB s) = true) (hv : s.vB = true) (hn : Ba.netB N L = true) (hj : Al.jmO most = true) (hs : Al.stO count = false) : Calls Tryz.prog 5 #[Ba.netVal N L, .slice s.A s.n s.c, .int .i64 most, .int .i64 count] w fun e w' => e = .returned (.bool true) ∧ Gr w w' := by
  have HAw := Lib.hid (fun W => awake_any W)
  have HFe := Lib.hid (fun W (hW : Gr w W) => few_any N L s W (hN.gr hW) (hL.gr hW) (h.gr hW))
  rw [hf] at HFe
  have HV := Lib.hid (fun W (hW : Gr w W) => rvalid52_any s W (h.gr hW))
  rw [hv] at HV
  have hsn := Al.vB_len hv
  have hvl := (Al.vB_iff s).1 hv
  have HNv := Lib.hid (fun W (hW : Gr w W) => rnetvalid_any N L W (hN.gr hW) (hL.gr hW))
  rw [hn] at HNv
  have HJr := Lib.hid (fun W => rjmp_range most W); have HSr := Lib.hid (fun W => rsam_range count W)
  rw [hj] at HJr; rw [hs] at HSr
  have HSm := Lib.hid (fun r t W hr ht hc => same_yes r t W hr ht hc)
  have HLi := Lib.hid (fun W (hW : Gr w W) => Limits_ok N L s W (hN.gr hW) (hL.gr hW) (h.gr hW) (by rw [hv, hn]; rfl))
  have RLi := Lib.hid (fun W (hW : Gr w W) => (rlimits_any N L s W (hN.gr hW) (hL.gr hW) (h.gr hW) hsn).mono fun _ _ q => Al.RetAl.own q)
  have HJu := Lib.hid (fun W (hW : Gr w W) => Jumps_ok s most W (h.gr hW) hv hj)
  have RJu := Lib.hid (fun W (hW : Gr w W) => (rjumps_any s most W (h.gr hW) hvl (Al.jmO_iff.1 hj)).mono fun _ _ q => Al.RetAl.own q)
  have HFr := Lib.hid (fun W (hW : Gr w W) => Frozen_range s count W (h.gr hW) hv hs)
  generalize Al.srt (Al.limC N s.lst) = X1 at *; generalize Al.srt (Al.jmpC most s.lst) = X2 at *; generalize Al.srt (Al.runC count s.lst) = X3 at *
  clear hvl hsn hn hj hs
  clear hN hL h hf hv
  unfold Ba.netVal at *
  generalize N.A = nA at *; generalize N.n = nn at *; generalize N.c = nc at *; generalize L.A = lA at *; generalize L.n = ln at *; generalize L.c = lc at *; generalize s.A = sA at *; generalize s.n = sn at *; generalize s.c = sc at *
  go_enter Tryz.func5, Tryz.ntmps5
  go_wp2_with fail
  refine (HAw.out _).mono ?_
  rintro e w1 ⟨rfl, hb⟩
  have g : Gr w w1 := gr_auto
  have q0 := Gr.at (show Gr _ w1 from hb) (show World.cell? _ ⟨w.heap.size, 0, none⟩ = some (.slice nA nn nc) from by simp [go_sem])
  have q1 := Gr.at (show Gr _ w1 from hb) (show World.cell? _ ⟨w.heap.size, 1, none⟩ = some (.slice lA ln lc) from by simp [go_sem])
  clear hb HAw
  go_wp2_with fail
  refine (HFe.out _ g).mono ?_
  rintro e w2 ⟨rfl, hb⟩
  replace q0 := Gr.at hb q0; replace q1 := Gr.at hb q1; replace g := g.trans hb
  clear hb
  go_wp2_with fail
  refine (HLi.out _ g).mono ?_
  intro e w3 hR; obtain ⟨r1, rfl, hr, hc1, hb⟩ := hR.at; clear hR
  replace q0 := Gr.at hb q0; replace q1 := Gr.at hb q1; replace g := g.trans hb
  clear hb
  have HR1 := Lib.hid hr; have HC1 := Lib.hid hc1; clear hr hc1
  go_wp2_with fail
  refine (HJu.out _ g).mono ?_
  intro e w4 hR; obtain ⟨r2, rfl, hr, hc2, hb⟩ := hR.at; clear hR
  replace q0 := Gr.at hb q0; replace q1 := Gr.at hb q1; replace g := g.trans hb
  replace HR1 := Lib.hid (HR1.out.gr hb)
  clear hb
  have HR2 := Lib.hid hr; have HC2 := Lib.hid hc2; clear hr hc2
  go_wp2_with fail
  refine (HFr.out _ g).mono ?_
  intro e w5 hR; obtain ⟨A3, c3, rfl, hb⟩ := hR.nil; clear hR
  replace q0 := Gr.at hb q0; replace q1 := Gr.at hb q1; replace g := g.trans hb
  replace HR1 := Lib.hid (HR1.out.gr hb)
  replace HR2 := Lib.hid (HR2.out.gr hb)
  clear hb
  go_wp2_with fail
  refine (HV.out _ g).mono ?_
  rintro e w6 ⟨rfl, hb⟩
  replace q0 := Gr.at hb q0; replace q1 := Gr.at hb q1; replace g := g.trans hb
  replace HR1 := Lib.hid (HR1.out.gr hb)
  replace HR2 := Lib.hid (HR2.out.gr hb)
  clear hb
  go_wp2_with fail
  refine (HNv.out _ g).mono ?_
  rintro e w7 ⟨rfl, hb⟩
  replace q0 := Gr.at hb q0; replace q1 := Gr.at hb q1; replace g := g.trans hb
  replace HR1 := Lib.hid (HR1.out.gr hb)
  replace HR2 := Lib.hid (HR2.out.gr hb)
  clear hb
  go_wp2_with fail
  refine (RLi.out _ g).mono ?_
  intro e w8 hR; obtain ⟨t1, rfl, ht, hct1, hb⟩ := hR.at; clear hR
  replace q0 := Gr.at hb q0; replace q1 := Gr.at hb q1; replace g := g.trans hb
  replace HR1 := Lib.hid (HR1.out.gr hb)
  replace HR2 := Lib.hid (HR2.out.gr hb)
  clear hb
  have HT1 := Lib.hid ht; have HCT1 := Lib.hid (HC1.out.trans hct1.symm); clear ht hct1 HC1
  go_wp2_with fail
  refine (HSm.out _ _ _ HR1.out HT1.out HCT1.out).mono ?_
  rintro e w9 ⟨rfl, hb⟩
  replace q0 := Gr.at hb q0; replace q1 := Gr.at hb q1; replace g := g.trans hb
  replace HR2 := Lib.hid (HR2.out.gr hb)
  clear hb
  clear HR1 HT1 HCT1
  go_wp2_with fail
  refine (HJr.out _).mono ?_
  rintro e w10 ⟨rfl, hw⟩; have hb : Gr w9 w10 := hw ▸ Gr.refl _; clear hw
  replace q0 := Gr.at hb q0; replace q1 := Gr.at hb q1; replace g := g.trans hb
  replace HR2 := Lib.hid (HR2.out.gr hb)
  clear hb
  go_wp2_with fail
  refine (RJu.out _ g).mono ?_
  intro e w11 hR; obtain ⟨t2, rfl, ht, hct2, hb⟩ := hR.at; clear hR
  replace q0 := Gr.at hb q0; replace q1 := Gr.at hb q1; replace g := g.trans hb
  replace HR2 := Lib.hid (HR2.out.gr hb)
  clear hb
  have HT2 := Lib.hid ht; have HCT2 := Lib.hid (HC2.out.trans hct2.symm); clear ht hct2 HC2
  go_wp2_with fail
  refine (HSm.out _ _ _ HR2.out HT2.out HCT2.out).mono ?_
  rintro e w12 ⟨rfl, hb⟩
  replace q0 := Gr.at hb q0; replace q1 := Gr.at hb q1; replace g := g.trans hb
  clear hb
  clear HR2 HT2 HCT2
  go_wp2_with fail
  refine (HSr.out _).mono ?_
  rintro e w13 ⟨rfl, hw⟩; have hb : Gr w12 w13 := hw ▸ Gr.refl _; clear hw
  replace q0 := Gr.at hb q0; replace q1 := Gr.at hb q1; replace g := g.trans hb
  clear hb
  go_wp2_with fail
  go_ret
  exact ⟨rfl, g⟩
set_option maxRecDepth 100000 in
set_option maxHeartbeats 4000000 in
theorem kinds_tttt (N : Ba.SlNode) (L : Ba.SlLink) (s : Al.SlM) (most count : Int) (w : World) (hN : N.At w) (hL : L.At w) (h : s.At w) (hf : Al.fewB N.n L.n s.n (Al.lngB s) = true) (hv : s.vB = true) (hn : Ba.netB N L = true) (hj : Al.jmO most = true) (hs : Al.stO count = true) : Calls Tryz.prog 5 #[Ba.netVal N L, .slice s.A s.n s.c, .int .i64 most, .int .i64 count] w fun e w' => e = .returned (.bool true) ∧ Gr w w' := by
  have HAw := Lib.hid (fun W => awake_any W)
  have HFe := Lib.hid (fun W (hW : Gr w W) => few_any N L s W (hN.gr hW) (hL.gr hW) (h.gr hW))
  rw [hf] at HFe
  have HV := Lib.hid (fun W (hW : Gr w W) => rvalid52_any s W (h.gr hW))
  rw [hv] at HV
  have hsn := Al.vB_len hv
  have hvl := (Al.vB_iff s).1 hv
  have HNv := Lib.hid (fun W (hW : Gr w W) => rnetvalid_any N L W (hN.gr hW) (hL.gr hW))
  rw [hn] at HNv
  have HJr := Lib.hid (fun W => rjmp_range most W); have HSr := Lib.hid (fun W => rsam_range count W)
  rw [hj] at HJr; rw [hs] at HSr
  have HSm := Lib.hid (fun r t W hr ht hc => same_yes r t W hr ht hc)
  have HLi := Lib.hid (fun W (hW : Gr w W) => Limits_ok N L s W (hN.gr hW) (hL.gr hW) (h.gr hW) (by rw [hv, hn]; rfl))
  have RLi := Lib.hid (fun W (hW : Gr w W) => (rlimits_any N L s W (hN.gr hW) (hL.gr hW) (h.gr hW) hsn).mono fun _ _ q => Al.RetAl.own q)
  have HJu := Lib.hid (fun W (hW : Gr w W) => Jumps_ok s most W (h.gr hW) hv hj)
  have RJu := Lib.hid (fun W (hW : Gr w W) => (rjumps_any s most W (h.gr hW) hvl (Al.jmO_iff.1 hj)).mono fun _ _ q => Al.RetAl.own q)
  have HFr := Lib.hid (fun W (hW : Gr w W) => Frozen_ok s count W (h.gr hW) hv hs)
  have RFr := Lib.hid (fun W (hW : Gr w W) => (rruns_any s count W (h.gr hW) hvl (Al.stO_iff.1 hs)).mono fun _ _ q => Al.RetAl.own q)
  generalize Al.srt (Al.limC N s.lst) = X1 at *; generalize Al.srt (Al.jmpC most s.lst) = X2 at *; generalize Al.srt (Al.runC count s.lst) = X3 at *
  clear hvl hsn hn hj hs
  clear hN hL h hf hv
  unfold Ba.netVal at *
  generalize N.A = nA at *; generalize N.n = nn at *; generalize N.c = nc at *; generalize L.A = lA at *; generalize L.n = ln at *; generalize L.c = lc at *; generalize s.A = sA at *; generalize s.n = sn at *; generalize s.c = sc at *
  go_enter Tryz.func5, Tryz.ntmps5
  go_wp2_with fail
  refine (HAw.out _).mono ?_
  rintro e w1 ⟨rfl, hb⟩
  have g : Gr w w1 := gr_auto
  have q0 := Gr.at (show Gr _ w1 from hb) (show World.cell? _ ⟨w.heap.size, 0, none⟩ = some (.slice nA nn nc) from by simp [go_sem])
  have q1 := Gr.at (show Gr _ w1 from hb) (show World.cell? _ ⟨w.heap.size, 1, none⟩ = some (.slice lA ln lc) from by simp [go_sem])
  clear hb HAw
  go_wp2_with fail
  refine (HFe.out _ g).mono ?_
  rintro e w2 ⟨rfl, hb⟩
  replace q0 := Gr.at hb q0; replace q1 := Gr.at hb q1; replace g := g.trans hb
  clear hb
  go_wp2_with fail
  refine (HLi.out _ g).mono ?_
  intro e w3 hR; obtain ⟨r1, rfl, hr, hc1, hb⟩ := hR.at; clear hR
  replace q0 := Gr.at hb q0; replace q1 := Gr.at hb q1; replace g := g.trans hb
  clear hb
  have HR1 := Lib.hid hr; have HC1 := Lib.hid hc1; clear hr hc1
  go_wp2_with fail
  refine (HJu.out _ g).mono ?_
  intro e w4 hR; obtain ⟨r2, rfl, hr, hc2, hb⟩ := hR.at; clear hR
  replace q0 := Gr.at hb q0; replace q1 := Gr.at hb q1; replace g := g.trans hb
  replace HR1 := Lib.hid (HR1.out.gr hb)
  clear hb
  have HR2 := Lib.hid hr; have HC2 := Lib.hid hc2; clear hr hc2
  go_wp2_with fail
  refine (HFr.out _ g).mono ?_
  intro e w5 hR; obtain ⟨r3, rfl, hr, hc3, hb⟩ := hR.at; clear hR
  replace q0 := Gr.at hb q0; replace q1 := Gr.at hb q1; replace g := g.trans hb
  replace HR1 := Lib.hid (HR1.out.gr hb)
  replace HR2 := Lib.hid (HR2.out.gr hb)
  clear hb
  have HR3 := Lib.hid hr; have HC3 := Lib.hid hc3; clear hr hc3
  go_wp2_with fail
  refine (HV.out _ g).mono ?_
  rintro e w6 ⟨rfl, hb⟩
  replace q0 := Gr.at hb q0; replace q1 := Gr.at hb q1; replace g := g.trans hb
  replace HR1 := Lib.hid (HR1.out.gr hb)
  replace HR2 := Lib.hid (HR2.out.gr hb)
  replace HR3 := Lib.hid (HR3.out.gr hb)
  clear hb
  go_wp2_with fail
  refine (HNv.out _ g).mono ?_
  rintro e w7 ⟨rfl, hb⟩
  replace q0 := Gr.at hb q0; replace q1 := Gr.at hb q1; replace g := g.trans hb
  replace HR1 := Lib.hid (HR1.out.gr hb)
  replace HR2 := Lib.hid (HR2.out.gr hb)
  replace HR3 := Lib.hid (HR3.out.gr hb)
  clear hb
  go_wp2_with fail
  refine (RLi.out _ g).mono ?_
  intro e w8 hR; obtain ⟨t1, rfl, ht, hct1, hb⟩ := hR.at; clear hR
  replace q0 := Gr.at hb q0; replace q1 := Gr.at hb q1; replace g := g.trans hb
  replace HR1 := Lib.hid (HR1.out.gr hb)
  replace HR2 := Lib.hid (HR2.out.gr hb)
  replace HR3 := Lib.hid (HR3.out.gr hb)
  clear hb
  have HT1 := Lib.hid ht; have HCT1 := Lib.hid (HC1.out.trans hct1.symm); clear ht hct1 HC1
  go_wp2_with fail
  refine (HSm.out _ _ _ HR1.out HT1.out HCT1.out).mono ?_
  rintro e w9 ⟨rfl, hb⟩
  replace q0 := Gr.at hb q0; replace q1 := Gr.at hb q1; replace g := g.trans hb
  replace HR2 := Lib.hid (HR2.out.gr hb)
  replace HR3 := Lib.hid (HR3.out.gr hb)
  clear hb
  clear HR1 HT1 HCT1
  go_wp2_with fail
  refine (HJr.out _).mono ?_
  rintro e w10 ⟨rfl, hw⟩; have hb : Gr w9 w10 := hw ▸ Gr.refl _; clear hw
  replace q0 := Gr.at hb q0; replace q1 := Gr.at hb q1; replace g := g.trans hb
  replace HR2 := Lib.hid (HR2.out.gr hb)
  replace HR3 := Lib.hid (HR3.out.gr hb)
  clear hb
  go_wp2_with fail
  refine (RJu.out _ g).mono ?_
  intro e w11 hR; obtain ⟨t2, rfl, ht, hct2, hb⟩ := hR.at; clear hR
  replace q0 := Gr.at hb q0; replace q1 := Gr.at hb q1; replace g := g.trans hb
  replace HR2 := Lib.hid (HR2.out.gr hb)
  replace HR3 := Lib.hid (HR3.out.gr hb)
  clear hb
  have HT2 := Lib.hid ht; have HCT2 := Lib.hid (HC2.out.trans hct2.symm); clear ht hct2 HC2
  go_wp2_with fail
  refine (HSm.out _ _ _ HR2.out HT2.out HCT2.out).mono ?_
  rintro e w12 ⟨rfl, hb⟩
  replace q0 := Gr.at hb q0; replace q1 := Gr.at hb q1; replace g := g.trans hb
  replace HR3 := Lib.hid (HR3.out.gr hb)
  clear hb
  clear HR2 HT2 HCT2
  go_wp2_with fail
  refine (HSr.out _).mono ?_
  rintro e w13 ⟨rfl, hw⟩; have hb : Gr w12 w13 := hw ▸ Gr.refl _; clear hw
  replace q0 := Gr.at hb q0; replace q1 := Gr.at hb q1; replace g := g.trans hb
  replace HR3 := Lib.hid (HR3.out.gr hb)
  clear hb
  go_wp2_with fail
  refine (RFr.out _ g).mono ?_
  intro e w14 hR; obtain ⟨t3, rfl, ht, hct3, hb⟩ := hR.at; clear hR
  replace q0 := Gr.at hb q0; replace q1 := Gr.at hb q1; replace g := g.trans hb
  replace HR3 := Lib.hid (HR3.out.gr hb)
  clear hb
  have HT3 := Lib.hid ht; have HCT3 := Lib.hid (HC3.out.trans hct3.symm); clear ht hct3 HC3
  go_wp2_with fail
  refine (HSm.out _ _ _ HR3.out HT3.out HCT3.out).mono ?_
  rintro e w15 ⟨rfl, hb⟩
  replace q0 := Gr.at hb q0; replace q1 := Gr.at hb q1; replace g := g.trans hb
  clear hb
  clear HR3 HT3 HCT3
  go_wp2_with fail
  go_ret
  exact ⟨rfl, g⟩
theorem kinds_law (N : Ba.SlNode) (L : Ba.SlLink) (s : Al.SlM) (most count : Int) (w : World) (hN : N.At w) (hL : L.At w) (h : s.At w) : Calls Tryz.prog 5 #[Ba.netVal N L, .slice s.A s.n s.c, .int .i64 most, .int .i64 count] w fun e w' => e = .returned (.bool true) ∧ Gr w w' := by
  cases hf : Al.fewB N.n L.n s.n (Al.lngB s)
  · exact kinds_few N L s most count w hN hL h hf
  · cases hv : s.vB
    · exact kinds_f N L s most count w hN hL h hf hv
    · cases hn : Ba.netB N L <;> cases hj : Al.jmO most <;> cases hs : Al.stO count
      · exact kinds_tfff N L s most count w hN hL h hf hv hn hj hs
      · exact kinds_tfft N L s most count w hN hL h hf hv hn hj hs
      · exact kinds_tftf N L s most count w hN hL h hf hv hn hj hs
      · exact kinds_tftt N L s most count w hN hL h hf hv hn hj hs
      · exact kinds_ttff N L s most count w hN hL h hf hv hn hj hs
      · exact kinds_ttft N L s most count w hN hL h hf hv hn hj hs
      · exact kinds_tttf N L s most count w hN hL h hf hv hn hj hs
      · exact kinds_tttt N L s most count w hN hL h hf hv hn hj hs
theorem kinds_in (N : Ba.SlNode) (L : Ba.SlLink) (s : Al.SlM) (most count : Int) (w : World) (hN : N.At w) (hL : L.At w) (h : s.At w) (_ : Ba.i64 most) (_ : Ba.i64 count) : Calls Tryz.prog 5 #[Ba.netVal N L, .slice s.A s.n s.c, .int .i64 most, .int .i64 count] w fun e w' => e = .returned (.bool true) ∧ Gr w w' := kinds_law N L s most count w hN hL h
end Go.Proofs.YtllkiadedaghoaaGreat
