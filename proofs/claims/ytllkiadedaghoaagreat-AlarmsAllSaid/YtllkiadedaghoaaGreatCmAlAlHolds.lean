/-
  Alarms: the law AlarmsAll. (Printed by mkamt.py.)
  AlarmsAll returns true for all its arguments, and leaves them as they were. No condition.
-/
import Derived.Test.YtllkiadedaghoaaGreatCm45
import Derived.Test.YtllkiadedaghoaaGreatCm46

set_option linter.unusedVariables false
set_option linter.unusedSimpArgs false
namespace Go.Proofs.YtllkiadedaghoaaGreat
open Go.RowKit Go.Shelf Go.Sort
attribute [local go_sem ↓] Go.wp_at_zero Go.wp_at_succ
namespace Al
theorem RetMe.at {X : List M} {k : Int} {w w' : World} {e : Ending} (h : RetMe X k w e w') : ∃ t : SlM, e = .returned (.tuple #[.slice t.A t.n t.c, .int .i64 k]) ∧ t.At w' ∧ t.lst = X ∧ Gr w w' := h
end Al
set_option maxRecDepth 100000 in
set_option maxHeartbeats 4000000 in
theorem all_few (N : Ba.SlNode) (L : Ba.SlLink) (s : Al.SlM) (jp sm tl : Int) (d : Ba.SlI) (w : World) (hN : N.At w) (hL : L.At w) (h : s.At w) (hd : d.At w) (hf : Al.fewB N.n L.n s.n (Al.lngB s) = false) : Calls Tryz.prog 4 #[Ba.netVal N L, .slice s.A s.n s.c, .agg #[.int .i64 jp, .int .i64 sm, .int .i64 tl], .slice d.A d.n d.c] w fun e w' => e = .returned (.bool true) ∧ Gr w w' := by
  have HAw := Lib.hid (fun W => awake_any W)
  have HFe := Lib.hid (fun W (hW : Gr w W) => few_any N L s W (hN.gr hW) (hL.gr hW) (h.gr hW))
  have hdc := hd.hc; have hdb := hd.hb
  rw [hf] at HFe
  clear hf
  clear hN hL h hd
  unfold Ba.netVal at *
  generalize N.A = nA at *; generalize N.n = nn at *; generalize N.c = nc at *; generalize L.A = lA at *; generalize L.n = ln at *; generalize L.c = lc at *; generalize s.A = sA at *; generalize s.n = sn at *; generalize s.c = sc at *; generalize d.A = dA at *; generalize d.n = dn at *; generalize d.c = dc at *
  go_enter Tryz.func4, Tryz.ntmps4
  go_wp2_with fail
  refine (HAw.out _).mono ?_
  rintro e w1 ⟨rfl, hb⟩
  have g : Gr w w1 := gr_auto
  have q0 := Gr.at (show Gr _ w1 from hb) (show World.cell? _ ⟨w.heap.size, 0, none⟩ = some (.slice nA nn nc) from by simp [go_sem])
  have q1 := Gr.at (show Gr _ w1 from hb) (show World.cell? _ ⟨w.heap.size, 1, none⟩ = some (.slice lA ln lc) from by simp [go_sem])
  have q2 := Gr.at (show Gr _ w1 from hb) (show World.cell? _ ⟨w.heap.size + 1, 0, none⟩ = some (.int .i64 jp) from by simp [go_sem])
  have q3 := Gr.at (show Gr _ w1 from hb) (show World.cell? _ ⟨w.heap.size + 1, 1, none⟩ = some (.int .i64 sm) from by simp [go_sem])
  have q4 := Gr.at (show Gr _ w1 from hb) (show World.cell? _ ⟨w.heap.size + 1, 2, none⟩ = some (.int .i64 tl) from by simp [go_sem])
  clear hb HAw
  go_wp2_with fail
  refine (HFe.out _ g).mono ?_
  rintro e w2 ⟨rfl, hb⟩
  replace q0 := Gr.at hb q0; replace q1 := Gr.at hb q1; replace q2 := Gr.at hb q2; replace q3 := Gr.at hb q3; replace q4 := Gr.at hb q4; replace g := g.trans hb
  clear hb
  go_wp2_with fail
  go_ret
  exact ⟨rfl, g⟩
set_option maxRecDepth 100000 in
set_option maxHeartbeats 4000000 in
theorem all_far (N : Ba.SlNode) (L : Ba.SlLink) (s : Al.SlM) (jp sm tl : Int) (d : Ba.SlI) (w : World) (hN : N.At w) (hL : L.At w) (h : s.At w) (hd : d.At w) (hf : Al.fewB N.n L.n s.n (Al.lngB s) = true) (hx : 40 < d.n) : Calls Tryz.prog 4 #[Ba.netVal N L, .slice s.A s.n s.c, .agg #[.int .i64 jp, .int .i64 sm, .int .i64 tl], .slice d.A d.n d.c] w fun e w' => e = .returned (.bool true) ∧ Gr w w' := by
  have HAw := Lib.hid (fun W => awake_any W)
  have HFe := Lib.hid (fun W (hW : Gr w W) => few_any N L s W (hN.gr hW) (hL.gr hW) (h.gr hW))
  have hdc := hd.hc; have hdb := hd.hb
  rw [hf] at HFe
  clear hf
  clear hN hL h hd
  unfold Ba.netVal at *
  generalize N.A = nA at *; generalize N.n = nn at *; generalize N.c = nc at *; generalize L.A = lA at *; generalize L.n = ln at *; generalize L.c = lc at *; generalize s.A = sA at *; generalize s.n = sn at *; generalize s.c = sc at *; generalize d.A = dA at *; generalize d.n = dn at *; generalize d.c = dc at *
  go_enter Tryz.func4, Tryz.ntmps4
  go_wp2_with fail
  refine (HAw.out _).mono ?_
  rintro e w1 ⟨rfl, hb⟩
  have g : Gr w w1 := gr_auto
  have q0 := Gr.at (show Gr _ w1 from hb) (show World.cell? _ ⟨w.heap.size, 0, none⟩ = some (.slice nA nn nc) from by simp [go_sem])
  have q1 := Gr.at (show Gr _ w1 from hb) (show World.cell? _ ⟨w.heap.size, 1, none⟩ = some (.slice lA ln lc) from by simp [go_sem])
  have q2 := Gr.at (show Gr _ w1 from hb) (show World.cell? _ ⟨w.heap.size + 1, 0, none⟩ = some (.int .i64 jp) from by simp [go_sem])
  have q3 := Gr.at (show Gr _ w1 from hb) (show World.cell? _ ⟨w.heap.size + 1, 1, none⟩ = some (.int .i64 sm) from by simp [go_sem])
  have q4 := Gr.at (show Gr _ w1 from hb) (show World.cell? _ ⟨w.heap.size + 1, 2, none⟩ = some (.int .i64 tl) from by simp [go_sem])
  clear hb HAw
  go_wp2_with fail
  refine (HFe.out _ g).mono ?_
  rintro e w2 ⟨rfl, hb⟩
  replace q0 := Gr.at hb q0; replace q1 := Gr.at hb q1; replace q2 := Gr.at hb q2; replace q3 := Gr.at hb q3; replace q4 := Gr.at hb q4; replace g := g.trans hb
  clear hb
  go_wp2_with fail
  go_ret
  exact ⟨rfl, g⟩
set_option maxRecDepth 100000 in
set_option maxHeartbeats 4000000 in
theorem all_f (N : Ba.SlNode) (L : Ba.SlLink) (s : Al.SlM) (jp sm tl : Int) (d : Ba.SlI) (w : World) (hN : N.At w) (hL : L.At w) (h : s.At w) (hd : d.At w) (hf : Al.fewB N.n L.n s.n (Al.lngB s) = true) (hx : d.n ≤ 40) (hv : s.vB = false) : Calls Tryz.prog 4 #[Ba.netVal N L, .slice s.A s.n s.c, .agg #[.int .i64 jp, .int .i64 sm, .int .i64 tl], .slice d.A d.n d.c] w fun e w' => e = .returned (.bool true) ∧ Gr w w' := by
  have HAw := Lib.hid (fun W => awake_any W)
  have HFe := Lib.hid (fun W (hW : Gr w W) => few_any N L s W (hN.gr hW) (hL.gr hW) (h.gr hW))
  have hdc := hd.hc; have hdb := hd.hb
  rw [hf] at HFe
  clear hf
  have HV := Lib.hid (fun W (hW : Gr w W) => rvalid52_any s W (h.gr hW))
  rw [hv] at HV
  have HAl := Lib.hid (fun W (hW : Gr w W) => All_no N L s jp sm tl W (hN.gr hW) (hL.gr hW) (h.gr hW) 1 (by unfold Al.gvE; rw [hv, Bool.and_false]; rfl) (by decide))
  have HCl := Lib.hid (fun W (hW : Gr w W) => Cleared_no N L s jp sm tl d W (hN.gr hW) (hL.gr hW) (h.gr hW) (hd.gr hW) 1 (by unfold Al.gvE; rw [hv, Bool.and_false]; rfl) (by decide))
  clear hv
  clear hN hL h hd
  unfold Ba.netVal at *
  generalize N.A = nA at *; generalize N.n = nn at *; generalize N.c = nc at *; generalize L.A = lA at *; generalize L.n = ln at *; generalize L.c = lc at *; generalize s.A = sA at *; generalize s.n = sn at *; generalize s.c = sc at *; generalize d.A = dA at *; generalize d.n = dn at *; generalize d.c = dc at *
  go_enter Tryz.func4, Tryz.ntmps4
  go_wp2_with fail
  refine (HAw.out _).mono ?_
  rintro e w1 ⟨rfl, hb⟩
  have g : Gr w w1 := gr_auto
  have q0 := Gr.at (show Gr _ w1 from hb) (show World.cell? _ ⟨w.heap.size, 0, none⟩ = some (.slice nA nn nc) from by simp [go_sem])
  have q1 := Gr.at (show Gr _ w1 from hb) (show World.cell? _ ⟨w.heap.size, 1, none⟩ = some (.slice lA ln lc) from by simp [go_sem])
  have q2 := Gr.at (show Gr _ w1 from hb) (show World.cell? _ ⟨w.heap.size + 1, 0, none⟩ = some (.int .i64 jp) from by simp [go_sem])
  have q3 := Gr.at (show Gr _ w1 from hb) (show World.cell? _ ⟨w.heap.size + 1, 1, none⟩ = some (.int .i64 sm) from by simp [go_sem])
  have q4 := Gr.at (show Gr _ w1 from hb) (show World.cell? _ ⟨w.heap.size + 1, 2, none⟩ = some (.int .i64 tl) from by simp [go_sem])
  clear hb HAw
  go_wp2_with fail
  refine (HFe.out _ g).mono ?_
  rintro e w2 ⟨rfl, hb⟩
  replace q0 := Gr.at hb q0; replace q1 := Gr.at hb q1; replace q2 := Gr.at hb q2; replace q3 := Gr.at hb q3; replace q4 := Gr.at hb q4; replace g := g.trans hb
  clear hb
  go_wp2_with fail
  refine (HAl.out _ g).mono ?_
  intro e w3 hR; obtain ⟨A1, c1, rfl, hb⟩ := hR.nil; clear hR
  replace q0 := Gr.at hb q0; replace q1 := Gr.at hb q1; replace q2 := Gr.at hb q2; replace q3 := Gr.at hb q3; replace q4 := Gr.at hb q4; replace g := g.trans hb
  clear hb
  go_wp2_with fail
  refine (HCl.out _ g).mono ?_
  intro e w4 hR; obtain ⟨A2, c2, rfl, hb⟩ := hR.nil; clear hR
  replace q0 := Gr.at hb q0; replace q1 := Gr.at hb q1; replace q2 := Gr.at hb q2; replace q3 := Gr.at hb q3; replace q4 := Gr.at hb q4; replace g := g.trans hb
  clear hb
  go_wp2_with fail
  refine (HV.out _ g).mono ?_
  rintro e w5 ⟨rfl, hb⟩
  replace q0 := Gr.at hb q0; replace q1 := Gr.at hb q1; replace q2 := Gr.at hb q2; replace q3 := Gr.at hb q3; replace q4 := Gr.at hb q4; replace g := g.trans hb
  clear hb
  go_wp2_with fail
  go_ret
  exact ⟨rfl, g⟩
set_option maxRecDepth 100000 in
set_option maxHeartbeats 4000000 in
theorem all_tf (N : Ba.SlNode) (L : Ba.SlLink) (s : Al.SlM) (jp sm tl : Int) (d : Ba.SlI) (w : World) (hN : N.At w) (hL : L.At w) (h : s.At w) (hd : d.At w) (hf : Al.fewB N.n L.n s.n (Al.lngB s) = true) (hx : d.n ≤ 40) (hv : s.vB = true) (hn : Ba.netB N L = false) : Calls Tryz.prog 4 #[Ba.netVal N L, .slice s.A s.n s.c, .agg #[.int .i64 jp, .int .i64 sm, .int .i64 tl], .slice d.A d.n d.c] w fun e w' => e = .returned (.bool true) ∧ Gr w w' := by
  have HAw := Lib.hid (fun W => awake_any W)
  have HFe := Lib.hid (fun W (hW : Gr w W) => few_any N L s W (hN.gr hW) (hL.gr hW) (h.gr hW))
  have hdc := hd.hc; have hdb := hd.hb
  rw [hf] at HFe
  clear hf
  have HV := Lib.hid (fun W (hW : Gr w W) => rvalid52_any s W (h.gr hW))
  rw [hv] at HV
  have HNv := Lib.hid (fun W (hW : Gr w W) => rnetvalid_any N L W (hN.gr hW) (hL.gr hW))
  rw [hn] at HNv
  have HAl := Lib.hid (fun W (hW : Gr w W) => All_no N L s jp sm tl W (hN.gr hW) (hL.gr hW) (h.gr hW) 1 (by unfold Al.gvE; rw [hn, Bool.false_and]; rfl) (by decide))
  have HCl := Lib.hid (fun W (hW : Gr w W) => Cleared_no N L s jp sm tl d W (hN.gr hW) (hL.gr hW) (h.gr hW) (hd.gr hW) 1 (by unfold Al.gvE; rw [hn, Bool.false_and]; rfl) (by decide))
  clear hv hn
  clear hN hL h hd
  unfold Ba.netVal at *
  generalize N.A = nA at *; generalize N.n = nn at *; generalize N.c = nc at *; generalize L.A = lA at *; generalize L.n = ln at *; generalize L.c = lc at *; generalize s.A = sA at *; generalize s.n = sn at *; generalize s.c = sc at *; generalize d.A = dA at *; generalize d.n = dn at *; generalize d.c = dc at *
  go_enter Tryz.func4, Tryz.ntmps4
  go_wp2_with fail
  refine (HAw.out _).mono ?_
  rintro e w1 ⟨rfl, hb⟩
  have g : Gr w w1 := gr_auto
  have q0 := Gr.at (show Gr _ w1 from hb) (show World.cell? _ ⟨w.heap.size, 0, none⟩ = some (.slice nA nn nc) from by simp [go_sem])
  have q1 := Gr.at (show Gr _ w1 from hb) (show World.cell? _ ⟨w.heap.size, 1, none⟩ = some (.slice lA ln lc) from by simp [go_sem])
  have q2 := Gr.at (show Gr _ w1 from hb) (show World.cell? _ ⟨w.heap.size + 1, 0, none⟩ = some (.int .i64 jp) from by simp [go_sem])
  have q3 := Gr.at (show Gr _ w1 from hb) (show World.cell? _ ⟨w.heap.size + 1, 1, none⟩ = some (.int .i64 sm) from by simp [go_sem])
  have q4 := Gr.at (show Gr _ w1 from hb) (show World.cell? _ ⟨w.heap.size + 1, 2, none⟩ = some (.int .i64 tl) from by simp [go_sem])
  clear hb HAw
  go_wp2_with fail
  refine (HFe.out _ g).mono ?_
  rintro e w2 ⟨rfl, hb⟩
  replace q0 := Gr.at hb q0; replace q1 := Gr.at hb q1; replace q2 := Gr.at hb q2; replace q3 := Gr.at hb q3; replace q4 := Gr.at hb q4; replace g := g.trans hb
  clear hb
  go_wp2_with fail
  refine (HAl.out _ g).mono ?_
  intro e w3 hR; obtain ⟨A1, c1, rfl, hb⟩ := hR.nil; clear hR
  replace q0 := Gr.at hb q0; replace q1 := Gr.at hb q1; replace q2 := Gr.at hb q2; replace q3 := Gr.at hb q3; replace q4 := Gr.at hb q4; replace g := g.trans hb
  clear hb
  go_wp2_with fail
  refine (HCl.out _ g).mono ?_
  intro e w4 hR; obtain ⟨A2, c2, rfl, hb⟩ := hR.nil; clear hR
  replace q0 := Gr.at hb q0; replace q1 := Gr.at hb q1; replace q2 := Gr.at hb q2; replace q3 := Gr.at hb q3; replace q4 := Gr.at hb q4; replace g := g.trans hb
  clear hb
  go_wp2_with fail
  refine (HV.out _ g).mono ?_
  rintro e w5 ⟨rfl, hb⟩
  replace q0 := Gr.at hb q0; replace q1 := Gr.at hb q1; replace q2 := Gr.at hb q2; replace q3 := Gr.at hb q3; replace q4 := Gr.at hb q4; replace g := g.trans hb
  clear hb
  go_wp2_with fail
  refine (HNv.out _ g).mono ?_
  rintro e w6 ⟨rfl, hb⟩
  replace q0 := Gr.at hb q0; replace q1 := Gr.at hb q1; replace q2 := Gr.at hb q2; replace q3 := Gr.at hb q3; replace q4 := Gr.at hb q4; replace g := g.trans hb
  clear hb
  go_wp2_with fail
  go_ret
  exact ⟨rfl, g⟩
set_option maxRecDepth 100000 in
set_option maxHeartbeats 4000000 in
theorem all_ttf (N : Ba.SlNode) (L : Ba.SlLink) (s : Al.SlM) (jp sm tl : Int) (d : Ba.SlI) (w : World) (hN : N.At w) (hL : L.At w) (h : s.At w) (hd : d.At w) (hf : Al.fewB N.n L.n s.n (Al.lngB s) = true) (hx : d.n ≤ 40) (hv : s.vB = true) (hn : Ba.netB N L = true) (hl : Al.lmO jp sm tl = false) : Calls Tryz.prog 4 #[Ba.netVal N L, .slice s.A s.n s.c, .agg #[.int .i64 jp, .int .i64 sm, .int .i64 tl], .slice d.A d.n d.c] w fun e w' => e = .returned (.bool true) ∧ Gr w w' := by
  have HAw := Lib.hid (fun W => awake_any W)
  have HFe := Lib.hid (fun W (hW : Gr w W) => few_any N L s W (hN.gr hW) (hL.gr hW) (h.gr hW))
  have hdc := hd.hc; have hdb := hd.hb
  rw [hf] at HFe
  clear hf
  have HV := Lib.hid (fun W (hW : Gr w W) => rvalid52_any s W (h.gr hW))
  rw [hv] at HV
  have HNv := Lib.hid (fun W (hW : Gr w W) => rnetvalid_any N L W (hN.gr hW) (hL.gr hW))
  rw [hn] at HNv
  have HRt := Lib.hid (fun W => rright53_any jp sm tl W)
  rw [hl] at HRt
  have HAl := Lib.hid (fun W (hW : Gr w W) => All_no N L s jp sm tl W (hN.gr hW) (hL.gr hW) (h.gr hW) 2 (by unfold Al.gvE; rw [hn, hv, hl]; rfl) (by decide))
  have HCl := Lib.hid (fun W (hW : Gr w W) => Cleared_no N L s jp sm tl d W (hN.gr hW) (hL.gr hW) (h.gr hW) (hd.gr hW) 2 (by unfold Al.gvE; rw [hn, hv, hl]; rfl) (by decide))
  clear hv hn hl
  clear hN hL h hd
  unfold Ba.netVal at *
  generalize N.A = nA at *; generalize N.n = nn at *; generalize N.c = nc at *; generalize L.A = lA at *; generalize L.n = ln at *; generalize L.c = lc at *; generalize s.A = sA at *; generalize s.n = sn at *; generalize s.c = sc at *; generalize d.A = dA at *; generalize d.n = dn at *; generalize d.c = dc at *
  go_enter Tryz.func4, Tryz.ntmps4
  go_wp2_with fail
  refine (HAw.out _).mono ?_
  rintro e w1 ⟨rfl, hb⟩
  have g : Gr w w1 := gr_auto
  have q0 := Gr.at (show Gr _ w1 from hb) (show World.cell? _ ⟨w.heap.size, 0, none⟩ = some (.slice nA nn nc) from by simp [go_sem])
  have q1 := Gr.at (show Gr _ w1 from hb) (show World.cell? _ ⟨w.heap.size, 1, none⟩ = some (.slice lA ln lc) from by simp [go_sem])
  have q2 := Gr.at (show Gr _ w1 from hb) (show World.cell? _ ⟨w.heap.size + 1, 0, none⟩ = some (.int .i64 jp) from by simp [go_sem])
  have q3 := Gr.at (show Gr _ w1 from hb) (show World.cell? _ ⟨w.heap.size + 1, 1, none⟩ = some (.int .i64 sm) from by simp [go_sem])
  have q4 := Gr.at (show Gr _ w1 from hb) (show World.cell? _ ⟨w.heap.size + 1, 2, none⟩ = some (.int .i64 tl) from by simp [go_sem])
  clear hb HAw
  go_wp2_with fail
  refine (HFe.out _ g).mono ?_
  rintro e w2 ⟨rfl, hb⟩
  replace q0 := Gr.at hb q0; replace q1 := Gr.at hb q1; replace q2 := Gr.at hb q2; replace q3 := Gr.at hb q3; replace q4 := Gr.at hb q4; replace g := g.trans hb
  clear hb
  go_wp2_with fail
  refine (HAl.out _ g).mono ?_
  intro e w3 hR; obtain ⟨A1, c1, rfl, hb⟩ := hR.nil; clear hR
  replace q0 := Gr.at hb q0; replace q1 := Gr.at hb q1; replace q2 := Gr.at hb q2; replace q3 := Gr.at hb q3; replace q4 := Gr.at hb q4; replace g := g.trans hb
  clear hb
  go_wp2_with fail
  refine (HCl.out _ g).mono ?_
  intro e w4 hR; obtain ⟨A2, c2, rfl, hb⟩ := hR.nil; clear hR
  replace q0 := Gr.at hb q0; replace q1 := Gr.at hb q1; replace q2 := Gr.at hb q2; replace q3 := Gr.at hb q3; replace q4 := Gr.at hb q4; replace g := g.trans hb
  clear hb
  go_wp2_with fail
  refine (HV.out _ g).mono ?_
  rintro e w5 ⟨rfl, hb⟩
  replace q0 := Gr.at hb q0; replace q1 := Gr.at hb q1; replace q2 := Gr.at hb q2; replace q3 := Gr.at hb q3; replace q4 := Gr.at hb q4; replace g := g.trans hb
  clear hb
  go_wp2_with fail
  refine (HNv.out _ g).mono ?_
  rintro e w6 ⟨rfl, hb⟩
  replace q0 := Gr.at hb q0; replace q1 := Gr.at hb q1; replace q2 := Gr.at hb q2; replace q3 := Gr.at hb q3; replace q4 := Gr.at hb q4; replace g := g.trans hb
  clear hb
  go_wp2_with fail
  refine (HRt.out _).mono ?_
  rintro e w7 ⟨rfl, hb⟩
  replace q0 := Gr.at hb q0; replace q1 := Gr.at hb q1; replace q2 := Gr.at hb q2; replace q3 := Gr.at hb q3; replace q4 := Gr.at hb q4; replace g := g.trans hb
  clear hb
  go_wp2_with fail
  go_ret
  exact ⟨rfl, g⟩
set_option maxRecDepth 100000 in
set_option maxHeartbeats 4000000 in
theorem all_tttr (N : Ba.SlNode) (L : Ba.SlLink) (s : Al.SlM) (jp sm tl : Int) (d : Ba.SlI) (w : World) (hN : N.At w) (hL : L.At w) (h : s.At w) (hd : d.At w) (hf : Al.fewB N.n L.n s.n (Al.lngB s) = true) (hx : d.n ≤ 40) (hv : s.vB = true) (hn : Ba.netB N L = true) (hl : Al.lmO jp sm tl = true) (hr : Al.rgB d s.n = false) : Calls Tryz.prog 4 #[Ba.netVal N L, .slice s.A s.n s.c, .agg #[.int .i64 jp, .int .i64 sm, .int .i64 tl], .slice d.A d.n d.c] w fun e w' => e = .returned (.bool true) ∧ Gr w w' := by
  have HAw := Lib.hid (fun W => awake_any W)
  have HFe := Lib.hid (fun W (hW : Gr w W) => few_any N L s W (hN.gr hW) (hL.gr hW) (h.gr hW))
  have hdc := hd.hc; have hdb := hd.hb
  rw [hf] at HFe
  clear hf
  have HV := Lib.hid (fun W (hW : Gr w W) => rvalid52_any s W (h.gr hW))
  rw [hv] at HV
  have HNv := Lib.hid (fun W (hW : Gr w W) => rnetvalid_any N L W (hN.gr hW) (hL.gr hW))
  rw [hn] at HNv
  have HRt := Lib.hid (fun W => rright53_any jp sm tl W)
  rw [hl] at HRt
  have hk : Al.gvE (Ba.netB N L && s.vB) (Al.lmO jp sm tl) = 0 := by rw [hn, hv, hl]; rfl
  have hsn := Al.vB_len hv
  have hvl := (Al.vB_iff s).1 hv
  have hl1 : 0 ≤ jp ∧ jp ≤ 8388608 := by have := hl; unfold Al.lmO at this; rw [Bool.and_eq_true] at this; exact Al.jmO_iff.1 this.1
  have hl2 : 2 ≤ sm ∧ sm ≤ 10000 := by have := hl; unfold Al.lmO at this; rw [Bool.and_eq_true, Bool.and_eq_true] at this; exact Al.stO_iff.1 this.2.1
  have HSm := Lib.hid (fun r t W hr ht hc => same_yes r t W hr ht hc)
  have HAl := Lib.hid (fun W (hW : Gr w W) => All_ok N L s jp sm tl W (hN.gr hW) (hL.gr hW) (h.gr hW) hk)
  have RAl := Lib.hid (fun W (hW : Gr w W) => rall_any N L s jp sm tl W (hN.gr hW) (hL.gr hW) (h.gr hW) hvl hl1 hl2)
  have HCl := Lib.hid (fun W (hW : Gr w W) => Cleared_range N L s jp sm tl d W (hN.gr hW) (hL.gr hW) (h.gr hW) (hd.gr hW) hk hr)
  have HWi := Lib.hid (fun W (hW : Gr w W) => Without_range s d W (h.gr hW) (hd.gr hW) hsn hr)
  clear hr
  generalize Al.allC N s.lst jp sm = X1 at *
  clear hv hn hl hk hsn hvl hl1 hl2
  clear hN hL h hd
  unfold Ba.netVal at *
  generalize N.A = nA at *; generalize N.n = nn at *; generalize N.c = nc at *; generalize L.A = lA at *; generalize L.n = ln at *; generalize L.c = lc at *; generalize s.A = sA at *; generalize s.n = sn at *; generalize s.c = sc at *; generalize d.A = dA at *; generalize d.n = dn at *; generalize d.c = dc at *
  go_enter Tryz.func4, Tryz.ntmps4
  go_wp2_with fail
  refine (HAw.out _).mono ?_
  rintro e w1 ⟨rfl, hb⟩
  have g : Gr w w1 := gr_auto
  have q0 := Gr.at (show Gr _ w1 from hb) (show World.cell? _ ⟨w.heap.size, 0, none⟩ = some (.slice nA nn nc) from by simp [go_sem])
  have q1 := Gr.at (show Gr _ w1 from hb) (show World.cell? _ ⟨w.heap.size, 1, none⟩ = some (.slice lA ln lc) from by simp [go_sem])
  have q2 := Gr.at (show Gr _ w1 from hb) (show World.cell? _ ⟨w.heap.size + 1, 0, none⟩ = some (.int .i64 jp) from by simp [go_sem])
  have q3 := Gr.at (show Gr _ w1 from hb) (show World.cell? _ ⟨w.heap.size + 1, 1, none⟩ = some (.int .i64 sm) from by simp [go_sem])
  have q4 := Gr.at (show Gr _ w1 from hb) (show World.cell? _ ⟨w.heap.size + 1, 2, none⟩ = some (.int .i64 tl) from by simp [go_sem])
  clear hb HAw
  go_wp2_with fail
  refine (HFe.out _ g).mono ?_
  rintro e w2 ⟨rfl, hb⟩
  replace q0 := Gr.at hb q0; replace q1 := Gr.at hb q1; replace q2 := Gr.at hb q2; replace q3 := Gr.at hb q3; replace q4 := Gr.at hb q4; replace g := g.trans hb
  clear hb
  go_wp2_with fail
  refine (HAl.out _ g).mono ?_
  intro e w3 hR; obtain ⟨r1, rfl, hr, hc1, hb⟩ := hR.at; clear hR
  replace q0 := Gr.at hb q0; replace q1 := Gr.at hb q1; replace q2 := Gr.at hb q2; replace q3 := Gr.at hb q3; replace q4 := Gr.at hb q4; replace g := g.trans hb
  clear hb
  have HR1 := Lib.hid hr; have HC1 := Lib.hid hc1; clear hr hc1
  go_wp2_with fail
  refine (HCl.out _ g).mono ?_
  intro e w4 hR; obtain ⟨A2, c2, rfl, hb⟩ := hR.nil; clear hR
  replace q0 := Gr.at hb q0; replace q1 := Gr.at hb q1; replace q2 := Gr.at hb q2; replace q3 := Gr.at hb q3; replace q4 := Gr.at hb q4; replace g := g.trans hb
  replace HR1 := Lib.hid (HR1.out.gr hb)
  clear hb
  go_wp2_with fail
  refine (HV.out _ g).mono ?_
  rintro e w5 ⟨rfl, hb⟩
  replace q0 := Gr.at hb q0; replace q1 := Gr.at hb q1; replace q2 := Gr.at hb q2; replace q3 := Gr.at hb q3; replace q4 := Gr.at hb q4; replace g := g.trans hb
  replace HR1 := Lib.hid (HR1.out.gr hb)
  clear hb
  go_wp2_with fail
  refine (HNv.out _ g).mono ?_
  rintro e w6 ⟨rfl, hb⟩
  replace q0 := Gr.at hb q0; replace q1 := Gr.at hb q1; replace q2 := Gr.at hb q2; replace q3 := Gr.at hb q3; replace q4 := Gr.at hb q4; replace g := g.trans hb
  replace HR1 := Lib.hid (HR1.out.gr hb)
  clear hb
  go_wp2_with fail
  refine (HRt.out _).mono ?_
  rintro e w7 ⟨rfl, hb⟩
  replace q0 := Gr.at hb q0; replace q1 := Gr.at hb q1; replace q2 := Gr.at hb q2; replace q3 := Gr.at hb q3; replace q4 := Gr.at hb q4; replace g := g.trans hb
  replace HR1 := Lib.hid (HR1.out.gr hb)
  clear hb
  go_wp2_with fail
  refine (RAl.out _ g).mono ?_
  intro e w8 hR; obtain ⟨t1, rfl, ht, hct1, hb⟩ := hR.at; clear hR
  replace q0 := Gr.at hb q0; replace q1 := Gr.at hb q1; replace q2 := Gr.at hb q2; replace q3 := Gr.at hb q3; replace q4 := Gr.at hb q4; replace g := g.trans hb
  replace HR1 := Lib.hid (HR1.out.gr hb)
  clear hb
  have HT1 := Lib.hid ht; have HCT1 := Lib.hid (HC1.out.trans hct1.symm); clear ht hct1 HC1
  go_wp2_with fail
  refine (HSm.out _ _ _ HR1.out HT1.out HCT1.out).mono ?_
  rintro e w9 ⟨rfl, hb⟩
  replace q0 := Gr.at hb q0; replace q1 := Gr.at hb q1; replace q2 := Gr.at hb q2; replace q3 := Gr.at hb q3; replace q4 := Gr.at hb q4; replace g := g.trans hb
  clear hb
  clear HR1 HT1 HCT1
  go_wp2_with fail
  refine (HWi.out _ g).mono ?_
  intro e w10 hR; obtain ⟨z, rfl, hz, hzl, hb⟩ := hR.at; clear hR
  replace q0 := Gr.at hb q0; replace q1 := Gr.at hb q1; replace q2 := Gr.at hb q2; replace q3 := Gr.at hb q3; replace q4 := Gr.at hb q4; replace g := g.trans hb
  clear hb
  have HZ := Lib.hid hz; have HZl := Lib.hid hzl; clear hz hzl
  go_wp2_with fail
  go_ret
  exact ⟨rfl, g⟩
set_option maxRecDepth 100000 in
set_option maxHeartbeats 4000000 in
theorem all_tttd (N : Ba.SlNode) (L : Ba.SlLink) (s : Al.SlM) (jp sm tl : Int) (d : Ba.SlI) (w : World) (hN : N.At w) (hL : L.At w) (h : s.At w) (hd : d.At w) (hf : Al.fewB N.n L.n s.n (Al.lngB s) = true) (hx : d.n ≤ 40) (hv : s.vB = true) (hn : Ba.netB N L = true) (hl : Al.lmO jp sm tl = true) (hr : Al.rgB d s.n = true) (hu : Al.dupB d.X d.n = true) : Calls Tryz.prog 4 #[Ba.netVal N L, .slice s.A s.n s.c, .agg #[.int .i64 jp, .int .i64 sm, .int .i64 tl], .slice d.A d.n d.c] w fun e w' => e = .returned (.bool true) ∧ Gr w w' := by
  have HAw := Lib.hid (fun W => awake_any W)
  have HFe := Lib.hid (fun W (hW : Gr w W) => few_any N L s W (hN.gr hW) (hL.gr hW) (h.gr hW))
  have hdc := hd.hc; have hdb := hd.hb
  rw [hf] at HFe
  clear hf
  have HV := Lib.hid (fun W (hW : Gr w W) => rvalid52_any s W (h.gr hW))
  rw [hv] at HV
  have HNv := Lib.hid (fun W (hW : Gr w W) => rnetvalid_any N L W (hN.gr hW) (hL.gr hW))
  rw [hn] at HNv
  have HRt := Lib.hid (fun W => rright53_any jp sm tl W)
  rw [hl] at HRt
  have hk : Al.gvE (Ba.netB N L && s.vB) (Al.lmO jp sm tl) = 0 := by rw [hn, hv, hl]; rfl
  have hsn := Al.vB_len hv
  have hvl := (Al.vB_iff s).1 hv
  have hl1 : 0 ≤ jp ∧ jp ≤ 8388608 := by have := hl; unfold Al.lmO at this; rw [Bool.and_eq_true] at this; exact Al.jmO_iff.1 this.1
  have hl2 : 2 ≤ sm ∧ sm ≤ 10000 := by have := hl; unfold Al.lmO at this; rw [Bool.and_eq_true, Bool.and_eq_true] at this; exact Al.stO_iff.1 this.2.1
  have HSm := Lib.hid (fun r t W hr ht hc => same_yes r t W hr ht hc)
  have HAl := Lib.hid (fun W (hW : Gr w W) => All_ok N L s jp sm tl W (hN.gr hW) (hL.gr hW) (h.gr hW) hk)
  have RAl := Lib.hid (fun W (hW : Gr w W) => rall_any N L s jp sm tl W (hN.gr hW) (hL.gr hW) (h.gr hW) hvl hl1 hl2)
  have HCl := Lib.hid (fun W (hW : Gr w W) => show Calls Tryz.prog 19 #[Ba.netVal N L, .slice s.A s.n s.c, .agg #[.int .i64 jp, .int .i64 sm, .int .i64 tl], .slice d.A d.n d.c] W (Al.RetAe [] 10 W) from by
    have := Cleared_at N L s jp sm tl d W (hN.gr hW) (hL.gr hW) (h.gr hW) (hd.gr hW) hk hr
    unfold Al.RetCl at this; rw [hu] at this; simpa using this)
  have HWi := Lib.hid (fun W (hW : Gr w W) => show Calls Tryz.prog 24 #[.slice s.A s.n s.c, .slice d.A d.n d.c] W (Al.RetMe [] 10 W) from by
    have := Without_at s d W (h.gr hW) (hd.gr hW) hsn hr
    unfold Al.RetWi at this; rw [hu] at this; simpa using this)
  clear hr hu
  generalize Al.allC N s.lst jp sm = X1 at *
  clear hv hn hl hk hsn hvl hl1 hl2
  clear hN hL h hd
  unfold Ba.netVal at *
  generalize N.A = nA at *; generalize N.n = nn at *; generalize N.c = nc at *; generalize L.A = lA at *; generalize L.n = ln at *; generalize L.c = lc at *; generalize s.A = sA at *; generalize s.n = sn at *; generalize s.c = sc at *; generalize d.A = dA at *; generalize d.n = dn at *; generalize d.c = dc at *
  go_enter Tryz.func4, Tryz.ntmps4
  go_wp2_with fail
  refine (HAw.out _).mono ?_
  rintro e w1 ⟨rfl, hb⟩
  have g : Gr w w1 := gr_auto
  have q0 := Gr.at (show Gr _ w1 from hb) (show World.cell? _ ⟨w.heap.size, 0, none⟩ = some (.slice nA nn nc) from by simp [go_sem])
  have q1 := Gr.at (show Gr _ w1 from hb) (show World.cell? _ ⟨w.heap.size, 1, none⟩ = some (.slice lA ln lc) from by simp [go_sem])
  have q2 := Gr.at (show Gr _ w1 from hb) (show World.cell? _ ⟨w.heap.size + 1, 0, none⟩ = some (.int .i64 jp) from by simp [go_sem])
  have q3 := Gr.at (show Gr _ w1 from hb) (show World.cell? _ ⟨w.heap.size + 1, 1, none⟩ = some (.int .i64 sm) from by simp [go_sem])
  have q4 := Gr.at (show Gr _ w1 from hb) (show World.cell? _ ⟨w.heap.size + 1, 2, none⟩ = some (.int .i64 tl) from by simp [go_sem])
  clear hb HAw
  go_wp2_with fail
  refine (HFe.out _ g).mono ?_
  rintro e w2 ⟨rfl, hb⟩
  replace q0 := Gr.at hb q0; replace q1 := Gr.at hb q1; replace q2 := Gr.at hb q2; replace q3 := Gr.at hb q3; replace q4 := Gr.at hb q4; replace g := g.trans hb
  clear hb
  go_wp2_with fail
  refine (HAl.out _ g).mono ?_
  intro e w3 hR; obtain ⟨r1, rfl, hr, hc1, hb⟩ := hR.at; clear hR
  replace q0 := Gr.at hb q0; replace q1 := Gr.at hb q1; replace q2 := Gr.at hb q2; replace q3 := Gr.at hb q3; replace q4 := Gr.at hb q4; replace g := g.trans hb
  clear hb
  have HR1 := Lib.hid hr; have HC1 := Lib.hid hc1; clear hr hc1
  go_wp2_with fail
  refine (HCl.out _ g).mono ?_
  intro e w4 hR; obtain ⟨A2, c2, rfl, hb⟩ := hR.nil; clear hR
  replace q0 := Gr.at hb q0; replace q1 := Gr.at hb q1; replace q2 := Gr.at hb q2; replace q3 := Gr.at hb q3; replace q4 := Gr.at hb q4; replace g := g.trans hb
  replace HR1 := Lib.hid (HR1.out.gr hb)
  clear hb
  go_wp2_with fail
  refine (HV.out _ g).mono ?_
  rintro e w5 ⟨rfl, hb⟩
  replace q0 := Gr.at hb q0; replace q1 := Gr.at hb q1; replace q2 := Gr.at hb q2; replace q3 := Gr.at hb q3; replace q4 := Gr.at hb q4; replace g := g.trans hb
  replace HR1 := Lib.hid (HR1.out.gr hb)
  clear hb
  go_wp2_with fail
  refine (HNv.out _ g).mono ?_
  rintro e w6 ⟨rfl, hb⟩
  replace q0 := Gr.at hb q0; replace q1 := Gr.at hb q1; replace q2 := Gr.at hb q2; replace q3 := Gr.at hb q3; replace q4 := Gr.at hb q4; replace g := g.trans hb
  replace HR1 := Lib.hid (HR1.out.gr hb)
  clear hb
  go_wp2_with fail
  refine (HRt.out _).mono ?_
  rintro e w7 ⟨rfl, hb⟩
  replace q0 := Gr.at hb q0; replace q1 := Gr.at hb q1; replace q2 := Gr.at hb q2; replace q3 := Gr.at hb q3; replace q4 := Gr.at hb q4; replace g := g.trans hb
  replace HR1 := Lib.hid (HR1.out.gr hb)
  clear hb
  go_wp2_with fail
  refine (RAl.out _ g).mono ?_
  intro e w8 hR; obtain ⟨t1, rfl, ht, hct1, hb⟩ := hR.at; clear hR
  replace q0 := Gr.at hb q0; replace q1 := Gr.at hb q1; replace q2 := Gr.at hb q2; replace q3 := Gr.at hb q3; replace q4 := Gr.at hb q4; replace g := g.trans hb
  replace HR1 := Lib.hid (HR1.out.gr hb)
  clear hb
  have HT1 := Lib.hid ht; have HCT1 := Lib.hid (HC1.out.trans hct1.symm); clear ht hct1 HC1
  go_wp2_with fail
  refine (HSm.out _ _ _ HR1.out HT1.out HCT1.out).mono ?_
  rintro e w9 ⟨rfl, hb⟩
  replace q0 := Gr.at hb q0; replace q1 := Gr.at hb q1; replace q2 := Gr.at hb q2; replace q3 := Gr.at hb q3; replace q4 := Gr.at hb q4; replace g := g.trans hb
  clear hb
  clear HR1 HT1 HCT1
  go_wp2_with fail
  refine (HWi.out _ g).mono ?_
  intro e w10 hR; obtain ⟨z, rfl, hz, hzl, hb⟩ := hR.at; clear hR
  replace q0 := Gr.at hb q0; replace q1 := Gr.at hb q1; replace q2 := Gr.at hb q2; replace q3 := Gr.at hb q3; replace q4 := Gr.at hb q4; replace g := g.trans hb
  clear hb
  have HZ := Lib.hid hz; have HZl := Lib.hid hzl; clear hz hzl
  go_wp2_with fail
  go_ret
  exact ⟨rfl, g⟩
set_option maxRecDepth 100000 in
set_option maxHeartbeats 4000000 in
theorem all_tttk (N : Ba.SlNode) (L : Ba.SlLink) (s : Al.SlM) (jp sm tl : Int) (d : Ba.SlI) (w : World) (hN : N.At w) (hL : L.At w) (h : s.At w) (hd : d.At w) (hf : Al.fewB N.n L.n s.n (Al.lngB s) = true) (hx : d.n ≤ 40) (hv : s.vB = true) (hn : Ba.netB N L = true) (hl : Al.lmO jp sm tl = true) (hr : Al.rgB d s.n = true) (hu : Al.dupB d.X d.n = false) : Calls Tryz.prog 4 #[Ba.netVal N L, .slice s.A s.n s.c, .agg #[.int .i64 jp, .int .i64 sm, .int .i64 tl], .slice d.A d.n d.c] w fun e w' => e = .returned (.bool true) ∧ Gr w w' := by
  have HAw := Lib.hid (fun W => awake_any W)
  have HFe := Lib.hid (fun W (hW : Gr w W) => few_any N L s W (hN.gr hW) (hL.gr hW) (h.gr hW))
  have hdc := hd.hc; have hdb := hd.hb
  rw [hf] at HFe
  clear hf
  have HV := Lib.hid (fun W (hW : Gr w W) => rvalid52_any s W (h.gr hW))
  rw [hv] at HV
  have HNv := Lib.hid (fun W (hW : Gr w W) => rnetvalid_any N L W (hN.gr hW) (hL.gr hW))
  rw [hn] at HNv
  have HRt := Lib.hid (fun W => rright53_any jp sm tl W)
  rw [hl] at HRt
  have hk : Al.gvE (Ba.netB N L && s.vB) (Al.lmO jp sm tl) = 0 := by rw [hn, hv, hl]; rfl
  have hsn := Al.vB_len hv
  have hvl := (Al.vB_iff s).1 hv
  have hl1 : 0 ≤ jp ∧ jp ≤ 8388608 := by have := hl; unfold Al.lmO at this; rw [Bool.and_eq_true] at this; exact Al.jmO_iff.1 this.1
  have hl2 : 2 ≤ sm ∧ sm ≤ 10000 := by have := hl; unfold Al.lmO at this; rw [Bool.and_eq_true, Bool.and_eq_true] at this; exact Al.stO_iff.1 this.2.1
  have HSm := Lib.hid (fun r t W hr ht hc => same_yes r t W hr ht hc)
  have HAl := Lib.hid (fun W (hW : Gr w W) => All_ok N L s jp sm tl W (hN.gr hW) (hL.gr hW) (h.gr hW) hk)
  have RAl := Lib.hid (fun W (hW : Gr w W) => rall_any N L s jp sm tl W (hN.gr hW) (hL.gr hW) (h.gr hW) hvl hl1 hl2)
  have HCl := Lib.hid (fun W (hW : Gr w W) => show Calls Tryz.prog 19 #[Ba.netVal N L, .slice s.A s.n s.c, .agg #[.int .i64 jp, .int .i64 sm, .int .i64 tl], .slice d.A d.n d.c] W (Al.RetAe (Al.allC N (s.left d) jp sm) 0 W) from by
    have := Cleared_at N L s jp sm tl d W (hN.gr hW) (hL.gr hW) (h.gr hW) (hd.gr hW) hk hr
    unfold Al.RetCl at this; rw [hu] at this; simpa using this)
  have HWi := Lib.hid (fun W (hW : Gr w W) => show Calls Tryz.prog 24 #[.slice s.A s.n s.c, .slice d.A d.n d.c] W (Al.RetMe (s.left d) 0 W) from by
    have := Without_at s d W (h.gr hW) (hd.gr hW) hsn hr
    unfold Al.RetWi at this; rw [hu] at this; simpa using this)
  have RAz := Lib.hid (fun (z : Al.SlM) W (hW : Gr w W) (hz : z.At W) (hzl : z.lst = s.left d) => show Calls Tryz.prog 23 #[Ba.netVal N L, .slice z.A z.n z.c, .agg #[.int .i64 jp, .int .i64 sm, .int .i64 tl]] W (Al.RetAl (Al.allC N (s.left d) jp sm) W) from hzl ▸ rall_any N L z jp sm tl W (hN.gr hW) (hL.gr hW) hz (hzl ▸ hvl.sub (Al.left_sub s d)) hl1 hl2)
  generalize Al.allC N (s.left d) jp sm = X2 at *
  generalize s.left d = LF at *
  clear hr hu
  generalize Al.allC N s.lst jp sm = X1 at *
  clear hv hn hl hk hsn hvl hl1 hl2
  clear hN hL h hd
  unfold Ba.netVal at *
  generalize N.A = nA at *; generalize N.n = nn at *; generalize N.c = nc at *; generalize L.A = lA at *; generalize L.n = ln at *; generalize L.c = lc at *; generalize s.A = sA at *; generalize s.n = sn at *; generalize s.c = sc at *; generalize d.A = dA at *; generalize d.n = dn at *; generalize d.c = dc at *
  go_enter Tryz.func4, Tryz.ntmps4
  go_wp2_with fail
  refine (HAw.out _).mono ?_
  rintro e w1 ⟨rfl, hb⟩
  have g : Gr w w1 := gr_auto
  have q0 := Gr.at (show Gr _ w1 from hb) (show World.cell? _ ⟨w.heap.size, 0, none⟩ = some (.slice nA nn nc) from by simp [go_sem])
  have q1 := Gr.at (show Gr _ w1 from hb) (show World.cell? _ ⟨w.heap.size, 1, none⟩ = some (.slice lA ln lc) from by simp [go_sem])
  have q2 := Gr.at (show Gr _ w1 from hb) (show World.cell? _ ⟨w.heap.size + 1, 0, none⟩ = some (.int .i64 jp) from by simp [go_sem])
  have q3 := Gr.at (show Gr _ w1 from hb) (show World.cell? _ ⟨w.heap.size + 1, 1, none⟩ = some (.int .i64 sm) from by simp [go_sem])
  have q4 := Gr.at (show Gr _ w1 from hb) (show World.cell? _ ⟨w.heap.size + 1, 2, none⟩ = some (.int .i64 tl) from by simp [go_sem])
  clear hb HAw
  go_wp2_with fail
  refine (HFe.out _ g).mono ?_
  rintro e w2 ⟨rfl, hb⟩
  replace q0 := Gr.at hb q0; replace q1 := Gr.at hb q1; replace q2 := Gr.at hb q2; replace q3 := Gr.at hb q3; replace q4 := Gr.at hb q4; replace g := g.trans hb
  clear hb
  go_wp2_with fail
  refine (HAl.out _ g).mono ?_
  intro e w3 hR; obtain ⟨r1, rfl, hr, hc1, hb⟩ := hR.at; clear hR
  replace q0 := Gr.at hb q0; replace q1 := Gr.at hb q1; replace q2 := Gr.at hb q2; replace q3 := Gr.at hb q3; replace q4 := Gr.at hb q4; replace g := g.trans hb
  clear hb
  have HR1 := Lib.hid hr; have HC1 := Lib.hid hc1; clear hr hc1
  go_wp2_with fail
  refine (HCl.out _ g).mono ?_
  intro e w4 hR; obtain ⟨r2, rfl, hr, hc2, hb⟩ := hR.at; clear hR
  replace q0 := Gr.at hb q0; replace q1 := Gr.at hb q1; replace q2 := Gr.at hb q2; replace q3 := Gr.at hb q3; replace q4 := Gr.at hb q4; replace g := g.trans hb
  replace HR1 := Lib.hid (HR1.out.gr hb)
  clear hb
  have HR2 := Lib.hid hr; have HC2 := Lib.hid hc2; clear hr hc2
  go_wp2_with fail
  refine (HV.out _ g).mono ?_
  rintro e w5 ⟨rfl, hb⟩
  replace q0 := Gr.at hb q0; replace q1 := Gr.at hb q1; replace q2 := Gr.at hb q2; replace q3 := Gr.at hb q3; replace q4 := Gr.at hb q4; replace g := g.trans hb
  replace HR1 := Lib.hid (HR1.out.gr hb)
  replace HR2 := Lib.hid (HR2.out.gr hb)
  clear hb
  go_wp2_with fail
  refine (HNv.out _ g).mono ?_
  rintro e w6 ⟨rfl, hb⟩
  replace q0 := Gr.at hb q0; replace q1 := Gr.at hb q1; replace q2 := Gr.at hb q2; replace q3 := Gr.at hb q3; replace q4 := Gr.at hb q4; replace g := g.trans hb
  replace HR1 := Lib.hid (HR1.out.gr hb)
  replace HR2 := Lib.hid (HR2.out.gr hb)
  clear hb
  go_wp2_with fail
  refine (HRt.out _).mono ?_
  rintro e w7 ⟨rfl, hb⟩
  replace q0 := Gr.at hb q0; replace q1 := Gr.at hb q1; replace q2 := Gr.at hb q2; replace q3 := Gr.at hb q3; replace q4 := Gr.at hb q4; replace g := g.trans hb
  replace HR1 := Lib.hid (HR1.out.gr hb)
  replace HR2 := Lib.hid (HR2.out.gr hb)
  clear hb
  go_wp2_with fail
  refine (RAl.out _ g).mono ?_
  intro e w8 hR; obtain ⟨t1, rfl, ht, hct1, hb⟩ := hR.at; clear hR
  replace q0 := Gr.at hb q0; replace q1 := Gr.at hb q1; replace q2 := Gr.at hb q2; replace q3 := Gr.at hb q3; replace q4 := Gr.at hb q4; replace g := g.trans hb
  replace HR1 := Lib.hid (HR1.out.gr hb)
  replace HR2 := Lib.hid (HR2.out.gr hb)
  clear hb
  have HT1 := Lib.hid ht; have HCT1 := Lib.hid (HC1.out.trans hct1.symm); clear ht hct1 HC1
  go_wp2_with fail
  refine (HSm.out _ _ _ HR1.out HT1.out HCT1.out).mono ?_
  rintro e w9 ⟨rfl, hb⟩
  replace q0 := Gr.at hb q0; replace q1 := Gr.at hb q1; replace q2 := Gr.at hb q2; replace q3 := Gr.at hb q3; replace q4 := Gr.at hb q4; replace g := g.trans hb
  replace HR2 := Lib.hid (HR2.out.gr hb)
  clear hb
  clear HR1 HT1 HCT1
  go_wp2_with fail
  refine (HWi.out _ g).mono ?_
  intro e w10 hR; obtain ⟨z, rfl, hz, hzl, hb⟩ := hR.at; clear hR
  replace q0 := Gr.at hb q0; replace q1 := Gr.at hb q1; replace q2 := Gr.at hb q2; replace q3 := Gr.at hb q3; replace q4 := Gr.at hb q4; replace g := g.trans hb
  replace HR2 := Lib.hid (HR2.out.gr hb)
  clear hb
  have HZ := Lib.hid hz; have HZl := Lib.hid hzl; clear hz hzl
  have RAz := Lib.hid (RAz.out z)
  go_wp2_with fail
  refine (RAz.out _ g HZ.out HZl.out).mono ?_
  intro e w11 hR; obtain ⟨t2, rfl, ht, hct2, hb⟩ := hR.at; clear hR
  replace q0 := Gr.at hb q0; replace q1 := Gr.at hb q1; replace q2 := Gr.at hb q2; replace q3 := Gr.at hb q3; replace q4 := Gr.at hb q4; replace g := g.trans hb
  replace HR2 := Lib.hid (HR2.out.gr hb)
  clear hb
  have HT2 := Lib.hid ht; have HCT2 := Lib.hid (HC2.out.trans hct2.symm); clear ht hct2 HC2 HZ HZl
  go_wp2_with fail
  refine (HSm.out _ _ _ HR2.out HT2.out HCT2.out).mono ?_
  rintro e w12 ⟨rfl, hb⟩
  replace q0 := Gr.at hb q0; replace q1 := Gr.at hb q1; replace q2 := Gr.at hb q2; replace q3 := Gr.at hb q3; replace q4 := Gr.at hb q4; replace g := g.trans hb
  clear hb
  go_wp2_with fail
  go_ret
  exact ⟨rfl, g⟩
theorem all_law (N : Ba.SlNode) (L : Ba.SlLink) (s : Al.SlM) (jp sm tl : Int) (d : Ba.SlI) (w : World) (hN : N.At w) (hL : L.At w) (h : s.At w) (hd : d.At w) : Calls Tryz.prog 4 #[Ba.netVal N L, .slice s.A s.n s.c, .agg #[.int .i64 jp, .int .i64 sm, .int .i64 tl], .slice d.A d.n d.c] w fun e w' => e = .returned (.bool true) ∧ Gr w w' := by
  cases hf : Al.fewB N.n L.n s.n (Al.lngB s)
  · exact all_few N L s jp sm tl d w hN hL h hd hf
  by_cases hx : d.n ≤ 40
  · cases hv : s.vB
    · exact all_f N L s jp sm tl d w hN hL h hd hf hx hv
    cases hn : Ba.netB N L
    · exact all_tf N L s jp sm tl d w hN hL h hd hf hx hv hn
    cases hl : Al.lmO jp sm tl
    · exact all_ttf N L s jp sm tl d w hN hL h hd hf hx hv hn hl
    cases hr : Al.rgB d s.n
    · exact all_tttr N L s jp sm tl d w hN hL h hd hf hx hv hn hl hr
    cases hu : Al.dupB d.X d.n
    · exact all_tttk N L s jp sm tl d w hN hL h hd hf hx hv hn hl hr hu
    · exact all_tttd N L s jp sm tl d w hN hL h hd hf hx hv hn hl hr hu
  · exact all_far N L s jp sm tl d w hN hL h hd hf (by omega)
theorem all_in (N : Ba.SlNode) (L : Ba.SlLink) (s : Al.SlM) (jp sm tl : Int) (d : Ba.SlI) (w : World) (hN : N.At w) (hL : L.At w) (h : s.At w) (_ : Ba.i64 jp) (_ : Ba.i64 sm) (_ : Ba.i64 tl) (hd : d.At w) : Calls Tryz.prog 4 #[Ba.netVal N L, .slice s.A s.n s.c, .agg #[.int .i64 jp, .int .i64 sm, .int .i64 tl], .slice d.A d.n d.c] w fun e w' => e = .returned (.bool true) ∧ Gr w w' := all_law N L s jp sm tl d w hN hL h hd
end Go.Proofs.YtllkiadedaghoaaGreat
set_option linter.unusedVariables false
set_option linter.unusedSimpArgs false
namespace Go.Proofs.YtllkiadedaghoaaGreat
open Go.ChangeShapes Go.WideShapes Go.ChangeAt Go.RowKit Go.Joins
set_option maxRecDepth 100000 in
theorem all_lifted (os : Os) (started : os.Started) (H : Type) (enc : TypeId × Value → H) :
    ReturnsInHanded {} Tryz.checked os 4 .any (Rows.alarmsAllSpec.pre6 enc Tryz.prog Tryz.f4 Rows.alarmsAllRow.domain false) (Rows.alarmsAllSpec.post enc Tryz.prog Tryz.f4 false true false false) := by
  refine returnsInHanded_of_change (C := Tryz.checked) fr_own started (by kernel_rfl) Tryz.func4
    (ChangeSpec.witness6 (enc := enc) (C := Tryz.checked) false ⟨#[], #[.agg #[.slice none 0 0, .slice none 0 0], .slice none 0 0, .agg #[.int .i64 0, .int .i64 0, .int .i64 0], .slice none 0 0], []⟩ 8 (by kernel_rfl) (by kernel_rfl) (by kernel_rfl) (by kernel_rfl)) ?_
  intro W base args ds gs before hval0 hW _ _
  have hval : ∀ (j : Nat) t v, Tryz.f4.params[j]? = some t → args[j]? = some v → Value.okWide Tryz.prog W .any base t v := hval0
  have hW' := hW
  obtain ⟨p, q, hA0, hV, rfl, _, _⟩ := hW
  have hA : DataW.TrodAll enc Tryz.prog W 0 (fun _ => true) true Tryz.f4.params.toList args.toList ds p := hA0
  have hall := hA
  rw [Tryz.params4] at hA hval
  obtain ⟨v0, v1, v2, v3, d0, d1, d2, d3, p0, p1, p2, p3, rfl, rfl, rfl, h0, h1, h2, h3⟩ := trodAll_four hA
  obtain ⟨rfl, rfl⟩ := trodVars_none hV
  have hlt := DataW.TrodAll.lt hall
  obtain ⟨c0, rfl, f0⟩ := fit_struct is_net Tryz.underlying28 (hval 0 28 v0 rfl rfl) h0
  obtain ⟨N0, L0, e0, hN0, hL0⟩ := Ba.netv_of f0
  obtain ⟨A1, n1, c1, rfl, f1⟩ := fit_slice is_msgs Tryz.underlying22 (hval 1 22 v1 rfl rfl) h1
  obtain ⟨M1, e1, hM1⟩ := Al.slm_of f1
  have e1' := Ba.sl_val e1
  obtain ⟨c2, rfl, f2⟩ := fit_struct is_lims Tryz.underlying41 (hval 2 41 v2 rfl rfl) h2
  obtain ⟨J2, S2, T2, e2, hJ2, hS2, hT2⟩ := Al.lims_of f2
  obtain ⟨A3, n3, c3, rfl, f3⟩ := fit_slice is_ints Tryz.underlying33 (hval 3 33 v3 rfl rfl) h3
  obtain ⟨P3, e3, hP3⟩ := Ba.sli_of f3
  have e3' := Ba.sl_val e3
  clear hA0 hval0
  simp only [List.append_nil, List.nil_append] at hW' hall hlt
  have key := all_in N0 L0 M1 J2 S2 T2 P3 W hN0 hL0 hM1 hJ2 hS2 hT2 hP3
  rw [← e0] at key
  rw [← e1'] at key
  rw [← e2] at key
  rw [← e3'] at key
  refine key.mono fun e W' ⟨he, hg⟩ => ?_
  subst he
  refine ⟨_, rfl, _, _, _, [], p0 ++ p1 ++ p2 ++ p3, [], hW', trodAll_mk1 (shut_bool Tryz.underlying4 _), ?_, rfl, Below.frame hg _, fun h => by cases h⟩
  exact fr_args hg _ _ _ _ (by rw [Tryz.params4]; intro t ht; have hm : t ∈ [28, 22, 41, 33] := (by simpa using ht); have hall : ([28, 22, 41, 33].all fun u => Tryz.prog.readableRec u && decide (u < Tryz.prog.types.size)) = true := (by kernel_rfl); have := List.all_eq_true.1 hall t hm; simpa using this) hlt hall
theorem all_holds : Rows.AlarmsAllSaid :=
  OpenClaim.holds_of_wide 4 Tryz.f4 rfl rfl rfl rfl rfl rfl rfl ⟨rfl, rfl, rfl, rfl, rfl⟩ rfl rfl rfl rfl rfl (by kernel_rfl) Tryz.func4 (by kernel_rfl)
    (of_decide_eq_true (by kernel_rfl)) (by unfold Func.isWrapper; first | (rw [if_pos (by decide +kernel)]; kernel_rfl) | (rw [if_neg (by decide +kernel)]; exact ⟨rfl, rfl⟩))
    (fun os started H enc _ => all_lifted os started H enc)
#print axioms all_holds
end Go.Proofs.YtllkiadedaghoaaGreat
