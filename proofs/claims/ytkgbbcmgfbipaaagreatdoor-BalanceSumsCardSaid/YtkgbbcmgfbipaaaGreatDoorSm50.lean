/-
  Law 36: heavy, wide, large. (Printed by mklaw.py.)
-/
import Derived.Test.YtkgbbcmgfbipaaaGreatDoorSm11

set_option linter.unusedVariables false
set_option linter.unusedSimpArgs false
namespace Go.Proofs.YtkgbbcmgfbipaaaGreatDoor
open Go.RowKit
namespace Ba
def gt (a : Int) (n : Nat) : Bool := decide (a < (n : Int))
def hv1 (d : Node) : Bool := gt 100 d.nm.size || gt 120 d.sh.n
def hv2 (d : Link) : Bool := gt 100 d.nm.size || (gt 100 d.fr.size || (gt 100 d.tt.size || (gt 100 d.sc.size || gt 120 d.cv.n)))
def heavyB (N : SlNode) (L : SlLink) : Bool := gt 12 N.n || (gt 20 L.n || (any (fun i => hv1 (N.D i)) N.n || any (fun k => hv2 (L.D k)) L.n))
end Ba
set_option maxRecDepth 100000 in
set_option maxHeartbeats 2000000 in
theorem heavy1_any (d : Ba.Node) (w : World) (h : d.Ok w) : Calls Tryz.prog 21 #[d.val] w fun e w' => e = .returned (.bool (Ba.hv1 d)) ∧ Gr w w' := by
  obtain ⟨-, -, -, -, -, -, hn, hs⟩ := h
  have hm := Nat.le_trans hs.hc hs.hb
  clear hs
  unfold Ba.hv1 Ba.gt Ba.Node.val
  obtain ⟨nm, kd, ax, ay, iv, gr, ⟨A, n, c, b, o, X, Y⟩, pr, rs⟩ := d
  simp only at *
  cases t0 : decide ((100 : Int) < (nm.size : Int))
  · cases t1 : decide ((120 : Int) < (n : Int))
    · go_enter Tryz.func21, Tryz.ntmps21
      go_wp2_with fail
      go_ret
      exact ⟨rfl, gr_auto⟩
    · go_enter Tryz.func21, Tryz.ntmps21
      go_wp2_with fail
      go_ret
      exact ⟨rfl, gr_auto⟩
  · go_enter Tryz.func21, Tryz.ntmps21
    go_wp2_with fail
    go_ret
    exact ⟨rfl, gr_auto⟩
set_option maxRecDepth 100000 in
set_option maxHeartbeats 2000000 in
theorem heavy2_any (d : Ba.Link) (w : World) (h : d.Ok w) : Calls Tryz.prog 23 #[d.val] w fun e w' => e = .returned (.bool (Ba.hv2 d)) ∧ Gr w w' := by
  obtain ⟨-, -, -, -, -, -, h1, h2, h3, h4, hs⟩ := h
  have hm := Nat.le_trans hs.hc hs.hb
  clear hs
  unfold Ba.hv2 Ba.gt Ba.Link.val
  obtain ⟨nm, fr, tt, kd, ln, up, dn, sc, wd, ht, ⟨A, n, c, b, o, X, Y⟩⟩ := d
  simp only at *
  cases t0 : decide ((100 : Int) < (nm.size : Int))
  · cases t1 : decide ((100 : Int) < (fr.size : Int))
    · cases t2 : decide ((100 : Int) < (tt.size : Int))
      · cases t3 : decide ((100 : Int) < (sc.size : Int))
        · cases t4 : decide ((120 : Int) < (n : Int))
          · go_enter Tryz.func23, Tryz.ntmps23
            go_wp2_with fail
            go_ret
            exact ⟨rfl, gr_auto⟩
          · go_enter Tryz.func23, Tryz.ntmps23
            go_wp2_with fail
            go_ret
            exact ⟨rfl, gr_auto⟩
        · go_enter Tryz.func23, Tryz.ntmps23
          go_wp2_with fail
          go_ret
          exact ⟨rfl, gr_auto⟩
      · go_enter Tryz.func23, Tryz.ntmps23
        go_wp2_with fail
        go_ret
        exact ⟨rfl, gr_auto⟩
    · go_enter Tryz.func23, Tryz.ntmps23
      go_wp2_with fail
      go_ret
      exact ⟨rfl, gr_auto⟩
  · go_enter Tryz.func23, Tryz.ntmps23
    go_wp2_with fail
    go_ret
    exact ⟨rfl, gr_auto⟩
set_option maxRecDepth 100000 in
set_option maxHeartbeats 2000000 in
theorem heavy_any (N : Ba.SlNode) (L : Ba.SlLink) (w : World) (hN : N.At w) (hL : L.At w) : Calls Tryz.prog 5 #[Ba.netVal N L] w fun e w' => e = .returned (.bool (Ba.heavyB N L)) ∧ Gr w w' := by
  have H1 := Lib.hid (fun W (hh : Gr w W) => has_node 21 #[] N (fun i => Ba.hv1 (N.D i)) W (hN.gr hh) (enter_of Tryz.func21 (by kernel_rfl) (by kernel_rfl)) fun i hi W' hW => heavy1_any (N.D i) W' (((hN.gr hh).hD i hi).2.gr hW))
  have H2 := Lib.hid (fun W (hh : Gr w W) => has_link 23 #[] L (fun i => Ba.hv2 (L.D i)) W (hL.gr hh) (enter_of Tryz.func23 (by kernel_rfl) (by kernel_rfl)) fun i hi W' hW => heavy2_any (L.D i) W' (((hL.gr hh).hD i hi).2.gr hW))
  have m1 := Nat.le_trans hN.hc hN.hb; have m2 := Nat.le_trans hL.hc hL.hb
  clear hN hL
  unfold Ba.heavyB Ba.gt Ba.netVal
  generalize Ba.any (fun i => Ba.hv1 (N.D i)) N.n = q1 at *
  generalize Ba.any (fun i => Ba.hv2 (L.D i)) L.n = q2 at *
  generalize N.A = A at *; generalize N.n = n at *; generalize N.c = c at *
  generalize L.A = A2 at *; generalize L.n = n2 at *; generalize L.c = c2 at *
  cases t0 : decide ((12 : Int) < (n : Int))
  · cases t1 : decide ((20 : Int) < (n2 : Int))
    · go_enter Tryz.func5, Tryz.ntmps5
      go_wp2_with fail
      (first | refine name_world ?_ | refine (show (∀ W, W = _ → Calls _ _ _ W _) → Calls _ _ _ _ _ from fun h => h _ rfl) ?_); intro W1 hW1
      have g1 : Gr w W1 := by rw [hW1]; exact gr_auto
      have k1_0 : W1.cell? ⟨w.heap.size, 0, none⟩ = some (.slice A n c) := by rw [hW1]; first | (simp [go_sem, *]; done) | (refine Gr.at ?_ (by assumption); exact gr_auto)
      have b1_0 : w.heap.size < W1.heap.size := World.block_lt_of_cell? _ _ k1_0
      have k1_1 : W1.cell? ⟨w.heap.size, 1, none⟩ = some (.slice A2 n2 c2) := by rw [hW1]; first | (simp [go_sem, *]; done) | (refine Gr.at ?_ (by assumption); exact gr_auto)
      clear hW1
      refine (H1.out _ g1).mono ?_
      rintro e w2 ⟨rfl, hb2⟩
      have g2 := g1.trans hb2
      have k1_0 := Gr.at (w1 := w2) gr_auto k1_0; have k1_1 := Gr.at (w1 := w2) gr_auto k1_1
      cases q1
      · go_wp2_with fail
        refine (H2.out _ g2).mono ?_
        rintro e w3 ⟨rfl, hb3⟩
        have g3 := g2.trans hb3
        go_wp2_with fail
        go_ret
        exact ⟨rfl, gr_auto⟩
      · go_wp2_with fail
        go_ret
        exact ⟨rfl, gr_auto⟩
    · go_enter Tryz.func5, Tryz.ntmps5
      go_wp2_with fail
      go_ret
      exact ⟨rfl, gr_auto⟩
  · go_enter Tryz.func5, Tryz.ntmps5
    go_wp2_with fail
    go_ret
    exact ⟨rfl, gr_auto⟩
end Go.Proofs.YtkgbbcmgfbipaaaGreatDoor
