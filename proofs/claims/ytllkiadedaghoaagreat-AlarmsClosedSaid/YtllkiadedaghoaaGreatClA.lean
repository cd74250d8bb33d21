/-
  Alarms: AlarmsClosed, the plain law and the early answers. (Printed by mkcla.py.)
-/
import Derived.Test.YtllkiadedaghoaaGreatCb30
import Derived.Test.YtllkiadedaghoaaGreatCb27
import Derived.Test.YtllkiadedaghoaaGreatCm11
import Derived.Test.YtllkiadedaghoaaGreatCm43
import Derived.Test.YtllkiadedaghoaaGreatCb28
set_option linter.unusedVariables false
set_option linter.unusedSimpArgs false
namespace Go.Proofs.YtllkiadedaghoaaGreat
open Go.RowKit Go.Shelf Go.Sort
attribute [local go_sem ↓] Go.wp_at_zero Go.wp_at_succ
namespace Ba
/-- Are the numbers the same? -/
def eqI (a b : SlI) : Bool := decide (a.n = b.n) && allB (fun i => a.X i == b.X i) a.n
end Ba
set_option maxRecDepth 100000 in
set_option maxHeartbeats 4000000 in
theorem eqi_any (a b : Ba.SlI) (w : World) (m1 : a.n ≤ 9223372036854775807) (m2 : b.n ≤ 9223372036854775807) (ha : 0 < a.n → a.A = some ⟨a.b, a.o, none⟩) (hax : ∀ i, i < a.n → w.cell? ⟨a.b, a.o + i, none⟩ = some (.int .i64 (a.X i))) (hb : 0 < b.n → b.A = some ⟨b.b, b.o, none⟩) (hbx : ∀ i, i < b.n → w.cell? ⟨b.b, b.o + i, none⟩ = some (.int .i64 (b.X i))) : Calls Tryz.prog 46 #[.slice a.A a.n a.c, .slice b.A b.n b.c] w fun e w' => e = .returned (.bool (Ba.eqI a b)) ∧ Gr w w' := by
  have HA := Lib.hid ha; have HX := Lib.hid hax; have KA := Lib.hid hb; have KX := Lib.hid hbx
  clear ha hb hax hbx
  unfold Ba.eqI
  obtain ⟨A, n, c, b1, o1, X⟩ := a
  obtain ⟨A2, n2, c2, b2, o2, Y⟩ := b
  simp only at *
  by_cases hn : n = n2
  rotate_left
  · rw [decide_eq_false hn]
    have t0 : ((n : Int) != (n2 : Int)) = true := by rw [bne_iff_ne]; omega
    clear hn
    go_enter Tryz.func46, Tryz.ntmps46
    go_wp2_with fail
    go_ret
    exact ⟨rfl, gr_auto⟩
  subst hn
  rw [decide_eq_true rfl, Bool.true_and]
  go_enter Tryz.func46, Tryz.ntmps46
  go_wp2_with fail
  go_loopw [13] (fun x wr => ∃ i : Nat, i ≤ n ∧ x = .int .i64 (i : Int) ∧ Hid (Ba.allB (fun i => X i == Y i) i = true) ∧ Gr w wr) (fun x _ => n - (intOf x).toNat)
  case atStart => exact ⟨0, Nat.zero_le _, rfl, Lib.hid rfl, Gr.refl _⟩
  case round =>
    obtain ⟨i, hi, rfl, HQ, hg⟩ := hrel
    by_cases hlt : i < n
    · obtain rfl := HA.out (by omega); obtain rfl := KA.out (by omega)
      have a0 := Gr.at hg (HX.out i hlt); have a1 := Gr.at hg (KX.out i hlt)
      have ib0 : (0 : Int) ≤ (i : Int) := by omega
      have ib1 : (i : Int) < (n : Int) := by omega
      cases hq : (X i == Y i)
      · have HZ := Lib.hid (Ba.allB_stop (p := fun i => X i == Y i) hlt hq)
        have hq2 : (X i != Y i) = true := by simp only [bne, hq, Bool.not_false]
        clear HX KX HQ
        generalize X i = x at *
        generalize Y i = y at *
        go_wp2_with fail
        go_quiet (fail)
        go_wp2_with fail
        go_ret
        exact ⟨by rw [HZ.out]; rfl, gr_auto⟩
      · have HZ := Lib.hid (Ba.allB_go (p := fun i => X i == Y i) HQ.out hq)
        have hq2 : (X i != Y i) = false := by simp only [bne, hq, Bool.not_true]
        clear HX KX HQ
        generalize X i = x at *
        generalize Y i = y at *
        go_wp2_with fail
        go_quiet (fail)
        go_wp2_with fail
        go_roundw
        case rel => exact ⟨i + 1, by omega, by go_num, HZ, gr_auto⟩
        case measure => simp [intOf]; omega
    · obtain rfl : n = i := by omega
      have HR := Lib.hid HQ.out
      clear HX KX HQ
      go_wp2_with fail
      go_ret
      exact ⟨by rw [HR.out]; rfl, hg⟩

namespace Al
/-- The change of the volume between two messages. -/
def dvs (d : Int → Int) (T : Nat → M) (j : Nat) : Int := d (T (j + 1)).lv - d (T j).lv
theorem balL_closed {d : Int → Int} {T : Nat → M} {tol : Int} {I : Nat → Int} (h0 : 0 ≤ tol) : ∀ {n : Nat}, (∀ j, j < n → I j = dvs d T j) → balL d T I tol n = []
  | 0, _ => rfl
  | n + 1, h => by
    rw [balL, balL_closed h0 (fun j hj => h j (by omega)), List.nil_append]
    unfold balS jumpIf balD
    rw [h n (by omega)]
    unfold dvs
    rw [if_neg (by omega)]
theorem balL_one {d : Int → Int} {T : Nat → M} {tol : Int} {I : Nat → Int} {q : Nat} {x : Int} (h0 : 0 ≤ tol) (hq : I q = dvs d T q + x) : ∀ {n : Nat}, q < n → (∀ j, j < n → j ≠ q → I j = dvs d T j) → balL d T I tol n = jumpIf tol x (alm 5 [T q, T (q + 1)])
  | 0, h, _ => absurd h (Nat.not_lt_zero _)
  | n + 1, hqn, h => by
    rw [balL]
    by_cases e : q = n
    · subst e
      rw [balL_closed h0 (fun j hj => h j (by omega) (by omega)), List.nil_append]
      unfold balS balD
      rw [hq]
      unfold dvs jumpIf
      by_cases p : tol < max x (-x)
      · rw [if_pos p, if_pos (by omega)]
      · rw [if_neg p, if_neg (by omega)]
    · rw [balL_one h0 hq (n := n) (by omega) (fun j hj => h j (by omega))]
      unfold balS balD
      rw [h n (by omega) (Ne.symm e)]
      unfold dvs
      rw [show jumpIf tol (d (T (n + 1)).lv - d (T n).lv - (d (T (n + 1)).lv - d (T n).lv)) (alm 5 [T n, T (n + 1)]) = [] from by unfold jumpIf; rw [if_neg (by omega)], List.append_nil]
theorem srt_one (c : C) : srt [c] = [c] := List.perm_singleton.1 (srt_perm [c])
theorem srt_jumpIf (tol x : Int) (c : C) : srt (jumpIf tol x c) = jumpIf tol x c := by
  unfold jumpIf
  split
  · exact srt_one c
  · exact srt_nil
/-- The inflows' row that a call has made: where it lies, and that it may be written. -/
theorem ownD {w : World} {base n : Nat} {v : Value} {X : Nat → Int} (h : w.ownsRow base 3 1 v n ((List.range n).map fun (q : Nat) => Value.int .i64 (X q))) : ∃ (A : Option Addr) (c g : Nat), v = .slice A n c ∧ (0 < n → A = some ⟨g, 0, none⟩ ∧ base ≤ g ∧ g < w.heap.size) ∧ n ≤ c ∧ c ≤ 9223372036854775807 ∧ ∀ i, i < n → w.cell? ⟨g, i, none⟩ = some (.int .i64 (X i)) ∧ w.frozen? ⟨g, i, none⟩ = false := by
  have h' := h
  obtain ⟨hl, ⟨rfl, rfl⟩ | ⟨g, cap, cur, rfl, hb, hc, hn, hm, r⟩⟩ := h
  · exact ⟨none, 0, 0, rfl, fun h => absurd h (by omega), Nat.le_refl _, by omega, fun i hi => absurd hi (by omega)⟩
  · have hlt : g < w.heap.size := (Array.getElem?_eq_some_iff.1 hc).1
    refine ⟨some ⟨g, 0, none⟩, cap, g, rfl, fun _ => ⟨rfl, hb, hlt⟩, hn, by unfold maxLen at hm; exact hm, fun i hi => ⟨?_, ?_⟩⟩
    · have := h'.cellAt i (by omega)
      rw [this]; simp [hi]
    · simp [World.frozen?, hc]
end Al

set_option maxRecDepth 100000 in
set_option maxHeartbeats 4000000 in
theorem closed_few (N : Ba.SlNode) (L : Ba.SlLink) (s : Al.SlM) (nd : ByteArray) (tol kk wr : Int) (w : World) (hN : N.At w) (hL : L.At w) (h : s.At w) (hnd : nd.size ≤ 9223372036854775807) (hk8 : 0 ≤ kk ∧ kk ≤ 255) (hf : Al.fewB N.n L.n s.n (Al.lngB s) = false) : Calls Tryz.prog 9 #[Ba.netVal N L, .slice s.A s.n s.c, .string nd, .int .i64 tol, .int .u8 kk, .int .i64 wr] w fun e w' => e = .returned (.bool true) ∧ Gr w w' := by
  have HAw := Lib.hid (fun W => awake_any W)
  have HFe := Lib.hid (fun W (hW : Gr w W) => few_any N L s W (hN.gr hW) (hL.gr hW) (h.gr hW))
  rw [hf] at HFe
  clear hN hL h hf
  unfold Ba.netVal at *
  generalize N.A = nA at *; generalize N.n = nn at *; generalize N.c = nc at *; generalize L.A = lA at *; generalize L.n = ln at *; generalize L.c = lc at *
  generalize s.A = sA at *; generalize s.n = sn at *; generalize s.c = sc at *
  go_enter Tryz.func9, Tryz.ntmps9
  go_wp2_with fail
  refine (HAw.out _).mono ?_
  rintro e w1 ⟨rfl, hb⟩
  have g : Gr w w1 := gr_auto
  have q0 := Gr.at (show Gr _ w1 from hb) (show World.cell? _ ⟨w.heap.size, 0, none⟩ = some (.slice nA nn nc) from by simp [go_sem])
  have q1 := Gr.at (show Gr _ w1 from hb) (show World.cell? _ ⟨w.heap.size, 1, none⟩ = some (.slice lA ln lc) from by simp [go_sem])
  clear hb HAw
  go_wp2_with fail
  refine (HFe.out _ g).mono ?_
  rintro e w2 ⟨rfl, hb⟩
  replace q0 := Gr.at hb q0
  replace q1 := Gr.at hb q1
  replace g := g.trans hb
  clear hb
  go_wp2_with fail
  go_ret
  exact ⟨rfl, g⟩

set_option maxRecDepth 100000 in
set_option maxHeartbeats 4000000 in
theorem closed_long (N : Ba.SlNode) (L : Ba.SlLink) (s : Al.SlM) (nd : ByteArray) (tol kk wr : Int) (w : World) (hN : N.At w) (hL : L.At w) (h : s.At w) (hnd : nd.size ≤ 9223372036854775807) (hk8 : 0 ≤ kk ∧ kk ≤ 255) (hf : Al.fewB N.n L.n s.n (Al.lngB s) = true) (hl : 50 < nd.size) : Calls Tryz.prog 9 #[Ba.netVal N L, .slice s.A s.n s.c, .string nd, .int .i64 tol, .int .u8 kk, .int .i64 wr] w fun e w' => e = .returned (.bool true) ∧ Gr w w' := by
  have HAw := Lib.hid (fun W => awake_any W)
  have HFe := Lib.hid (fun W (hW : Gr w W) => few_any N L s W (hN.gr hW) (hL.gr hW) (h.gr hW))
  rw [hf] at HFe
  have l0 : decide ((50 : Int) < (nd.size : Int)) = true := decide_eq_true (by omega)
  have l1 : decide (50 < nd.size) = true := decide_eq_true hl
  have l2 : (50 : Int) < (nd.size : Int) := by omega
  clear hN hL h hf
  unfold Ba.netVal at *
  generalize N.A = nA at *; generalize N.n = nn at *; generalize N.c = nc at *; generalize L.A = lA at *; generalize L.n = ln at *; generalize L.c = lc at *
  generalize s.A = sA at *; generalize s.n = sn at *; generalize s.c = sc at *
  go_enter Tryz.func9, Tryz.ntmps9
  go_wp2_with fail
  refine (HAw.out _).mono ?_
  rintro e w1 ⟨rfl, hb⟩
  have g : Gr w w1 := gr_auto
  have q0 := Gr.at (show Gr _ w1 from hb) (show World.cell? _ ⟨w.heap.size, 0, none⟩ = some (.slice nA nn nc) from by simp [go_sem])
  have q1 := Gr.at (show Gr _ w1 from hb) (show World.cell? _ ⟨w.heap.size, 1, none⟩ = some (.slice lA ln lc) from by simp [go_sem])
  clear hb HAw
  go_wp2_with fail
  refine (HFe.out _ g).mono ?_
  rintro e w2 ⟨rfl, hb⟩
  replace q0 := Gr.at hb q0
  replace q1 := Gr.at hb q1
  replace g := g.trans hb
  clear hb
  go_wp2_with fail
  go_ret
  exact ⟨rfl, g⟩

set_option maxRecDepth 100000 in
set_option maxHeartbeats 4000000 in
theorem closed_net (N : Ba.SlNode) (L : Ba.SlLink) (s : Al.SlM) (nd : ByteArray) (tol kk wr : Int) (w : World) (hN : N.At w) (hL : L.At w) (h : s.At w) (hnd : nd.size ≤ 9223372036854775807) (hk8 : 0 ≤ kk ∧ kk ≤ 255) (hf : Al.fewB N.n L.n s.n (Al.lngB s) = true) (hl : nd.size ≤ 50) (hnb : Ba.netB N L = false) : Calls Tryz.prog 9 #[Ba.netVal N L, .slice s.A s.n s.c, .string nd, .int .i64 tol, .int .u8 kk, .int .i64 wr] w fun e w' => e = .returned (.bool true) ∧ Gr w w' := by
  have HAw := Lib.hid (fun W => awake_any W)
  have HFe := Lib.hid (fun W (hW : Gr w W) => few_any N L s W (hN.gr hW) (hL.gr hW) (h.gr hW))
  rw [hf] at HFe
  have l0 : decide ((50 : Int) < (nd.size : Int)) = false := decide_eq_false (by omega)
  have l1 : decide (50 < nd.size) = false := decide_eq_false (by omega)
  have l2 : ¬ (50 : Int) < (nd.size : Int) := by omega
  have HNv := Lib.hid (fun W (hW : Gr w W) => rnetvalid_any N L W (hN.gr hW) (hL.gr hW))
  rw [hnb] at HNv
  clear hnb
  clear hN hL h hf
  unfold Ba.netVal at *
  generalize N.A = nA at *; generalize N.n = nn at *; generalize N.c = nc at *; generalize L.A = lA at *; generalize L.n = ln at *; generalize L.c = lc at *
  generalize s.A = sA at *; generalize s.n = sn at *; generalize s.c = sc at *
  go_enter Tryz.func9, Tryz.ntmps9
  go_wp2_with fail
  refine (HAw.out _).mono ?_
  rintro e w1 ⟨rfl, hb⟩
  have g : Gr w w1 := gr_auto
  have q0 := Gr.at (show Gr _ w1 from hb) (show World.cell? _ ⟨w.heap.size, 0, none⟩ = some (.slice nA nn nc) from by simp [go_sem])
  have q1 := Gr.at (show Gr _ w1 from hb) (show World.cell? _ ⟨w.heap.size, 1, none⟩ = some (.slice lA ln lc) from by simp [go_sem])
  clear hb HAw
  go_wp2_with fail
  refine (HFe.out _ g).mono ?_
  rintro e w2 ⟨rfl, hb⟩
  replace q0 := Gr.at hb q0
  replace q1 := Gr.at hb q1
  replace g := g.trans hb
  clear hb
  go_wp2_with fail
  refine (HNv.out _ g).mono ?_
  rintro e w3 ⟨rfl, hb⟩
  replace q0 := Gr.at hb q0
  replace q1 := Gr.at hb q1
  replace g := g.trans hb
  clear hb
  go_wp2_with fail
  go_ret
  exact ⟨rfl, g⟩

set_option maxRecDepth 100000 in
set_option maxHeartbeats 4000000 in
theorem closed_msg (N : Ba.SlNode) (L : Ba.SlLink) (s : Al.SlM) (nd : ByteArray) (tol kk wr : Int) (w : World) (hN : N.At w) (hL : L.At w) (h : s.At w) (hnd : nd.size ≤ 9223372036854775807) (hk8 : 0 ≤ kk ∧ kk ≤ 255) (hf : Al.fewB N.n L.n s.n (Al.lngB s) = true) (hl : nd.size ≤ 50) (hnb : Ba.netB N L = true) (hv : s.vB = false) : Calls Tryz.prog 9 #[Ba.netVal N L, .slice s.A s.n s.c, .string nd, .int .i64 tol, .int .u8 kk, .int .i64 wr] w fun e w' => e = .returned (.bool true) ∧ Gr w w' := by
  have HAw := Lib.hid (fun W => awake_any W)
  have HFe := Lib.hid (fun W (hW : Gr w W) => few_any N L s W (hN.gr hW) (hL.gr hW) (h.gr hW))
  rw [hf] at HFe
  have l0 : decide ((50 : Int) < (nd.size : Int)) = false := decide_eq_false (by omega)
  have l1 : decide (50 < nd.size) = false := decide_eq_false (by omega)
  have l2 : ¬ (50 : Int) < (nd.size : Int) := by omega
  have HNv := Lib.hid (fun W (hW : Gr w W) => rnetvalid_any N L W (hN.gr hW) (hL.gr hW))
  rw [hnb] at HNv
  have HV := Lib.hid (fun W (hW : Gr w W) => rvalid52_any s W (h.gr hW))
  rw [hv] at HV
  clear hnb hv
  clear hN hL h hf
  unfold Ba.netVal at *
  generalize N.A = nA at *; generalize N.n = nn at *; generalize N.c = nc at *; generalize L.A = lA at *; generalize L.n = ln at *; generalize L.c = lc at *
  generalize s.A = sA at *; generalize s.n = sn at *; generalize s.c = sc at *
  go_enter Tryz.func9, Tryz.ntmps9
  go_wp2_with fail
  refine (HAw.out _).mono ?_
  rintro e w1 ⟨rfl, hb⟩
  have g : Gr w w1 := gr_auto
  have q0 := Gr.at (show Gr _ w1 from hb) (show World.cell? _ ⟨w.heap.size, 0, none⟩ = some (.slice nA nn nc) from by simp [go_sem])
  have q1 := Gr.at (show Gr _ w1 from hb) (show World.cell? _ ⟨w.heap.size, 1, none⟩ = some (.slice lA ln lc) from by simp [go_sem])
  clear hb HAw
  go_wp2_with fail
  refine (HFe.out _ g).mono ?_
  rintro e w2 ⟨rfl, hb⟩
  replace q0 := Gr.at hb q0
  replace q1 := Gr.at hb q1
  replace g := g.trans hb
  clear hb
  go_wp2_with fail
  refine (HNv.out _ g).mono ?_
  rintro e w3 ⟨rfl, hb⟩
  replace q0 := Gr.at hb q0
  replace q1 := Gr.at hb q1
  replace g := g.trans hb
  clear hb
  go_wp2_with fail
  refine (HV.out _ g).mono ?_
  rintro e w4 ⟨rfl, hb⟩
  replace q0 := Gr.at hb q0
  replace q1 := Gr.at hb q1
  replace g := g.trans hb
  clear hb
  go_wp2_with fail
  go_ret
  exact ⟨rfl, g⟩

set_option maxRecDepth 100000 in
set_option maxHeartbeats 4000000 in
theorem closed_rng (N : Ba.SlNode) (L : Ba.SlLink) (s : Al.SlM) (nd : ByteArray) (tol kk wr : Int) (w : World) (hN : N.At w) (hL : L.At w) (h : s.At w) (hnd : nd.size ≤ 9223372036854775807) (hk8 : 0 ≤ kk ∧ kk ≤ 255) (hf : Al.fewB N.n L.n s.n (Al.lngB s) = true) (hl : nd.size ≤ 50) (hnb : Ba.netB N L = true) (hv : s.vB = true) (hr : tol < 0 ∨ 1099511627776 < tol ∨ wr < -1099511627776 ∨ 1099511627776 < wr) : Calls Tryz.prog 9 #[Ba.netVal N L, .slice s.A s.n s.c, .string nd, .int .i64 tol, .int .u8 kk, .int .i64 wr] w fun e w' => e = .returned (.bool true) ∧ Gr w w' := by
  have HAw := Lib.hid (fun W => awake_any W)
  have HFe := Lib.hid (fun W (hW : Gr w W) => few_any N L s W (hN.gr hW) (hL.gr hW) (h.gr hW))
  rw [hf] at HFe
  have l0 : decide ((50 : Int) < (nd.size : Int)) = false := decide_eq_false (by omega)
  have l1 : decide (50 < nd.size) = false := decide_eq_false (by omega)
  have l2 : ¬ (50 : Int) < (nd.size : Int) := by omega
  have HNv := Lib.hid (fun W (hW : Gr w W) => rnetvalid_any N L W (hN.gr hW) (hL.gr hW))
  rw [hnb] at HNv
  have HV := Lib.hid (fun W (hW : Gr w W) => rvalid52_any s W (h.gr hW))
  rw [hv] at HV
  clear hnb hv
  clear hN hL h hf
  unfold Ba.netVal at *
  generalize N.A = nA at *; generalize N.n = nn at *; generalize N.c = nc at *; generalize L.A = lA at *; generalize L.n = ln at *; generalize L.c = lc at *
  generalize s.A = sA at *; generalize s.n = sn at *; generalize s.c = sc at *
  go_enter Tryz.func9, Tryz.ntmps9
  go_wp2_with fail
  refine (HAw.out _).mono ?_
  rintro e w1 ⟨rfl, hb⟩
  have g : Gr w w1 := gr_auto
  have q0 := Gr.at (show Gr _ w1 from hb) (show World.cell? _ ⟨w.heap.size, 0, none⟩ = some (.slice nA nn nc) from by simp [go_sem])
  have q1 := Gr.at (show Gr _ w1 from hb) (show World.cell? _ ⟨w.heap.size, 1, none⟩ = some (.slice lA ln lc) from by simp [go_sem])
  clear hb HAw
  go_wp2_with fail
  refine (HFe.out _ g).mono ?_
  rintro e w2 ⟨rfl, hb⟩
  replace q0 := Gr.at hb q0
  replace q1 := Gr.at hb q1
  replace g := g.trans hb
  clear hb
  go_wp2_with fail
  refine (HNv.out _ g).mono ?_
  rintro e w3 ⟨rfl, hb⟩
  replace q0 := Gr.at hb q0
  replace q1 := Gr.at hb q1
  replace g := g.trans hb
  clear hb
  go_wp2_with fail
  refine (HV.out _ g).mono ?_
  rintro e w4 ⟨rfl, hb⟩
  replace g := g.trans hb
  clear hb HV HNv HFe q0 q1
  rcases (by omega : tol < 0 ∨ (0 ≤ tol ∧ 1099511627776 < tol) ∨ (0 ≤ tol ∧ tol ≤ 1099511627776 ∧ wr < -1099511627776) ∨ (0 ≤ tol ∧ tol ≤ 1099511627776 ∧ -1099511627776 ≤ wr ∧ 1099511627776 < wr)) with z | ⟨z, z2⟩ | ⟨z, z2, z3⟩ | ⟨z, z2, z3, z4⟩
  · clear hr
    have d0 : decide (tol < 0) = true := decide_eq_true (by omega)
    go_wp2_with fail
    go_ret
    exact ⟨rfl, g⟩
  · clear hr
    have d0 : decide (tol < 0) = false := decide_eq_false (by omega)
    have p0 : ¬ tol < 0 := by omega
    have d1 : decide (1099511627776 < tol) = true := decide_eq_true (by omega)
    go_wp2_with fail
    go_ret
    exact ⟨rfl, g⟩
  · clear hr
    have d0 : decide (tol < 0) = false := decide_eq_false (by omega)
    have p0 : ¬ tol < 0 := by omega
    have d1 : decide (1099511627776 < tol) = false := decide_eq_false (by omega)
    have p1 : ¬ 1099511627776 < tol := by omega
    have d2 : decide (wr < -1099511627776) = true := decide_eq_true (by omega)
    go_wp2_with fail
    go_ret
    exact ⟨rfl, g⟩
  · clear hr
    have d0 : decide (tol < 0) = false := decide_eq_false (by omega)
    have p0 : ¬ tol < 0 := by omega
    have d1 : decide (1099511627776 < tol) = false := decide_eq_false (by omega)
    have p1 : ¬ 1099511627776 < tol := by omega
    have d2 : decide (wr < -1099511627776) = false := decide_eq_false (by omega)
    have p2 : ¬ wr < -1099511627776 := by omega
    have d3 : decide (1099511627776 < wr) = true := decide_eq_true (by omega)
    go_wp2_with fail
    go_ret
    exact ⟨rfl, g⟩

set_option maxRecDepth 100000 in
set_option maxHeartbeats 4000000 in
theorem closed_name (N : Ba.SlNode) (L : Ba.SlLink) (s : Al.SlM) (nd : ByteArray) (tol kk wr : Int) (w : World) (hN : N.At w) (hL : L.At w) (h : s.At w) (hnd : nd.size ≤ 9223372036854775807) (hk8 : 0 ≤ kk ∧ kk ≤ 255) (hf : Al.fewB N.n L.n s.n (Al.lngB s) = true) (hl : nd.size ≤ 50) (hnb : Ba.netB N L = true) (hv : s.vB = true) (r1 : 0 ≤ tol) (r2 : tol ≤ 1099511627776) (r3 : -1099511627776 ≤ wr) (r4 : wr ≤ 1099511627776) (hx : Ba.nix N nd < 0) : Calls Tryz.prog 9 #[Ba.netVal N L, .slice s.A s.n s.c, .string nd, .int .i64 tol, .int .u8 kk, .int .i64 wr] w fun e w' => e = .returned (.bool true) ∧ Gr w w' := by
  have HAw := Lib.hid (fun W => awake_any W)
  have HFe := Lib.hid (fun W (hW : Gr w W) => few_any N L s W (hN.gr hW) (hL.gr hW) (h.gr hW))
  rw [hf] at HFe
  have l0 : decide ((50 : Int) < (nd.size : Int)) = false := decide_eq_false (by omega)
  have l1 : decide (50 < nd.size) = false := decide_eq_false (by omega)
  have l2 : ¬ (50 : Int) < (nd.size : Int) := by omega
  have d0 : decide (tol < 0) = false := decide_eq_false (by omega)
  have p0 : ¬ tol < 0 := by omega
  have d1 : decide (1099511627776 < tol) = false := decide_eq_false (by omega)
  have p1 : ¬ 1099511627776 < tol := by omega
  have d2 : decide (wr < -1099511627776) = false := decide_eq_false (by omega)
  have p2 : ¬ wr < -1099511627776 := by omega
  have d3 : decide (1099511627776 < wr) = false := decide_eq_false (by omega)
  have p3 : ¬ 1099511627776 < wr := by omega
  have HBa := Lib.hid (fun W (hW : Gr w W) => show Calls Tryz.prog 41 #[Ba.netVal N L, .slice s.A s.n s.c, .string nd, .slice none 0 0, .int .i64 tol] W fun e w' => e = .returned (.tuple #[.slice none 0 0, .int .i64 9]) ∧ Gr W w' from bal_name N L s nd ⟨none, 0, 0, 0, 0, fun _ => 0⟩ tol W (hN.gr hW) (hL.gr hW) (h.gr hW) hnd ⟨fun h => absurd h (Nat.lt_irrefl _), Nat.le_refl _, Nat.zero_le _, fun i hi => absurd hi (Nat.not_lt_zero _)⟩ hnb hv hx)
  have HNv := Lib.hid (fun W (hW : Gr w W) => rnetvalid_any N L W (hN.gr hW) (hL.gr hW))
  rw [hnb] at HNv
  have HV := Lib.hid (fun W (hW : Gr w W) => rvalid52_any s W (h.gr hW))
  rw [hv] at HV
  have HFi := Lib.hid (fun W (hW : Gr w W) => show Calls Tryz.prog 43 #[.agg #[.slice N.A N.n N.c, .slice L.A L.n L.c], .string nd] W fun e w' => e = .returned (.int .i64 (Ba.nix N nd)) ∧ Gr W w' from rfindnode_any N L.A L.n L.c nd W (hN.gr hW))
  clear hnb hv hnd hl r1 r2 r3 r4 hk8
  have t0 : decide (Ba.nix N nd < 0) = true := decide_eq_true hx
  clear hN hL h hf
  unfold Ba.netVal at *
  generalize Ba.nix N nd = q at *
  generalize N.A = nA at *; generalize N.n = nn at *; generalize N.c = nc at *; generalize L.A = lA at *; generalize L.n = ln at *; generalize L.c = lc at *
  generalize s.A = sA at *; generalize s.n = sn at *; generalize s.c = sc at *
  go_enter Tryz.func9, Tryz.ntmps9
  go_wp2_with fail
  refine (HAw.out _).mono ?_
  rintro e w1 ⟨rfl, hb⟩
  have g : Gr w w1 := gr_auto
  have q0 := Gr.at (show Gr _ w1 from hb) (show World.cell? _ ⟨w.heap.size, 0, none⟩ = some (.slice nA nn nc) from by simp [go_sem])
  have q1 := Gr.at (show Gr _ w1 from hb) (show World.cell? _ ⟨w.heap.size, 1, none⟩ = some (.slice lA ln lc) from by simp [go_sem])
  clear hb HAw
  go_wp2_with fail
  refine (HFe.out _ g).mono ?_
  rintro e w2 ⟨rfl, hb⟩
  replace q0 := Gr.at hb q0
  replace q1 := Gr.at hb q1
  replace g := g.trans hb
  clear hb
  go_wp2_with fail
  refine (HNv.out _ g).mono ?_
  rintro e w3 ⟨rfl, hb⟩
  replace q0 := Gr.at hb q0
  replace q1 := Gr.at hb q1
  replace g := g.trans hb
  clear hb
  go_wp2_with fail
  refine (HV.out _ g).mono ?_
  rintro e w4 ⟨rfl, hb⟩
  replace q0 := Gr.at hb q0
  replace q1 := Gr.at hb q1
  replace g := g.trans hb
  clear hb
  go_wp2_with fail
  refine (HFi.out _ g).mono ?_
  rintro e w5 ⟨rfl, hb⟩
  replace q0 := Gr.at hb q0
  replace q1 := Gr.at hb q1
  replace g := g.trans hb
  clear hb
  go_wp2_with fail
  refine (HBa.out _ g).mono ?_
  rintro e w6 ⟨rfl, hb⟩
  replace q0 := Gr.at hb q0
  replace q1 := Gr.at hb q1
  replace g := g.trans hb
  clear hb
  go_wp2_with fail
  go_ret
  exact ⟨rfl, g⟩

set_option maxRecDepth 100000 in
set_option maxHeartbeats 4000000 in
theorem closed_kind (N : Ba.SlNode) (L : Ba.SlLink) (s : Al.SlM) (nd : ByteArray) (tol kk wr : Int) (w : World) (hN : N.At w) (hL : L.At w) (h : s.At w) (hnd : nd.size ≤ 9223372036854775807) (hk8 : 0 ≤ kk ∧ kk ≤ 255) (hf : Al.fewB N.n L.n s.n (Al.lngB s) = true) (hl : nd.size ≤ 50) (hnb : Ba.netB N L = true) (hv : s.vB = true) (r1 : 0 ≤ tol) (r2 : tol ≤ 1099511627776) (r3 : -1099511627776 ≤ wr) (r4 : wr ≤ 1099511627776) (k : Nat) (hx : Ba.nix N nd = (k : Int)) (hk : (N.D k).kd = 3) : Calls Tryz.prog 9 #[Ba.netVal N L, .slice s.A s.n s.c, .string nd, .int .i64 tol, .int .u8 kk, .int .i64 wr] w fun e w' => e = .returned (.bool true) ∧ Gr w w' := by
  have HAw := Lib.hid (fun W => awake_any W)
  have HFe := Lib.hid (fun W (hW : Gr w W) => few_any N L s W (hN.gr hW) (hL.gr hW) (h.gr hW))
  rw [hf] at HFe
  have l0 : decide ((50 : Int) < (nd.size : Int)) = false := decide_eq_false (by omega)
  have l1 : decide (50 < nd.size) = false := decide_eq_false (by omega)
  have l2 : ¬ (50 : Int) < (nd.size : Int) := by omega
  have d0 : decide (tol < 0) = false := decide_eq_false (by omega)
  have p0 : ¬ tol < 0 := by omega
  have d1 : decide (1099511627776 < tol) = false := decide_eq_false (by omega)
  have p1 : ¬ 1099511627776 < tol := by omega
  have d2 : decide (wr < -1099511627776) = false := decide_eq_false (by omega)
  have p2 : ¬ wr < -1099511627776 := by omega
  have d3 : decide (1099511627776 < wr) = false := decide_eq_false (by omega)
  have p3 : ¬ 1099511627776 < wr := by omega
  have HBa := Lib.hid (fun W (hW : Gr w W) => show Calls Tryz.prog 41 #[Ba.netVal N L, .slice s.A s.n s.c, .string nd, .slice none 0 0, .int .i64 tol] W fun e w' => e = .returned (.tuple #[.slice none 0 0, .int .i64 11]) ∧ Gr W w' from bal_kind N L s nd ⟨none, 0, 0, 0, 0, fun _ => 0⟩ tol W (hN.gr hW) (hL.gr hW) (h.gr hW) hnd ⟨fun h => absurd h (Nat.lt_irrefl _), Nat.le_refl _, Nat.zero_le _, fun i hi => absurd hi (Nat.not_lt_zero _)⟩ hnb hv k hx hk)
  have HNv := Lib.hid (fun W (hW : Gr w W) => rnetvalid_any N L W (hN.gr hW) (hL.gr hW))
  rw [hnb] at HNv
  have HV := Lib.hid (fun W (hW : Gr w W) => rvalid52_any s W (h.gr hW))
  rw [hv] at HV
  have HFi := Lib.hid (fun W (hW : Gr w W) => show Calls Tryz.prog 43 #[.agg #[.slice N.A N.n N.c, .slice L.A L.n L.c], .string nd] W fun e w' => e = .returned (.int .i64 (Ba.nix N nd)) ∧ Gr W w' from rfindnode_any N L.A L.n L.c nd W (hN.gr hW))
  rw [hx] at HFi
  have hkn := (Ba.fstI_is hx).1
  have hrn := Ba.net_node hnb hkn
  have hNA := hN.hA (by omega)
  have hNc := hN.hc; have hNb := hN.hb
  obtain ⟨hnc, hno⟩ := hN.hD k hkn
  obtain ⟨n0, n1, n2, n3, n4, n5, n6, n7, n8⟩ := hnc
  have ik0 : (0 : Int) ≤ (k : Int) := by omega
  have ik1 : (k : Int) < (N.n : Int) := by omega
  have ik2 : ¬ (k : Int) < 0 := by omega
  have ik3 : decide ((k : Int) < 0) = false := decide_eq_false ik2
  obtain ⟨D, hD⟩ : ∃ D, N.D k = D := ⟨_, rfl⟩
  rw [hD] at n0 n1 n2 n3 n4 n5 n6 n7 n8
  rw [hD] at hk
  clear hD
  generalize D.sh.A = sha at *; generalize D.sh.n = shn at *; generalize D.sh.c = shc at *
  cases D with | mk nm kd ax ay iv gr sh pr rs =>
  simp only [] at *
  clear hnb hv hnd hl r1 r2 r3 r4 hk8 hx hno hrn
  have t0 : (kd == 3) = true := beq_iff_eq.2 hk
  clear hk
  clear hN hL h hf
  unfold Ba.netVal at *
  cases N with | mk nA nn nc nb no nD =>
  simp only [] at *
  subst hNA
  generalize L.A = lA at *; generalize L.n = ln at *; generalize L.c = lc at *
  generalize s.A = sA at *; generalize s.n = sn at *; generalize s.c = sc at *
  go_enter Tryz.func9, Tryz.ntmps9
  go_wp2_with fail
  refine (HAw.out _).mono ?_
  rintro e w1 ⟨rfl, hb⟩
  have g : Gr w w1 := gr_auto
  have q0 := Gr.at (show Gr _ w1 from hb) (show World.cell? _ ⟨w.heap.size, 0, none⟩ = some (.slice (some ⟨nb, no, none⟩) nn nc) from by simp [go_sem])
  have q1 := Gr.at (show Gr _ w1 from hb) (show World.cell? _ ⟨w.heap.size, 1, none⟩ = some (.slice lA ln lc) from by simp [go_sem])
  clear hb HAw
  replace n0 := Gr.at g n0
  replace n1 := Gr.at g n1
  replace n2 := Gr.at g n2
  replace n3 := Gr.at g n3
  replace n4 := Gr.at g n4
  replace n5 := Gr.at g n5
  replace n6 := Gr.at g n6
  replace n7 := Gr.at g n7
  replace n8 := Gr.at g n8
  go_wp2_with fail
  refine (HFe.out _ g).mono ?_
  rintro e w2 ⟨rfl, hb⟩
  replace q0 := Gr.at hb q0
  replace q1 := Gr.at hb q1
  replace n0 := Gr.at hb n0
  replace n1 := Gr.at hb n1
  replace n2 := Gr.at hb n2
  replace n3 := Gr.at hb n3
  replace n4 := Gr.at hb n4
  replace n5 := Gr.at hb n5
  replace n6 := Gr.at hb n6
  replace n7 := Gr.at hb n7
  replace n8 := Gr.at hb n8
  replace g := g.trans hb
  clear hb
  go_wp2_with fail
  refine (HNv.out _ g).mono ?_
  rintro e w3 ⟨rfl, hb⟩
  replace q0 := Gr.at hb q0
  replace q1 := Gr.at hb q1
  replace n0 := Gr.at hb n0
  replace n1 := Gr.at hb n1
  replace n2 := Gr.at hb n2
  replace n3 := Gr.at hb n3
  replace n4 := Gr.at hb n4
  replace n5 := Gr.at hb n5
  replace n6 := Gr.at hb n6
  replace n7 := Gr.at hb n7
  replace n8 := Gr.at hb n8
  replace g := g.trans hb
  clear hb
  go_wp2_with fail
  refine (HV.out _ g).mono ?_
  rintro e w4 ⟨rfl, hb⟩
  replace q0 := Gr.at hb q0
  replace q1 := Gr.at hb q1
  replace n0 := Gr.at hb n0
  replace n1 := Gr.at hb n1
  replace n2 := Gr.at hb n2
  replace n3 := Gr.at hb n3
  replace n4 := Gr.at hb n4
  replace n5 := Gr.at hb n5
  replace n6 := Gr.at hb n6
  replace n7 := Gr.at hb n7
  replace n8 := Gr.at hb n8
  replace g := g.trans hb
  clear hb
  go_wp2_with fail
  refine (HFi.out _ g).mono ?_
  rintro e w5 ⟨rfl, hb⟩
  replace q0 := Gr.at hb q0
  replace q1 := Gr.at hb q1
  replace n0 := Gr.at hb n0
  replace n1 := Gr.at hb n1
  replace n2 := Gr.at hb n2
  replace n3 := Gr.at hb n3
  replace n4 := Gr.at hb n4
  replace n5 := Gr.at hb n5
  replace n6 := Gr.at hb n6
  replace n7 := Gr.at hb n7
  replace n8 := Gr.at hb n8
  replace g := g.trans hb
  clear hb
  go_wp2_with fail
  refine (HBa.out _ g).mono ?_
  rintro e w6 ⟨rfl, hb⟩
  replace q0 := Gr.at hb q0
  replace q1 := Gr.at hb q1
  replace n0 := Gr.at hb n0
  replace n1 := Gr.at hb n1
  replace n2 := Gr.at hb n2
  replace n3 := Gr.at hb n3
  replace n4 := Gr.at hb n4
  replace n5 := Gr.at hb n5
  replace n6 := Gr.at hb n6
  replace n7 := Gr.at hb n7
  replace n8 := Gr.at hb n8
  replace g := g.trans hb
  clear hb
  go_wp2_with fail
  go_ret
  exact ⟨rfl, g⟩

end Go.Proofs.YtllkiadedaghoaaGreat
