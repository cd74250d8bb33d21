/-
  Alarms: the law AlarmsBalance. (Printed by mkbli.py.)
-/
import Derived.Test.YtllkiadedaghoaaGreatCb30
import Derived.Test.YtllkiadedaghoaaGreatCb31
import Derived.Test.YtllkiadedaghoaaGreatCb28

set_option linter.unusedVariables false
set_option linter.unusedSimpArgs false
namespace Go.Proofs.YtllkiadedaghoaaGreat
open Go.RowKit Go.Shelf Go.Sort
attribute [local go_sem ↓] Go.wp_at_zero Go.wp_at_succ
theorem retAe_nil {k : Int} {w : World} {e : Ending} {w' : World} (h : e = .returned (.tuple #[.slice none 0 0, .int .i64 k]) ∧ Gr w w') : Al.RetAe [] k w e w' :=
  ⟨Al.SlA.nil, h.1, Al.SlA.nil_at _, by simp [Al.SlA.con, Al.SlA.nil], h.2⟩
theorem both_bal (N : Ba.SlNode) (L : Ba.SlLink) (s : Al.SlM) (nd : ByteArray) (I : Ba.SlI) (tol : Int) (w : World) (hN : N.At w) (hL : L.At w) (h : s.At w) (hnd : nd.size ≤ 9223372036854775807) (hI : I.At w) (hnb : Ba.netB N L = true) (hv : s.vB = true) : ∃ X k, Hid (∀ W, Gr w W → Calls Tryz.prog 41 #[Ba.netVal N L, .slice s.A s.n s.c, .string nd, .slice I.A I.n I.c, .int .i64 tol] W (Al.RetAe X k W)) ∧ Hid (∀ W, Gr w W → Calls Tryz.prog 42 #[Ba.netVal N L, .slice s.A s.n s.c, .string nd, .slice I.A I.n I.c, .int .i64 tol] W (Al.RetAe X k W)) := by
  have hvl := (Al.vB_iff s).1 hv
  rcases Int.lt_or_le (Ba.nix N nd) 0 with hx | hx
  · exact ⟨[], 9, fun W hW => (bal_name N L s nd I tol W (hN.gr hW) (hL.gr hW) (h.gr hW) hnd (hI.gr hW) hnb hv hx).mono fun _ _ z => retAe_nil z, fun W hW => (rbal_name N L s nd I tol W (hN.gr hW) (h.gr hW) (hI.gr hW) hvl hx).mono fun _ _ z => retAe_nil z⟩
  obtain ⟨k, hk⟩ : ∃ k : Nat, Ba.nix N nd = (k : Int) := ⟨(Ba.nix N nd).toNat, by omega⟩
  by_cases hkd : (N.D k).kd = 3
  · exact ⟨[], 11, fun W hW => (bal_kind N L s nd I tol W (hN.gr hW) (hL.gr hW) (h.gr hW) hnd (hI.gr hW) hnb hv k hk hkd).mono fun _ _ z => retAe_nil z, fun W hW => (rbal_kind N L s nd I tol W (hN.gr hW) (h.gr hW) (hI.gr hW) hvl hnb k hk hkd).mono fun _ _ z => retAe_nil z⟩
  by_cases hm : I.n = (Al.ofN s.lst nd).length - 1
  · cases hr : Ba.any (fun i => !Ba.bet (I.X i) (-1125899906842624) 1125899906842624) I.n
    · cases ht : Ba.bet tol 0 1125899906842624
      · have ht' : tol < 0 ∨ 1125899906842624 < tol := by
          unfold Ba.bet at ht
          rw [Bool.and_eq_false_iff, decide_eq_false_iff_not, decide_eq_false_iff_not] at ht
          omega
        exact ⟨[], 2, fun W hW => (bal_rng2 N L s nd I tol W (hN.gr hW) (hL.gr hW) (h.gr hW) hnd (hI.gr hW) hnb hv k hk hkd hm hr ht).mono fun _ _ z => retAe_nil z, fun W hW => (rbal_tol N L s nd I tol W (hN.gr hW) (h.gr hW) (hI.gr hW) hvl hnb k hk hkd hm ht').mono fun _ _ z => retAe_nil z⟩
      · have ht' : 0 ≤ tol ∧ tol ≤ 1125899906842624 := by unfold Ba.bet at ht; simpa using ht
        exact ⟨_, 0, fun W hW => bal_ok N L s nd I tol W (hN.gr hW) (hL.gr hW) (h.gr hW) hnd (hI.gr hW) hnb hv k hk hkd hm hr ht, fun W hW => rbal_ok N L s nd I tol W (hN.gr hW) (h.gr hW) (hI.gr hW) hvl hnb k hk hkd hm ht' hr⟩
    · refine ⟨[], 2, fun W hW => (bal_rng1 N L s nd I tol W (hN.gr hW) (hL.gr hW) (h.gr hW) hnd (hI.gr hW) hnb hv k hk hkd hm hr).mono fun _ _ z => retAe_nil z, fun W hW => ?_⟩
      by_cases ht : 0 ≤ tol ∧ tol ≤ 1125899906842624
      · exact (rbal_rng N L s nd I tol W (hN.gr hW) (h.gr hW) (hI.gr hW) hvl hnb k hk hkd hm ht hr).mono fun _ _ z => retAe_nil z
      · exact (rbal_tol N L s nd I tol W (hN.gr hW) (h.gr hW) (hI.gr hW) hvl hnb k hk hkd hm (by omega)).mono fun _ _ z => retAe_nil z
  · exact ⟨[], 3, fun W hW => (bal_size N L s nd I tol W (hN.gr hW) (hL.gr hW) (h.gr hW) hnd (hI.gr hW) hnb hv k hk hkd hm).mono fun _ _ z => retAe_nil z, fun W hW => (rbal_size N L s nd I tol W (hN.gr hW) (h.gr hW) (hI.gr hW) hvl hnb k hk hkd hm).mono fun _ _ z => retAe_nil z⟩
set_option maxRecDepth 100000 in
set_option maxHeartbeats 4000000 in
theorem balance_few (N : Ba.SlNode) (L : Ba.SlLink) (s : Al.SlM) (nd : ByteArray) (I : Ba.SlI) (tol : Int) (w : World) (hN : N.At w) (hL : L.At w) (h : s.At w) (hnd : nd.size ≤ 9223372036854775807) (hI : I.At w) (hf : Al.fewB N.n L.n s.n (Al.lngB s) = false) : Calls Tryz.prog 8 #[Ba.netVal N L, .slice s.A s.n s.c, .string nd, .slice I.A I.n I.c, .int .i64 tol] w fun e w' => e = .returned (.bool true) ∧ Gr w w' := by
  have HAw := Lib.hid (fun W => awake_any W)
  have HFe := Lib.hid (fun W (hW : Gr w W) => few_any N L s W (hN.gr hW) (hL.gr hW) (h.gr hW))
  rw [hf] at HFe
  have hic := hI.hc; have hib := hI.hb
  clear hN hL h hf hI
  unfold Ba.netVal at *
  generalize N.A = nA at *; generalize N.n = nn at *; generalize N.c = nc at *; generalize L.A = lA at *; generalize L.n = ln at *; generalize L.c = lc at *
  generalize s.A = sA at *; generalize s.n = sn at *; generalize s.c = sc at *; generalize I.A = iA at *; generalize I.n = m at *; generalize I.c = ic at *
  go_enter Tryz.func8, Tryz.ntmps8
  go_wp2_with fail
  refine (HAw.out _).mono ?_
  rintro e w1 ⟨rfl, hb⟩
  have g : Gr w w1 := gr_auto
  have q0 := Gr.at (show Gr _ w1 from hb) (show World.cell? _ ⟨w.heap.size, 0, none⟩ = some (.slice nA nn nc) from by simp [go_sem])
  have q1 := Gr.at (show Gr _ w1 from hb) (show World.cell? _ ⟨w.heap.size, 1, none⟩ = some (.slice lA ln lc) from by simp [go_sem])
  clear hb HAw
  go_wp2_with fail
  refine (HFe.out _ g).mono ?_
  rintro e w2 ⟨rfl, hb⟩
  replace q0 := Gr.at hb q0
  replace q1 := Gr.at hb q1
  replace g := g.trans hb
  clear hb
  go_wp2_with fail
  go_ret
  exact ⟨rfl, g⟩
set_option maxRecDepth 100000 in
set_option maxHeartbeats 4000000 in
theorem balance_long (N : Ba.SlNode) (L : Ba.SlLink) (s : Al.SlM) (nd : ByteArray) (I : Ba.SlI) (tol : Int) (w : World) (hN : N.At w) (hL : L.At w) (h : s.At w) (hnd : nd.size ≤ 9223372036854775807) (hI : I.At w) (hf : Al.fewB N.n L.n s.n (Al.lngB s) = true) (hl : 50 < nd.size) : Calls Tryz.prog 8 #[Ba.netVal N L, .slice s.A s.n s.c, .string nd, .slice I.A I.n I.c, .int .i64 tol] w fun e w' => e = .returned (.bool true) ∧ Gr w w' := by
  have HAw := Lib.hid (fun W => awake_any W)
  have HFe := Lib.hid (fun W (hW : Gr w W) => few_any N L s W (hN.gr hW) (hL.gr hW) (h.gr hW))
  rw [hf] at HFe
  have l0 : decide ((50 : Int) < (nd.size : Int)) = true := decide_eq_true (by omega)
  have l1 : decide (50 < nd.size) = true := decide_eq_true hl
  have l2 : (50 : Int) < (nd.size : Int) := by omega
  have hic := hI.hc; have hib := hI.hb
  clear hN hL h hf hI
  unfold Ba.netVal at *
  generalize N.A = nA at *; generalize N.n = nn at *; generalize N.c = nc at *; generalize L.A = lA at *; generalize L.n = ln at *; generalize L.c = lc at *
  generalize s.A = sA at *; generalize s.n = sn at *; generalize s.c = sc at *; generalize I.A = iA at *; generalize I.n = m at *; generalize I.c = ic at *
  go_enter Tryz.func8, Tryz.ntmps8
  go_wp2_with fail
  refine (HAw.out _).mono ?_
  rintro e w1 ⟨rfl, hb⟩
  have g : Gr w w1 := gr_auto
  have q0 := Gr.at (show Gr _ w1 from hb) (show World.cell? _ ⟨w.heap.size, 0, none⟩ = some (.slice nA nn nc) from by simp [go_sem])
  have q1 := Gr.at (show Gr _ w1 from hb) (show World.cell? _ ⟨w.heap.size, 1, none⟩ = some (.slice lA ln lc) from by simp [go_sem])
  clear hb HAw
  go_wp2_with fail
  refine (HFe.out _ g).mono ?_
  rintro e w2 ⟨rfl, hb⟩
  replace q0 := Gr.at hb q0
  replace q1 := Gr.at hb q1
  replace g := g.trans hb
  clear hb
  go_wp2_with fail
  go_ret
  exact ⟨rfl, g⟩
set_option maxRecDepth 100000 in
set_option maxHeartbeats 4000000 in
theorem balance_many (N : Ba.SlNode) (L : Ba.SlLink) (s : Al.SlM) (nd : ByteArray) (I : Ba.SlI) (tol : Int) (w : World) (hN : N.At w) (hL : L.At w) (h : s.At w) (hnd : nd.size ≤ 9223372036854775807) (hI : I.At w) (hf : Al.fewB N.n L.n s.n (Al.lngB s) = true) (hl : nd.size ≤ 50) (hm : 60 < I.n) : Calls Tryz.prog 8 #[Ba.netVal N L, .slice s.A s.n s.c, .string nd, .slice I.A I.n I.c, .int .i64 tol] w fun e w' => e = .returned (.bool true) ∧ Gr w w' := by
  have HAw := Lib.hid (fun W => awake_any W)
  have HFe := Lib.hid (fun W (hW : Gr w W) => few_any N L s W (hN.gr hW) (hL.gr hW) (h.gr hW))
  rw [hf] at HFe
  have l0 : decide ((50 : Int) < (nd.size : Int)) = false := decide_eq_false (by omega)
  have l1 : decide (50 < nd.size) = false := decide_eq_false (by omega)
  have l2 : ¬ (50 : Int) < (nd.size : Int) := by omega
  have i0 : decide ((60 : Int) < (I.n : Int)) = true := decide_eq_true (by omega)
  have i1 : decide (60 < I.n) = true := decide_eq_true hm
  have i2 : (60 : Int) < (I.n : Int) := by omega
  have hic := hI.hc; have hib := hI.hb
  clear hN hL h hf hI
  unfold Ba.netVal at *
  generalize N.A = nA at *; generalize N.n = nn at *; generalize N.c = nc at *; generalize L.A = lA at *; generalize L.n = ln at *; generalize L.c = lc at *
  generalize s.A = sA at *; generalize s.n = sn at *; generalize s.c = sc at *; generalize I.A = iA at *; generalize I.n = m at *; generalize I.c = ic at *
  go_enter Tryz.func8, Tryz.ntmps8
  go_wp2_with fail
  refine (HAw.out _).mono ?_
  rintro e w1 ⟨rfl, hb⟩
  have g : Gr w w1 := gr_auto
  have q0 := Gr.at (show Gr _ w1 from hb) (show World.cell? _ ⟨w.heap.size, 0, none⟩ = some (.slice nA nn nc) from by simp [go_sem])
  have q1 := Gr.at (show Gr _ w1 from hb) (show World.cell? _ ⟨w.heap.size, 1, none⟩ = some (.slice lA ln lc) from by simp [go_sem])
  clear hb HAw
  go_wp2_with fail
  refine (HFe.out _ g).mono ?_
  rintro e w2 ⟨rfl, hb⟩
  replace q0 := Gr.at hb q0
  replace q1 := Gr.at hb q1
  replace g := g.trans hb
  clear hb
  go_wp2_with fail
  go_ret
  exact ⟨rfl, g⟩
set_option maxRecDepth 100000 in
set_option maxHeartbeats 4000000 in
theorem balance_f (N : Ba.SlNode) (L : Ba.SlLink) (s : Al.SlM) (nd : ByteArray) (I : Ba.SlI) (tol : Int) (w : World) (hN : N.At w) (hL : L.At w) (h : s.At w) (hnd : nd.size ≤ 9223372036854775807) (hI : I.At w) (hf : Al.fewB N.n L.n s.n (Al.lngB s) = true) (hl : nd.size ≤ 50) (hm : I.n ≤ 60) (hv : s.vB = false) : Calls Tryz.prog 8 #[Ba.netVal N L, .slice s.A s.n s.c, .string nd, .slice I.A I.n I.c, .int .i64 tol] w fun e w' => e = .returned (.bool true) ∧ Gr w w' := by
  have HAw := Lib.hid (fun W => awake_any W)
  have HFe := Lib.hid (fun W (hW : Gr w W) => few_any N L s W (hN.gr hW) (hL.gr hW) (h.gr hW))
  rw [hf] at HFe
  have l0 : decide ((50 : Int) < (nd.size : Int)) = false := decide_eq_false (by omega)
  have l1 : decide (50 < nd.size) = false := decide_eq_false (by omega)
  have l2 : ¬ (50 : Int) < (nd.size : Int) := by omega
  have i0 : decide ((60 : Int) < (I.n : Int)) = false := decide_eq_false (by omega)
  have i1 : decide (60 < I.n) = false := decide_eq_false (by omega)
  have i2 : ¬ (60 : Int) < (I.n : Int) := by omega
  have HBa := Lib.hid (fun W (hW : Gr w W) => show Calls Tryz.prog 41 #[Ba.netVal N L, .slice s.A s.n s.c, .string nd, .slice I.A I.n I.c, .int .i64 tol] W (Al.RetAe [] 1 W) from (bal_no N L s nd I tol W (hN.gr hW) (hL.gr hW) (h.gr hW) hnd (hI.gr hW) (by rw [hv, Bool.and_false])).mono fun _ _ z => retAe_nil z)
  have HV := Lib.hid (fun W (hW : Gr w W) => rvalid52_any s W (h.gr hW))
  rw [hv] at HV
  clear hv
  have hic := hI.hc; have hib := hI.hb
  clear hN hL h hf hI
  unfold Ba.netVal at *
  generalize N.A = nA at *; generalize N.n = nn at *; generalize N.c = nc at *; generalize L.A = lA at *; generalize L.n = ln at *; generalize L.c = lc at *
  generalize s.A = sA at *; generalize s.n = sn at *; generalize s.c = sc at *; generalize I.A = iA at *; generalize I.n = m at *; generalize I.c = ic at *
  go_enter Tryz.func8, Tryz.ntmps8
  go_wp2_with fail
  refine (HAw.out _).mono ?_
  rintro e w1 ⟨rfl, hb⟩
  have g : Gr w w1 := gr_auto
  have q0 := Gr.at (show Gr _ w1 from hb) (show World.cell? _ ⟨w.heap.size, 0, none⟩ = some (.slice nA nn nc) from by simp [go_sem])
  have q1 := Gr.at (show Gr _ w1 from hb) (show World.cell? _ ⟨w.heap.size, 1, none⟩ = some (.slice lA ln lc) from by simp [go_sem])
  clear hb HAw
  go_wp2_with fail
  refine (HFe.out _ g).mono ?_
  rintro e w2 ⟨rfl, hb⟩
  replace q0 := Gr.at hb q0
  replace q1 := Gr.at hb q1
  replace g := g.trans hb
  clear hb
  go_wp2_with fail
  refine (HBa.out _ g).mono ?_
  intro e w3 hR; obtain ⟨A1, c1, rfl, hb⟩ := hR.nil; clear hR
  replace q0 := Gr.at hb q0
  replace q1 := Gr.at hb q1
  replace g := g.trans hb
  clear hb
  go_wp2_with fail
  refine (HV.out _ g).mono ?_
  rintro e w4 ⟨rfl, hb⟩
  replace q0 := Gr.at hb q0
  replace q1 := Gr.at hb q1
  replace g := g.trans hb
  clear hb
  go_wp2_with fail
  go_ret
  exact ⟨rfl, g⟩
set_option maxRecDepth 100000 in
set_option maxHeartbeats 4000000 in
theorem balance_tf (N : Ba.SlNode) (L : Ba.SlLink) (s : Al.SlM) (nd : ByteArray) (I : Ba.SlI) (tol : Int) (w : World) (hN : N.At w) (hL : L.At w) (h : s.At w) (hnd : nd.size ≤ 9223372036854775807) (hI : I.At w) (hf : Al.fewB N.n L.n s.n (Al.lngB s) = true) (hl : nd.size ≤ 50) (hm : I.n ≤ 60) (hv : s.vB = true) (hnb : Ba.netB N L = false) : Calls Tryz.prog 8 #[Ba.netVal N L, .slice s.A s.n s.c, .string nd, .slice I.A I.n I.c, .int .i64 tol] w fun e w' => e = .returned (.bool true) ∧ Gr w w' := by
  have HAw := Lib.hid (fun W => awake_any W)
  have HFe := Lib.hid (fun W (hW : Gr w W) => few_any N L s W (hN.gr hW) (hL.gr hW) (h.gr hW))
  rw [hf] at HFe
  have l0 : decide ((50 : Int) < (nd.size : Int)) = false := decide_eq_false (by omega)
  have l1 : decide (50 < nd.size) = false := decide_eq_false (by omega)
  have l2 : ¬ (50 : Int) < (nd.size : Int) := by omega
  have i0 : decide ((60 : Int) < (I.n : Int)) = false := decide_eq_false (by omega)
  have i1 : decide (60 < I.n) = false := decide_eq_false (by omega)
  have i2 : ¬ (60 : Int) < (I.n : Int) := by omega
  have HBa := Lib.hid (fun W (hW : Gr w W) => show Calls Tryz.prog 41 #[Ba.netVal N L, .slice s.A s.n s.c, .string nd, .slice I.A I.n I.c, .int .i64 tol] W (Al.RetAe [] 1 W) from (bal_no N L s nd I tol W (hN.gr hW) (hL.gr hW) (h.gr hW) hnd (hI.gr hW) (by rw [hnb, Bool.false_and])).mono fun _ _ z => retAe_nil z)
  have HV := Lib.hid (fun W (hW : Gr w W) => rvalid52_any s W (h.gr hW))
  rw [hv] at HV
  have HNv := Lib.hid (fun W (hW : Gr w W) => rnetvalid_any N L W (hN.gr hW) (hL.gr hW))
  rw [hnb] at HNv
  clear hv hnb
  have hic := hI.hc; have hib := hI.hb
  clear hN hL h hf hI
  unfold Ba.netVal at *
  generalize N.A = nA at *; generalize N.n = nn at *; generalize N.c = nc at *; generalize L.A = lA at *; generalize L.n = ln at *; generalize L.c = lc at *
  generalize s.A = sA at *; generalize s.n = sn at *; generalize s.c = sc at *; generalize I.A = iA at *; generalize I.n = m at *; generalize I.c = ic at *
  go_enter Tryz.func8, Tryz.ntmps8
  go_wp2_with fail
  refine (HAw.out _).mono ?_
  rintro e w1 ⟨rfl, hb⟩
  have g : Gr w w1 := gr_auto
  have q0 := Gr.at (show Gr _ w1 from hb) (show World.cell? _ ⟨w.heap.size, 0, none⟩ = some (.slice nA nn nc) from by simp [go_sem])
  have q1 := Gr.at (show Gr _ w1 from hb) (show World.cell? _ ⟨w.heap.size, 1, none⟩ = some (.slice lA ln lc) from by simp [go_sem])
  clear hb HAw
  go_wp2_with fail
  refine (HFe.out _ g).mono ?_
  rintro e w2 ⟨rfl, hb⟩
  replace q0 := Gr.at hb q0
  replace q1 := Gr.at hb q1
  replace g := g.trans hb
  clear hb
  go_wp2_with fail
  refine (HBa.out _ g).mono ?_
  intro e w3 hR; obtain ⟨A1, c1, rfl, hb⟩ := hR.nil; clear hR
  replace q0 := Gr.at hb q0
  replace q1 := Gr.at hb q1
  replace g := g.trans hb
  clear hb
  go_wp2_with fail
  refine (HV.out _ g).mono ?_
  rintro e w4 ⟨rfl, hb⟩
  replace q0 := Gr.at hb q0
  replace q1 := Gr.at hb q1
  replace g := g.trans hb
  clear hb
  go_wp2_with fail
  refine (HNv.out _ g).mono ?_
  rintro e w5 ⟨rfl, hb⟩
  replace q0 := Gr.at hb q0
  replace q1 := Gr.at hb q1
  replace g := g.trans hb
  clear hb
  go_wp2_with fail
  go_ret
  exact ⟨rfl, g⟩
set_option maxRecDepth 100000 in
set_option maxHeartbeats 4000000 in
theorem balance_tt (N : Ba.SlNode) (L : Ba.SlLink) (s : Al.SlM) (nd : ByteArray) (I : Ba.SlI) (tol : Int) (w : World) (hN : N.At w) (hL : L.At w) (h : s.At w) (hnd : nd.size ≤ 9223372036854775807) (hI : I.At w) (hf : Al.fewB N.n L.n s.n (Al.lngB s) = true) (hl : nd.size ≤ 50) (hm : I.n ≤ 60) (hv : s.vB = true) (hnb : Ba.netB N L = true) : Calls Tryz.prog 8 #[Ba.netVal N L, .slice s.A s.n s.c, .string nd, .slice I.A I.n I.c, .int .i64 tol] w fun e w' => e = .returned (.bool true) ∧ Gr w w' := by
  have HAw := Lib.hid (fun W => awake_any W)
  have HFe := Lib.hid (fun W (hW : Gr w W) => few_any N L s W (hN.gr hW) (hL.gr hW) (h.gr hW))
  rw [hf] at HFe
  have l0 : decide ((50 : Int) < (nd.size : Int)) = false := decide_eq_false (by omega)
  have l1 : decide (50 < nd.size) = false := decide_eq_false (by omega)
  have l2 : ¬ (50 : Int) < (nd.size : Int) := by omega
  have i0 : decide ((60 : Int) < (I.n : Int)) = false := decide_eq_false (by omega)
  have i1 : decide (60 < I.n) = false := decide_eq_false (by omega)
  have i2 : ¬ (60 : Int) < (I.n : Int) := by omega
  obtain ⟨X, k, HBa, HRb⟩ := both_bal N L s nd I tol w hN hL h hnd hI hnb hv
  have HV := Lib.hid (fun W (hW : Gr w W) => rvalid52_any s W (h.gr hW))
  rw [hv] at HV
  have HNv := Lib.hid (fun W (hW : Gr w W) => rnetvalid_any N L W (hN.gr hW) (hL.gr hW))
  rw [hnb] at HNv
  have HSm := Lib.hid (fun r t W hr ht hc => same_yes r t W hr ht hc)
  clear hv hnb
  have hic := hI.hc; have hib := hI.hb
  clear hN hL h hf hI
  unfold Ba.netVal at *
  generalize N.A = nA at *; generalize N.n = nn at *; generalize N.c = nc at *; generalize L.A = lA at *; generalize L.n = ln at *; generalize L.c = lc at *
  generalize s.A = sA at *; generalize s.n = sn at *; generalize s.c = sc at *; generalize I.A = iA at *; generalize I.n = m at *; generalize I.c = ic at *
  go_enter Tryz.func8, Tryz.ntmps8
  go_wp2_with fail
  refine (HAw.out _).mono ?_
  rintro e w1 ⟨rfl, hb⟩
  have g : Gr w w1 := gr_auto
  have q0 := Gr.at (show Gr _ w1 from hb) (show World.cell? _ ⟨w.heap.size, 0, none⟩ = some (.slice nA nn nc) from by simp [go_sem])
  have q1 := Gr.at (show Gr _ w1 from hb) (show World.cell? _ ⟨w.heap.size, 1, none⟩ = some (.slice lA ln lc) from by simp [go_sem])
  clear hb HAw
  go_wp2_with fail
  refine (HFe.out _ g).mono ?_
  rintro e w2 ⟨rfl, hb⟩
  replace q0 := Gr.at hb q0
  replace q1 := Gr.at hb q1
  replace g := g.trans hb
  clear hb
  go_wp2_with fail
  refine (HBa.out _ g).mono ?_
  intro e w3 hR; obtain ⟨r1, rfl, hr, hc1, hb⟩ := hR.at; clear hR
  replace q0 := Gr.at hb q0
  replace q1 := Gr.at hb q1
  replace g := g.trans hb
  clear hb
  have HR1 := Lib.hid hr; have HC1 := Lib.hid hc1; clear hr hc1
  go_wp2_with fail
  refine (HV.out _ g).mono ?_
  rintro e w4 ⟨rfl, hb⟩
  replace q0 := Gr.at hb q0
  replace q1 := Gr.at hb q1
  replace g := g.trans hb
  replace HR1 := Lib.hid (HR1.out.gr hb)
  clear hb
  go_wp2_with fail
  refine (HNv.out _ g).mono ?_
  rintro e w5 ⟨rfl, hb⟩
  replace q0 := Gr.at hb q0
  replace q1 := Gr.at hb q1
  replace g := g.trans hb
  replace HR1 := Lib.hid (HR1.out.gr hb)
  clear hb
  go_wp2_with fail
  refine (HRb.out _ g).mono ?_
  intro e w6 hR; obtain ⟨r2, rfl, hr, hc2, hb⟩ := hR.at; clear hR
  replace q0 := Gr.at hb q0
  replace q1 := Gr.at hb q1
  replace g := g.trans hb
  replace HR1 := Lib.hid (HR1.out.gr hb)
  clear hb
  have HR2 := Lib.hid hr; have HC2 := Lib.hid hc2; clear hr hc2
  go_wp2_with fail
  refine (HSm.out r1 r2 _ HR1.out HR2.out (HC1.out.trans HC2.out.symm)).mono ?_
  rintro e w7 ⟨rfl, hb⟩
  replace q0 := Gr.at hb q0
  replace q1 := Gr.at hb q1
  replace g := g.trans hb
  clear hb
  go_wp2_with fail
  go_ret
  exact ⟨rfl, g⟩
theorem balance_law (N : Ba.SlNode) (L : Ba.SlLink) (s : Al.SlM) (nd : ByteArray) (I : Ba.SlI) (tol : Int) (w : World) (hN : N.At w) (hL : L.At w) (h : s.At w) (hnd : nd.size ≤ 9223372036854775807) (hI : I.At w) : Calls Tryz.prog 8 #[Ba.netVal N L, .slice s.A s.n s.c, .string nd, .slice I.A I.n I.c, .int .i64 tol] w fun e w' => e = .returned (.bool true) ∧ Gr w w' := by
  cases hf : Al.fewB N.n L.n s.n (Al.lngB s)
  · exact balance_few N L s nd I tol w hN hL h hnd hI hf
  by_cases hl : nd.size ≤ 50
  · by_cases hm : I.n ≤ 60
    · cases hv : s.vB
      · exact balance_f N L s nd I tol w hN hL h hnd hI hf hl hm hv
      · cases hnb : Ba.netB N L
        · exact balance_tf N L s nd I tol w hN hL h hnd hI hf hl hm hv hnb
        · exact balance_tt N L s nd I tol w hN hL h hnd hI hf hl hm hv hnb
    · exact balance_many N L s nd I tol w hN hL h hnd hI hf hl (by omega)
  · exact balance_long N L s nd I tol w hN hL h hnd hI hf (by omega)
theorem balance_in (N : Ba.SlNode) (L : Ba.SlLink) (s : Al.SlM) (nd : ByteArray) (I : Ba.SlI) (tol : Int) (w : World) (hN : N.At w) (hL : L.At w) (h : s.At w) (hnd : nd.size ≤ 9223372036854775807) (hI : I.At w) (_ : Ba.i64 tol) : Calls Tryz.prog 8 #[Ba.netVal N L, .slice s.A s.n s.c, .string nd, .slice I.A I.n I.c, .int .i64 tol] w fun e w' => e = .returned (.bool true) ∧ Gr w w' := balance_law N L s nd I tol w hN hL h hnd hI
end Go.Proofs.YtllkiadedaghoaaGreat
