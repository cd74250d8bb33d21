/-
  Valid networks: network.Valid. (Printed by mknet.py.)
-/
import Derived.Test.YtllkiadedaghoaaGreatDoorOr35
import Derived.Test.YtllkiadedaghoaaGreatDoorOr10

set_option linter.unusedVariables false
set_option linter.unusedSimpArgs false
namespace Go.Proofs.YtllkiadedaghoaaGreatDoor
open Go.RowKit
namespace Ba
theorem nix_cases (N : SlNode) (t : ByteArray) : nix N t = -1 ∨ ∃ j, j < N.n ∧ nix N t = (j : Int) ∧ eqS (N.D j).nm t = true ∧ ∀ i, i < j → eqS (N.D i).nm t = false := by
  unfold nix fstI
  cases e : fst (fun i => eqS (N.D i).nm t) N.n with
  | none => exact Or.inl rfl
  | some j =>
    obtain ⟨a, b, c⟩ := fst_some e
    exact Or.inr ⟨j, a, rfl, b, c⟩
theorem bne_of {a b : Int} (h : (a == b) = false) : (a != b) = true := by simp only [bne, h, Bool.not_false]
end Ba
set_option maxRecDepth 100000 in
set_option maxHeartbeats 8000000 in
theorem netvalid_any (N : Ba.SlNode) (L : Ba.SlLink) (w : World) (hN : N.At w) (hL : L.At w) : Calls Tryz.prog 56 #[Ba.netVal N L] w fun e w' => e = .returned (.bool (Ba.netB N L)) ∧ Gr w w' := by
  have hn : N.n ≤ 9223372036854775807 := Nat.le_trans hN.hc hN.hb
  have hl : L.n ≤ 9223372036854775807 := Nat.le_trans hL.hc hL.hb
  have HA := Lib.hid hN.hA; have HX := Lib.hid hN.hD; have KA := Lib.hid hL.hA; have KX := Lib.hid hL.hD
  have HNA := Lib.hid hN; have HLA := Lib.hid hL
  have hr : Ba.netB N L = (decide (N.n ≤ 300) && (decide (L.n ≤ 400) && (Ba.allB (Ba.nodeB N) N.n && Ba.allB (Ba.linkB N L) L.n))) := rfl
  clear hN hL
  generalize Ba.netB N L = r at *
  unfold Ba.netVal
  obtain ⟨A, n, c, b, o, D⟩ := N
  obtain ⟨A2, m, c2, b2, o2, E⟩ := L
  simp only at *
  by_cases h1 : 300 < n
  · rw [decide_eq_false (by omega : ¬ n ≤ 300), Bool.false_and] at hr
    have t0 : decide ((300 : Int) < (n : Int)) = true := decide_eq_true (by omega)
    clear h1
    subst hr
    go_enter Tryz.func56, Tryz.ntmps56
    go_wp2_with fail
    go_ret
    exact ⟨rfl, gr_auto⟩
  have t0 : decide ((300 : Int) < (n : Int)) = false := decide_eq_false (by omega)
  rw [decide_eq_true (by omega : n ≤ 300), Bool.true_and] at hr
  by_cases h2 : 400 < m
  · rw [decide_eq_false (by omega : ¬ m ≤ 400), Bool.false_and] at hr
    have t1 : decide ((400 : Int) < (m : Int)) = true := decide_eq_true (by omega)
    clear h1 h2
    subst hr
    go_enter Tryz.func56, Tryz.ntmps56
    go_wp2_with fail
    go_ret
    exact ⟨rfl, gr_auto⟩
  have t1 : decide ((400 : Int) < (m : Int)) = false := decide_eq_false (by omega)
  rw [decide_eq_true (by omega : m ≤ 400), Bool.true_and] at hr
  have HQ := Lib.hid hr
  clear hr
  go_enter Tryz.func56, Tryz.ntmps56
  go_wp2_with fail
  clear t0 t1
  refine name_world ?_; intro W0 hW0
  have g0 : Gr w W0 := by rw [hW0]; exact gr_auto
  have k0 : W0.cell? ⟨w.heap.size, 0, none⟩ = some (.slice A n c) := by rw [hW0]; simp [go_sem]
  have k1 : W0.cell? ⟨w.heap.size, 1, none⟩ = some (.slice A2 m c2) := by rw [hW0]; simp [go_sem]
  have z0 : w.heap.size < W0.heap.size := by rw [hW0]; simp
  clear hW0
  go_loopw [21] (fun q wr => ∃ i : Nat, i ≤ n ∧ q = .int .i64 (i : Int) ∧ Gr W0 wr ∧ Hid (Ba.allB (Ba.nodeB ⟨A, n, c, b, o, D⟩) i = true)) (fun q _ => n - (intOf q).toNat)
  case atStart => exact ⟨0, Nat.zero_le _, rfl, Gr.refl _, Lib.hid rfl⟩
  case round =>
    obtain ⟨i, hi, rfl, hg, hf⟩ := hrel
    have zr := Gr.size hg
    have k0 := Gr.at hg k0; have k1 := Gr.at hg k1
    by_cases hlt : i < n
    · obtain rfl := HA.out (by omega)
      have HR := Lib.hid (fun W (hh : Gr w W) => rightnode_any (D i) W ((HX.out i hlt).2.gr hh))
      have HF := Lib.hid (fun W (hh : Gr w W) => node_any ⟨_, n, c, b, o, D⟩ A2 m c2 (D i).nm W (HNA.out.gr hh))
      obtain ⟨a0, a1, a2, a3, a4, a5, a6, a7, a8⟩ := (HX.out i hlt).1.gr (g0.trans hg)
      have HS := Lib.hid (fun (hh : Ba.nodeB ⟨some ⟨b, o, none⟩, n, c, b, o, D⟩ i = false) => show r = false by rw [HQ.out, Ba.allB_stop hlt hh, Bool.false_and])
      have HG := Lib.hid (show (Ba.rnode (D i) && (Ba.fstI (fun i_1 => Ba.eqS (D i_1).nm (D i).nm) n == (i : Int))) = true → _ from fun hh => Ba.allB_go hf.out hh)
      clear hf
      unfold Ba.nodeB Ba.nix at HS
      simp only at HS HF
      unfold Ba.Node.val at HR
      generalize Ba.fstI (fun i_1 => Ba.eqS (D i_1).nm (D i).nm) n = f at HS HG HF
      generalize Ba.rnode (D i) = q0 at HS HG HR
      generalize D i = d at *
      cases q0
      · obtain rfl : r = false := HS.out (by rw [Bool.false_and])
        clear HS HG HF HQ

        go_wp2_with fail
        (first | refine name_world ?_ | refine (show (∀ W, W = _ → Calls _ _ _ W _) → Calls _ _ _ _ _ from fun h => h _ rfl) ?_); intro W3 hW3
        have g3 : Gr w W3 := by rw [hW3]; exact gr_auto
        have gb3_W0 : Gr W0 W3 := by (try clear g3); rw [hW3]; exact gr_auto
        have k3_0 : W3.cell? ⟨w.heap.size, 0, none⟩ = some (.slice (some ⟨b, o, none⟩) n c) := by rw [hW3]; first | (simp [go_sem, *]; done) | (refine Gr.at ?_ (by assumption); exact gr_auto)
        have b3_0 : w.heap.size < W3.heap.size := World.block_lt_of_cell? _ _ k3_0
        have k3_1 : W3.cell? ⟨w.heap.size, 1, none⟩ = some (.slice A2 m c2) := by rw [hW3]; first | (simp [go_sem, *]; done) | (refine Gr.at ?_ (by assumption); exact gr_auto)
        have k3_2 : W3.cell? ⟨wr.heap.size, 0, none⟩ = some (.string d.nm) := by rw [hW3]; first | (simp [go_sem, *]; done) | (refine Gr.at ?_ (by assumption); exact gr_auto)
        have b3_2 : wr.heap.size < W3.heap.size := World.block_lt_of_cell? _ _ k3_2
        have k3_3 : W3.cell? ⟨wr.heap.size, 1, none⟩ = some (.int .i64 d.kd) := by rw [hW3]; first | (simp [go_sem, *]; done) | (refine Gr.at ?_ (by assumption); exact gr_auto)
        have k3_4 : W3.cell? ⟨wr.heap.size, 2, none⟩ = some (.int .i64 d.ax) := by rw [hW3]; first | (simp [go_sem, *]; done) | (refine Gr.at ?_ (by assumption); exact gr_auto)
        have k3_5 : W3.cell? ⟨wr.heap.size, 3, none⟩ = some (.int .i64 d.ay) := by rw [hW3]; first | (simp [go_sem, *]; done) | (refine Gr.at ?_ (by assumption); exact gr_auto)
        have k3_6 : W3.cell? ⟨wr.heap.size, 4, none⟩ = some (.int .i64 d.iv) := by rw [hW3]; first | (simp [go_sem, *]; done) | (refine Gr.at ?_ (by assumption); exact gr_auto)
        have k3_7 : W3.cell? ⟨wr.heap.size, 5, none⟩ = some (.int .i64 d.gr) := by rw [hW3]; first | (simp [go_sem, *]; done) | (refine Gr.at ?_ (by assumption); exact gr_auto)
        have k3_8 : W3.cell? ⟨wr.heap.size, 6, none⟩ = some (.slice d.sh.A d.sh.n d.sh.c) := by rw [hW3]; first | (simp [go_sem, *]; done) | (refine Gr.at ?_ (by assumption); exact gr_auto)
        have k3_9 : W3.cell? ⟨wr.heap.size, 7, none⟩ = some (.bool d.pr) := by rw [hW3]; first | (simp [go_sem, *]; done) | (refine Gr.at ?_ (by assumption); exact gr_auto)
        have k3_10 : W3.cell? ⟨wr.heap.size, 8, none⟩ = some (.int .i64 d.rs) := by rw [hW3]; first | (simp [go_sem, *]; done) | (refine Gr.at ?_ (by assumption); exact gr_auto)
        clear hW3
        refine (HR.out _ gr_auto).mono ?_
        rintro e w4 ⟨rfl, hb4⟩
        have g4 : Gr w w4 := gr_auto
        have k3_0 := Gr.at (w1 := w4) gr_auto k3_0; have k3_1 := Gr.at (w1 := w4) gr_auto k3_1; have k3_2 := Gr.at (w1 := w4) gr_auto k3_2; have k3_3 := Gr.at (w1 := w4) gr_auto k3_3; have k3_4 := Gr.at (w1 := w4) gr_auto k3_4; have k3_5 := Gr.at (w1 := w4) gr_auto k3_5; have k3_6 := Gr.at (w1 := w4) gr_auto k3_6; have k3_7 := Gr.at (w1 := w4) gr_auto k3_7; have k3_8 := Gr.at (w1 := w4) gr_auto k3_8; have k3_9 := Gr.at (w1 := w4) gr_auto k3_9; have k3_10 := Gr.at (w1 := w4) gr_auto k3_10
        go_wp2_with fail
        go_ret
        exact ⟨rfl, gr_auto⟩
      · cases t0 : (f == (i : Int))
        · have t1 := Ba.bne_of t0
          obtain rfl : r = false := HS.out (by rw [Bool.true_and]; exact t0)
          clear HS HG HQ
          go_wp2_with fail
          (first | refine name_world ?_ | refine (show (∀ W, W = _ → Calls _ _ _ W _) → Calls _ _ _ _ _ from fun h => h _ rfl) ?_); intro W3 hW3
          have g3 : Gr w W3 := by rw [hW3]; exact gr_auto
          have gb3_W0 : Gr W0 W3 := by (try clear g3); rw [hW3]; exact gr_auto
          have k3_0 : W3.cell? ⟨w.heap.size, 0, none⟩ = some (.slice (some ⟨b, o, none⟩) n c) := by rw [hW3]; first | (simp [go_sem, *]; done) | (refine Gr.at ?_ (by assumption); exact gr_auto)
          have b3_0 : w.heap.size < W3.heap.size := World.block_lt_of_cell? _ _ k3_0
          have k3_1 : W3.cell? ⟨w.heap.size, 1, none⟩ = some (.slice A2 m c2) := by rw [hW3]; first | (simp [go_sem, *]; done) | (refine Gr.at ?_ (by assumption); exact gr_auto)
          have k3_2 : W3.cell? ⟨wr.heap.size, 0, none⟩ = some (.string d.nm) := by rw [hW3]; first | (simp [go_sem, *]; done) | (refine Gr.at ?_ (by assumption); exact gr_auto)
          have b3_2 : wr.heap.size < W3.heap.size := World.block_lt_of_cell? _ _ k3_2
          have k3_3 : W3.cell? ⟨wr.heap.size, 1, none⟩ = some (.int .i64 d.kd) := by rw [hW3]; first | (simp [go_sem, *]; done) | (refine Gr.at ?_ (by assumption); exact gr_auto)
          have k3_4 : W3.cell? ⟨wr.heap.size, 2, none⟩ = some (.int .i64 d.ax) := by rw [hW3]; first | (simp [go_sem, *]; done) | (refine Gr.at ?_ (by assumption); exact gr_auto)
          have k3_5 : W3.cell? ⟨wr.heap.size, 3, none⟩ = some (.int .i64 d.ay) := by rw [hW3]; first | (simp [go_sem, *]; done) | (refine Gr.at ?_ (by assumption); exact gr_auto)
          have k3_6 : W3.cell? ⟨wr.heap.size, 4, none⟩ = some (.int .i64 d.iv) := by rw [hW3]; first | (simp [go_sem, *]; done) | (refine Gr.at ?_ (by assumption); exact gr_auto)
          have k3_7 : W3.cell? ⟨wr.heap.size, 5, none⟩ = some (.int .i64 d.gr) := by rw [hW3]; first | (simp [go_sem, *]; done) | (refine Gr.at ?_ (by assumption); exact gr_auto)
          have k3_8 : W3.cell? ⟨wr.heap.size, 6, none⟩ = some (.slice d.sh.A d.sh.n d.sh.c) := by rw [hW3]; first | (simp [go_sem, *]; done) | (refine Gr.at ?_ (by assumption); exact gr_auto)
          have k3_9 : W3.cell? ⟨wr.heap.size, 7, none⟩ = some (.bool d.pr) := by rw [hW3]; first | (simp [go_sem, *]; done) | (refine Gr.at ?_ (by assumption); exact gr_auto)
          have k3_10 : W3.cell? ⟨wr.heap.size, 8, none⟩ = some (.int .i64 d.rs) := by rw [hW3]; first | (simp [go_sem, *]; done) | (refine Gr.at ?_ (by assumption); exact gr_auto)
          clear hW3
          refine (HR.out _ gr_auto).mono ?_
          rintro e w4 ⟨rfl, hb4⟩
          have g4 : Gr w w4 := gr_auto
          have k3_0 := Gr.at (w1 := w4) gr_auto k3_0; have k3_1 := Gr.at (w1 := w4) gr_auto k3_1; have k3_2 := Gr.at (w1 := w4) gr_auto k3_2; have k3_3 := Gr.at (w1 := w4) gr_auto k3_3; have k3_4 := Gr.at (w1 := w4) gr_auto k3_4; have k3_5 := Gr.at (w1 := w4) gr_auto k3_5; have k3_6 := Gr.at (w1 := w4) gr_auto k3_6; have k3_7 := Gr.at (w1 := w4) gr_auto k3_7; have k3_8 := Gr.at (w1 := w4) gr_auto k3_8; have k3_9 := Gr.at (w1 := w4) gr_auto k3_9; have k3_10 := Gr.at (w1 := w4) gr_auto k3_10
          go_wp2_with fail
          refine (HF.out _ gr_auto).mono ?_
          rintro e w5 ⟨rfl, hb5⟩
          have g5 : Gr w w5 := gr_auto
          have k3_0 := Gr.at (w1 := w5) gr_auto k3_0; have k3_1 := Gr.at (w1 := w5) gr_auto k3_1; have k3_2 := Gr.at (w1 := w5) gr_auto k3_2; have k3_3 := Gr.at (w1 := w5) gr_auto k3_3; have k3_4 := Gr.at (w1 := w5) gr_auto k3_4; have k3_5 := Gr.at (w1 := w5) gr_auto k3_5; have k3_6 := Gr.at (w1 := w5) gr_auto k3_6; have k3_7 := Gr.at (w1 := w5) gr_auto k3_7; have k3_8 := Gr.at (w1 := w5) gr_auto k3_8; have k3_9 := Gr.at (w1 := w5) gr_auto k3_9; have k3_10 := Gr.at (w1 := w5) gr_auto k3_10
          go_wp2_with fail
          go_ret
          exact ⟨rfl, gr_auto⟩
        · have HZ := Lib.hid (HG.out (by rw [Bool.true_and]; exact t0))
          clear HG
          obtain rfl : f = (i : Int) := eq_of_beq t0
          clear HS t0
          go_wp2_with fail
          (first | refine name_world ?_ | refine (show (∀ W, W = _ → Calls _ _ _ W _) → Calls _ _ _ _ _ from fun h => h _ rfl) ?_); intro W3 hW3
          have g3 : Gr w W3 := by rw [hW3]; exact gr_auto
          have gb3_W0 : Gr W0 W3 := by (try clear g3); rw [hW3]; exact gr_auto
          have k3_0 : W3.cell? ⟨w.heap.size, 0, none⟩ = some (.slice (some ⟨b, o, none⟩) n c) := by rw [hW3]; first | (simp [go_sem, *]; done) | (refine Gr.at ?_ (by assumption); exact gr_auto)
          have b3_0 : w.heap.size < W3.heap.size := World.block_lt_of_cell? _ _ k3_0
          have k3_1 : W3.cell? ⟨w.heap.size, 1, none⟩ = some (.slice A2 m c2) := by rw [hW3]; first | (simp [go_sem, *]; done) | (refine Gr.at ?_ (by assumption); exact gr_auto)
          have k3_2 : W3.cell? ⟨wr.heap.size, 0, none⟩ = some (.string d.nm) := by rw [hW3]; first | (simp [go_sem, *]; done) | (refine Gr.at ?_ (by assumption); exact gr_auto)
          have b3_2 : wr.heap.size < W3.heap.size := World.block_lt_of_cell? _ _ k3_2
          have k3_3 : W3.cell? ⟨wr.heap.size, 1, none⟩ = some (.int .i64 d.kd) := by rw [hW3]; first | (simp [go_sem, *]; done) | (refine Gr.at ?_ (by assumption); exact gr_auto)
          have k3_4 : W3.cell? ⟨wr.heap.size, 2, none⟩ = some (.int .i64 d.ax) := by rw [hW3]; first | (simp [go_sem, *]; done) | (refine Gr.at ?_ (by assumption); exact gr_auto)
          have k3_5 : W3.cell? ⟨wr.heap.size, 3, none⟩ = some (.int .i64 d.ay) := by rw [hW3]; first | (simp [go_sem, *]; done) | (refine Gr.at ?_ (by assumption); exact gr_auto)
          have k3_6 : W3.cell? ⟨wr.heap.size, 4, none⟩ = some (.int .i64 d.iv) := by rw [hW3]; first | (simp [go_sem, *]; done) | (refine Gr.at ?_ (by assumption); exact gr_auto)
          have k3_7 : W3.cell? ⟨wr.heap.size, 5, none⟩ = some (.int .i64 d.gr) := by rw [hW3]; first | (simp [go_sem, *]; done) | (refine Gr.at ?_ (by assumption); exact gr_auto)
          have k3_8 : W3.cell? ⟨wr.heap.size, 6, none⟩ = some (.slice d.sh.A d.sh.n d.sh.c) := by rw [hW3]; first | (simp [go_sem, *]; done) | (refine Gr.at ?_ (by assumption); exact gr_auto)
          have k3_9 : W3.cell? ⟨wr.heap.size, 7, none⟩ = some (.bool d.pr) := by rw [hW3]; first | (simp [go_sem, *]; done) | (refine Gr.at ?_ (by assumption); exact gr_auto)
          have k3_10 : W3.cell? ⟨wr.heap.size, 8, none⟩ = some (.int .i64 d.rs) := by rw [hW3]; first | (simp [go_sem, *]; done) | (refine Gr.at ?_ (by assumption); exact gr_auto)
          clear hW3
          refine (HR.out _ gr_auto).mono ?_
          rintro e w4 ⟨rfl, hb4⟩
          have g4 : Gr w w4 := gr_auto
          have k3_0 := Gr.at (w1 := w4) gr_auto k3_0; have k3_1 := Gr.at (w1 := w4) gr_auto k3_1; have k3_2 := Gr.at (w1 := w4) gr_auto k3_2; have k3_3 := Gr.at (w1 := w4) gr_auto k3_3; have k3_4 := Gr.at (w1 := w4) gr_auto k3_4; have k3_5 := Gr.at (w1 := w4) gr_auto k3_5; have k3_6 := Gr.at (w1 := w4) gr_auto k3_6; have k3_7 := Gr.at (w1 := w4) gr_auto k3_7; have k3_8 := Gr.at (w1 := w4) gr_auto k3_8; have k3_9 := Gr.at (w1 := w4) gr_auto k3_9; have k3_10 := Gr.at (w1 := w4) gr_auto k3_10
          go_wp2_with fail
          refine (HF.out _ gr_auto).mono ?_
          rintro e w5 ⟨rfl, hb5⟩
          have g5 : Gr w w5 := gr_auto
          have k3_0 := Gr.at (w1 := w5) gr_auto k3_0; have k3_1 := Gr.at (w1 := w5) gr_auto k3_1; have k3_2 := Gr.at (w1 := w5) gr_auto k3_2; have k3_3 := Gr.at (w1 := w5) gr_auto k3_3; have k3_4 := Gr.at (w1 := w5) gr_auto k3_4; have k3_5 := Gr.at (w1 := w5) gr_auto k3_5; have k3_6 := Gr.at (w1 := w5) gr_auto k3_6; have k3_7 := Gr.at (w1 := w5) gr_auto k3_7; have k3_8 := Gr.at (w1 := w5) gr_auto k3_8; have k3_9 := Gr.at (w1 := w5) gr_auto k3_9; have k3_10 := Gr.at (w1 := w5) gr_auto k3_10
          go_wp2_with fail
          go_roundw
          case rel => (try clear g5); (try clear g4); clear g3; exact ⟨i + 1, by omega, by go_num, gr_auto, HZ⟩
          case measure => simp [intOf]; omega
    · obtain rfl : i = n := by omega
      rw [hf.out, Bool.true_and] at HQ
      clear hf HA hi hlt
      have g1 := g0.trans hg
      clear g0 hg
      go_wp2_with fail
      refine name_world ?_; intro W1 hW1
      have g2 : Gr w W1 := by rw [hW1]; exact gr_auto
      have k0 : W1.cell? ⟨w.heap.size, 0, none⟩ = some (.slice A i c) := by rw [hW1]; simp [go_sem, *]
      have k1 : W1.cell? ⟨w.heap.size, 1, none⟩ = some (.slice A2 m c2) := by rw [hW1]; simp [go_sem, *]
      have z1 : w.heap.size < W1.heap.size := World.block_lt_of_cell? _ _ k0
      clear hW1 g1
      go_loopw [41] (fun q wr => ∃ k : Nat, k ≤ m ∧ q = .int .i64 (k : Int) ∧ Gr W1 wr ∧ Hid (Ba.allB (Ba.linkB ⟨A, i, c, b, o, D⟩ ⟨A2, m, c2, b2, o2, E⟩) k = true)) (fun q _ => m - (intOf q).toNat)
      case atStart => exact ⟨0, Nat.zero_le _, rfl, Gr.refl _, Lib.hid rfl⟩
      case round =>
        obtain ⟨k, hk, rfl, hg, hf⟩ := hrel
        have zr := Gr.size hg
        have k0 := Gr.at hg k0; have k1 := Gr.at hg k1
        by_cases hlt : k < m
        · obtain rfl := KA.out (by omega)
          have HR := Lib.hid (fun W (hh : Gr w W) => rightlink_any (E k) W ((KX.out k hlt).2.gr hh))
          have HLX := Lib.hid (fun W (hh : Gr w W) => link_any ⟨_, m, c2, b2, o2, E⟩ A i c (E k).nm W (HLA.out.gr hh))
          have HFX := Lib.hid (fun W (hh : Gr w W) => node_any ⟨A, i, c, b, o, D⟩ (some ⟨b2, o2, none⟩) m c2 (E k).fr W (HNA.out.gr hh))
          have HTX := Lib.hid (fun W (hh : Gr w W) => node_any ⟨A, i, c, b, o, D⟩ (some ⟨b2, o2, none⟩) m c2 (E k).tt W (HNA.out.gr hh))
          obtain ⟨a0, a1, a2, a3, a4, a5, a6, a7, a8, a9, a10⟩ := (KX.out k hlt).1.gr (g2.trans hg)
          have HS := Lib.hid (fun (hh : Ba.linkB ⟨A, i, c, b, o, D⟩ ⟨some ⟨b2, o2, none⟩, m, c2, b2, o2, E⟩ k = false) => show r = false by rw [HQ.out, Ba.allB_stop hlt hh])
          have HG := Lib.hid (show (Ba.rlink (E k) && ((Ba.fstI (fun i_1 => Ba.eqS (E i_1).nm (E k).nm) m == (k : Int)) && (decide (0 ≤ Ba.fstI (fun i_1 => Ba.eqS (D i_1).nm (E k).fr) i) && (decide (0 ≤ Ba.fstI (fun i_1 => Ba.eqS (D i_1).nm (E k).tt) i) && !((D (Ba.fstI (fun i_1 => Ba.eqS (D i_1).nm (E k).fr) i).toNat).kd == 3))))) = true → _ from fun hh => Ba.allB_go hf.out hh)
          have NF := Lib.hid (Ba.nix_cases ⟨A, i, c, b, o, D⟩ (E k).fr)
          clear hf
          unfold Ba.linkB at HS
          unfold Ba.nix at NF HS
          unfold Ba.lix at HS
          simp only at HS HLX HFX HTX NF
          unfold Ba.Link.val at HR
          generalize Ba.fstI (fun i_1 => Ba.eqS (E i_1).nm (E k).nm) m = x at HS HG HLX
          generalize Ba.fstI (fun i_1 => Ba.eqS (D i_1).nm (E k).fr) i = f at HS HG HFX NF
          generalize Ba.fstI (fun i_1 => Ba.eqS (D i_1).nm (E k).tt) i = t at HS HG HTX
          generalize Ba.rlink (E k) = q0 at HS HG HR
          generalize E k = d at *
          cases q0
          · obtain rfl : r = false := HS.out (by rw [Bool.false_and])
            clear HS HG HLX HFX HTX NF HQ HX

            go_wp2_with fail
            (first | refine name_world ?_ | refine (show (∀ W, W = _ → Calls _ _ _ W _) → Calls _ _ _ _ _ from fun h => h _ rfl) ?_); intro W3 hW3
            have g3 : Gr w W3 := by rw [hW3]; exact gr_auto
            have gb3_W1 : Gr W1 W3 := by (try clear g3); rw [hW3]; exact gr_auto
            have k3_0 : W3.cell? ⟨w.heap.size, 0, none⟩ = some (.slice A i c) := by rw [hW3]; first | (simp [go_sem, *]; done) | (refine Gr.at ?_ (by assumption); exact gr_auto)
            have b3_0 : w.heap.size < W3.heap.size := World.block_lt_of_cell? _ _ k3_0
            have k3_1 : W3.cell? ⟨w.heap.size, 1, none⟩ = some (.slice (some ⟨b2, o2, none⟩) m c2) := by rw [hW3]; first | (simp [go_sem, *]; done) | (refine Gr.at ?_ (by assumption); exact gr_auto)
            have k3_2 : W3.cell? ⟨wr.heap.size, 0, none⟩ = some (.string d.nm) := by rw [hW3]; first | (simp [go_sem, *]; done) | (refine Gr.at ?_ (by assumption); exact gr_auto)
            have b3_2 : wr.heap.size < W3.heap.size := World.block_lt_of_cell? _ _ k3_2
            have k3_3 : W3.cell? ⟨wr.heap.size, 1, none⟩ = some (.string d.fr) := by rw [hW3]; first | (simp [go_sem, *]; done) | (refine Gr.at ?_ (by assumption); exact gr_auto)
            have k3_4 : W3.cell? ⟨wr.heap.size, 2, none⟩ = some (.string d.tt) := by rw [hW3]; first | (simp [go_sem, *]; done) | (refine Gr.at ?_ (by assumption); exact gr_auto)
            have k3_5 : W3.cell? ⟨wr.heap.size, 3, none⟩ = some (.int .i64 d.kd) := by rw [hW3]; first | (simp [go_sem, *]; done) | (refine Gr.at ?_ (by assumption); exact gr_auto)
            have k3_6 : W3.cell? ⟨wr.heap.size, 4, none⟩ = some (.int .i64 d.ln) := by rw [hW3]; first | (simp [go_sem, *]; done) | (refine Gr.at ?_ (by assumption); exact gr_auto)
            have k3_7 : W3.cell? ⟨wr.heap.size, 5, none⟩ = some (.int .i64 d.up) := by rw [hW3]; first | (simp [go_sem, *]; done) | (refine Gr.at ?_ (by assumption); exact gr_auto)
            have k3_8 : W3.cell? ⟨wr.heap.size, 6, none⟩ = some (.int .i64 d.dn) := by rw [hW3]; first | (simp [go_sem, *]; done) | (refine Gr.at ?_ (by assumption); exact gr_auto)
            have k3_9 : W3.cell? ⟨wr.heap.size, 7, none⟩ = some (.string d.sc) := by rw [hW3]; first | (simp [go_sem, *]; done) | (refine Gr.at ?_ (by assumption); exact gr_auto)
            have k3_10 : W3.cell? ⟨wr.heap.size, 8, none⟩ = some (.int .i64 d.wd) := by rw [hW3]; first | (simp [go_sem, *]; done) | (refine Gr.at ?_ (by assumption); exact gr_auto)
            have k3_11 : W3.cell? ⟨wr.heap.size, 9, none⟩ = some (.int .i64 d.ht) := by rw [hW3]; first | (simp [go_sem, *]; done) | (refine Gr.at ?_ (by assumption); exact gr_auto)
            have k3_12 : W3.cell? ⟨wr.heap.size, 10, none⟩ = some (.slice d.cv.A d.cv.n d.cv.c) := by rw [hW3]; first | (simp [go_sem, *]; done) | (refine Gr.at ?_ (by assumption); exact gr_auto)
            clear hW3
            refine (HR.out _ gr_auto).mono ?_
            rintro e w4 ⟨rfl, hb4⟩
            have g4 : Gr w w4 := gr_auto
            have k3_0 := Gr.at (w1 := w4) gr_auto k3_0; have k3_1 := Gr.at (w1 := w4) gr_auto k3_1; have k3_2 := Gr.at (w1 := w4) gr_auto k3_2; have k3_3 := Gr.at (w1 := w4) gr_auto k3_3; have k3_4 := Gr.at (w1 := w4) gr_auto k3_4; have k3_5 := Gr.at (w1 := w4) gr_auto k3_5; have k3_6 := Gr.at (w1 := w4) gr_auto k3_6; have k3_7 := Gr.at (w1 := w4) gr_auto k3_7; have k3_8 := Gr.at (w1 := w4) gr_auto k3_8; have k3_9 := Gr.at (w1 := w4) gr_auto k3_9; have k3_10 := Gr.at (w1 := w4) gr_auto k3_10; have k3_11 := Gr.at (w1 := w4) gr_auto k3_11; have k3_12 := Gr.at (w1 := w4) gr_auto k3_12
            go_wp2_with fail
            go_ret
            exact ⟨rfl, gr_auto⟩
          cases t0 : (x == (k : Int))
          · have t1 := Ba.bne_of t0
            obtain rfl : r = false := HS.out (by rw [t0]; rfl)
            clear HS HG HFX HTX NF HQ HX
            go_wp2_with fail
            (first | refine name_world ?_ | refine (show (∀ W, W = _ → Calls _ _ _ W _) → Calls _ _ _ _ _ from fun h => h _ rfl) ?_); intro W3 hW3
            have g3 : Gr w W3 := by rw [hW3]; exact gr_auto
            have gb3_W1 : Gr W1 W3 := by (try clear g3); rw [hW3]; exact gr_auto
            have k3_0 : W3.cell? ⟨w.heap.size, 0, none⟩ = some (.slice A i c) := by rw [hW3]; first | (simp [go_sem, *]; done) | (refine Gr.at ?_ (by assumption); exact gr_auto)
            have b3_0 : w.heap.size < W3.heap.size := World.block_lt_of_cell? _ _ k3_0
            have k3_1 : W3.cell? ⟨w.heap.size, 1, none⟩ = some (.slice (some ⟨b2, o2, none⟩) m c2) := by rw [hW3]; first | (simp [go_sem, *]; done) | (refine Gr.at ?_ (by assumption); exact gr_auto)
            have k3_2 : W3.cell? ⟨wr.heap.size, 0, none⟩ = some (.string d.nm) := by rw [hW3]; first | (simp [go_sem, *]; done) | (refine Gr.at ?_ (by assumption); exact gr_auto)
            have b3_2 : wr.heap.size < W3.heap.size := World.block_lt_of_cell? _ _ k3_2
            have k3_3 : W3.cell? ⟨wr.heap.size, 1, none⟩ = some (.string d.fr) := by rw [hW3]; first | (simp [go_sem, *]; done) | (refine Gr.at ?_ (by assumption); exact gr_auto)
            have k3_4 : W3.cell? ⟨wr.heap.size, 2, none⟩ = some (.string d.tt) := by rw [hW3]; first | (simp [go_sem, *]; done) | (refine Gr.at ?_ (by assumption); exact gr_auto)
            have k3_5 : W3.cell? ⟨wr.heap.size, 3, none⟩ = some (.int .i64 d.kd) := by rw [hW3]; first | (simp [go_sem, *]; done) | (refine Gr.at ?_ (by assumption); exact gr_auto)
            have k3_6 : W3.cell? ⟨wr.heap.size, 4, none⟩ = some (.int .i64 d.ln) := by rw [hW3]; first | (simp [go_sem, *]; done) | (refine Gr.at ?_ (by assumption); exact gr_auto)
            have k3_7 : W3.cell? ⟨wr.heap.size, 5, none⟩ = some (.int .i64 d.up) := by rw [hW3]; first | (simp [go_sem, *]; done) | (refine Gr.at ?_ (by assumption); exact gr_auto)
            have k3_8 : W3.cell? ⟨wr.heap.size, 6, none⟩ = some (.int .i64 d.dn) := by rw [hW3]; first | (simp [go_sem, *]; done) | (refine Gr.at ?_ (by assumption); exact gr_auto)
            have k3_9 : W3.cell? ⟨wr.heap.size, 7, none⟩ = some (.string d.sc) := by rw [hW3]; first | (simp [go_sem, *]; done) | (refine Gr.at ?_ (by assumption); exact gr_auto)
            have k3_10 : W3.cell? ⟨wr.heap.size, 8, none⟩ = some (.int .i64 d.wd) := by rw [hW3]; first | (simp [go_sem, *]; done) | (refine Gr.at ?_ (by assumption); exact gr_auto)
            have k3_11 : W3.cell? ⟨wr.heap.size, 9, none⟩ = some (.int .i64 d.ht) := by rw [hW3]; first | (simp [go_sem, *]; done) | (refine Gr.at ?_ (by assumption); exact gr_auto)
            have k3_12 : W3.cell? ⟨wr.heap.size, 10, none⟩ = some (.slice d.cv.A d.cv.n d.cv.c) := by rw [hW3]; first | (simp [go_sem, *]; done) | (refine Gr.at ?_ (by assumption); exact gr_auto)
            clear hW3
            refine (HR.out _ gr_auto).mono ?_
            rintro e w4 ⟨rfl, hb4⟩
            have g4 : Gr w w4 := gr_auto
            have k3_0 := Gr.at (w1 := w4) gr_auto k3_0; have k3_1 := Gr.at (w1 := w4) gr_auto k3_1; have k3_2 := Gr.at (w1 := w4) gr_auto k3_2; have k3_3 := Gr.at (w1 := w4) gr_auto k3_3; have k3_4 := Gr.at (w1 := w4) gr_auto k3_4; have k3_5 := Gr.at (w1 := w4) gr_auto k3_5; have k3_6 := Gr.at (w1 := w4) gr_auto k3_6; have k3_7 := Gr.at (w1 := w4) gr_auto k3_7; have k3_8 := Gr.at (w1 := w4) gr_auto k3_8; have k3_9 := Gr.at (w1 := w4) gr_auto k3_9; have k3_10 := Gr.at (w1 := w4) gr_auto k3_10; have k3_11 := Gr.at (w1 := w4) gr_auto k3_11; have k3_12 := Gr.at (w1 := w4) gr_auto k3_12
            go_wp2_with fail
            refine (HLX.out _ gr_auto).mono ?_
            rintro e w5 ⟨rfl, hb5⟩
            have g5 : Gr w w5 := gr_auto
            have k3_0 := Gr.at (w1 := w5) gr_auto k3_0; have k3_1 := Gr.at (w1 := w5) gr_auto k3_1; have k3_2 := Gr.at (w1 := w5) gr_auto k3_2; have k3_3 := Gr.at (w1 := w5) gr_auto k3_3; have k3_4 := Gr.at (w1 := w5) gr_auto k3_4; have k3_5 := Gr.at (w1 := w5) gr_auto k3_5; have k3_6 := Gr.at (w1 := w5) gr_auto k3_6; have k3_7 := Gr.at (w1 := w5) gr_auto k3_7; have k3_8 := Gr.at (w1 := w5) gr_auto k3_8; have k3_9 := Gr.at (w1 := w5) gr_auto k3_9; have k3_10 := Gr.at (w1 := w5) gr_auto k3_10; have k3_11 := Gr.at (w1 := w5) gr_auto k3_11; have k3_12 := Gr.at (w1 := w5) gr_auto k3_12
            go_wp2_with fail
            go_ret
            exact ⟨rfl, gr_auto⟩
          rw [t0] at HS HG
          obtain rfl : x = (k : Int) := eq_of_beq t0
          clear t0
          rcases NF.out with hf0 | ⟨j, hj, hf0, -⟩
          · subst hf0
            obtain rfl : r = false := HS.out (by rfl)
            clear HS HG HTX NF HQ HX
            go_wp2_with fail
            (first | refine name_world ?_ | refine (show (∀ W, W = _ → Calls _ _ _ W _) → Calls _ _ _ _ _ from fun h => h _ rfl) ?_); intro W3 hW3
            have g3 : Gr w W3 := by rw [hW3]; exact gr_auto
            have gb3_W1 : Gr W1 W3 := by (try clear g3); rw [hW3]; exact gr_auto
            have k3_0 : W3.cell? ⟨w.heap.size, 0, none⟩ = some (.slice A i c) := by rw [hW3]; first | (simp [go_sem, *]; done) | (refine Gr.at ?_ (by assumption); exact gr_auto)
            have b3_0 : w.heap.size < W3.heap.size := World.block_lt_of_cell? _ _ k3_0
            have k3_1 : W3.cell? ⟨w.heap.size, 1, none⟩ = some (.slice (some ⟨b2, o2, none⟩) m c2) := by rw [hW3]; first | (simp [go_sem, *]; done) | (refine Gr.at ?_ (by assumption); exact gr_auto)
            have k3_2 : W3.cell? ⟨wr.heap.size, 0, none⟩ = some (.string d.nm) := by rw [hW3]; first | (simp [go_sem, *]; done) | (refine Gr.at ?_ (by assumption); exact gr_auto)
            have b3_2 : wr.heap.size < W3.heap.size := World.block_lt_of_cell? _ _ k3_2
            have k3_3 : W3.cell? ⟨wr.heap.size, 1, none⟩ = some (.string d.fr) := by rw [hW3]; first | (simp [go_sem, *]; done) | (refine Gr.at ?_ (by assumption); exact gr_auto)
            have k3_4 : W3.cell? ⟨wr.heap.size, 2, none⟩ = some (.string d.tt) := by rw [hW3]; first | (simp [go_sem, *]; done) | (refine Gr.at ?_ (by assumption); exact gr_auto)
            have k3_5 : W3.cell? ⟨wr.heap.size, 3, none⟩ = some (.int .i64 d.kd) := by rw [hW3]; first | (simp [go_sem, *]; done) | (refine Gr.at ?_ (by assumption); exact gr_auto)
            have k3_6 : W3.cell? ⟨wr.heap.size, 4, none⟩ = some (.int .i64 d.ln) := by rw [hW3]; first | (simp [go_sem, *]; done) | (refine Gr.at ?_ (by assumption); exact gr_auto)
            have k3_7 : W3.cell? ⟨wr.heap.size, 5, none⟩ = some (.int .i64 d.up) := by rw [hW3]; first | (simp [go_sem, *]; done) | (refine Gr.at ?_ (by assumption); exact gr_auto)
            have k3_8 : W3.cell? ⟨wr.heap.size, 6, none⟩ = some (.int .i64 d.dn) := by rw [hW3]; first | (simp [go_sem, *]; done) | (refine Gr.at ?_ (by assumption); exact gr_auto)
            have k3_9 : W3.cell? ⟨wr.heap.size, 7, none⟩ = some (.string d.sc) := by rw [hW3]; first | (simp [go_sem, *]; done) | (refine Gr.at ?_ (by assumption); exact gr_auto)
            have k3_10 : W3.cell? ⟨wr.heap.size, 8, none⟩ = some (.int .i64 d.wd) := by rw [hW3]; first | (simp [go_sem, *]; done) | (refine Gr.at ?_ (by assumption); exact gr_auto)
            have k3_11 : W3.cell? ⟨wr.heap.size, 9, none⟩ = some (.int .i64 d.ht) := by rw [hW3]; first | (simp [go_sem, *]; done) | (refine Gr.at ?_ (by assumption); exact gr_auto)
            have k3_12 : W3.cell? ⟨wr.heap.size, 10, none⟩ = some (.slice d.cv.A d.cv.n d.cv.c) := by rw [hW3]; first | (simp [go_sem, *]; done) | (refine Gr.at ?_ (by assumption); exact gr_auto)
            clear hW3
            refine (HR.out _ gr_auto).mono ?_
            rintro e w4 ⟨rfl, hb4⟩
            have g4 : Gr w w4 := gr_auto
            have k3_0 := Gr.at (w1 := w4) gr_auto k3_0; have k3_1 := Gr.at (w1 := w4) gr_auto k3_1; have k3_2 := Gr.at (w1 := w4) gr_auto k3_2; have k3_3 := Gr.at (w1 := w4) gr_auto k3_3; have k3_4 := Gr.at (w1 := w4) gr_auto k3_4; have k3_5 := Gr.at (w1 := w4) gr_auto k3_5; have k3_6 := Gr.at (w1 := w4) gr_auto k3_6; have k3_7 := Gr.at (w1 := w4) gr_auto k3_7; have k3_8 := Gr.at (w1 := w4) gr_auto k3_8; have k3_9 := Gr.at (w1 := w4) gr_auto k3_9; have k3_10 := Gr.at (w1 := w4) gr_auto k3_10; have k3_11 := Gr.at (w1 := w4) gr_auto k3_11; have k3_12 := Gr.at (w1 := w4) gr_auto k3_12
            go_wp2_with fail
            refine (HLX.out _ gr_auto).mono ?_
            rintro e w5 ⟨rfl, hb5⟩
            have g5 : Gr w w5 := gr_auto
            have k3_0 := Gr.at (w1 := w5) gr_auto k3_0; have k3_1 := Gr.at (w1 := w5) gr_auto k3_1; have k3_2 := Gr.at (w1 := w5) gr_auto k3_2; have k3_3 := Gr.at (w1 := w5) gr_auto k3_3; have k3_4 := Gr.at (w1 := w5) gr_auto k3_4; have k3_5 := Gr.at (w1 := w5) gr_auto k3_5; have k3_6 := Gr.at (w1 := w5) gr_auto k3_6; have k3_7 := Gr.at (w1 := w5) gr_auto k3_7; have k3_8 := Gr.at (w1 := w5) gr_auto k3_8; have k3_9 := Gr.at (w1 := w5) gr_auto k3_9; have k3_10 := Gr.at (w1 := w5) gr_auto k3_10; have k3_11 := Gr.at (w1 := w5) gr_auto k3_11; have k3_12 := Gr.at (w1 := w5) gr_auto k3_12
            go_wp2_with fail
            refine (HFX.out _ gr_auto).mono ?_
            rintro e w6 ⟨rfl, hb6⟩
            have g6 : Gr w w6 := gr_auto
            have k3_0 := Gr.at (w1 := w6) gr_auto k3_0; have k3_1 := Gr.at (w1 := w6) gr_auto k3_1; have k3_2 := Gr.at (w1 := w6) gr_auto k3_2; have k3_3 := Gr.at (w1 := w6) gr_auto k3_3; have k3_4 := Gr.at (w1 := w6) gr_auto k3_4; have k3_5 := Gr.at (w1 := w6) gr_auto k3_5; have k3_6 := Gr.at (w1 := w6) gr_auto k3_6; have k3_7 := Gr.at (w1 := w6) gr_auto k3_7; have k3_8 := Gr.at (w1 := w6) gr_auto k3_8; have k3_9 := Gr.at (w1 := w6) gr_auto k3_9; have k3_10 := Gr.at (w1 := w6) gr_auto k3_10; have k3_11 := Gr.at (w1 := w6) gr_auto k3_11; have k3_12 := Gr.at (w1 := w6) gr_auto k3_12
            go_wp2_with fail
            go_ret
            exact ⟨rfl, gr_auto⟩
          subst hf0
          rw [show decide ((0 : Int) ≤ (j : Int)) = true from decide_eq_true (by omega), Int.toNat_natCast] at HS HG
          have hj0 : decide ((j : Int) < 0) = false := decide_eq_false (by omega)
          have ib0 : (0 : Int) ≤ (j : Int) := by omega
          have ib1 : (j : Int) < (i : Int) := by omega
          clear NF
          cases t1 : decide (0 ≤ t)
          · have t2 : decide (t < 0) = true := decide_eq_true (by have := of_decide_eq_false t1; omega)
            obtain rfl : r = false := HS.out (by rw [t1]; rfl)
            clear HS HG HQ HX t1
            go_wp2_with fail
            (first | refine name_world ?_ | refine (show (∀ W, W = _ → Calls _ _ _ W _) → Calls _ _ _ _ _ from fun h => h _ rfl) ?_); intro W3 hW3
            have g3 : Gr w W3 := by rw [hW3]; exact gr_auto
            have gb3_W1 : Gr W1 W3 := by (try clear g3); rw [hW3]; exact gr_auto
            have k3_0 : W3.cell? ⟨w.heap.size, 0, none⟩ = some (.slice A i c) := by rw [hW3]; first | (simp [go_sem, *]; done) | (refine Gr.at ?_ (by assumption); exact gr_auto)
            have b3_0 : w.heap.size < W3.heap.size := World.block_lt_of_cell? _ _ k3_0
            have k3_1 : W3.cell? ⟨w.heap.size, 1, none⟩ = some (.slice (some ⟨b2, o2, none⟩) m c2) := by rw [hW3]; first | (simp [go_sem, *]; done) | (refine Gr.at ?_ (by assumption); exact gr_auto)
            have k3_2 : W3.cell? ⟨wr.heap.size, 0, none⟩ = some (.string d.nm) := by rw [hW3]; first | (simp [go_sem, *]; done) | (refine Gr.at ?_ (by assumption); exact gr_auto)
            have b3_2 : wr.heap.size < W3.heap.size := World.block_lt_of_cell? _ _ k3_2
            have k3_3 : W3.cell? ⟨wr.heap.size, 1, none⟩ = some (.string d.fr) := by rw [hW3]; first | (simp [go_sem, *]; done) | (refine Gr.at ?_ (by assumption); exact gr_auto)
            have k3_4 : W3.cell? ⟨wr.heap.size, 2, none⟩ = some (.string d.tt) := by rw [hW3]; first | (simp [go_sem, *]; done) | (refine Gr.at ?_ (by assumption); exact gr_auto)
            have k3_5 : W3.cell? ⟨wr.heap.size, 3, none⟩ = some (.int .i64 d.kd) := by rw [hW3]; first | (simp [go_sem, *]; done) | (refine Gr.at ?_ (by assumption); exact gr_auto)
            have k3_6 : W3.cell? ⟨wr.heap.size, 4, none⟩ = some (.int .i64 d.ln) := by rw [hW3]; first | (simp [go_sem, *]; done) | (refine Gr.at ?_ (by assumption); exact gr_auto)
            have k3_7 : W3.cell? ⟨wr.heap.size, 5, none⟩ = some (.int .i64 d.up) := by rw [hW3]; first | (simp [go_sem, *]; done) | (refine Gr.at ?_ (by assumption); exact gr_auto)
            have k3_8 : W3.cell? ⟨wr.heap.size, 6, none⟩ = some (.int .i64 d.dn) := by rw [hW3]; first | (simp [go_sem, *]; done) | (refine Gr.at ?_ (by assumption); exact gr_auto)
            have k3_9 : W3.cell? ⟨wr.heap.size, 7, none⟩ = some (.string d.sc) := by rw [hW3]; first | (simp [go_sem, *]; done) | (refine Gr.at ?_ (by assumption); exact gr_auto)
            have k3_10 : W3.cell? ⟨wr.heap.size, 8, none⟩ = some (.int .i64 d.wd) := by rw [hW3]; first | (simp [go_sem, *]; done) | (refine Gr.at ?_ (by assumption); exact gr_auto)
            have k3_11 : W3.cell? ⟨wr.heap.size, 9, none⟩ = some (.int .i64 d.ht) := by rw [hW3]; first | (simp [go_sem, *]; done) | (refine Gr.at ?_ (by assumption); exact gr_auto)
            have k3_12 : W3.cell? ⟨wr.heap.size, 10, none⟩ = some (.slice d.cv.A d.cv.n d.cv.c) := by rw [hW3]; first | (simp [go_sem, *]; done) | (refine Gr.at ?_ (by assumption); exact gr_auto)
            clear hW3
            refine (HR.out _ gr_auto).mono ?_
            rintro e w4 ⟨rfl, hb4⟩
            have g4 : Gr w w4 := gr_auto
            have k3_0 := Gr.at (w1 := w4) gr_auto k3_0; have k3_1 := Gr.at (w1 := w4) gr_auto k3_1; have k3_2 := Gr.at (w1 := w4) gr_auto k3_2; have k3_3 := Gr.at (w1 := w4) gr_auto k3_3; have k3_4 := Gr.at (w1 := w4) gr_auto k3_4; have k3_5 := Gr.at (w1 := w4) gr_auto k3_5; have k3_6 := Gr.at (w1 := w4) gr_auto k3_6; have k3_7 := Gr.at (w1 := w4) gr_auto k3_7; have k3_8 := Gr.at (w1 := w4) gr_auto k3_8; have k3_9 := Gr.at (w1 := w4) gr_auto k3_9; have k3_10 := Gr.at (w1 := w4) gr_auto k3_10; have k3_11 := Gr.at (w1 := w4) gr_auto k3_11; have k3_12 := Gr.at (w1 := w4) gr_auto k3_12
            go_wp2_with fail
            refine (HLX.out _ gr_auto).mono ?_
            rintro e w5 ⟨rfl, hb5⟩
            have g5 : Gr w w5 := gr_auto
            have k3_0 := Gr.at (w1 := w5) gr_auto k3_0; have k3_1 := Gr.at (w1 := w5) gr_auto k3_1; have k3_2 := Gr.at (w1 := w5) gr_auto k3_2; have k3_3 := Gr.at (w1 := w5) gr_auto k3_3; have k3_4 := Gr.at (w1 := w5) gr_auto k3_4; have k3_5 := Gr.at (w1 := w5) gr_auto k3_5; have k3_6 := Gr.at (w1 := w5) gr_auto k3_6; have k3_7 := Gr.at (w1 := w5) gr_auto k3_7; have k3_8 := Gr.at (w1 := w5) gr_auto k3_8; have k3_9 := Gr.at (w1 := w5) gr_auto k3_9; have k3_10 := Gr.at (w1 := w5) gr_auto k3_10; have k3_11 := Gr.at (w1 := w5) gr_auto k3_11; have k3_12 := Gr.at (w1 := w5) gr_auto k3_12
            go_wp2_with fail
            refine (HFX.out _ gr_auto).mono ?_
            rintro e w6 ⟨rfl, hb6⟩
            have g6 : Gr w w6 := gr_auto
            have k3_0 := Gr.at (w1 := w6) gr_auto k3_0; have k3_1 := Gr.at (w1 := w6) gr_auto k3_1; have k3_2 := Gr.at (w1 := w6) gr_auto k3_2; have k3_3 := Gr.at (w1 := w6) gr_auto k3_3; have k3_4 := Gr.at (w1 := w6) gr_auto k3_4; have k3_5 := Gr.at (w1 := w6) gr_auto k3_5; have k3_6 := Gr.at (w1 := w6) gr_auto k3_6; have k3_7 := Gr.at (w1 := w6) gr_auto k3_7; have k3_8 := Gr.at (w1 := w6) gr_auto k3_8; have k3_9 := Gr.at (w1 := w6) gr_auto k3_9; have k3_10 := Gr.at (w1 := w6) gr_auto k3_10; have k3_11 := Gr.at (w1 := w6) gr_auto k3_11; have k3_12 := Gr.at (w1 := w6) gr_auto k3_12
            go_wp2_with fail
            refine (HTX.out _ gr_auto).mono ?_
            rintro e w7 ⟨rfl, hb7⟩
            have g7 : Gr w w7 := gr_auto
            have k3_0 := Gr.at (w1 := w7) gr_auto k3_0; have k3_1 := Gr.at (w1 := w7) gr_auto k3_1; have k3_2 := Gr.at (w1 := w7) gr_auto k3_2; have k3_3 := Gr.at (w1 := w7) gr_auto k3_3; have k3_4 := Gr.at (w1 := w7) gr_auto k3_4; have k3_5 := Gr.at (w1 := w7) gr_auto k3_5; have k3_6 := Gr.at (w1 := w7) gr_auto k3_6; have k3_7 := Gr.at (w1 := w7) gr_auto k3_7; have k3_8 := Gr.at (w1 := w7) gr_auto k3_8; have k3_9 := Gr.at (w1 := w7) gr_auto k3_9; have k3_10 := Gr.at (w1 := w7) gr_auto k3_10; have k3_11 := Gr.at (w1 := w7) gr_auto k3_11; have k3_12 := Gr.at (w1 := w7) gr_auto k3_12
            go_wp2_with fail
            go_ret
            exact ⟨rfl, gr_auto⟩
          have t2 : decide (t < 0) = false := decide_eq_false (by have := of_decide_eq_true t1; omega)
          rw [t1] at HS HG
          have hAe : A = some ⟨b, o, none⟩ := HNA.out.hA (by simp only; omega)
          subst hAe
          have kj := ((HX.out j hj).1.gr (g2.trans hg)).2.1
          have hbj : b < wr.heap.size := World.block_lt_of_cell? _ _ kj
          generalize (D j).kd = kd at *
          clear t1
          cases t3 : (kd == 3)
          · have HG := Lib.hid (HG.out (by rw [t3]; rfl))
            clear HS HX
            go_wp2_with fail
            (first | refine name_world ?_ | refine (show (∀ W, W = _ → Calls _ _ _ W _) → Calls _ _ _ _ _ from fun h => h _ rfl) ?_); intro W3 hW3
            have g3 : Gr w W3 := by rw [hW3]; exact gr_auto
            have gb3_W1 : Gr W1 W3 := by (try clear g3); rw [hW3]; exact gr_auto
            have k3_0 : W3.cell? ⟨w.heap.size, 0, none⟩ = some (.slice (some ⟨b, o, none⟩) i c) := by rw [hW3]; first | (simp [go_sem, *]; done) | (refine Gr.at ?_ (by assumption); exact gr_auto)
            have b3_0 : w.heap.size < W3.heap.size := World.block_lt_of_cell? _ _ k3_0
            have k3_1 : W3.cell? ⟨w.heap.size, 1, none⟩ = some (.slice (some ⟨b2, o2, none⟩) m c2) := by rw [hW3]; first | (simp [go_sem, *]; done) | (refine Gr.at ?_ (by assumption); exact gr_auto)
            have k3_2 : W3.cell? ⟨wr.heap.size, 0, none⟩ = some (.string d.nm) := by rw [hW3]; first | (simp [go_sem, *]; done) | (refine Gr.at ?_ (by assumption); exact gr_auto)
            have b3_2 : wr.heap.size < W3.heap.size := World.block_lt_of_cell? _ _ k3_2
            have k3_3 : W3.cell? ⟨wr.heap.size, 1, none⟩ = some (.string d.fr) := by rw [hW3]; first | (simp [go_sem, *]; done) | (refine Gr.at ?_ (by assumption); exact gr_auto)
            have k3_4 : W3.cell? ⟨wr.heap.size, 2, none⟩ = some (.string d.tt) := by rw [hW3]; first | (simp [go_sem, *]; done) | (refine Gr.at ?_ (by assumption); exact gr_auto)
            have k3_5 : W3.cell? ⟨wr.heap.size, 3, none⟩ = some (.int .i64 d.kd) := by rw [hW3]; first | (simp [go_sem, *]; done) | (refine Gr.at ?_ (by assumption); exact gr_auto)
            have k3_6 : W3.cell? ⟨wr.heap.size, 4, none⟩ = some (.int .i64 d.ln) := by rw [hW3]; first | (simp [go_sem, *]; done) | (refine Gr.at ?_ (by assumption); exact gr_auto)
            have k3_7 : W3.cell? ⟨wr.heap.size, 5, none⟩ = some (.int .i64 d.up) := by rw [hW3]; first | (simp [go_sem, *]; done) | (refine Gr.at ?_ (by assumption); exact gr_auto)
            have k3_8 : W3.cell? ⟨wr.heap.size, 6, none⟩ = some (.int .i64 d.dn) := by rw [hW3]; first | (simp [go_sem, *]; done) | (refine Gr.at ?_ (by assumption); exact gr_auto)
            have k3_9 : W3.cell? ⟨wr.heap.size, 7, none⟩ = some (.string d.sc) := by rw [hW3]; first | (simp [go_sem, *]; done) | (refine Gr.at ?_ (by assumption); exact gr_auto)
            have k3_10 : W3.cell? ⟨wr.heap.size, 8, none⟩ = some (.int .i64 d.wd) := by rw [hW3]; first | (simp [go_sem, *]; done) | (refine Gr.at ?_ (by assumption); exact gr_auto)
            have k3_11 : W3.cell? ⟨wr.heap.size, 9, none⟩ = some (.int .i64 d.ht) := by rw [hW3]; first | (simp [go_sem, *]; done) | (refine Gr.at ?_ (by assumption); exact gr_auto)
            have k3_12 : W3.cell? ⟨wr.heap.size, 10, none⟩ = some (.slice d.cv.A d.cv.n d.cv.c) := by rw [hW3]; first | (simp [go_sem, *]; done) | (refine Gr.at ?_ (by assumption); exact gr_auto)
            have k3_13 : W3.cell? ⟨b, o + j * 9 + 1, none⟩ = some (.int .i64 kd) := by rw [hW3]; first | (simp [go_sem, *]; done) | (refine Gr.at ?_ (by assumption); exact gr_auto)
            have b3_13 : b < W3.heap.size := World.block_lt_of_cell? _ _ k3_13
            clear hW3
            refine (HR.out _ gr_auto).mono ?_
            rintro e w4 ⟨rfl, hb4⟩
            have g4 : Gr w w4 := gr_auto
            have k3_0 := Gr.at (w1 := w4) gr_auto k3_0; have k3_1 := Gr.at (w1 := w4) gr_auto k3_1; have k3_2 := Gr.at (w1 := w4) gr_auto k3_2; have k3_3 := Gr.at (w1 := w4) gr_auto k3_3; have k3_4 := Gr.at (w1 := w4) gr_auto k3_4; have k3_5 := Gr.at (w1 := w4) gr_auto k3_5; have k3_6 := Gr.at (w1 := w4) gr_auto k3_6; have k3_7 := Gr.at (w1 := w4) gr_auto k3_7; have k3_8 := Gr.at (w1 := w4) gr_auto k3_8; have k3_9 := Gr.at (w1 := w4) gr_auto k3_9; have k3_10 := Gr.at (w1 := w4) gr_auto k3_10; have k3_11 := Gr.at (w1 := w4) gr_auto k3_11; have k3_12 := Gr.at (w1 := w4) gr_auto k3_12; have k3_13 := Gr.at (w1 := w4) gr_auto k3_13
            go_wp2_with fail
            refine (HLX.out _ gr_auto).mono ?_
            rintro e w5 ⟨rfl, hb5⟩
            have g5 : Gr w w5 := gr_auto
            have k3_0 := Gr.at (w1 := w5) gr_auto k3_0; have k3_1 := Gr.at (w1 := w5) gr_auto k3_1; have k3_2 := Gr.at (w1 := w5) gr_auto k3_2; have k3_3 := Gr.at (w1 := w5) gr_auto k3_3; have k3_4 := Gr.at (w1 := w5) gr_auto k3_4; have k3_5 := Gr.at (w1 := w5) gr_auto k3_5; have k3_6 := Gr.at (w1 := w5) gr_auto k3_6; have k3_7 := Gr.at (w1 := w5) gr_auto k3_7; have k3_8 := Gr.at (w1 := w5) gr_auto k3_8; have k3_9 := Gr.at (w1 := w5) gr_auto k3_9; have k3_10 := Gr.at (w1 := w5) gr_auto k3_10; have k3_11 := Gr.at (w1 := w5) gr_auto k3_11; have k3_12 := Gr.at (w1 := w5) gr_auto k3_12; have k3_13 := Gr.at (w1 := w5) gr_auto k3_13
            go_wp2_with fail
            refine (HFX.out _ gr_auto).mono ?_
            rintro e w6 ⟨rfl, hb6⟩
            have g6 : Gr w w6 := gr_auto
            have k3_0 := Gr.at (w1 := w6) gr_auto k3_0; have k3_1 := Gr.at (w1 := w6) gr_auto k3_1; have k3_2 := Gr.at (w1 := w6) gr_auto k3_2; have k3_3 := Gr.at (w1 := w6) gr_auto k3_3; have k3_4 := Gr.at (w1 := w6) gr_auto k3_4; have k3_5 := Gr.at (w1 := w6) gr_auto k3_5; have k3_6 := Gr.at (w1 := w6) gr_auto k3_6; have k3_7 := Gr.at (w1 := w6) gr_auto k3_7; have k3_8 := Gr.at (w1 := w6) gr_auto k3_8; have k3_9 := Gr.at (w1 := w6) gr_auto k3_9; have k3_10 := Gr.at (w1 := w6) gr_auto k3_10; have k3_11 := Gr.at (w1 := w6) gr_auto k3_11; have k3_12 := Gr.at (w1 := w6) gr_auto k3_12; have k3_13 := Gr.at (w1 := w6) gr_auto k3_13
            go_wp2_with fail
            refine (HTX.out _ gr_auto).mono ?_
            rintro e w7 ⟨rfl, hb7⟩
            have g7 : Gr w w7 := gr_auto
            have k3_0 := Gr.at (w1 := w7) gr_auto k3_0; have k3_1 := Gr.at (w1 := w7) gr_auto k3_1; have k3_2 := Gr.at (w1 := w7) gr_auto k3_2; have k3_3 := Gr.at (w1 := w7) gr_auto k3_3; have k3_4 := Gr.at (w1 := w7) gr_auto k3_4; have k3_5 := Gr.at (w1 := w7) gr_auto k3_5; have k3_6 := Gr.at (w1 := w7) gr_auto k3_6; have k3_7 := Gr.at (w1 := w7) gr_auto k3_7; have k3_8 := Gr.at (w1 := w7) gr_auto k3_8; have k3_9 := Gr.at (w1 := w7) gr_auto k3_9; have k3_10 := Gr.at (w1 := w7) gr_auto k3_10; have k3_11 := Gr.at (w1 := w7) gr_auto k3_11; have k3_12 := Gr.at (w1 := w7) gr_auto k3_12; have k3_13 := Gr.at (w1 := w7) gr_auto k3_13
            go_wp2_with fail
            go_roundw
            case rel => clear g7 g6 g5 g4 g3; exact ⟨k + 1, by omega, by go_num, gr_auto, HG⟩
            case measure => simp [intOf]; omega
          · obtain rfl : r = false := HS.out (by rw [t3]; rfl)
            clear HS HG HQ HX
            go_wp2_with fail
            (first | refine name_world ?_ | refine (show (∀ W, W = _ → Calls _ _ _ W _) → Calls _ _ _ _ _ from fun h => h _ rfl) ?_); intro W3 hW3
            have g3 : Gr w W3 := by rw [hW3]; exact gr_auto
            have gb3_W1 : Gr W1 W3 := by (try clear g3); rw [hW3]; exact gr_auto
            have k3_0 : W3.cell? ⟨w.heap.size, 0, none⟩ = some (.slice (some ⟨b, o, none⟩) i c) := by rw [hW3]; first | (simp [go_sem, *]; done) | (refine Gr.at ?_ (by assumption); exact gr_auto)
            have b3_0 : w.heap.size < W3.heap.size := World.block_lt_of_cell? _ _ k3_0
            have k3_1 : W3.cell? ⟨w.heap.size, 1, none⟩ = some (.slice (some ⟨b2, o2, none⟩) m c2) := by rw [hW3]; first | (simp [go_sem, *]; done) | (refine Gr.at ?_ (by assumption); exact gr_auto)
            have k3_2 : W3.cell? ⟨wr.heap.size, 0, none⟩ = some (.string d.nm) := by rw [hW3]; first | (simp [go_sem, *]; done) | (refine Gr.at ?_ (by assumption); exact gr_auto)
            have b3_2 : wr.heap.size < W3.heap.size := World.block_lt_of_cell? _ _ k3_2
            have k3_3 : W3.cell? ⟨wr.heap.size, 1, none⟩ = some (.string d.fr) := by rw [hW3]; first | (simp [go_sem, *]; done) | (refine Gr.at ?_ (by assumption); exact gr_auto)
            have k3_4 : W3.cell? ⟨wr.heap.size, 2, none⟩ = some (.string d.tt) := by rw [hW3]; first | (simp [go_sem, *]; done) | (refine Gr.at ?_ (by assumption); exact gr_auto)
            have k3_5 : W3.cell? ⟨wr.heap.size, 3, none⟩ = some (.int .i64 d.kd) := by rw [hW3]; first | (simp [go_sem, *]; done) | (refine Gr.at ?_ (by assumption); exact gr_auto)
            have k3_6 : W3.cell? ⟨wr.heap.size, 4, none⟩ = some (.int .i64 d.ln) := by rw [hW3]; first | (simp [go_sem, *]; done) | (refine Gr.at ?_ (by assumption); exact gr_auto)
            have k3_7 : W3.cell? ⟨wr.heap.size, 5, none⟩ = some (.int .i64 d.up) := by rw [hW3]; first | (simp [go_sem, *]; done) | (refine Gr.at ?_ (by assumption); exact gr_auto)
            have k3_8 : W3.cell? ⟨wr.heap.size, 6, none⟩ = some (.int .i64 d.dn) := by rw [hW3]; first | (simp [go_sem, *]; done) | (refine Gr.at ?_ (by assumption); exact gr_auto)
            have k3_9 : W3.cell? ⟨wr.heap.size, 7, none⟩ = some (.string d.sc) := by rw [hW3]; first | (simp [go_sem, *]; done) | (refine Gr.at ?_ (by assumption); exact gr_auto)
            have k3_10 : W3.cell? ⟨wr.heap.size, 8, none⟩ = some (.int .i64 d.wd) := by rw [hW3]; first | (simp [go_sem, *]; done) | (refine Gr.at ?_ (by assumption); exact gr_auto)
            have k3_11 : W3.cell? ⟨wr.heap.size, 9, none⟩ = some (.int .i64 d.ht) := by rw [hW3]; first | (simp [go_sem, *]; done) | (refine Gr.at ?_ (by assumption); exact gr_auto)
            have k3_12 : W3.cell? ⟨wr.heap.size, 10, none⟩ = some (.slice d.cv.A d.cv.n d.cv.c) := by rw [hW3]; first | (simp [go_sem, *]; done) | (refine Gr.at ?_ (by assumption); exact gr_auto)
            have k3_13 : W3.cell? ⟨b, o + j * 9 + 1, none⟩ = some (.int .i64 kd) := by rw [hW3]; first | (simp [go_sem, *]; done) | (refine Gr.at ?_ (by assumption); exact gr_auto)
            have b3_13 : b < W3.heap.size := World.block_lt_of_cell? _ _ k3_13
            clear hW3
            refine (HR.out _ gr_auto).mono ?_
            rintro e w4 ⟨rfl, hb4⟩
            have g4 : Gr w w4 := gr_auto
            have k3_0 := Gr.at (w1 := w4) gr_auto k3_0; have k3_1 := Gr.at (w1 := w4) gr_auto k3_1; have k3_2 := Gr.at (w1 := w4) gr_auto k3_2; have k3_3 := Gr.at (w1 := w4) gr_auto k3_3; have k3_4 := Gr.at (w1 := w4) gr_auto k3_4; have k3_5 := Gr.at (w1 := w4) gr_auto k3_5; have k3_6 := Gr.at (w1 := w4) gr_auto k3_6; have k3_7 := Gr.at (w1 := w4) gr_auto k3_7; have k3_8 := Gr.at (w1 := w4) gr_auto k3_8; have k3_9 := Gr.at (w1 := w4) gr_auto k3_9; have k3_10 := Gr.at (w1 := w4) gr_auto k3_10; have k3_11 := Gr.at (w1 := w4) gr_auto k3_11; have k3_12 := Gr.at (w1 := w4) gr_auto k3_12; have k3_13 := Gr.at (w1 := w4) gr_auto k3_13
            go_wp2_with fail
            refine (HLX.out _ gr_auto).mono ?_
            rintro e w5 ⟨rfl, hb5⟩
            have g5 : Gr w w5 := gr_auto
            have k3_0 := Gr.at (w1 := w5) gr_auto k3_0; have k3_1 := Gr.at (w1 := w5) gr_auto k3_1; have k3_2 := Gr.at (w1 := w5) gr_auto k3_2; have k3_3 := Gr.at (w1 := w5) gr_auto k3_3; have k3_4 := Gr.at (w1 := w5) gr_auto k3_4; have k3_5 := Gr.at (w1 := w5) gr_auto k3_5; have k3_6 := Gr.at (w1 := w5) gr_auto k3_6; have k3_7 := Gr.at (w1 := w5) gr_auto k3_7; have k3_8 := Gr.at (w1 := w5) gr_auto k3_8; have k3_9 := Gr.at (w1 := w5) gr_auto k3_9; have k3_10 := Gr.at (w1 := w5) gr_auto k3_10; have k3_11 := Gr.at (w1 := w5) gr_auto k3_11; have k3_12 := Gr.at (w1 := w5) gr_auto k3_12; have k3_13 := Gr.at (w1 := w5) gr_auto k3_13
            go_wp2_with fail
            refine (HFX.out _ gr_auto).mono ?_
            rintro e w6 ⟨rfl, hb6⟩
            have g6 : Gr w w6 := gr_auto
            have k3_0 := Gr.at (w1 := w6) gr_auto k3_0; have k3_1 := Gr.at (w1 := w6) gr_auto k3_1; have k3_2 := Gr.at (w1 := w6) gr_auto k3_2; have k3_3 := Gr.at (w1 := w6) gr_auto k3_3; have k3_4 := Gr.at (w1 := w6) gr_auto k3_4; have k3_5 := Gr.at (w1 := w6) gr_auto k3_5; have k3_6 := Gr.at (w1 := w6) gr_auto k3_6; have k3_7 := Gr.at (w1 := w6) gr_auto k3_7; have k3_8 := Gr.at (w1 := w6) gr_auto k3_8; have k3_9 := Gr.at (w1 := w6) gr_auto k3_9; have k3_10 := Gr.at (w1 := w6) gr_auto k3_10; have k3_11 := Gr.at (w1 := w6) gr_auto k3_11; have k3_12 := Gr.at (w1 := w6) gr_auto k3_12; have k3_13 := Gr.at (w1 := w6) gr_auto k3_13
            go_wp2_with fail
            refine (HTX.out _ gr_auto).mono ?_
            rintro e w7 ⟨rfl, hb7⟩
            have g7 : Gr w w7 := gr_auto
            have k3_0 := Gr.at (w1 := w7) gr_auto k3_0; have k3_1 := Gr.at (w1 := w7) gr_auto k3_1; have k3_2 := Gr.at (w1 := w7) gr_auto k3_2; have k3_3 := Gr.at (w1 := w7) gr_auto k3_3; have k3_4 := Gr.at (w1 := w7) gr_auto k3_4; have k3_5 := Gr.at (w1 := w7) gr_auto k3_5; have k3_6 := Gr.at (w1 := w7) gr_auto k3_6; have k3_7 := Gr.at (w1 := w7) gr_auto k3_7; have k3_8 := Gr.at (w1 := w7) gr_auto k3_8; have k3_9 := Gr.at (w1 := w7) gr_auto k3_9; have k3_10 := Gr.at (w1 := w7) gr_auto k3_10; have k3_11 := Gr.at (w1 := w7) gr_auto k3_11; have k3_12 := Gr.at (w1 := w7) gr_auto k3_12; have k3_13 := Gr.at (w1 := w7) gr_auto k3_13
            go_wp2_with fail
            go_ret
            exact ⟨rfl, gr_auto⟩
        · obtain rfl : k = m := by omega
          rw [hf.out] at HQ
          obtain rfl := HQ.out
          clear hf
          go_wp2_with fail
          go_ret
          exact ⟨rfl, gr_auto⟩
end Go.Proofs.YtllkiadedaghoaaGreatDoor
