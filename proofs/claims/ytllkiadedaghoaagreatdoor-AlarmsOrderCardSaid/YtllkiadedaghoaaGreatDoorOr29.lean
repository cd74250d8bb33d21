/-
  Nodes: network.rightNode and the reference's RightNode answer alike. (Printed by mknode.py.)
-/
import Derived.Test.YtllkiadedaghoaaGreatDoorOr23

set_option linter.unusedVariables false
set_option linter.unusedSimpArgs false
namespace Go.Proofs.YtllkiadedaghoaaGreatDoor
open Go.RowKit
theorem level_two (a b : Int) (B : Nat) (w : World) (h0 : w.cell? ⟨B, 0, none⟩ = some (.int .i64 a)) (h1 : w.cell? ⟨B, 1, none⟩ = some (.int .i64 b)) (ha : Ba.i64 a) (hb : Ba.i64 b) : Calls Tryz.prog 128 #[.slice (some ⟨B, 0, none⟩) 2 2] w fun e w' => e = .returned (.bool (Ba.bet a (-4194304) 4194304 && Ba.bet b (-4194304) 4194304)) ∧ Gr w w' := by
  have h := level_any ⟨some ⟨B, 0, none⟩, 2, 2, B, 0, fun i => if i = 0 then a else b⟩ w ⟨fun _ => rfl, by simp, by simp, fun i hi => by
    simp only at hi
    rcases (by omega : i = 0 ∨ i = 1) with rfl | rfl
    · exact ⟨h0, ha⟩
    · exact ⟨h1, hb⟩⟩
  simp only [Ba.any_two, if_true, Nat.one_ne_zero, if_false] at h
  refine h.mono fun e w' ⟨he, hg⟩ => ⟨?_, hg⟩
  rw [he]
  cases Ba.bet a (-4194304) 4194304 <;> cases Ba.bet b (-4194304) 4194304 <;> rfl
theorem level_one (a : Int) (B : Nat) (w : World) (h0 : w.cell? ⟨B, 0, none⟩ = some (.int .i64 a)) (ha : Ba.i64 a) : Calls Tryz.prog 128 #[.slice (some ⟨B, 0, none⟩) 1 1] w fun e w' => e = .returned (.bool (Ba.bet a (-4194304) 4194304)) ∧ Gr w w' := by
  have h := level_any ⟨some ⟨B, 0, none⟩, 1, 1, B, 0, fun _ => a⟩ w ⟨fun _ => rfl, by simp, by simp, fun i hi => by
    simp only at hi
    obtain rfl : i = 0 := by omega
    exact ⟨h0, ha⟩⟩
  simp only [Ba.any_one] at h
  refine h.mono fun e w' ⟨he, hg⟩ => ⟨?_, hg⟩
  rw [he]
  cases Ba.bet a (-4194304) 4194304 <;> rfl
theorem Ba.bet_two {a b : Int} (h : (Ba.bet a (-4194304) 4194304 && Ba.bet b (-4194304) 4194304) = true) : -4194304 ≤ a ∧ a ≤ 4194304 ∧ -4194304 ≤ b ∧ b ≤ 4194304 := by
  simp only [Bool.and_eq_true, Ba.bet_iff] at h; omega
theorem Ba.shp_n {s : Ba.SlK} {d : Int} (h : Ba.shp s d = true) : 1 ≤ s.n ∧ s.n ≤ 100 := by
  unfold Ba.shp at h
  simp only [Bool.and_eq_true] at h
  exact Ba.tblB_n h.1
set_option maxRecDepth 100000 in
set_option maxHeartbeats 8000000 in
theorem rightnode_any (d : Ba.Node) (w : World) (h : d.Ok w) : Calls Tryz.prog 94 #[d.val] w fun e w' => e = .returned (.bool (Ba.rnode d)) ∧ Gr w w' := by
  obtain ⟨i1, i2, i3, i4, i5, i6, i7, hs⟩ := h
  have HN := Lib.hid (fun W => isname_all d.nm W i7)
  have HS := Lib.hid (fun W (hg : Gr w W) => shaped_any d.sh (d.gr - d.iv) W (hs.gr hg))
  have HX := Lib.hid (between_any d.ax (-16777216) 16777216); have HY := Lib.hid (between_any d.ay (-16777216) 16777216)
  have HL := Lib.hid (fun B W h0 h1 => level_two d.iv d.gr B W h0 h1 i4 i5)
  have HB := Lib.hid (between_any d.rs 0 (d.sh.Y (d.sh.n - 1)))
  have HA := Lib.hid hs.hA; have HK := Lib.hid hs.hX
  have HT := Lib.hid (fun hq => Ba.shp_n (s := d.sh) (d := d.gr - d.iv) hq)
  have HV := Lib.hid (fun hq => Ba.bet_two (a := d.iv) (b := d.gr) hq)
  clear hs i1 i2 i3 i4 i5 i6 i7
  unfold Ba.rnode Ba.rnA Ba.Node.val
  obtain ⟨nm, kd, ax, ay, iv, gr, ⟨A, n, c, b, o, X, Y⟩, pr, rs⟩ := d
  simp only at *
  generalize Dc.isName nm.data.toList = q0 at *
  generalize Ba.bet ax (-16777216) 16777216 = q1 at *
  generalize Ba.bet ay (-16777216) 16777216 = q2 at *
  generalize Ba.shp ⟨A, n, c, b, o, X, Y⟩ (gr - iv) = qs at *

  cases q0
  · clear HX HY HS HA HK HT HV
    simp only [Bool.true_and, Bool.false_and, Bool.and_false]
    go_enter Tryz.func94, Tryz.ntmps94
    go_wp2_with fail
    refine (HN.out _).mono ?_
    rintro e w9 ⟨rfl, rfl⟩
    go_wp2_with fail
    go_ret
    exact ⟨rfl, gr_auto⟩
  cases q1
  · clear HY HS HA HK HT HV
    simp only [Bool.true_and, Bool.false_and, Bool.and_false]
    go_enter Tryz.func94, Tryz.ntmps94
    go_wp2_with fail
    refine (HN.out _).mono ?_
    rintro e w9 ⟨rfl, rfl⟩
    go_wp2_with fail
    refine (HX.out _).mono ?_
    rintro e w9 ⟨rfl, rfl⟩
    go_wp2_with fail
    go_ret
    exact ⟨rfl, gr_auto⟩
  cases q2
  · clear HS HA HK HT HV
    simp only [Bool.true_and, Bool.false_and, Bool.and_false]
    go_enter Tryz.func94, Tryz.ntmps94
    go_wp2_with fail
    refine (HN.out _).mono ?_
    rintro e w9 ⟨rfl, rfl⟩
    go_wp2_with fail
    refine (HX.out _).mono ?_
    rintro e w9 ⟨rfl, rfl⟩
    go_wp2_with fail
    refine (HY.out _).mono ?_
    rintro e w9 ⟨rfl, rfl⟩
    go_wp2_with fail
    go_ret
    exact ⟨rfl, gr_auto⟩
  generalize (Ba.bet iv (-4194304) 4194304 && Ba.bet gr (-4194304) 4194304) = q3 at *
  cases q3
  · clear HS HA HK HT HV
    simp only [Bool.true_and, Bool.false_and, Bool.and_false]
    go_enter Tryz.func94, Tryz.ntmps94
    go_wp2_with fail
    refine (HN.out _).mono ?_
    rintro e w9 ⟨rfl, rfl⟩
    go_wp2_with fail
    refine (HX.out _).mono ?_
    rintro e w9 ⟨rfl, rfl⟩
    go_wp2_with fail
    refine (HY.out _).mono ?_
    rintro e w9 ⟨rfl, rfl⟩
    go_wp2_with fail
    refine (HL.out _ _ (by simp [go_sem]) (by simp [go_sem])).mono ?_
    rintro e w1 ⟨rfl, hb1⟩
    obtain ⟨hc1, hf1⟩ := Gr.cells hb1; have hz1 := Gr.size hb1; (try simp at hz1); (try have hy1_0 : w.heap.size < w1.heap.size := by omega); (try have hy1_1 : w.heap.size + 1 < w1.heap.size := by omega); (try have hy1_2 : w.heap.size + 1 + 1 < w1.heap.size := by omega); (try have hy1_3 : w.heap.size + 1 + 1 + 1 < w1.heap.size := by omega); (try have hy1_4 : w.heap.size + 1 + 1 + 1 + 1 < w1.heap.size := by omega); (try have hy1_5 : w.heap.size + 1 + 1 + 1 + 1 + 1 < w1.heap.size := by omega)
    go_wp2_with fail
    go_ret
    exact ⟨rfl, gr_auto⟩
  obtain ⟨v0, v1, v2, v3⟩ := HV.out rfl
  clear HV
  simp only [Bool.true_and]
  by_cases hk : kd = 3
  · subst hk
    rw [if_pos rfl]
    unfold Ba.rnO
    clear HS HA HK HT
    have t0 : ((3 : Int) == 1) = false := rfl
    have t1 : ((3 : Int) == 2) = false := rfl
    have z0 : decide (n = 0) = ((n : Int) == 0) := by rw [Bool.eq_iff_iff]; simp
    rw [z0]
    clear z0
    cases z1 : decide (iv ≤ gr)
    · go_enter Tryz.func94, Tryz.ntmps94
      go_wp2_with fail
      refine (HN.out _).mono ?_
      rintro e w9 ⟨rfl, rfl⟩
      go_wp2_with fail
      refine (HX.out _).mono ?_
      rintro e w9 ⟨rfl, rfl⟩
      go_wp2_with fail
      refine (HY.out _).mono ?_
      rintro e w9 ⟨rfl, rfl⟩
      go_wp2_with fail
      refine (HL.out _ _ (by simp [go_sem]) (by simp [go_sem])).mono ?_
      rintro e w1 ⟨rfl, hb1⟩
      obtain ⟨hc1, hf1⟩ := Gr.cells hb1; have hz1 := Gr.size hb1; (try simp at hz1); (try have hy1_0 : w.heap.size < w1.heap.size := by omega); (try have hy1_1 : w.heap.size + 1 < w1.heap.size := by omega); (try have hy1_2 : w.heap.size + 1 + 1 < w1.heap.size := by omega); (try have hy1_3 : w.heap.size + 1 + 1 + 1 < w1.heap.size := by omega); (try have hy1_4 : w.heap.size + 1 + 1 + 1 + 1 < w1.heap.size := by omega); (try have hy1_5 : w.heap.size + 1 + 1 + 1 + 1 + 1 < w1.heap.size := by omega)
      go_wp2_with fail
      go_ret
      exact ⟨rfl, gr_auto⟩
    cases z2 : ((n : Int) == 0)
    · go_enter Tryz.func94, Tryz.ntmps94
      go_wp2_with fail
      refine (HN.out _).mono ?_
      rintro e w9 ⟨rfl, rfl⟩
      go_wp2_with fail
      refine (HX.out _).mono ?_
      rintro e w9 ⟨rfl, rfl⟩
      go_wp2_with fail
      refine (HY.out _).mono ?_
      rintro e w9 ⟨rfl, rfl⟩
      go_wp2_with fail
      refine (HL.out _ _ (by simp [go_sem]) (by simp [go_sem])).mono ?_
      rintro e w1 ⟨rfl, hb1⟩
      obtain ⟨hc1, hf1⟩ := Gr.cells hb1; have hz1 := Gr.size hb1; (try simp at hz1); (try have hy1_0 : w.heap.size < w1.heap.size := by omega); (try have hy1_1 : w.heap.size + 1 < w1.heap.size := by omega); (try have hy1_2 : w.heap.size + 1 + 1 < w1.heap.size := by omega); (try have hy1_3 : w.heap.size + 1 + 1 + 1 < w1.heap.size := by omega); (try have hy1_4 : w.heap.size + 1 + 1 + 1 + 1 < w1.heap.size := by omega); (try have hy1_5 : w.heap.size + 1 + 1 + 1 + 1 + 1 < w1.heap.size := by omega)
      go_wp2_with fail
      go_ret
      exact ⟨rfl, gr_auto⟩
    cases pr
    · cases z3 : (rs == 0)
      · go_enter Tryz.func94, Tryz.ntmps94
        go_wp2_with fail
        refine (HN.out _).mono ?_
        rintro e w9 ⟨rfl, rfl⟩
        go_wp2_with fail
        refine (HX.out _).mono ?_
        rintro e w9 ⟨rfl, rfl⟩
        go_wp2_with fail
        refine (HY.out _).mono ?_
        rintro e w9 ⟨rfl, rfl⟩
        go_wp2_with fail
        refine (HL.out _ _ (by simp [go_sem]) (by simp [go_sem])).mono ?_
        rintro e w1 ⟨rfl, hb1⟩
        obtain ⟨hc1, hf1⟩ := Gr.cells hb1; have hz1 := Gr.size hb1; (try simp at hz1); (try have hy1_0 : w.heap.size < w1.heap.size := by omega); (try have hy1_1 : w.heap.size + 1 < w1.heap.size := by omega); (try have hy1_2 : w.heap.size + 1 + 1 < w1.heap.size := by omega); (try have hy1_3 : w.heap.size + 1 + 1 + 1 < w1.heap.size := by omega); (try have hy1_4 : w.heap.size + 1 + 1 + 1 + 1 < w1.heap.size := by omega); (try have hy1_5 : w.heap.size + 1 + 1 + 1 + 1 + 1 < w1.heap.size := by omega)
        go_wp2_with fail
        go_ret
        exact ⟨rfl, gr_auto⟩
      · go_enter Tryz.func94, Tryz.ntmps94
        go_wp2_with fail
        refine (HN.out _).mono ?_
        rintro e w9 ⟨rfl, rfl⟩
        go_wp2_with fail
        refine (HX.out _).mono ?_
        rintro e w9 ⟨rfl, rfl⟩
        go_wp2_with fail
        refine (HY.out _).mono ?_
        rintro e w9 ⟨rfl, rfl⟩
        go_wp2_with fail
        refine (HL.out _ _ (by simp [go_sem]) (by simp [go_sem])).mono ?_
        rintro e w1 ⟨rfl, hb1⟩
        obtain ⟨hc1, hf1⟩ := Gr.cells hb1; have hz1 := Gr.size hb1; (try simp at hz1); (try have hy1_0 : w.heap.size < w1.heap.size := by omega); (try have hy1_1 : w.heap.size + 1 < w1.heap.size := by omega); (try have hy1_2 : w.heap.size + 1 + 1 < w1.heap.size := by omega); (try have hy1_3 : w.heap.size + 1 + 1 + 1 < w1.heap.size := by omega); (try have hy1_4 : w.heap.size + 1 + 1 + 1 + 1 < w1.heap.size := by omega); (try have hy1_5 : w.heap.size + 1 + 1 + 1 + 1 + 1 < w1.heap.size := by omega)
        go_wp2_with fail
        go_ret
        exact ⟨rfl, gr_auto⟩
    · go_enter Tryz.func94, Tryz.ntmps94
      go_wp2_with fail
      refine (HN.out _).mono ?_
      rintro e w9 ⟨rfl, rfl⟩
      go_wp2_with fail
      refine (HX.out _).mono ?_
      rintro e w9 ⟨rfl, rfl⟩
      go_wp2_with fail
      refine (HY.out _).mono ?_
      rintro e w9 ⟨rfl, rfl⟩
      go_wp2_with fail
      refine (HL.out _ _ (by simp [go_sem]) (by simp [go_sem])).mono ?_
      rintro e w1 ⟨rfl, hb1⟩
      obtain ⟨hc1, hf1⟩ := Gr.cells hb1; have hz1 := Gr.size hb1; (try simp at hz1); (try have hy1_0 : w.heap.size < w1.heap.size := by omega); (try have hy1_1 : w.heap.size + 1 < w1.heap.size := by omega); (try have hy1_2 : w.heap.size + 1 + 1 < w1.heap.size := by omega); (try have hy1_3 : w.heap.size + 1 + 1 + 1 < w1.heap.size := by omega); (try have hy1_4 : w.heap.size + 1 + 1 + 1 + 1 < w1.heap.size := by omega); (try have hy1_5 : w.heap.size + 1 + 1 + 1 + 1 + 1 < w1.heap.size := by omega)
      go_wp2_with fail
      go_ret
      exact ⟨rfl, gr_auto⟩
  rw [if_neg hk]
  have t3 : (kd == 3) = false := by rw [beq_eq_false_iff_ne]; exact hk
  by_cases hk2 : kd = 1 ∨ kd = 2
  rotate_left
  · rw [if_neg hk2]
    have t1 : (kd == 1) = false := by rw [beq_eq_false_iff_ne]; exact fun q => hk2 (Or.inl q)
    have t2 : (kd == 2) = false := by rw [beq_eq_false_iff_ne]; exact fun q => hk2 (Or.inr q)
    clear HS HA HK HT hk2 hk
    go_enter Tryz.func94, Tryz.ntmps94
    go_wp2_with fail
    refine (HN.out _).mono ?_
    rintro e w9 ⟨rfl, rfl⟩
    go_wp2_with fail
    refine (HX.out _).mono ?_
    rintro e w9 ⟨rfl, rfl⟩
    go_wp2_with fail
    refine (HY.out _).mono ?_
    rintro e w9 ⟨rfl, rfl⟩
    go_wp2_with fail
    refine (HL.out _ _ (by simp [go_sem]) (by simp [go_sem])).mono ?_
    rintro e w1 ⟨rfl, hb1⟩
    obtain ⟨hc1, hf1⟩ := Gr.cells hb1; have hz1 := Gr.size hb1; (try simp at hz1); (try have hy1_0 : w.heap.size < w1.heap.size := by omega); (try have hy1_1 : w.heap.size + 1 < w1.heap.size := by omega); (try have hy1_2 : w.heap.size + 1 + 1 < w1.heap.size := by omega); (try have hy1_3 : w.heap.size + 1 + 1 + 1 < w1.heap.size := by omega); (try have hy1_4 : w.heap.size + 1 + 1 + 1 + 1 < w1.heap.size := by omega); (try have hy1_5 : w.heap.size + 1 + 1 + 1 + 1 + 1 < w1.heap.size := by omega)
    go_wp2_with fail
    go_ret
    exact ⟨rfl, gr_auto⟩
  rw [if_pos hk2]
  have ws : IntKind.i64.wrap (gr - iv) = gr - iv := IntWalk.i64_in _ (by omega)
  cases z1 : decide (iv < gr)
  · have z2 : decide (gr ≤ iv) = true := decide_eq_true (by have := of_decide_eq_false z1; omega)
    clear HS HA HK HT hk z1
    rcases hk2 with rfl | rfl
    all_goals
      go_enter Tryz.func94, Tryz.ntmps94
      go_wp2_with fail
      refine (HN.out _).mono ?_
      rintro e w9 ⟨rfl, rfl⟩
      go_wp2_with fail
      refine (HX.out _).mono ?_
      rintro e w9 ⟨rfl, rfl⟩
      go_wp2_with fail
      refine (HY.out _).mono ?_
      rintro e w9 ⟨rfl, rfl⟩
      go_wp2_with fail
      refine (HL.out _ _ (by simp [go_sem]) (by simp [go_sem])).mono ?_
      rintro e w1 ⟨rfl, hb1⟩
      obtain ⟨hc1, hf1⟩ := Gr.cells hb1; have hz1 := Gr.size hb1; (try simp at hz1); (try have hy1_0 : w.heap.size < w1.heap.size := by omega); (try have hy1_1 : w.heap.size + 1 < w1.heap.size := by omega); (try have hy1_2 : w.heap.size + 1 + 1 < w1.heap.size := by omega); (try have hy1_3 : w.heap.size + 1 + 1 + 1 < w1.heap.size := by omega); (try have hy1_4 : w.heap.size + 1 + 1 + 1 + 1 < w1.heap.size := by omega); (try have hy1_5 : w.heap.size + 1 + 1 + 1 + 1 + 1 < w1.heap.size := by omega)
      go_wp2_with fail
      go_ret
      exact ⟨rfl, gr_auto⟩
  have z2 : decide (gr ≤ iv) = false := decide_eq_false (by have := of_decide_eq_true z1; omega)
  clear z1
  simp only [Bool.true_and]
  cases qs
  · clear HA HK HT hk
    rcases hk2 with rfl | rfl
    all_goals
      go_enter Tryz.func94, Tryz.ntmps94
      go_wp2_with fail
      refine (HN.out _).mono ?_
      rintro e w9 ⟨rfl, rfl⟩
      go_wp2_with fail
      refine (HX.out _).mono ?_
      rintro e w9 ⟨rfl, rfl⟩
      go_wp2_with fail
      refine (HY.out _).mono ?_
      rintro e w9 ⟨rfl, rfl⟩
      go_wp2_with fail
      refine (HL.out _ _ (by simp [go_sem]) (by simp [go_sem])).mono ?_
      rintro e w1 ⟨rfl, hb1⟩
      obtain ⟨hc1, hf1⟩ := Gr.cells hb1; have hz1 := Gr.size hb1; (try simp at hz1); (try have hy1_0 : w.heap.size < w1.heap.size := by omega); (try have hy1_1 : w.heap.size + 1 < w1.heap.size := by omega); (try have hy1_2 : w.heap.size + 1 + 1 < w1.heap.size := by omega); (try have hy1_3 : w.heap.size + 1 + 1 + 1 < w1.heap.size := by omega); (try have hy1_4 : w.heap.size + 1 + 1 + 1 + 1 < w1.heap.size := by omega); (try have hy1_5 : w.heap.size + 1 + 1 + 1 + 1 + 1 < w1.heap.size := by omega)
      go_wp2_with fail
      refine (HS.out _ gr_auto).mono ?_
      rintro e w2 ⟨rfl, hb2⟩
      obtain ⟨hc2, hf2⟩ := Gr.cells hb2; have hz2 := Gr.size hb2; (try simp at hz2); (try have hy2_0 : w.heap.size < w2.heap.size := by omega); (try have hy2_1 : w.heap.size + 1 < w2.heap.size := by omega); (try have hy2_2 : w.heap.size + 1 + 1 < w2.heap.size := by omega); (try have hy2_3 : w.heap.size + 1 + 1 + 1 < w2.heap.size := by omega); (try have hy2_4 : w.heap.size + 1 + 1 + 1 + 1 < w2.heap.size := by omega); (try have hy2_5 : w.heap.size + 1 + 1 + 1 + 1 + 1 < w2.heap.size := by omega); (try have hy2_1_0 : w1.heap.size < w2.heap.size := by omega); (try have hy2_1_1 : w1.heap.size + 1 < w2.heap.size := by omega)
      go_wp2_with fail
      go_ret
      exact ⟨rfl, gr_auto⟩
  simp only [Bool.true_and]
  obtain ⟨n1, n2⟩ := HT.out rfl
  unfold Ba.rnM
  obtain rfl := HA.out (by omega)
  obtain ⟨⟨-, b1⟩, -, -⟩ := HK.out (n - 1) (by omega)
  obtain ⟨m, hm⟩ : ∃ m, n = m + 1 := ⟨n - 1, by omega⟩
  rw [show n - 1 = m by omega] at *
  have wv0 : (n : Int) - 1 = (m : Int) := by omega
  have wv1 : IntKind.i64.wrap (m : Int) = (m : Int) := IntWalk.i64_in _ (by omega)
  have wb0 : (0 : Int) ≤ (m : Int) := by omega
  have wb1 : (m : Int) < (n : Int) := by omega
  clear hm HA HK HT n1 n2
  have hbw : b < w.heap.size := World.block_lt_of_cell? _ _ b1
  generalize Y m = y1 at *
  cases pr
  · simp only [cond_false]
    clear hk t3
    cases z3 : (rs == 0)
    all_goals
      rcases hk2 with rfl | rfl
      all_goals
        go_enter Tryz.func94, Tryz.ntmps94
        go_wp2_with fail
        refine (HN.out _).mono ?_
        rintro e w9 ⟨rfl, rfl⟩
        go_wp2_with fail
        refine (HX.out _).mono ?_
        rintro e w9 ⟨rfl, rfl⟩
        go_wp2_with fail
        refine (HY.out _).mono ?_
        rintro e w9 ⟨rfl, rfl⟩
        go_wp2_with fail
        refine (HL.out _ _ (by simp [go_sem]) (by simp [go_sem])).mono ?_
        rintro e w1 ⟨rfl, hb1⟩
        obtain ⟨hc1, hf1⟩ := Gr.cells hb1; have hz1 := Gr.size hb1; (try simp at hz1); (try have hy1_0 : w.heap.size < w1.heap.size := by omega); (try have hy1_1 : w.heap.size + 1 < w1.heap.size := by omega); (try have hy1_2 : w.heap.size + 1 + 1 < w1.heap.size := by omega); (try have hy1_3 : w.heap.size + 1 + 1 + 1 < w1.heap.size := by omega); (try have hy1_4 : w.heap.size + 1 + 1 + 1 + 1 < w1.heap.size := by omega); (try have hy1_5 : w.heap.size + 1 + 1 + 1 + 1 + 1 < w1.heap.size := by omega)
        go_wp2_with fail
        refine (HS.out _ gr_auto).mono ?_
        rintro e w2 ⟨rfl, hb2⟩
        obtain ⟨hc2, hf2⟩ := Gr.cells hb2; have hz2 := Gr.size hb2; (try simp at hz2); (try have hy2_0 : w.heap.size < w2.heap.size := by omega); (try have hy2_1 : w.heap.size + 1 < w2.heap.size := by omega); (try have hy2_2 : w.heap.size + 1 + 1 < w2.heap.size := by omega); (try have hy2_3 : w.heap.size + 1 + 1 + 1 < w2.heap.size := by omega); (try have hy2_4 : w.heap.size + 1 + 1 + 1 + 1 < w2.heap.size := by omega); (try have hy2_5 : w.heap.size + 1 + 1 + 1 + 1 + 1 < w2.heap.size := by omega); (try have hy2_1_0 : w1.heap.size < w2.heap.size := by omega); (try have hy2_1_1 : w1.heap.size + 1 < w2.heap.size := by omega)
        go_wp2_with fail
        go_ret
        exact ⟨rfl, gr_auto⟩
  simp only [cond_true]
  rcases hk2 with rfl | rfl
  · clear hk
    go_enter Tryz.func94, Tryz.ntmps94
    go_wp2_with fail
    refine (HN.out _).mono ?_
    rintro e w9 ⟨rfl, rfl⟩
    go_wp2_with fail
    refine (HX.out _).mono ?_
    rintro e w9 ⟨rfl, rfl⟩
    go_wp2_with fail
    refine (HY.out _).mono ?_
    rintro e w9 ⟨rfl, rfl⟩
    go_wp2_with fail
    refine (HL.out _ _ (by simp [go_sem]) (by simp [go_sem])).mono ?_
    rintro e w1 ⟨rfl, hb1⟩
    obtain ⟨hc1, hf1⟩ := Gr.cells hb1; have hz1 := Gr.size hb1; (try simp at hz1); (try have hy1_0 : w.heap.size < w1.heap.size := by omega); (try have hy1_1 : w.heap.size + 1 < w1.heap.size := by omega); (try have hy1_2 : w.heap.size + 1 + 1 < w1.heap.size := by omega); (try have hy1_3 : w.heap.size + 1 + 1 + 1 < w1.heap.size := by omega); (try have hy1_4 : w.heap.size + 1 + 1 + 1 + 1 < w1.heap.size := by omega); (try have hy1_5 : w.heap.size + 1 + 1 + 1 + 1 + 1 < w1.heap.size := by omega)
    go_wp2_with fail
    refine (HS.out _ gr_auto).mono ?_
    rintro e w2 ⟨rfl, hb2⟩
    obtain ⟨hc2, hf2⟩ := Gr.cells hb2; have hz2 := Gr.size hb2; (try simp at hz2); (try have hy2_0 : w.heap.size < w2.heap.size := by omega); (try have hy2_1 : w.heap.size + 1 < w2.heap.size := by omega); (try have hy2_2 : w.heap.size + 1 + 1 < w2.heap.size := by omega); (try have hy2_3 : w.heap.size + 1 + 1 + 1 < w2.heap.size := by omega); (try have hy2_4 : w.heap.size + 1 + 1 + 1 + 1 < w2.heap.size := by omega); (try have hy2_5 : w.heap.size + 1 + 1 + 1 + 1 + 1 < w2.heap.size := by omega); (try have hy2_1_0 : w1.heap.size < w2.heap.size := by omega); (try have hy2_1_1 : w1.heap.size + 1 < w2.heap.size := by omega)
    go_wp2_with fail
    go_ret
    exact ⟨rfl, gr_auto⟩
  simp only [beq_self_eq_true, Bool.true_and]
  generalize Ba.bet rs 0 y1 = qb at *
  go_enter Tryz.func94, Tryz.ntmps94
  go_wp2_with fail
  refine (HN.out _).mono ?_
  rintro e w9 ⟨rfl, rfl⟩
  go_wp2_with fail
  refine (HX.out _).mono ?_
  rintro e w9 ⟨rfl, rfl⟩
  go_wp2_with fail
  refine (HY.out _).mono ?_
  rintro e w9 ⟨rfl, rfl⟩
  go_wp2_with fail
  refine (HL.out _ _ (by simp [go_sem]) (by simp [go_sem])).mono ?_
  rintro e w1 ⟨rfl, hb1⟩
  obtain ⟨hc1, hf1⟩ := Gr.cells hb1; have hz1 := Gr.size hb1; (try simp at hz1); (try have hy1_0 : w.heap.size < w1.heap.size := by omega); (try have hy1_1 : w.heap.size + 1 < w1.heap.size := by omega); (try have hy1_2 : w.heap.size + 1 + 1 < w1.heap.size := by omega); (try have hy1_3 : w.heap.size + 1 + 1 + 1 < w1.heap.size := by omega); (try have hy1_4 : w.heap.size + 1 + 1 + 1 + 1 < w1.heap.size := by omega); (try have hy1_5 : w.heap.size + 1 + 1 + 1 + 1 + 1 < w1.heap.size := by omega)
  go_wp2_with fail
  refine (HS.out _ gr_auto).mono ?_
  rintro e w2 ⟨rfl, hb2⟩
  obtain ⟨hc2, hf2⟩ := Gr.cells hb2; have hz2 := Gr.size hb2; (try simp at hz2); (try have hy2_0 : w.heap.size < w2.heap.size := by omega); (try have hy2_1 : w.heap.size + 1 < w2.heap.size := by omega); (try have hy2_2 : w.heap.size + 1 + 1 < w2.heap.size := by omega); (try have hy2_3 : w.heap.size + 1 + 1 + 1 < w2.heap.size := by omega); (try have hy2_4 : w.heap.size + 1 + 1 + 1 + 1 < w2.heap.size := by omega); (try have hy2_5 : w.heap.size + 1 + 1 + 1 + 1 + 1 < w2.heap.size := by omega); (try have hy2_1_0 : w1.heap.size < w2.heap.size := by omega); (try have hy2_1_1 : w1.heap.size + 1 < w2.heap.size := by omega)
  have b2 := Gr.at (show Gr w w2 by exact gr_auto) b1
  go_wp2_with fail
  go_quiet ((go_at_call 127; first | exact quiet_eq (HB.out _) | exact quiet_add_left (HB.out _)))
  go_wp2_with fail
  go_ret
  exact ⟨rfl, gr_auto⟩
end Go.Proofs.YtllkiadedaghoaaGreatDoor
