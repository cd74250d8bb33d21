/-
  Alarms: the reference's Balances. (Printed by mkblh.py.)
-/
import Derived.Test.YtllkiadedaghoaaGreatCb29
import Derived.Test.YtllkiadedaghoaaGreatCm11
import Derived.Test.YtllkiadedaghoaaGreatCb24
import Derived.Test.YtllkiadedaghoaaGreatCm02

set_option linter.unusedVariables false
set_option linter.unusedSimpArgs false
namespace Go.Proofs.YtllkiadedaghoaaGreat
open Go.RowKit Go.Shelf Go.Sort
attribute [local go_sem ↓] Go.wp_at_zero Go.wp_at_succ
theorem Al.rng_at {I : Ba.SlI} (h : Ba.any (fun i => !Ba.bet (I.X i) (-1125899906842624) 1125899906842624) I.n = false) {i : Nat} (hi : i < I.n) : -1125899906842624 ≤ I.X i ∧ I.X i ≤ 1125899906842624 := by
  have z : ¬ (!Ba.bet (I.X i) (-1125899906842624) 1125899906842624) = true := fun c => by
    rw [(Ba.any_iff _ _).2 ⟨i, hi, c⟩] at h; cases h
  unfold Ba.bet at z
  simpa using z
theorem Al.rng_no {I : Ba.SlI} (h : Ba.any (fun i => !Ba.bet (I.X i) (-1125899906842624) 1125899906842624) I.n = true) (k : ∀ i, i < I.n → -1125899906842624 ≤ I.X i ∧ I.X i ≤ 1125899906842624) : False := by
  obtain ⟨i, hi, c⟩ := (Ba.any_iff _ _).1 h
  have := k i hi
  unfold Ba.bet at c
  simp at c
  omega
set_option maxRecDepth 100000 in
set_option maxHeartbeats 4000000 in
theorem rbal_name (N : Ba.SlNode) (L : Ba.SlLink) (s : Al.SlM) (nd : ByteArray) (I : Ba.SlI) (tol : Int) (w : World) (hN : N.At w) (h : s.At w) (hI : I.At w) (hvl : Al.vL s.lst) (hx : Ba.nix N nd < 0) : Calls Tryz.prog 42 #[Ba.netVal N L, .slice s.A s.n s.c, .string nd, .slice I.A I.n I.c, .int .i64 tol] w fun e w' => e = .returned (.tuple #[.slice none 0 0, .int .i64 9]) ∧ Gr w w' := by
  have HFi := Lib.hid (fun W (hW : Gr w W) => show Calls Tryz.prog 43 #[.agg #[.slice N.A N.n N.c, .slice L.A L.n L.c], .string nd] W fun e w' => e = .returned (.int .i64 (Ba.nix N nd)) ∧ Gr W w' from rfindnode_any N L.A L.n L.c nd W (hN.gr hW))
  have t0 : decide (Ba.nix N nd < 0) = true := decide_eq_true hx
  clear hN h hI hvl
  unfold Ba.netVal at *
  generalize Ba.nix N nd = q at *
  generalize N.A = nA at *; generalize N.n = nn at *; generalize N.c = nc at *
  generalize L.A = lA at *; generalize L.n = ln at *; generalize L.c = lc at *
  generalize s.A = sA at *; generalize s.n = sn at *; generalize s.c = sc at *; generalize I.A = iA at *; generalize I.n = m at *; generalize I.c = ic at *
  go_enter Tryz.func42, Tryz.ntmps42
  go_wp2_with fail
  refine (HFi.out _ gr_auto).mono ?_
  rintro e w1 ⟨rfl, hb⟩
  have g : Gr w w1 := gr_auto
  clear hb
  go_wp2_with fail
  go_ret2
  exact ⟨rfl, g⟩
set_option maxRecDepth 100000 in
set_option maxHeartbeats 4000000 in
theorem rbal_kind (N : Ba.SlNode) (L : Ba.SlLink) (s : Al.SlM) (nd : ByteArray) (I : Ba.SlI) (tol : Int) (w : World) (hN : N.At w) (h : s.At w) (hI : I.At w) (hvl : Al.vL s.lst) (hnb : Ba.netB N L = true) (k : Nat) (hx : Ba.nix N nd = (k : Int)) (hk : (N.D k).kd = 3) : Calls Tryz.prog 42 #[Ba.netVal N L, .slice s.A s.n s.c, .string nd, .slice I.A I.n I.c, .int .i64 tol] w fun e w' => e = .returned (.tuple #[.slice none 0 0, .int .i64 11]) ∧ Gr w w' := by
  have HFi := Lib.hid (fun W (hW : Gr w W) => show Calls Tryz.prog 43 #[.agg #[.slice N.A N.n N.c, .slice L.A L.n L.c], .string nd] W fun e w' => e = .returned (.int .i64 (Ba.nix N nd)) ∧ Gr W w' from rfindnode_any N L.A L.n L.c nd W (hN.gr hW))
  rw [hx] at HFi
  have hkn := (Ba.fstI_is hx).1
  have hrn := Ba.net_node hnb hkn
  have hNA := hN.hA (by omega)
  have hNc := hN.hc; have hNb := hN.hb
  obtain ⟨hnc, hno⟩ := hN.hD k hkn
  obtain ⟨n0, n1, n2, n3, n4, n5, n6, n7, n8⟩ := hnc
  have HOf := Lib.hid (fun W (hW : Gr w W) => rof_any s nd W (h.gr hW) hvl)
  have hTl : (Al.ofN s.lst nd).length ≤ 10000 := Nat.le_trans List.filter_sublist.length_le (by rw [(Al.srtM_perm s.lst).length_eq]; exact hvl.1)
  have HOk := Lib.hid (show ∀ m ∈ Al.ofN s.lst nd, m.Ok from fun m hm => by
    obtain ⟨i, hi, rfl⟩ := List.mem_map.1 ((Al.srtM_perm s.lst).mem_iff.1 (List.mem_filter.1 hm).1)
    exact (h.hD i (List.mem_range.1 hi)).2)
  obtain ⟨D, hD⟩ : ∃ D, N.D k = D := ⟨_, rfl⟩
  rw [hD] at n0 n1 n2 n3 n4 n5 n6 n7 n8
  rw [hD] at hk
  clear hD
  generalize D.sh.A = sha at *; generalize D.sh.n = shn at *; generalize D.sh.c = shc at *
  cases D with | mk nm kd ax ay iv gr sh pr rs =>
  simp only [] at *
  clear hN hI hvl hnb hx hno hrn HOf HOk hTl h
  unfold Ba.netVal at *
  cases N with | mk nA nn nc nb no nD =>
  simp only [] at *
  subst hNA
  generalize L.A = lA at *; generalize L.n = ln at *; generalize L.c = lc at *
  have t0 : (kd == 3) = true := beq_iff_eq.2 hk
  clear hk
  generalize s.A = sA at *; generalize s.n = sn at *; generalize s.c = sc at *; generalize I.A = iA at *; generalize I.n = m at *; generalize I.c = ic at *
  go_enter Tryz.func42, Tryz.ntmps42
  go_wp2_with fail
  refine (HFi.out _ gr_auto).mono ?_
  rintro e w1 ⟨rfl, hb⟩
  have g : Gr w w1 := gr_auto
  have q0 := Gr.at (show Gr _ w1 from hb) (show World.cell? _ ⟨w.heap.size, 0, none⟩ = some (.slice (some ⟨nb, no, none⟩) nn nc) from by simp [go_sem])
  have q1 := Gr.at (show Gr _ w1 from hb) (show World.cell? _ ⟨w.heap.size, 1, none⟩ = some (.slice lA ln lc) from by simp [go_sem])
  replace n0 := Gr.at g n0
  replace n1 := Gr.at g n1
  replace n2 := Gr.at g n2
  replace n3 := Gr.at g n3
  replace n4 := Gr.at g n4
  replace n5 := Gr.at g n5
  replace n6 := Gr.at g n6
  replace n7 := Gr.at g n7
  replace n8 := Gr.at g n8
  clear hb HFi
  have ik0 : (0 : Int) ≤ (k : Int) := by omega
  have ik1 : (k : Int) < (nn : Int) := by omega
  have ik2 : ¬ (k : Int) < 0 := by omega
  have ik3 : decide ((k : Int) < 0) = false := decide_eq_false ik2
  go_wp2_with fail
  go_ret2
  exact ⟨rfl, g⟩
set_option maxRecDepth 100000 in
set_option maxHeartbeats 4000000 in
theorem rbal_size (N : Ba.SlNode) (L : Ba.SlLink) (s : Al.SlM) (nd : ByteArray) (I : Ba.SlI) (tol : Int) (w : World) (hN : N.At w) (h : s.At w) (hI : I.At w) (hvl : Al.vL s.lst) (hnb : Ba.netB N L = true) (k : Nat) (hx : Ba.nix N nd = (k : Int)) (hk : (N.D k).kd ≠ 3) (hm : I.n ≠ (Al.ofN s.lst nd).length - 1) : Calls Tryz.prog 42 #[Ba.netVal N L, .slice s.A s.n s.c, .string nd, .slice I.A I.n I.c, .int .i64 tol] w fun e w' => e = .returned (.tuple #[.slice none 0 0, .int .i64 3]) ∧ Gr w w' := by
  have HFi := Lib.hid (fun W (hW : Gr w W) => show Calls Tryz.prog 43 #[.agg #[.slice N.A N.n N.c, .slice L.A L.n L.c], .string nd] W fun e w' => e = .returned (.int .i64 (Ba.nix N nd)) ∧ Gr W w' from rfindnode_any N L.A L.n L.c nd W (hN.gr hW))
  rw [hx] at HFi
  have hkn := (Ba.fstI_is hx).1
  have hrn := Ba.net_node hnb hkn
  have hNA := hN.hA (by omega)
  have hNc := hN.hc; have hNb := hN.hb
  obtain ⟨hnc, hno⟩ := hN.hD k hkn
  obtain ⟨n0, n1, n2, n3, n4, n5, n6, n7, n8⟩ := hnc
  have HOf := Lib.hid (fun W (hW : Gr w W) => rof_any s nd W (h.gr hW) hvl)
  have hTl : (Al.ofN s.lst nd).length ≤ 10000 := Nat.le_trans List.filter_sublist.length_le (by rw [(Al.srtM_perm s.lst).length_eq]; exact hvl.1)
  have HOk := Lib.hid (show ∀ m ∈ Al.ofN s.lst nd, m.Ok from fun m hm => by
    obtain ⟨i, hi, rfl⟩ := List.mem_map.1 ((Al.srtM_perm s.lst).mem_iff.1 (List.mem_filter.1 hm).1)
    exact (h.hD i (List.mem_range.1 hi)).2)
  obtain ⟨D, hD⟩ : ∃ D, N.D k = D := ⟨_, rfl⟩
  rw [hD] at n0 n1 n2 n3 n4 n5 n6 n7 n8
  rw [hD] at hk
  clear hD
  generalize D.sh.A = sha at *; generalize D.sh.n = shn at *; generalize D.sh.c = shc at *
  cases D with | mk nm kd ax ay iv gr sh pr rs =>
  simp only [] at *
  have hic := hI.hc; have hib := hI.hb
  clear hN hI hvl hnb hx hno hrn
  unfold Ba.netVal at *
  cases N with | mk nA nn nc nb no nD =>
  simp only [] at *
  subst hNA
  generalize L.A = lA at *; generalize L.n = ln at *; generalize L.c = lc at *
  have t0 : (kd == 3) = false := beq_eq_false_iff_ne.2 hk
  clear hk
  generalize I.A = iA at *; generalize I.n = m at *; generalize I.c = ic at *
  go_enter Tryz.func42, Tryz.ntmps42
  go_wp2_with fail
  refine (HFi.out _ gr_auto).mono ?_
  rintro e w1 ⟨rfl, hb⟩
  have g : Gr w w1 := gr_auto
  have q0 := Gr.at (show Gr _ w1 from hb) (show World.cell? _ ⟨w.heap.size, 0, none⟩ = some (.slice (some ⟨nb, no, none⟩) nn nc) from by simp [go_sem])
  have q1 := Gr.at (show Gr _ w1 from hb) (show World.cell? _ ⟨w.heap.size, 1, none⟩ = some (.slice lA ln lc) from by simp [go_sem])
  replace n0 := Gr.at g n0
  replace n1 := Gr.at g n1
  replace n2 := Gr.at g n2
  replace n3 := Gr.at g n3
  replace n4 := Gr.at g n4
  replace n5 := Gr.at g n5
  replace n6 := Gr.at g n6
  replace n7 := Gr.at g n7
  replace n8 := Gr.at g n8
  clear hb HFi
  have ik0 : (0 : Int) ≤ (k : Int) := by omega
  have ik1 : (k : Int) < (nn : Int) := by omega
  have ik2 : ¬ (k : Int) < 0 := by omega
  have ik3 : decide ((k : Int) < 0) = false := decide_eq_false ik2
  go_wp2_with fail
  refine (HOf.out _ g).mono ?_
  rintro e w2 ⟨v2, rfl, hv2, hb⟩
  replace q0 := Gr.at hb q0
  replace q1 := Gr.at hb q1
  replace n0 := Gr.at hb n0
  replace n1 := Gr.at hb n1
  replace n2 := Gr.at hb n2
  replace n3 := Gr.at hb n3
  replace n4 := Gr.at hb n4
  replace n5 := Gr.at hb n5
  replace n6 := Gr.at hb n6
  replace n7 := Gr.at hb n7
  replace n8 := Gr.at hb n8
  obtain ⟨t, rfl, ht1, ht2, -, -⟩ := Al.ownM_sl hv2 (fun m hm => HOk.out m hm)
  have HT1 := Lib.hid ht1; have HT2 := Lib.hid ht2
  have htn : t.n ≤ 10000 := by rw [← Al.SlM.lst_len, ht2]; exact hTl
  have htl : t.n = (Al.ofN s.lst nd).length := by rw [← ht2, Al.SlM.lst_len]
  replace g := g.trans hb
  clear hb hv2 ht1 ht2 HOf
  have hmt : m ≠ t.n - 1 := by rw [htl]; exact hm
  have e0 : IntKind.i64.wrap ((t.n : Int) - 1) = (t.n : Int) - 1 := wrap_in _ (by omega)
  have e1 : ((m : Int) != max 0 ((t.n : Int) - 1)) = true := bne_iff_ne.2 (by omega)
  clear htl hm hTl HT2 hmt HOk
  generalize s.A = sA at *; generalize s.n = sn at *; generalize s.c = sc at *
  clear h
  go_wp2_with fail
  go_ret2
  exact ⟨rfl, g⟩
set_option maxRecDepth 100000 in
set_option maxHeartbeats 4000000 in
theorem rbal_tol (N : Ba.SlNode) (L : Ba.SlLink) (s : Al.SlM) (nd : ByteArray) (I : Ba.SlI) (tol : Int) (w : World) (hN : N.At w) (h : s.At w) (hI : I.At w) (hvl : Al.vL s.lst) (hnb : Ba.netB N L = true) (k : Nat) (hx : Ba.nix N nd = (k : Int)) (hk : (N.D k).kd ≠ 3) (hm : I.n = (Al.ofN s.lst nd).length - 1) (ht : tol < 0 ∨ 1125899906842624 < tol) : Calls Tryz.prog 42 #[Ba.netVal N L, .slice s.A s.n s.c, .string nd, .slice I.A I.n I.c, .int .i64 tol] w fun e w' => e = .returned (.tuple #[.slice none 0 0, .int .i64 2]) ∧ Gr w w' := by
  have HFi := Lib.hid (fun W (hW : Gr w W) => show Calls Tryz.prog 43 #[.agg #[.slice N.A N.n N.c, .slice L.A L.n L.c], .string nd] W fun e w' => e = .returned (.int .i64 (Ba.nix N nd)) ∧ Gr W w' from rfindnode_any N L.A L.n L.c nd W (hN.gr hW))
  rw [hx] at HFi
  have hkn := (Ba.fstI_is hx).1
  have hrn := Ba.net_node hnb hkn
  have hNA := hN.hA (by omega)
  have hNc := hN.hc; have hNb := hN.hb
  obtain ⟨hnc, hno⟩ := hN.hD k hkn
  obtain ⟨n0, n1, n2, n3, n4, n5, n6, n7, n8⟩ := hnc
  have HOf := Lib.hid (fun W (hW : Gr w W) => rof_any s nd W (h.gr hW) hvl)
  have hTl : (Al.ofN s.lst nd).length ≤ 10000 := Nat.le_trans List.filter_sublist.length_le (by rw [(Al.srtM_perm s.lst).length_eq]; exact hvl.1)
  have HOk := Lib.hid (show ∀ m ∈ Al.ofN s.lst nd, m.Ok from fun m hm => by
    obtain ⟨i, hi, rfl⟩ := List.mem_map.1 ((Al.srtM_perm s.lst).mem_iff.1 (List.mem_filter.1 hm).1)
    exact (h.hD i (List.mem_range.1 hi)).2)
  obtain ⟨D, hD⟩ : ∃ D, N.D k = D := ⟨_, rfl⟩
  rw [hD] at n0 n1 n2 n3 n4 n5 n6 n7 n8
  rw [hD] at hk
  clear hD
  generalize D.sh.A = sha at *; generalize D.sh.n = shn at *; generalize D.sh.c = shc at *
  cases D with | mk nm kd ax ay iv gr sh pr rs =>
  simp only [] at *
  have hic := hI.hc; have hib := hI.hb
  clear hN hI hvl hnb hx hno hrn
  have HM := Lib.hid hm
  clear hm
  unfold Ba.netVal at *
  cases N with | mk nA nn nc nb no nD =>
  simp only [] at *
  subst hNA
  generalize L.A = lA at *; generalize L.n = ln at *; generalize L.c = lc at *
  have t0 : (kd == 3) = false := beq_eq_false_iff_ne.2 hk
  clear hk
  generalize I.A = iA at *; generalize I.n = m at *; generalize I.c = ic at *
  go_enter Tryz.func42, Tryz.ntmps42
  go_wp2_with fail
  refine (HFi.out _ gr_auto).mono ?_
  rintro e w1 ⟨rfl, hb⟩
  have g : Gr w w1 := gr_auto
  have q0 := Gr.at (show Gr _ w1 from hb) (show World.cell? _ ⟨w.heap.size, 0, none⟩ = some (.slice (some ⟨nb, no, none⟩) nn nc) from by simp [go_sem])
  have q1 := Gr.at (show Gr _ w1 from hb) (show World.cell? _ ⟨w.heap.size, 1, none⟩ = some (.slice lA ln lc) from by simp [go_sem])
  replace n0 := Gr.at g n0
  replace n1 := Gr.at g n1
  replace n2 := Gr.at g n2
  replace n3 := Gr.at g n3
  replace n4 := Gr.at g n4
  replace n5 := Gr.at g n5
  replace n6 := Gr.at g n6
  replace n7 := Gr.at g n7
  replace n8 := Gr.at g n8
  clear hb HFi
  have ik0 : (0 : Int) ≤ (k : Int) := by omega
  have ik1 : (k : Int) < (nn : Int) := by omega
  have ik2 : ¬ (k : Int) < 0 := by omega
  have ik3 : decide ((k : Int) < 0) = false := decide_eq_false ik2
  go_wp2_with fail
  refine (HOf.out _ g).mono ?_
  rintro e w2 ⟨v2, rfl, hv2, hb⟩
  replace q0 := Gr.at hb q0
  replace q1 := Gr.at hb q1
  replace n0 := Gr.at hb n0
  replace n1 := Gr.at hb n1
  replace n2 := Gr.at hb n2
  replace n3 := Gr.at hb n3
  replace n4 := Gr.at hb n4
  replace n5 := Gr.at hb n5
  replace n6 := Gr.at hb n6
  replace n7 := Gr.at hb n7
  replace n8 := Gr.at hb n8
  obtain ⟨t, rfl, ht1, ht2, -, -⟩ := Al.ownM_sl hv2 (fun m hm => HOk.out m hm)
  have HT1 := Lib.hid ht1; have HT2 := Lib.hid ht2
  have htn : t.n ≤ 10000 := by rw [← Al.SlM.lst_len, ht2]; exact hTl
  have htl : t.n = (Al.ofN s.lst nd).length := by rw [← ht2, Al.SlM.lst_len]
  replace g := g.trans hb
  clear hb hv2 ht1 ht2 HOf
  have hmt : m = t.n - 1 := by rw [htl]; exact HM.out
  have e0 : IntKind.i64.wrap ((t.n : Int) - 1) = (t.n : Int) - 1 := wrap_in _ (by omega)
  have e1 : ((m : Int) != max 0 ((t.n : Int) - 1)) = false := bne_eq_false_iff_eq.2 (by omega)
  clear htl HM hTl HT2 hmt HOk
  generalize s.A = sA at *; generalize s.n = sn at *; generalize s.c = sc at *
  clear h
  rcases (by omega : tol < 0 ∨ (0 ≤ tol ∧ 1125899906842624 < tol)) with c1 | ⟨c1, c2⟩
  · clear ht
    go_wp2_with fail
    go_ret2
    exact ⟨rfl, g⟩
  · clear ht
    go_wp2_with fail
    go_ret2
    exact ⟨rfl, g⟩
set_option maxRecDepth 100000 in
set_option maxHeartbeats 4000000 in
theorem rbal_rng (N : Ba.SlNode) (L : Ba.SlLink) (s : Al.SlM) (nd : ByteArray) (I : Ba.SlI) (tol : Int) (w : World) (hN : N.At w) (h : s.At w) (hI : I.At w) (hvl : Al.vL s.lst) (hnb : Ba.netB N L = true) (k : Nat) (hx : Ba.nix N nd = (k : Int)) (hk : (N.D k).kd ≠ 3) (hm : I.n = (Al.ofN s.lst nd).length - 1) (ht : 0 ≤ tol ∧ tol ≤ 1125899906842624) (hr : Ba.any (fun i => !Ba.bet (I.X i) (-1125899906842624) 1125899906842624) I.n = true) : Calls Tryz.prog 42 #[Ba.netVal N L, .slice s.A s.n s.c, .string nd, .slice I.A I.n I.c, .int .i64 tol] w fun e w' => e = .returned (.tuple #[.slice none 0 0, .int .i64 2]) ∧ Gr w w' := by
  have HFi := Lib.hid (fun W (hW : Gr w W) => show Calls Tryz.prog 43 #[.agg #[.slice N.A N.n N.c, .slice L.A L.n L.c], .string nd] W fun e w' => e = .returned (.int .i64 (Ba.nix N nd)) ∧ Gr W w' from rfindnode_any N L.A L.n L.c nd W (hN.gr hW))
  rw [hx] at HFi
  have hkn := (Ba.fstI_is hx).1
  have hrn := Ba.net_node hnb hkn
  have hNA := hN.hA (by omega)
  have hNc := hN.hc; have hNb := hN.hb
  obtain ⟨hnc, hno⟩ := hN.hD k hkn
  obtain ⟨n0, n1, n2, n3, n4, n5, n6, n7, n8⟩ := hnc
  have HOf := Lib.hid (fun W (hW : Gr w W) => rof_any s nd W (h.gr hW) hvl)
  have hTl : (Al.ofN s.lst nd).length ≤ 10000 := Nat.le_trans List.filter_sublist.length_le (by rw [(Al.srtM_perm s.lst).length_eq]; exact hvl.1)
  have HOk := Lib.hid (show ∀ m ∈ Al.ofN s.lst nd, m.Ok from fun m hm => by
    obtain ⟨i, hi, rfl⟩ := List.mem_map.1 ((Al.srtM_perm s.lst).mem_iff.1 (List.mem_filter.1 hm).1)
    exact (h.hD i (List.mem_range.1 hi)).2)
  obtain ⟨D, hD⟩ : ∃ D, N.D k = D := ⟨_, rfl⟩
  rw [hD] at n0 n1 n2 n3 n4 n5 n6 n7 n8
  rw [hD] at hk
  clear hD
  generalize D.sh.A = sha at *; generalize D.sh.n = shn at *; generalize D.sh.c = shc at *
  cases D with | mk nm kd ax ay iv gr sh pr rs =>
  simp only [] at *
  have hic := hI.hc; have hib := hI.hb
  have HIA := Lib.hid hI.hA; have HIX := Lib.hid (fun i hi => (hI.hX i hi).1)
  have HNo := Lib.hid (fun (c : ∀ i, i < I.n → -1125899906842624 ≤ I.X i ∧ I.X i ≤ 1125899906842624) => Al.rng_no hr c)
  clear hN hI hvl hnb hx hno hrn hr
  have HM := Lib.hid hm
  clear hm
  unfold Ba.netVal at *
  cases N with | mk nA nn nc nb no nD =>
  simp only [] at *
  subst hNA
  generalize L.A = lA at *; generalize L.n = ln at *; generalize L.c = lc at *
  have t0 : (kd == 3) = false := beq_eq_false_iff_ne.2 hk
  clear hk
  cases I with | mk iA m ic ib io IX =>
  simp only [] at *
  go_enter Tryz.func42, Tryz.ntmps42
  go_wp2_with fail
  refine (HFi.out _ gr_auto).mono ?_
  rintro e w1 ⟨rfl, hb⟩
  have g : Gr w w1 := gr_auto
  have q0 := Gr.at (show Gr _ w1 from hb) (show World.cell? _ ⟨w.heap.size, 0, none⟩ = some (.slice (some ⟨nb, no, none⟩) nn nc) from by simp [go_sem])
  have q1 := Gr.at (show Gr _ w1 from hb) (show World.cell? _ ⟨w.heap.size, 1, none⟩ = some (.slice lA ln lc) from by simp [go_sem])
  replace n0 := Gr.at g n0
  replace n1 := Gr.at g n1
  replace n2 := Gr.at g n2
  replace n3 := Gr.at g n3
  replace n4 := Gr.at g n4
  replace n5 := Gr.at g n5
  replace n6 := Gr.at g n6
  replace n7 := Gr.at g n7
  replace n8 := Gr.at g n8
  clear hb HFi
  have ik0 : (0 : Int) ≤ (k : Int) := by omega
  have ik1 : (k : Int) < (nn : Int) := by omega
  have ik2 : ¬ (k : Int) < 0 := by omega
  have ik3 : decide ((k : Int) < 0) = false := decide_eq_false ik2
  go_wp2_with fail
  refine (HOf.out _ g).mono ?_
  rintro e w2 ⟨v2, rfl, hv2, hb⟩
  replace q0 := Gr.at hb q0
  replace q1 := Gr.at hb q1
  replace n0 := Gr.at hb n0
  replace n1 := Gr.at hb n1
  replace n2 := Gr.at hb n2
  replace n3 := Gr.at hb n3
  replace n4 := Gr.at hb n4
  replace n5 := Gr.at hb n5
  replace n6 := Gr.at hb n6
  replace n7 := Gr.at hb n7
  replace n8 := Gr.at hb n8
  obtain ⟨t, rfl, ht1, ht2, -, -⟩ := Al.ownM_sl hv2 (fun m hm => HOk.out m hm)
  have HT1 := Lib.hid ht1; have HT2 := Lib.hid ht2
  have htn : t.n ≤ 10000 := by rw [← Al.SlM.lst_len, ht2]; exact hTl
  have htl : t.n = (Al.ofN s.lst nd).length := by rw [← ht2, Al.SlM.lst_len]
  replace g := g.trans hb
  clear hb hv2 ht1 ht2 HOf
  have hmt : m = t.n - 1 := by rw [htl]; exact HM.out
  have e0 : IntKind.i64.wrap ((t.n : Int) - 1) = (t.n : Int) - 1 := wrap_in _ (by omega)
  have e1 : ((m : Int) != max 0 ((t.n : Int) - 1)) = false := bne_eq_false_iff_eq.2 (by omega)
  clear htl HM hTl HT2 hmt HOk
  generalize s.A = sA at *; generalize s.n = sn at *; generalize s.c = sc at *
  clear h
  obtain ⟨tl0, tl1⟩ := ht
  go_wp2_with fail
  refine name_world ?_
  intro w3 hw3
  have g3 : Gr w2 w3 := by rw [hw3]; exact gr_auto
  replace g := g.trans g3
  clear hw3 g3 q0 q1 n0 n1 n2 n3 n4 n5 n6 n7 n8 e0 e1
  go_loopw [14] (fun y wr => ∃ i : Nat, i ≤ m ∧ y = .int .i64 (i : Int) ∧ Hid (∀ j, j < i → -1125899906842624 ≤ IX j ∧ IX j ≤ 1125899906842624) ∧ Gr w3 wr) (fun y _ => m - (intOf y).toNat)
  case atStart => exact ⟨0, Nat.zero_le _, rfl, Lib.hid (fun j hj => absurd hj (Nat.not_lt_zero _)), Gr.refl _⟩
  case round =>
    obtain ⟨i, hi, rfl, HS, hg2⟩ := hrel
    have gw := g.trans hg2
    by_cases hlt : i < m
    · have hiA := HIA.out (by omega)
      subst hiA
      have c0 := Gr.at gw (HIX.out i hlt)
      have ib0 : (0 : Int) ≤ (i : Int) := by omega
      have ib1 : (i : Int) < (m : Int) := by omega
      obtain ⟨x, hx⟩ : ∃ x, IX i = x := ⟨_, rfl⟩
      have HX := Lib.hid hx
      rw [hx] at c0
      clear hx
      by_cases hq : -1125899906842624 ≤ x ∧ x ≤ 1125899906842624
      · have HS2 := Lib.hid (show ∀ j, j < i + 1 → -1125899906842624 ≤ IX j ∧ IX j ≤ 1125899906842624 from fun j hj => by
          by_cases e : j = i
          · rw [e, HX.out]; exact hq
          · exact HS.out j (by omega))
        obtain ⟨hq1, hq2⟩ := hq
        clear HS HIX HIA HX HNo
        go_wp2_with fail
        go_roundw
        case rel => exact ⟨i + 1, by omega, by go_num, HS2, by exact gr_auto⟩
        case measure => simp [intOf]; omega
      · rcases (by omega : x < -1125899906842624 ∨ (-1125899906842624 ≤ x ∧ 1125899906842624 < x)) with c1 | ⟨c1, c2⟩
        · clear hq HS HIX HIA HX HNo
          go_wp2_with fail
          go_ret2
          exact ⟨rfl, gw⟩
        · clear hq HS HIX HIA HX HNo
          go_wp2_with fail
          go_ret2
          exact ⟨rfl, gw⟩
    · obtain rfl : m = i := by omega
      exact absurd HS.out (fun c => HNo.out c)
set_option maxRecDepth 100000 in
set_option maxHeartbeats 4000000 in
theorem rbal_ok (N : Ba.SlNode) (L : Ba.SlLink) (s : Al.SlM) (nd : ByteArray) (I : Ba.SlI) (tol : Int) (w : World) (hN : N.At w) (h : s.At w) (hI : I.At w) (hvl : Al.vL s.lst) (hnb : Ba.netB N L = true) (k : Nat) (hx : Ba.nix N nd = (k : Int)) (hk : (N.D k).kd ≠ 3) (hm : I.n = (Al.ofN s.lst nd).length - 1) (ht : 0 ≤ tol ∧ tol ≤ 1125899906842624) (hr : Ba.any (fun i => !Ba.bet (I.X i) (-1125899906842624) 1125899906842624) I.n = false) : Calls Tryz.prog 42 #[Ba.netVal N L, .slice s.A s.n s.c, .string nd, .slice I.A I.n I.c, .int .i64 tol] w (Al.RetAe (Al.srt (Al.balL (Ba.volN (N.D k)) (fun j => (Al.ofN s.lst nd)[j]!) I.X tol I.n)) 0 w) := by
  have HFi := Lib.hid (fun W (hW : Gr w W) => show Calls Tryz.prog 43 #[.agg #[.slice N.A N.n N.c, .slice L.A L.n L.c], .string nd] W fun e w' => e = .returned (.int .i64 (Ba.nix N nd)) ∧ Gr W w' from rfindnode_any N L.A L.n L.c nd W (hN.gr hW))
  rw [hx] at HFi
  have hkn := (Ba.fstI_is hx).1
  have hrn := Ba.net_node hnb hkn
  have hNA := hN.hA (by omega)
  have hNc := hN.hc; have hNb := hN.hb
  obtain ⟨hnc, hno⟩ := hN.hD k hkn
  obtain ⟨n0, n1, n2, n3, n4, n5, n6, n7, n8⟩ := hnc
  have HOf := Lib.hid (fun W (hW : Gr w W) => rof_any s nd W (h.gr hW) hvl)
  have hTl : (Al.ofN s.lst nd).length ≤ 10000 := Nat.le_trans List.filter_sublist.length_le (by rw [(Al.srtM_perm s.lst).length_eq]; exact hvl.1)
  have HOk := Lib.hid (show ∀ m ∈ Al.ofN s.lst nd, m.Ok from fun m hm => by
    obtain ⟨i, hi, rfl⟩ := List.mem_map.1 ((Al.srtM_perm s.lst).mem_iff.1 (List.mem_filter.1 hm).1)
    exact (h.hD i (List.mem_range.1 hi)).2)
  have HTD := Lib.hid (fun (t : Al.SlM) (h2 : t.lst = Al.ofN s.lst nd) (hmt : I.n = t.n - 1) => show Al.balL (Ba.volN (N.D k)) t.D I.X tol I.n = Al.balL (Ba.volN (N.D k)) (fun j => (Al.ofN s.lst nd)[j]!) I.X tol I.n from by
    by_cases q : I.n = 0
    · rw [q]; rfl
    · refine Al.balL_congr fun j hj => ?_
      have hjt : j < t.n := by omega
      rw [← h2, getElem!_pos t.lst j (by rw [Al.SlM.lst_len]; exact hjt), Al.lst_get])
  have HNd := Lib.hid (fun (t : Al.SlM) (h2 : t.lst = Al.ofN s.lst nd) j (hj : j < t.n) => show (t.D j).nd = nd from Al.ofN_nd (l := s.lst) (by rw [← h2]; exact Al.mem_lst hj))
  have HVol := Lib.hid (fun lv W (hW : Gr w W) => rVol53_any (N.D k) lv W (hno.gr hW) hrn hk)
  have HVb := Lib.hid (fun lv => Ba.volN_bd hrn hk lv)
  have HLB := Lib.hid (fun (T : Nat → Al.M) (n : Nat) => Al.balL_len (Ba.volN (N.D k)) T I.X tol n)
  have HLS := Lib.hid (fun (T : Nat → Al.M) (j : Nat) => show Al.balL (Ba.volN (N.D k)) T I.X tol (j + 1) = Al.balL (Ba.volN (N.D k)) T I.X tol j ++ Al.jumpIf tol (Ba.volN (N.D k) (T (j + 1)).lv - Ba.volN (N.D k) (T j).lv - I.X j) (Al.alm 5 [T j, T (j + 1)]) from rfl)
  generalize Al.balL (Ba.volN (N.D k)) (fun j => (Al.ofN s.lst nd)[j]!) I.X tol I.n = RES at *
  have HL0 := Lib.hid (fun (T : Nat → Al.M) => show Al.balL (Ba.volN (N.D k)) T I.X tol 0 = [] from rfl)
  obtain ⟨BL, hBL⟩ : ∃ BL, Al.balL (Ba.volN (N.D k)) = BL := ⟨_, rfl⟩
  simp only [hBL] at HTD HLB HLS HL0
  clear hBL
  generalize Ba.volN (N.D k) = VF at *
  have HOrd := Lib.hid (fun v d W base h1 h2 => rordered_own v d W base h1 h2)
  obtain ⟨i1, k0, k1, k2, k3⟩ := info_parts infoA
  have KI := Lib.hid k0; have KZ0 := Lib.hid k1; have KZ1 := Lib.hid k2; have KZ2 := Lib.hid k3
  clear k0 k1 k2 k3
  have HRb := Lib.hid (fun i (hi : i < I.n) => Al.rng_at hr hi)
  obtain ⟨D, hD⟩ : ∃ D, N.D k = D := ⟨_, rfl⟩
  rw [hD] at n0 n1 n2 n3 n4 n5 n6 n7 n8
  rw [hD] at hk HVol; unfold Ba.Node.val at HVol
  clear hD
  generalize D.sh.A = sha at *; generalize D.sh.n = shn at *; generalize D.sh.c = shc at *
  cases D with | mk nm kd ax ay iv gr sh pr rs =>
  simp only [] at *
  have hic := hI.hc; have hib := hI.hb
  have HIA := Lib.hid hI.hA; have HIX := Lib.hid (fun i hi => (hI.hX i hi).1)
  clear hN hI hvl hnb hx hno hrn hr
  have HM := Lib.hid hm
  clear hm
  unfold Ba.netVal at *
  cases N with | mk nA nn nc nb no nD =>
  simp only [] at *
  subst hNA
  generalize L.A = lA at *; generalize L.n = ln at *; generalize L.c = lc at *
  have t0 : (kd == 3) = false := beq_eq_false_iff_ne.2 hk
  clear hk
  cases I with | mk iA m ic ib io IX =>
  simp only [] at *
  go_enter Tryz.func42, Tryz.ntmps42
  go_wp2_with fail
  refine (HFi.out _ gr_auto).mono ?_
  rintro e w1 ⟨rfl, hb⟩
  have g : Gr w w1 := gr_auto
  have q0 := Gr.at (show Gr _ w1 from hb) (show World.cell? _ ⟨w.heap.size, 0, none⟩ = some (.slice (some ⟨nb, no, none⟩) nn nc) from by simp [go_sem])
  have q1 := Gr.at (show Gr _ w1 from hb) (show World.cell? _ ⟨w.heap.size, 1, none⟩ = some (.slice lA ln lc) from by simp [go_sem])
  replace n0 := Gr.at g n0
  replace n1 := Gr.at g n1
  replace n2 := Gr.at g n2
  replace n3 := Gr.at g n3
  replace n4 := Gr.at g n4
  replace n5 := Gr.at g n5
  replace n6 := Gr.at g n6
  replace n7 := Gr.at g n7
  replace n8 := Gr.at g n8
  clear hb HFi
  have ik0 : (0 : Int) ≤ (k : Int) := by omega
  have ik1 : (k : Int) < (nn : Int) := by omega
  have ik2 : ¬ (k : Int) < 0 := by omega
  have ik3 : decide ((k : Int) < 0) = false := decide_eq_false ik2
  go_wp2_with fail
  refine (HOf.out _ g).mono ?_
  rintro e w2 ⟨v2, rfl, hv2, hb⟩
  replace q0 := Gr.at hb q0
  replace q1 := Gr.at hb q1
  replace n0 := Gr.at hb n0
  replace n1 := Gr.at hb n1
  replace n2 := Gr.at hb n2
  replace n3 := Gr.at hb n3
  replace n4 := Gr.at hb n4
  replace n5 := Gr.at hb n5
  replace n6 := Gr.at hb n6
  replace n7 := Gr.at hb n7
  replace n8 := Gr.at hb n8
  obtain ⟨t, rfl, ht1, ht2, -, -⟩ := Al.ownM_sl hv2 (fun m hm => HOk.out m hm)
  have HT1 := Lib.hid ht1; have HT2 := Lib.hid ht2
  have htn : t.n ≤ 10000 := by rw [← Al.SlM.lst_len, ht2]; exact hTl
  have htl : t.n = (Al.ofN s.lst nd).length := by rw [← ht2, Al.SlM.lst_len]
  replace g := g.trans hb
  clear hb hv2 ht1 ht2 HOf
  have hmt : m = t.n - 1 := by rw [htl]; exact HM.out
  have e0 : IntKind.i64.wrap ((t.n : Int) - 1) = (t.n : Int) - 1 := wrap_in _ (by omega)
  have e1 : ((m : Int) != max 0 ((t.n : Int) - 1)) = false := bne_eq_false_iff_eq.2 (by omega)
  have HTE := Lib.hid (HTD.out t HT2.out hmt)
  have HNt := Lib.hid (fun j (hj : j < t.n) => HNd.out t HT2.out j hj)
  clear htl HM hTl HT2 HOk HTD HNd
  generalize s.A = sA at *; generalize s.n = sn at *; generalize s.c = sc at *
  clear h
  have HTA := Lib.hid HT1.out.hA; have HTC := Lib.hid (fun j (hj : j < t.n) => (HT1.out.hD j hj).1)
  have htc := HT1.out.hc; have htcb := HT1.out.hb
  clear HT1
  cases t with | mk tA tn tc tb to' tD =>
  simp only [] at *
  have HMT := Lib.hid hmt
  clear hmt
  obtain ⟨tl0, tl1⟩ := ht
  go_wp2_with fail
  refine name_world ?_
  intro w3 hw3
  have g3 : Gr w2 w3 := by rw [hw3]; exact gr_auto
  replace q0 := Gr.at g3 q0
  replace q1 := Gr.at g3 q1
  replace n0 := Gr.at g3 n0
  replace n1 := Gr.at g3 n1
  replace n2 := Gr.at g3 n2
  replace n3 := Gr.at g3 n3
  replace n4 := Gr.at g3 n4
  replace n5 := Gr.at g3 n5
  replace n6 := Gr.at g3 n6
  replace n7 := Gr.at g3 n7
  replace n8 := Gr.at g3 n8
  have HTC3 := Lib.hid (fun j (hj : j < tn) => (HTC.out j hj).gr g3)
  replace g := g.trans g3
  clear hw3 g3 e0 e1 HTC
  go_loopw [14] (fun y wr => ∃ i : Nat, i ≤ m ∧ y = .int .i64 (i : Int) ∧ Hid (∀ j, j < i → -1125899906842624 ≤ IX j ∧ IX j ≤ 1125899906842624) ∧ Gr w3 wr) (fun y _ => m - (intOf y).toNat)
  case atStart => exact ⟨0, Nat.zero_le _, rfl, Lib.hid (fun j hj => absurd hj (Nat.not_lt_zero _)), Gr.refl _⟩
  case round =>
    obtain ⟨i, hi, rfl, HS, hg2⟩ := hrel
    have gw := g.trans hg2
    by_cases hlt : i < m
    · have hiA := HIA.out (by omega)
      subst hiA
      have c0 := Gr.at gw (HIX.out i hlt)
      have ib0 : (0 : Int) ≤ (i : Int) := by omega
      have ib1 : (i : Int) < (m : Int) := by omega
      obtain ⟨x, hx⟩ : ∃ x, IX i = x := ⟨_, rfl⟩
      have HX := Lib.hid hx
      rw [hx] at c0
      clear hx
      by_cases hq : -1125899906842624 ≤ x ∧ x ≤ 1125899906842624
      · have HS2 := Lib.hid (show ∀ j, j < i + 1 → -1125899906842624 ≤ IX j ∧ IX j ≤ 1125899906842624 from fun j hj => by
          by_cases e : j = i
          · rw [e, HX.out]; exact hq
          · exact HS.out j (by omega))
        obtain ⟨hq1, hq2⟩ := hq
        clear HS HIX HIA HX HVb HLB HLS HL0 HOrd HRb HTE HNt HTA HMT HVol HTC3
        go_wp2_with fail
        go_roundw
        case rel => exact ⟨i + 1, by omega, by go_num, HS2, by exact gr_auto⟩
        case measure => simp [intOf]; omega
      · exact absurd (HX.out ▸ HRb.out i hlt) hq
    · obtain rfl : m = i := by omega
      replace q0 := Gr.at hg2 q0
      replace q1 := Gr.at hg2 q1
      replace n0 := Gr.at hg2 n0
      replace n1 := Gr.at hg2 n1
      replace n2 := Gr.at hg2 n2
      replace n3 := Gr.at hg2 n3
      replace n4 := Gr.at hg2 n4
      replace n5 := Gr.at hg2 n5
      replace n6 := Gr.at hg2 n6
      replace n7 := Gr.at hg2 n7
      replace n8 := Gr.at hg2 n8
      have HTC6 := Lib.hid (fun j (hj : j < tn) => (HTC3.out j hj).gr hg2)
      clear HS HTC3 hlt hg2 g
      go_wp2_with fail
      refine name_world ?_
      intro W6 hW6
      obtain rfl : W6 = wr := hW6
      go_loopw [15, 16] (fun v y wx => ∃ (j : Nat) (d : List Al.A), j ≤ m ∧ y = .int .i64 (j : Int) ∧ Hid (Al.OwnA wx W6.heap.size v d) ∧ Hid (d.map Al.A.con = BL tD IX tol j) ∧ Gr W6 wx) (fun _ y _ => m - (intOf y).toNat)
      case atStart => exact ⟨0, [], Nat.zero_le _, rfl, Lib.hid (Al.OwnA.nil _ _), Lib.hid (HL0.out tD).symm, Gr.refl _⟩
      case round =>
        obtain ⟨j, d, hj, rfl, HO, HC, hg3⟩ := hrel
        have gx := gw.trans hg3
        rename World => wx
        have hdl : d.length ≤ 10000 := by
          have z := congrArg List.length HC.out
          rw [List.length_map] at z
          have y := HLB.out tD j
          have y2 := HMT.out
          omega
        by_cases hlt : j < m
        · have hjt : j + 1 < tn := by have := HMT.out; omega
          have hiA := HIA.out (by omega)
          have htA := HTA.out (by omega)
          subst hiA; subst htA
          have c0 := Gr.at gx (HIX.out j hlt)
          replace q0 := Gr.at hg3 q0
          replace q1 := Gr.at hg3 q1
          replace n0 := Gr.at hg3 n0
          replace n1 := Gr.at hg3 n1
          replace n2 := Gr.at hg3 n2
          replace n3 := Gr.at hg3 n3
          replace n4 := Gr.at hg3 n4
          replace n5 := Gr.at hg3 n5
          replace n6 := Gr.at hg3 n6
          replace n7 := Gr.at hg3 n7
          replace n8 := Gr.at hg3 n8
          obtain ⟨-, a1, -, -, a4⟩ := (HTC6.out j (by omega)).gr hg3
          obtain ⟨-, b1, b2, -, b4⟩ := (HTC6.out (j + 1) hjt).gr hg3
          obtain ⟨-, A1, -, -, -⟩ := HTC6.out j (by omega)
          obtain ⟨-, B1, B2, -, -⟩ := HTC6.out (j + 1) hjt
          have hI1 := HRb.out j hlt
          have HLj := Lib.hid (HLS.out tD j)
          have hb1 := HVb.out (tD j).lv; have hb2 := HVb.out (tD (j + 1)).lv
          have HKN := Lib.hid (HNt.out (j + 1) hjt)
          have HV1 := Lib.hid (fun W (hW : Gr wx W) => HVol.out (tD j).lv W (gx.trans hW))
          have HV2 := Lib.hid (fun W (hW : Gr wx W) => HVol.out (tD (j + 1)).lv W (gx.trans hW))
          clear HLS HLB HL0 HVb HTC6 HRb HIA HIX HTA HTE HMT HOrd HNt HVol
          obtain ⟨m1, hm1⟩ : ∃ m1, tD j = m1 := ⟨_, rfl⟩
          obtain ⟨m2, hm2⟩ : ∃ m2, tD (j + 1) = m2 := ⟨_, rfl⟩
          obtain ⟨xj, hxj⟩ : ∃ xj, IX j = xj := ⟨_, rfl⟩
          rw [hm1] at a1 a4 A1 HLj hb1 HV1
          rw [hm2] at b1 b2 b4 B1 B2 HLj hb2 HV2 HKN
          rw [hxj] at c0 hI1 HLj
          clear hm1 hm2 hxj
          obtain ⟨l1, hl1⟩ : ∃ l1, m1.lv = l1 := ⟨_, rfl⟩
          obtain ⟨l2, hl2⟩ : ∃ l2, m2.lv = l2 := ⟨_, rfl⟩
          rw [hl1] at a4 HV1 HLj hb1
          rw [hl2] at b4 HV2 HLj hb2
          clear hl1 hl2
          obtain ⟨y1, hy1⟩ : ∃ y1, VF l1 = y1 := ⟨_, rfl⟩
          obtain ⟨y2, hy2⟩ : ∃ y2, VF l2 = y2 := ⟨_, rfl⟩
          rw [hy1] at HV1 HLj hb1
          rw [hy2] at HV2 HLj hb2
          clear hy1 hy2
          have ib0 : (0 : Int) ≤ (j : Int) := by omega
          have ib1 : (j : Int) < (m : Int) := by omega
          have ib2 : (0 : Int) ≤ (j : Int) + 1 := by omega
          have ib3 : (j : Int) + 1 < (tn : Int) := by omega
          have ib4 : (j : Int) < (tn : Int) := by omega
          have wj : IntKind.i64.wrap (j : Int) = (j : Int) := wrap_in _ (by omega)
          have wj1 : IntKind.i64.wrap ((j : Int) + 1) = (j : Int) + 1 := wrap_in _ (by omega)
          have wd1 : IntKind.i64.wrap (y2 - y1) = y2 - y1 := wrap_in _ (by omega)
          have wd2 : IntKind.i64.wrap (y2 - y1 - xj) = y2 - y1 - xj := wrap_in _ (by omega)
          have wd4 : IntKind.i64.wrap (0 - tol) = 0 - tol := wrap_in _ (by omega)
          have hb6 := Gr.size hg3
          go_upto_region 20 with fail
          (first | refine name_world ?_ | refine (show (∀ W, W = _ → Calls _ _ _ W _) → Calls _ _ _ _ _ from fun h => h _ rfl) ?_); intro W7 hW7
          have g7 : Gr w W7 := by rw [hW7]; exact gr_auto
          have gb7_W6 : Gr W6 W7 := by (try clear g7); rw [hW7]; exact gr_auto
          have gb7_wx : Gr wx W7 := by (try clear g7); rw [hW7]; exact gr_auto
          have k7_0 : W7.cell? ⟨w.heap.size, 0, none⟩ = some (.slice (some ⟨nb, no, none⟩) nn nc) := by rw [hW7]; first | (simp [go_sem, *]; done) | (refine Gr.at ?_ (by assumption); exact gr_auto)
          have b7_0 : w.heap.size < W7.heap.size := World.block_lt_of_cell? _ _ k7_0
          have k7_1 : W7.cell? ⟨nb, no + k * 9, none⟩ = some (.string nm) := by rw [hW7]; first | (simp [go_sem, *]; done) | (refine Gr.at ?_ (by assumption); exact gr_auto)
          have b7_1 : nb < W7.heap.size := World.block_lt_of_cell? _ _ k7_1
          have k7_2 : W7.cell? ⟨nb, no + k * 9 + 1, none⟩ = some (.int .i64 kd) := by rw [hW7]; first | (simp [go_sem, *]; done) | (refine Gr.at ?_ (by assumption); exact gr_auto)
          have k7_3 : W7.cell? ⟨nb, no + k * 9 + 2, none⟩ = some (.int .i64 ax) := by rw [hW7]; first | (simp [go_sem, *]; done) | (refine Gr.at ?_ (by assumption); exact gr_auto)
          have k7_4 : W7.cell? ⟨nb, no + k * 9 + 3, none⟩ = some (.int .i64 ay) := by rw [hW7]; first | (simp [go_sem, *]; done) | (refine Gr.at ?_ (by assumption); exact gr_auto)
          have k7_5 : W7.cell? ⟨nb, no + k * 9 + 4, none⟩ = some (.int .i64 iv) := by rw [hW7]; first | (simp [go_sem, *]; done) | (refine Gr.at ?_ (by assumption); exact gr_auto)
          have k7_6 : W7.cell? ⟨nb, no + k * 9 + 5, none⟩ = some (.int .i64 gr) := by rw [hW7]; first | (simp [go_sem, *]; done) | (refine Gr.at ?_ (by assumption); exact gr_auto)
          have k7_7 : W7.cell? ⟨nb, no + k * 9 + 6, none⟩ = some (.slice sha shn shc) := by rw [hW7]; first | (simp [go_sem, *]; done) | (refine Gr.at ?_ (by assumption); exact gr_auto)
          have k7_8 : W7.cell? ⟨nb, no + k * 9 + 7, none⟩ = some (.bool pr) := by rw [hW7]; first | (simp [go_sem, *]; done) | (refine Gr.at ?_ (by assumption); exact gr_auto)
          have k7_9 : W7.cell? ⟨nb, no + k * 9 + 8, none⟩ = some (.int .i64 rs) := by rw [hW7]; first | (simp [go_sem, *]; done) | (refine Gr.at ?_ (by assumption); exact gr_auto)
          have k7_10 : W7.cell? ⟨tb, to' + j * 5 + 4, none⟩ = some (.int .i64 l1) := by rw [hW7]; first | (simp [go_sem, *]; done) | (refine Gr.at ?_ (by assumption); exact gr_auto)
          have b7_10 : tb < W7.heap.size := World.block_lt_of_cell? _ _ k7_10
          have k7_11 : W7.cell? ⟨tb, to' + (j + 1) * 5 + 4, none⟩ = some (.int .i64 l2) := by rw [hW7]; first | (simp [go_sem, *]; done) | (refine Gr.at ?_ (by assumption); exact gr_auto)
          have k7_12 : W7.cell? ⟨ib, io + j, none⟩ = some (.int .i64 xj) := by rw [hW7]; first | (simp [go_sem, *]; done) | (refine Gr.at ?_ (by assumption); exact gr_auto)
          have b7_12 : ib < W7.heap.size := World.block_lt_of_cell? _ _ k7_12
          clear hW7
          have s7_0 : ∀ gw : GW W7, gw.1.cell? ⟨w.heap.size, 0, none⟩ = some (.slice (some ⟨nb, no, none⟩) nn nc) := fun gw => Gr.at gw.2 k7_0
          have s7_1 : ∀ gw : GW W7, gw.1.cell? ⟨nb, no + k * 9, none⟩ = some (.string nm) := fun gw => Gr.at gw.2 k7_1
          have s7_2 : ∀ gw : GW W7, gw.1.cell? ⟨nb, no + k * 9 + 1, none⟩ = some (.int .i64 kd) := fun gw => Gr.at gw.2 k7_2
          have s7_3 : ∀ gw : GW W7, gw.1.cell? ⟨nb, no + k * 9 + 2, none⟩ = some (.int .i64 ax) := fun gw => Gr.at gw.2 k7_3
          have s7_4 : ∀ gw : GW W7, gw.1.cell? ⟨nb, no + k * 9 + 3, none⟩ = some (.int .i64 ay) := fun gw => Gr.at gw.2 k7_4
          have s7_5 : ∀ gw : GW W7, gw.1.cell? ⟨nb, no + k * 9 + 4, none⟩ = some (.int .i64 iv) := fun gw => Gr.at gw.2 k7_5
          have s7_6 : ∀ gw : GW W7, gw.1.cell? ⟨nb, no + k * 9 + 5, none⟩ = some (.int .i64 gr) := fun gw => Gr.at gw.2 k7_6
          have s7_7 : ∀ gw : GW W7, gw.1.cell? ⟨nb, no + k * 9 + 6, none⟩ = some (.slice sha shn shc) := fun gw => Gr.at gw.2 k7_7
          have s7_8 : ∀ gw : GW W7, gw.1.cell? ⟨nb, no + k * 9 + 7, none⟩ = some (.bool pr) := fun gw => Gr.at gw.2 k7_8
          have s7_9 : ∀ gw : GW W7, gw.1.cell? ⟨nb, no + k * 9 + 8, none⟩ = some (.int .i64 rs) := fun gw => Gr.at gw.2 k7_9
          have s7_10 : ∀ gw : GW W7, gw.1.cell? ⟨tb, to' + j * 5 + 4, none⟩ = some (.int .i64 l1) := fun gw => Gr.at gw.2 k7_10
          have s7_11 : ∀ gw : GW W7, gw.1.cell? ⟨tb, to' + (j + 1) * 5 + 4, none⟩ = some (.int .i64 l2) := fun gw => Gr.at gw.2 k7_11
          have s7_12 : ∀ gw : GW W7, gw.1.cell? ⟨ib, io + j, none⟩ = some (.int .i64 xj) := fun gw => Gr.at gw.2 k7_12
          have HC1 := Lib.hid (fun gw : GW W7 => gw_call (HV1.out gw.1 (gb7_wx.trans gw.2)))
          have HC2 := Lib.hid (fun gw : GW W7 => gw_call (HV2.out gw.1 (gb7_wx.trans gw.2)))
          refine wp_region_gr (by kernel_rfl) (by kernel_rfl) ?_
          repeat (go_big_quiet_step ((go_at_call 45; first | with_reducible exact HC1.out _ | with_reducible exact HC2.out _)))
          refine wpQuiet_nil ?_
          intro w8 hb8
          clear s7_0 s7_1 s7_2 s7_3 s7_4 s7_5 s7_6 s7_7 s7_8 s7_9 s7_10 s7_11 s7_12
          have g8 : Gr w w8 := g7.trans hb8
          have k7_0 := Gr.at hb8 k7_0
          have k7_1 := Gr.at hb8 k7_1
          have k7_2 := Gr.at hb8 k7_2
          have k7_3 := Gr.at hb8 k7_3
          have k7_4 := Gr.at hb8 k7_4
          have k7_5 := Gr.at hb8 k7_5
          have k7_6 := Gr.at hb8 k7_6
          have k7_7 := Gr.at hb8 k7_7
          have k7_8 := Gr.at hb8 k7_8
          have k7_9 := Gr.at hb8 k7_9
          have k7_10 := Gr.at hb8 k7_10
          have k7_11 := Gr.at hb8 k7_11
          have k7_12 := Gr.at hb8 k7_12
          have g8x : Gr wx w8 := gb7_wx.trans hb8
          have g86 : Gr W6 w8 := hg3.trans g8x
          replace a1 := Gr.at g8x a1; replace b1 := Gr.at g8x b1; replace b2 := Gr.at g8x b2
          clear k7_0 k7_1 k7_2 k7_3 k7_4 k7_5 k7_6 k7_7 k7_8 k7_9 k7_10 k7_11 k7_12 HV1 HV2 c0 a4 b4 q0 q1 n0 n1 n2 n3 n4 n5 n6 n7 n8
          by_cases q : tol < max (y2 - y1 - xj) (-(y2 - y1 - xj))
          · unfold Al.jumpIf at HLj
            rw [if_pos q] at HLj
            have h2 : tol < y2 - y1 - xj ∨ y2 - y1 - xj < 0 - tol := by omega
            clear q
            go_upto_region 21 with fail
            go_cut [107] (fun q wc => q = .bool true ∧ Gr w8 wc)
            case first =>
              rcases (by omega : tol < y2 - y1 - xj ∨ (y2 - y1 - xj ≤ tol ∧ y2 - y1 - xj < 0 - tol)) with p1 | ⟨p1, p2⟩
              · go_wp2_with fail
                go_meet
                exact ⟨rfl, gr_auto⟩
              · have p3 : y2 - y1 - xj < -tol := by omega
                go_wp2_with fail
                go_meet
                exact ⟨rfl, gr_auto⟩
            case rest =>
              obtain ⟨rfl, gcut⟩ := hcut
              clear h2
              go_upto_region 22 with fail
              refine name_world ?_
              intro wb hwb
              have gb : Gr w8 wb := by rw [hwb]; exact gcut.trans gr_auto
              clear hwb
              have HOb := Lib.hid (HO.out.gr (g8x.trans gb)); have HGb := Lib.hid (g86.trans gb)
              have hzb := Gr.size HGb.out
              replace a1 := Gr.at gb a1; replace b1 := Gr.at gb b1; replace b2 := Gr.at gb b2
              have btb : tb < wb.heap.size := World.block_lt_of_cell? _ _ a1
              clear HO gb g8x g86 gcut hb8 g8 hg3 gx
              have hGb := HGb.out
              have s2 : ∀ w', Gr W6 w' → w'.cell? ⟨tb, to' + (j + 1) * 5 + 2, none⟩ = some (.int .i64 m2.tm) := fun w' h => Gr.at h B2
              have s3 : ∀ w', Gr W6 w' → w'.cell? ⟨tb, to' + j * 5 + 1, none⟩ = some (.int .i64 m1.nu) := fun w' h => Gr.at h A1
              have s4 : ∀ w', Gr W6 w' → w'.cell? ⟨tb, to' + (j + 1) * 5 + 1, none⟩ = some (.int .i64 m2.nu) := fun w' h => Gr.at h B1
              go_region_held3 (fun w' => Gr W6 w') (first | assumption | exact gr_auto) ((refine step_append_own _ (by rfl) _ _ 29 (by rfl) W6.heap.size 35 i1 (.agg #[.int .i64 0, .string ⟨#[]⟩, .int .i64 0, .slice none 0 0]) 4 56 Tryz.underlying29 KI.out KZ0.out KZ1.out KZ2.out rfl (by decide) _ _ _ (by rfl) (ownsRow_gr HOb.out.row (by exact gr_auto)) ⟨wb.heap.size + 1, 0, none⟩ 1 1 [.int .i64 5, .string nd, .int .i64 m2.tm, .slice (some ⟨wb.heap.size, 0, none⟩) 2 2] (by rfl) rfl (World.news_of_block (by rw [show wb.heap.size + 1 = (wb.alloc (.cells #[.int .i64 m1.nu, .int .i64 m2.nu] 3)).heap.size by simp]; exact World.alloc_heap_new _ _)) (by intro u hu; simp at hu; rcases hu with rfl | rfl | rfl | rfl <;> rfl) (by unfold maxLen; omega) (by omega) (by first | (simp; done) | (simp; omega)) ?_; intro v9 w9 hown9 hgrow9; have hk9 : Gr W6 w9 := Gr.own (HGb.out.trans (by exact gr_auto)) (Nat.le_refl _) (ownsRow_gr HOb.out.row (by exact gr_auto)) hgrow9))
              all_goals (
                have gA := Gr.drew (Gr.alloc (Gr.alloc (Gr.refl wb) (Obj.cells #[.int .i64 m1.nu, .int .i64 m2.nu] 3)) (Obj.cells #[.int .i64 5, .string nd, .int .i64 m2.tm, .slice (some ⟨wb.heap.size, 0, none⟩) 2 2] 35))
                have hgr : ((wb.alloc (Obj.cells #[.int .i64 m1.nu, .int .i64 m2.nu] 3)).alloc (Obj.cells #[.int .i64 5, .string nd, .int .i64 m2.tm, .slice (some ⟨wb.heap.size, 0, none⟩) 2 2] 35)).drew.grownBy w9 _ := hgrow9
                have hoA := Al.own_two (kd := 5) (nd := nd) (tm := m2.tm) (W := ((wb.alloc (Obj.cells #[.int .i64 m1.nu, .int .i64 m2.nu] 3)).alloc (Obj.cells #[.int .i64 5, .string nd, .int .i64 m2.tm, .slice (some ⟨wb.heap.size, 0, none⟩) 2 2] 35)).drew) ((heap_alloc_old _ _ (by simp)).trans (World.alloc_heap_new wb _))
                have HP := Lib.hid (Al.OwnA.push (HOb.out.gr gA) hoA (by exact hown9) hgr)
                have g9 : Gr W6 w9 := Gr.own (HGb.out.trans gA) (Nat.le_refl _) (ownsRow_gr HOb.out.row gA) hgr
                have HC9 := Lib.hid (show (⟨5, nd, m2.tm, some ⟨wb.heap.size, 0, none⟩, wb.heap.size, 0, 2, 2, fun q => if q = 0 then m1.nu else m2.nu⟩ : Al.A).con = Al.alm 5 [m1, m2] from by unfold Al.A.con Al.alm; simp [HKN.out, Al.lst, List.range_succ])
                have HT9 := Lib.hid (show (d ++ [(⟨5, nd, m2.tm, some ⟨wb.heap.size, 0, none⟩, wb.heap.size, 0, 2, 2, fun q => if q = 0 then m1.nu else m2.nu⟩ : Al.A)]).map Al.A.con = BL tD IX tol (j + 1) from by
                  rw [HLj.out, ← HC.out, List.map_append, List.map_cons, List.map_nil, HC9.out])
                clear HOb HGb HC HLj HC9 HKN hown9 hgrow9 hgr hoA gA
                go_wp2_with fail
                go_roundw
                case rel => exact ⟨j + 1, _, by omega, by go_num, HP, HT9, g9⟩
                case measure => simp [intOf]; omega)
          · unfold Al.jumpIf at HLj
            rw [if_neg q, List.append_nil] at HLj
            have p1 : y2 - y1 - xj ≤ tol := by omega
            have p2 : 0 - tol ≤ y2 - y1 - xj := by omega
            have p3 : -tol ≤ y2 - y1 - xj := by omega
            have HT9 := Lib.hid (show d.map Al.A.con = BL tD IX tol (j + 1) from by rw [HLj.out, ← HC.out])
            have HP := Lib.hid (fun W (hW : Gr w8 W) => HO.out.gr (g8x.trans hW))
            have HGx := Lib.hid (fun W (hW : Gr w8 W) => g86.trans hW)
            clear HO HC q
            go_wp2_with fail
            go_roundw
            case rel => exact ⟨j + 1, d, by omega, by go_num, Lib.hid (HP.out _ (by exact gr_auto)), HT9, HGx.out _ (by exact gr_auto)⟩
            case measure => simp [intOf]; omega
        · obtain rfl : m = j := by omega
          have HRo := Lib.hid (HOrd.out _ d wx W6.heap.size HO.out (by omega))
          have HCd := Lib.hid (show d.map Al.A.con = RES from by rw [HC.out]; exact HTE.out)
          clear HLS HLB HL0 HVb HTC6 HRb HIA HIX HTA HTE HMT HOrd HC HO HVol HNt
          go_wp2_with fail
          refine HRo.out.mono ?_
          rintro e w10 ⟨v', d', rfl, ho, hc', hb⟩
          obtain ⟨r, rfl, hr1, hr2⟩ := ho.sl
          have HR1 := Lib.hid hr1
          have HR2 := Lib.hid (show r.con = Al.srt RES from by rw [hr2, hc', HCd.out])
          have gz := gx.trans hb
          clear hr1 hr2 ho hc' HRo HCd hb
          unfold Al.SlA.val
          go_wp2_with fail
          go_ret2
          exact ⟨r, rfl, HR1.out, HR2.out, gz⟩
end Go.Proofs.YtllkiadedaghoaaGreat
