/-
  The law MeshOrder. (Printed by mkod.py.)
-/
import Derived.Test.YtajhhplgcegodaaDoorMsTb
import Derived.Test.YtajhhplgcegodaaDoorMsDf
import Derived.Test.YtajhhplgcegodaaDoorMsRv
set_option linter.unusedVariables false
set_option linter.unusedSimpArgs false
namespace Go.Proofs.YtajhhplgcegodaaDoor
open Go.RowKit
attribute [local go_sem ↓] Go.wp_at_zero Go.wp_at_succ
theorem spot_grx {S : Ba.SlSpot} {W W' : World} {g : Nat} (h : S.At W) (hg : GrX g W W') (hb : 0 < S.n → S.b ≠ g) : S.At W' := ⟨h.hA, h.hc, h.hb, fun i hi => by
  obtain ⟨⟨c0, c1, c2⟩, ho⟩ := h.hD i hi
  have hne := hb (by omega)
  exact ⟨⟨GrX.at hg hne c0, GrX.at hg hne c1, GrX.at hg hne c2⟩, ho⟩⟩
theorem spot_gby {S : Ba.SlSpot} {W W' : World} {g : Nat} (h : S.At W) (hg : W.grownBy W' (some g)) (hb : 0 < S.n → S.b ≠ g) : S.At W' := ⟨h.hA, h.hc, h.hb, fun i hi => by
  obtain ⟨⟨c0, c1, c2⟩, ho⟩ := h.hD i hi
  have hne := hb (by omega)
  have q : ∀ o v, W.cell? ⟨S.b, o, none⟩ = some v → W'.cell? ⟨S.b, o, none⟩ = some v := fun o v hc => World.grownBy.cell hg (a := ⟨S.b, o, none⟩) hc (by simpa using hne)
  exact ⟨⟨q _ _ c0, q _ _ c1, q _ _ c2⟩, ho⟩⟩
theorem face_grx {S : Ba.SlFace} {W W' : World} {g : Nat} (h : S.At W) (hg : GrX g W W') (hb : 0 < S.n → S.b ≠ g) : S.At W' := ⟨h.hA, h.hc, h.hb, fun i hi => by
  obtain ⟨⟨c0, c1, c2, c3⟩, ho⟩ := h.hD i hi
  have hne := hb (by omega)
  exact ⟨⟨GrX.at hg hne c0, GrX.at hg hne c1, GrX.at hg hne c2, GrX.at hg hne c3⟩, ho⟩⟩
theorem face_more {W : World} {base E n cp G : Nat} {D : Nat → Ba.Face} {z : Ba.Face} (h : W.ownsRow base E 4 (.slice (some ⟨G, 0, none⟩) (n + 1) cp) (n + 1) (ffc D n ++ [.int .i64 z.a, .int .i64 z.b, .int .i64 z.c, .int .i64 z.k])) (hok : ∀ i, i < n → (D i).Ok W) (hz : z.Ok W) : (Ba.SlFace.mk (some ⟨G, 0, none⟩) (n + 1) cp G 0 (fun i => if i = n then z else D i)).At W := by
  have h' := h
  obtain ⟨hl, ⟨h1, -⟩ | ⟨g, cap, cur, hv, hb, hc, hn, hm, -⟩⟩ := h'
  · cases h1
  simp only [Value.slice.injEq, Option.some.injEq, Addr.mk.injEq] at hv
  obtain ⟨⟨rfl, -, -⟩, -, rfl⟩ := hv
  have hlen := ffc_len D n
  refine ⟨fun _ => rfl, hn, by unfold maxLen at hm; exact hm, fun i hi => ?_⟩
  have hi : i < n + 1 := hi
  simp only [Nat.zero_add]
  have c : ∀ t u, t < (n + 1) * 4 → (ffc D n ++ [Value.int .i64 z.a, .int .i64 z.b, .int .i64 z.c, .int .i64 z.k])[t]? = some u → W.cell? ⟨G, t, none⟩ = some u := fun t u ht hu => (h.cellAt t (by omega)).trans hu
  by_cases e : i = n
  · subst e
    rw [if_pos rfl]
    have q : ∀ k, (ffc D i ++ [Value.int .i64 z.a, .int .i64 z.b, .int .i64 z.c, .int .i64 z.k])[i * 4 + k]? = [Value.int .i64 z.a, .int .i64 z.b, .int .i64 z.c, .int .i64 z.k][k]? := fun k => by
      rw [List.getElem?_append_right (by omega), hlen, show i * 4 + k - i * 4 = k by omega]
    exact ⟨⟨c _ _ (by omega) (q 0), c _ _ (by omega) (q 1), c _ _ (by omega) (q 2), c _ _ (by omega) (q 3)⟩, hz⟩
  · rw [if_neg e]
    obtain ⟨f0, f1, f2, f3⟩ := ffc_get D (n := n) (j := i) (by omega)
    exact ⟨⟨c _ _ (by omega) (by rw [List.getElem?_append_left (by omega)]; exact f0), c _ _ (by omega) (by rw [List.getElem?_append_left (by omega)]; exact f1), c _ _ (by omega) (by rw [List.getElem?_append_left (by omega)]; exact f2), c _ _ (by omega) (by rw [List.getElem?_append_left (by omega)]; exact f3)⟩, hok i (by omega)⟩
theorem own_gby {w0 w w' : World} {row : Option Nat} {b o : Nat} {v : Value} (hg : w.grownBy w' row) (h : Own w0 b o v) (hgr : Gr w0 w) (hne : some b ≠ row) : Own w' b o v := by
  have h' := h.gr hgr
  exact ⟨World.grownBy.cell hg (a := ⟨b, o, none⟩) h'.1 hne, (World.grownBy.frozen_far hg ⟨b, o, none⟩ (World.block_lt_of_cell? _ _ h'.1) hne).trans h'.2⟩
theorem face_row {A : Option Addr} {n c g : Nat} {D : Nat → Ba.Face} {W : World} (hA : 0 < n → A = some ⟨g, 0, none⟩) (hn : n ≤ c) (hc : c ≤ 9223372036854775807) (hr : RowF W g n D) (hok : ∀ i, i < n → (D i).Ok W) : (Ba.SlFace.mk A n c g 0 D).At W := ⟨hA, hn, hc, fun i hi => by
  obtain ⟨c0, c1, c2, c3⟩ := hr i hi
  simp only [Nat.zero_add]
  exact ⟨⟨c0.1, c1.1, c2.1, c3.1⟩, hok i hi⟩⟩
theorem cp_open2 {m : Ms.Mesh} {w W : World} {y0 y1 : Value} (h0 : OwnL w.heap.size 74 3 m.S.n (fsp m.S.D m.S.n) y0 W) (h1 : OwnL w.heap.size 43 4 m.F.n (ffc m.F.D m.F.n) y1 W) (hg : Gr w W) (hok : ∀ i, i < m.S.n → (m.S.D i).Ok w) :
    ∃ (A0 : Option Addr) (c0 b0 : Nat) (A1 : Option Addr) (c1 g : Nat), y0 = .slice A0 m.S.n c0 ∧ y1 = .slice A1 m.F.n c1 ∧ (Ba.SlSpot.mk A0 m.S.n c0 b0 0 m.S.D).At W ∧ (0 < m.S.n → b0 ≠ g) ∧ m.F.n ≤ c1 ∧ c1 ≤ 9223372036854775807 ∧ (0 < m.F.n → A1 = some ⟨g, 0, none⟩) ∧ w.heap.size ≤ g ∧ g ≠ W.heap.size ∧ RowF W g m.F.n m.F.D ∧
      (0 < m.F.n → W.ownsRow w.heap.size 43 4 (.slice A1 m.F.n c1) m.F.n (ffc m.F.D m.F.n)) := by
  obtain ⟨A0, c0, rfl, u1, u2, u3⟩ := h0
  obtain ⟨A1, c1, rfl, v1, v2, v3⟩ := h1
  have hfa : ∃ g, (0 < m.F.n → A1 = some ⟨g, 0, none⟩ ∧ ∃ cur, W.heap[g]? = some (.cells cur 43)) ∧ w.heap.size ≤ g ∧ g ≠ W.heap.size ∧ RowF W g m.F.n m.F.D ∧ (m.F.n = 0 → W.heap.size < g) := by
    by_cases hf : 0 < m.F.n
    · obtain ⟨g, rfl, hb, hc, hr⟩ := own_of_row (v3 hf) hf
      refine ⟨g, fun _ => ⟨rfl, hc⟩, hb, by obtain ⟨cur, hc⟩ := hc; have := (Array.getElem?_eq_some_iff.1 hc).1; omega, fun i hi => ?_, fun h => by omega⟩
      obtain ⟨f0, f1, f2, f3⟩ := ffc_get m.F.D hi
      exact ⟨hr _ _ (by omega) f0, hr _ _ (by omega) f1, hr _ _ (by omega) f2, hr _ _ (by omega) f3⟩
    · exact ⟨W.heap.size + 1, fun h => absurd h hf, by have := Gr.size hg; omega, by omega, fun i hi => absurd hi (by omega), fun _ => by omega⟩
  obtain ⟨g, hA1, hgb, hgn, hrow, hg0⟩ := hfa
  by_cases hn : 0 < m.S.n
  · obtain ⟨b0, rfl, hb, ⟨cur, hc⟩, hr⟩ := own_of_row (u3 hn) hn
    refine ⟨_, c0, b0, A1, c1, g, rfl, rfl, ⟨fun _ => rfl, u1, u2, fun i hi => ⟨?_, hok i hi⟩⟩, fun _ e => ?_, v1, v2, fun h => (hA1 h).1, hgb, hgn, hrow, v3⟩
    · have hi : i < m.S.n := hi
      obtain ⟨f0, f1, f2⟩ := fsp_get m.S.D hi
      simp only [Nat.zero_add]
      exact ⟨(hr _ _ (by omega) f0).1, (hr _ _ (by omega) f1).1, (hr _ _ (by omega) f2).1⟩
    · by_cases hf : 0 < m.F.n
      · obtain ⟨-, cur', hc'⟩ := hA1 hf
        rw [← e, hc] at hc'
        simp at hc'
      · have := hg0 (by omega)
        have := (Array.getElem?_eq_some_iff.1 hc).1
        omega
  · exact ⟨A0, c0, 0, A1, c1, g, rfl, rfl, ⟨fun h => absurd h hn, u1, u2, fun i hi => absurd (Nat.zero_lt_of_lt hi) hn⟩, fun h => absurd h hn, v1, v2, fun h => (hA1 h).1, hgb, hgn, hrow, v3⟩
set_option maxRecDepth 100000 in
set_option maxHeartbeats 8000000 in
theorem od_out (m : Ms.Mesh) (w : World) (hf : ¬ (m.S.n ≤ 60 ∧ m.F.n ≤ 60)) : Calls Tryd.prog 6 #[m.val] w fun e w' => e = .returned (.bool true) ∧ Gr w w' := by
  have HA := Lib.hid (fun W => aw_any W)
  have HF := Lib.hid (fun W => few_any m W)
  rw [show (decide (m.S.n ≤ 60) && decide (m.F.n ≤ 60)) = false from by rw [← Bool.not_eq_true, Bool.and_eq_true, decide_eq_true_eq, decide_eq_true_eq]; exact hf] at HF
  clear hf
  unfold Ms.Mesh.val at *
  generalize m.S.A = sA at *; generalize m.S.n = sn at *; generalize m.S.c = sc at *; generalize m.F.A = fA at *; generalize m.F.n = fn at *; generalize m.F.c = fc at *
  go_enter Tryd.func6, Tryd.ntmps6
  go_wp2_with fail
  refine (HA.out _).mono ?_
  rintro e w1 ⟨rfl, hb1⟩
  clear HA
  have g1 : Gr w w1 := Gr.trans (by exact gr_auto) hb1
  have d0 := Gr.at hb1 (b := w.heap.size) (o := 0) (v := .slice sA sn sc) (by simp [go_sem])
  have d1 := Gr.at hb1 (b := w.heap.size) (o := 1) (v := .slice fA fn fc) (by simp [go_sem])
  clear hb1
  go_wp2_with fail
  refine (HF.out _).mono ?_
  rintro e w2 ⟨rfl, hb2⟩
  clear HF
  replace d0 := Gr.at hb2 d0; replace d1 := Gr.at hb2 d1
  have g2 := g1.trans hb2
  clear g1 hb2
  go_wp2_with fail
  go_ret
  exact ⟨rfl, g2⟩
set_option maxRecDepth 100000 in
set_option maxHeartbeats 8000000 in
theorem od_in (m : Ms.Mesh) (w : World) (h : m.At w) (hf : m.S.n ≤ 60 ∧ m.F.n ≤ 60) : Calls Tryd.prog 6 #[m.val] w fun e w' => e = .returned (.bool true) ∧ Gr w w' := by
  have HA := Lib.hid (fun W => aw_any W)
  have HF := Lib.hid (fun W => few_any m W)
  rw [decide_eq_true hf.1, decide_eq_true hf.2, Bool.and_self] at HF
  have HCP := Lib.hid (fun W (hW : Gr w W) => rs_copy m W ⟨h.s.gr hW, h.f.gr hW⟩ ⟨by omega, by omega⟩)
  have HSO := Lib.hid (fun i (hi : i < m.S.n) => (h.s.hD i hi).2); have HFO := Lib.hid (fun i (hi : i < m.F.n) => (h.f.hD i hi).2)
  have HAT := Lib.hid h
  obtain ⟨i5, hi0, hz0, hz1, hz2⟩ := info_parts info_face4
  have KI := Lib.hid hi0; have KZ0 := Lib.hid hz0; have KZ1 := Lib.hid hz1; have KZ2 := Lib.hid hz2
  clear hi0 hz0 hz1 hz2
  have HVM := Lib.hid (fun W (hW : Gr w W) => ms_valid m W ⟨h.s.gr hW, h.f.gr hW⟩ (Or.inr ⟨by omega, by omega⟩))
  have HCT := Lib.hid (fun k (hk : k < 7) W (hW : Gr w W) => cnt_any m k W ⟨h.s.gr hW, h.f.gr hW⟩ ⟨by omega, by omega⟩ hk)
  have hn1 := hf.1; have hn2 := hf.2
  have hfc := h.f.hc; have hfb := h.f.hb
  clear h hf
  unfold RetCp at HCP
  obtain ⟨sA, hsA⟩ : ∃ A, m.S.A = A := ⟨_, rfl⟩; obtain ⟨sc, hsc⟩ : ∃ n, m.S.c = n := ⟨_, rfl⟩; obtain ⟨fA, hfA⟩ : ∃ A, m.F.A = A := ⟨_, rfl⟩; obtain ⟨fc, hfc'⟩ : ∃ n, m.F.c = n := ⟨_, rfl⟩
  obtain ⟨sn, hsn⟩ : ∃ n, m.S.n = n := ⟨_, rfl⟩; obtain ⟨fn, hfn⟩ : ∃ n, m.F.n = n := ⟨_, rfl⟩
  have HNN := Lib.hid (And.intro hsn hfn)
  have HFE := Lib.hid hfA
  have hval : m.val = .agg #[.slice sA sn sc, .slice fA fn fc] := by unfold Ms.Mesh.val; rw [hsA, hsc, hfA, hfc', hsn, hfn]
  rw [hval] at HF HCP HVM HCT ⊢
  rw [hsn] at hn1 HSO
  rw [hfn] at hn2 HFO hfc
  rw [hfc'] at hfc hfb
  clear hval hsA hsc hfA hfc' hsn hfn
  go_enter Tryd.func6, Tryd.ntmps6
  go_wp2_with fail
  refine (HA.out _).mono ?_
  rintro e w1 ⟨rfl, hb1⟩
  clear HA
  have g1 : Gr w w1 := Gr.trans (by exact gr_auto) hb1
  have d0 := Gr.at hb1 (b := w.heap.size) (o := 0) (v := .slice sA sn sc) (by simp [go_sem])
  have d1 := Gr.at hb1 (b := w.heap.size) (o := 1) (v := .slice fA fn fc) (by simp [go_sem])
  clear hb1
  go_wp2_with fail
  refine (HF.out _).mono ?_
  rintro e w2 ⟨rfl, hb2⟩
  clear HF
  replace d0 := Gr.at hb2 d0; replace d1 := Gr.at hb2 d1
  have g2 := g1.trans hb2
  clear g1 hb2
  go_wp2_with fail
  -- @a
  have hw2 : w.heap.size < w2.heap.size := World.block_lt_of_cell? _ _ d0
  refine (HCP.out _ g2).mono ?_
  rintro e w3 ⟨v, rfl, y0, y1, rfl, hb3, l0, l1⟩
  replace d0 := Gr.at hb3 d0; replace d1 := Gr.at hb3 d1
  -- @b
  obtain ⟨A0, c0, b0, A1, c1, g, rfl, rfl, hS3, hbg, v1, v2, hA1, hgb, hgn, hrow, -⟩ := cp_open2 (m := m) (w := w2) (W := w3) l0 l1 hb3 (by rw [HNN.out.1]; exact HSO.out)
  rw [HNN.out.1] at hS3 hbg ⊢
  rw [HNN.out.2] at v1 hA1 hrow ⊢
  clear l0 l1
  have g3 := g2.trans hb3
  have z2 := Gr.size g2
  have z3 := Gr.size hb3
  obtain ⟨W4, hW4⟩ : ∃ W, w3.alloc (Obj.cells #[.slice A0 sn c0, .slice A1 fn c1] 25) = W := ⟨_, rfl⟩
  have g34 : Gr w3 W4 := hW4 ▸ Gr.alloc (Gr.refl w3) _
  have t0 : W4.cell? ⟨w3.heap.size, 0, none⟩ = some (.slice A0 sn c0) := by rw [← hW4]; simp [go_sem]
  have t1 : W4.cell? ⟨w3.heap.size, 1, none⟩ = some (.slice A1 fn c1) := by rw [← hW4]; simp [go_sem]
  replace d0 := Gr.at g34 d0; replace d1 := Gr.at g34 d1
  obtain ⟨TB, hTB⟩ : ∃ B, w3.heap.size = B := ⟨_, rfl⟩
  rw [hTB] at t0 t1 hgn
  have HRV := Lib.hid (rev_any A1 fn c1 g m.F.D W4 hA1 (by omega) (hrow.gr g34))
  have hS4 := Lib.hid (hS3.gr g34)
  have g4 := g3.trans g34
  have hgw : w.heap.size < g := by omega
  have hTw : w.heap.size < TB := by omega
  have HA1 := Lib.hid hA1
  clear hS3 hrow g34 hb3 g3 hA1
  -- @d
  go_wp2_with fail
  try rw [hW4]
  clear hW4 hTB
  -- @e
  refine HRV.out.mono ?_
  rintro e w5 ⟨rfl, hrow5, gx5⟩
  have hmS := spot_grx hS4.out gx5 hbg
  have hmF := face_row HA1.out v1 v2 hrow5 (fun i hi => HFO.out (fn - 1 - i) (by omega))
  replace d0 := GrX.at gx5 (by omega) d0; replace d1 := GrX.at gx5 (by omega) d1
  replace t0 := GrX.at gx5 (by omega) t0; replace t1 := GrX.at gx5 (by omega) t1
  have g5 := GrX.gr g4 (by omega) gx5
  obtain ⟨mt, hmt⟩ : ∃ x : Ms.Mesh, x = ⟨⟨A0, sn, c0, b0, 0, m.S.D⟩, ⟨A1, fn, c1, g, 0, fun i => m.F.D (fn - 1 - i)⟩⟩ := ⟨_, rfl⟩
  have hrev : Ms.Rev m mt := by rw [hmt]; exact ⟨HNN.out.1.symm, rfl, HNN.out.2.symm, fun i _ => by rw [HNN.out.2]⟩
  have hmA : mt.At w5 := by rw [hmt]; exact ⟨hmS, hmF⟩
  have hmv : mt.val = .agg #[.slice A0 sn c0, .slice A1 fn c1] := by rw [hmt]; rfl
  have hmn : mt.S.n ≤ 61 ∧ mt.F.n ≤ 61 := by rw [hmt]; exact ⟨by show sn ≤ 61; omega, by show fn ≤ 61; omega⟩
  have HCU := Lib.hid (fun (k : Nat) (h1 : 1 ≤ k) (h4 : k ≤ 4) W (hW : Gr w5 W) => show Calls Tryd.prog 28 #[.agg #[.slice A0 sn c0, .slice A1 fn c1], .int .i64 (k : Int)] W fun e w' => e = .returned (.int .i64 (Ms.cnt m k : Int)) ∧ Gr W w' from by
    have z := cnt_any mt k W (hmA.gr hW) hmn (by omega)
    rw [hmv, hrev.cnt h1 h4] at z; exact z)
  have HVU := Lib.hid (fun W (hW : Gr w5 W) => show Calls Tryd.prog 14 #[.agg #[.slice A0 sn c0, .slice A1 fn c1]] W fun e w' => e = .returned (.bool (Ms.vlB m)) ∧ Gr W w' from by
    have z := ms_valid mt W (hmA.gr hW) (Or.inr hmn)
    rw [hmv, hrev.vlB] at z; exact z)
  clear hmS hmF hmt hrev hmA hmv hmn HRV hrow5 gx5 hS4 mt HA1
  go_wp2_with fail
  -- @f
  go_loopw [5] (fun x wr => ∃ k : Nat, 1 ≤ k ∧ k ≤ 5 ∧ x = .int .i64 (k : Int) ∧ Gr w5 wr) (fun x _ => 5 - (intOf x).toNat)
  case atStart => exact ⟨1, by omega, by omega, rfl, Gr.refl _⟩
  case round =>
    obtain ⟨k, hk1, hk5, rfl, hg⟩ := hrel
    rename World => U1
    replace d0 := Gr.at hg d0; replace d1 := Gr.at hg d1; replace t0 := Gr.at hg t0; replace t1 := Gr.at hg t1
    have gu := g5.trans hg
    by_cases hlk : k ≤ 4
    · have kb0 : (k : Int) ≤ 4 := by omega
      have HC1 := Lib.hid (HCT.out k (by omega)); have HC2 := Lib.hid (HCU.out k hk1 hlk)
      obtain ⟨r, hr⟩ : ∃ r : Int, (Ms.cnt m k : Int) = r := ⟨_, rfl⟩
      have hr0 : ¬ r < 0 := by omega
      have hr1 : (0 : Int) ≤ r := by omega
      rw [hr] at HC1 HC2
      clear hr HCT HCU HCP HVM HVU HSO HFO HAT
      -- @g
      go_upto_region 11 with fail
      -- @h
      (first | refine name_world ?_ | refine (show (∀ W, W = _ → Calls _ _ _ W _) → Calls _ _ _ _ _ from fun h => h _ rfl) ?_); intro W6 hW6
      have g6 : Gr w W6 := by rw [hW6]; exact gr_auto
      have gb6_U1 : Gr U1 W6 := by (try clear g6); rw [hW6]; exact gr_auto
      have k6_0 : W6.cell? ⟨w.heap.size, 0, none⟩ = some (.slice sA sn sc) := by rw [hW6]; first | (simp [go_sem, *]; done) | (refine Gr.at ?_ (by assumption); exact gr_auto)
      have b6_0 : w.heap.size < W6.heap.size := World.block_lt_of_cell? _ _ k6_0
      have k6_1 : W6.cell? ⟨w.heap.size, 1, none⟩ = some (.slice fA fn fc) := by rw [hW6]; first | (simp [go_sem, *]; done) | (refine Gr.at ?_ (by assumption); exact gr_auto)
      have k6_2 : W6.cell? ⟨TB, 0, none⟩ = some (.slice A0 sn c0) := by rw [hW6]; first | (simp [go_sem, *]; done) | (refine Gr.at ?_ (by assumption); exact gr_auto)
      have b6_2 : TB < W6.heap.size := World.block_lt_of_cell? _ _ k6_2
      have k6_3 : W6.cell? ⟨TB, 1, none⟩ = some (.slice A1 fn c1) := by rw [hW6]; first | (simp [go_sem, *]; done) | (refine Gr.at ?_ (by assumption); exact gr_auto)
      clear hW6
      have s6_0 : ∀ gw : GW W6, gw.1.cell? ⟨w.heap.size, 0, none⟩ = some (.slice sA sn sc) := fun gw => Gr.at gw.2 k6_0
      have s6_1 : ∀ gw : GW W6, gw.1.cell? ⟨w.heap.size, 1, none⟩ = some (.slice fA fn fc) := fun gw => Gr.at gw.2 k6_1
      have s6_2 : ∀ gw : GW W6, gw.1.cell? ⟨TB, 0, none⟩ = some (.slice A0 sn c0) := fun gw => Gr.at gw.2 k6_2
      have s6_3 : ∀ gw : GW W6, gw.1.cell? ⟨TB, 1, none⟩ = some (.slice A1 fn c1) := fun gw => Gr.at gw.2 k6_3
      have Q1 := Lib.hid (fun gw : GW W6 => gw_call (HC1.out gw.1 (gu.trans (gb6_U1.trans gw.2))))
      have Q2 := Lib.hid (fun gw : GW W6 => gw_call (HC2.out gw.1 (hg.trans (gb6_U1.trans gw.2))))
      refine wp_region_gr (by kernel_rfl) (by kernel_rfl) ?_
      repeat (go_big_quiet_step (first | (go_at_call 28; with_reducible exact Q1.out _) | (go_at_call 28; with_reducible exact Q2.out _)))
      refine wpQuiet_nil ?_
      intro w7 hb7
      clear s6_0 s6_1 s6_2 s6_3
      have g7 : Gr w w7 := g6.trans hb7
      have k6_0 := Gr.at hb7 k6_0
      have k6_1 := Gr.at hb7 k6_1
      have k6_2 := Gr.at hb7 k6_2
      have k6_3 := Gr.at hb7 k6_3
      -- @i
      go_wp2_with fail
      -- @j
      go_roundw
      case rel => exact ⟨k + 1, by omega, by omega, by go_num, hg.trans (gb6_U1.trans hb7)⟩
      case measure => simp [intOf]; omega
    · obtain rfl : k = 5 := by omega
      obtain ⟨q, hq⟩ : ∃ q, Ms.vlB m = q := ⟨_, rfl⟩
      rw [hq] at HVM HVU
      have HQ := Lib.hid hq
      clear hq HCT HCU
      go_upto_region 13 with fail
      -- @k
      (first | refine name_world ?_ | refine (show (∀ W, W = _ → Calls _ _ _ W _) → Calls _ _ _ _ _ from fun h => h _ rfl) ?_); intro W8 hW8
      have g8 : Gr w W8 := by rw [hW8]; exact gr_auto
      have gb8_U1 : Gr U1 W8 := by (try clear g8); rw [hW8]; exact gr_auto
      have k8_0 : W8.cell? ⟨w.heap.size, 0, none⟩ = some (.slice sA sn sc) := by rw [hW8]; first | (simp [go_sem, *]; done) | (refine Gr.at ?_ (by assumption); exact gr_auto)
      have b8_0 : w.heap.size < W8.heap.size := World.block_lt_of_cell? _ _ k8_0
      have k8_1 : W8.cell? ⟨w.heap.size, 1, none⟩ = some (.slice fA fn fc) := by rw [hW8]; first | (simp [go_sem, *]; done) | (refine Gr.at ?_ (by assumption); exact gr_auto)
      have k8_2 : W8.cell? ⟨TB, 0, none⟩ = some (.slice A0 sn c0) := by rw [hW8]; first | (simp [go_sem, *]; done) | (refine Gr.at ?_ (by assumption); exact gr_auto)
      have b8_2 : TB < W8.heap.size := World.block_lt_of_cell? _ _ k8_2
      have k8_3 : W8.cell? ⟨TB, 1, none⟩ = some (.slice A1 fn c1) := by rw [hW8]; first | (simp [go_sem, *]; done) | (refine Gr.at ?_ (by assumption); exact gr_auto)
      clear hW8
      have s8_0 : ∀ gw : GW W8, gw.1.cell? ⟨w.heap.size, 0, none⟩ = some (.slice sA sn sc) := fun gw => Gr.at gw.2 k8_0
      have s8_1 : ∀ gw : GW W8, gw.1.cell? ⟨w.heap.size, 1, none⟩ = some (.slice fA fn fc) := fun gw => Gr.at gw.2 k8_1
      have s8_2 : ∀ gw : GW W8, gw.1.cell? ⟨TB, 0, none⟩ = some (.slice A0 sn c0) := fun gw => Gr.at gw.2 k8_2
      have s8_3 : ∀ gw : GW W8, gw.1.cell? ⟨TB, 1, none⟩ = some (.slice A1 fn c1) := fun gw => Gr.at gw.2 k8_3
      have Q1 := Lib.hid (fun gw : GW W8 => gw_call (HVM.out gw.1 (gu.trans (gb8_U1.trans gw.2))))
      have Q2 := Lib.hid (fun gw : GW W8 => gw_call (HVU.out gw.1 (hg.trans (gb8_U1.trans gw.2))))
      refine wp_region_gr (by kernel_rfl) (by kernel_rfl) ?_
      repeat (go_big_quiet_step (first | (go_at_call 14; with_reducible exact Q1.out _) | (go_at_call 14; with_reducible exact Q2.out _)))
      refine wpQuiet_nil ?_
      intro w9 hb9
      clear s8_0 s8_1 s8_2 s8_3
      have g9 : Gr w w9 := g8.trans hb9
      have k8_0 := Gr.at hb9 k8_0
      have k8_1 := Gr.at hb9 k8_1
      have k8_2 := Gr.at hb9 k8_2
      have k8_3 := Gr.at hb9 k8_3
      -- @l
      have gu9 : Gr w w9 := gu.trans (gb8_U1.trans hb9)
      replace d0 := Gr.at (gb8_U1.trans hb9) d0; replace d1 := Gr.at (gb8_U1.trans hb9) d1
      have qq : (q == q) = true := beq_self_eq_true q
      clear HVU t0 t1
      go_wp2_with fail
      -- @m
      refine (HVM.out _ gu9).mono ?_
      rintro e w10 ⟨rfl, hb10⟩
      replace d0 := Gr.at hb10 d0; replace d1 := Gr.at hb10 d1
      have g10 := gu9.trans hb10
      clear gu9 hb10 qq
      cases q
      · go_wp2_with fail
        -- @n
        go_ret
        exact ⟨rfl, g10⟩
      · by_cases hf0 : fn = 0
        · have f0 : ((fn : Int) == 0) = true := by rw [hf0]; rfl
          have f1 : (fn : Int) = 0 := by omega
          go_wp2_with fail
          -- @o
          go_ret
          exact ⟨rfl, g10⟩
        · have f0 : ((fn : Int) == 0) = false := beq_eq_false_iff_ne.2 (by omega)
          have f1 : ¬ (fn : Int) = 0 := by omega
          -- @p
          go_wp2_with fail
          -- @q
          clear f0 f1
          refine (HCP.out _ g10).mono ?_
          rintro e w11 ⟨v, rfl, y0, y1, rfl, hb11, l0, l1⟩
          have hw10 : w.heap.size < w10.heap.size := World.block_lt_of_cell? _ _ d0
          obtain ⟨A2, c2, b2, A3, c3, g3', rfl, rfl, hS2, hbg2, u1, u2, hA3, hgb3, hgn3, hrow3, -⟩ := cp_open2 (m := m) (w := w10) (W := w11) l0 l1 hb11 (by rw [HNN.out.1]; exact HSO.out)
          rw [HNN.out.1] at hS2 hbg2 ⊢
          rw [HNN.out.2] at u1 hA3 hrow3 ⊢
          replace d0 := Gr.at hb11 d0; replace d1 := Gr.at hb11 d1
          have g11 := g10.trans hb11
          have HA3 := Lib.hid hA3; have HROW3 := Lib.hid hrow3
          have zl := World.block_lt_of_cell? _ _ d0
          simp only at zl
          have c3b0 : (fn : Int) ≤ (c3 : Int) := by omega
          have fb0 : (1 : Int) ≤ (fn : Int) := by omega
          clear l0 l1 hA3 hrow3
          -- @r
          go_wp2_with fail
          -- @s
          obtain ⟨W12, hW12⟩ : ∃ W, w11.alloc (Obj.cells #[.slice A2 sn c2, .slice A3 (fn - 1) c3] 25) = W := ⟨_, rfl⟩
          have g1112 : Gr w11 W12 := hW12 ▸ Gr.alloc (Gr.refl w11) _
          have e0 : W12.cell? ⟨w11.heap.size, 0, none⟩ = some (.slice A2 sn c2) := by rw [← hW12]; simp [go_sem]
          have e1 : W12.cell? ⟨w11.heap.size, 1, none⟩ = some (.slice A3 (fn - 1) c3) := by rw [← hW12]; simp [go_sem]
          replace d0 := Gr.at g1112 d0; replace d1 := Gr.at g1112 d1
          have g12 := g11.trans g1112
          rw [hW12]
          clear hW12
          obtain ⟨ml, hml⟩ : ∃ x : Ms.Mesh, x = ⟨⟨A2, sn, c2, b2, 0, m.S.D⟩, ⟨A3, fn - 1, c3, g3', 0, m.F.D⟩⟩ := ⟨_, rfl⟩
          have hmlA : ml.At W12 := by
            rw [hml]
            exact ⟨hS2.gr g1112, face_row (fun h => HA3.out (by omega)) (by omega) u2 (RowF.gr (fun i hi => HROW3.out i (by omega)) g1112) (fun i hi => HFO.out i (by omega))⟩
          have hmlv : ml.val = .agg #[.slice A2 sn c2, .slice A3 (fn - 1) c3] := by rw [hml]; rfl
          have hmlb : Ms.vlB ml = true := by
            rw [hml]
            exact Ms.less_vl HQ.out HNN.out.1.symm rfl (by show fn - 1 ≤ m.F.n; rw [HNN.out.2]; omega) (fun i _ => rfl)
          have hmln : ml.S.n ≤ 61 ∧ ml.F.n ≤ 61 := by rw [hml]; exact ⟨by show sn ≤ 61; omega, by show fn - 1 ≤ 61; omega⟩
          have HVL := Lib.hid (fun W (hW : Gr W12 W) => show Calls Tryd.prog 14 #[.agg #[.slice A2 sn c2, .slice A3 (fn - 1) c3]] W fun e w' => e = .returned (.bool true) ∧ Gr W w' from by
            have z := ms_valid ml W (hmlA.gr hW) (Or.inr hmln)
            rw [hmlv, hmlb] at z; exact z)
          clear hml hmlA hmlv hmlb hmln hS2 hbg2 HA3 HROW3 g1112 hgb3 hgn3 ml
          obtain ⟨LB, hLB⟩ : ∃ B, w11.heap.size = B := ⟨_, rfl⟩
          rw [hLB] at e0 e1 ⊢
          clear hLB
          refine (HCP.out _ g12).mono ?_
          rintro e w13 ⟨v, rfl, y0, y1, rfl, hb13, l0, l1⟩
          have hw12 : w.heap.size < W12.heap.size := World.block_lt_of_cell? _ _ d0
          obtain ⟨A4, c4, b4, A5, c5, g5', rfl, rfl, hS4, hbg4, p1, p2, hA5, hgb5, hgn5, -, hfr5⟩ := cp_open2 (m := m) (w := W12) (W := w13) l0 l1 hb13 (by rw [HNN.out.1]; exact HSO.out)
          rw [HNN.out.1] at hS4 hbg4 ⊢
          rw [HNN.out.2] at p1 hA5 hfr5 ⊢
          clear l0 l1 HCP
          obtain rfl := hA5 (by omega)
          obtain ⟨W14, hW14⟩ : ∃ W, w13.alloc (Obj.cells #[.slice A4 sn c4, .slice (some ⟨g5', 0, none⟩) fn c5] 25) = W := ⟨_, rfl⟩
          have g1314 : Gr w13 W14 := hW14 ▸ Gr.alloc (Gr.refl w13) _
          have gA : Gr W12 W14 := hb13.trans g1314
          obtain ⟨TW, hTW⟩ : ∃ B, w13.heap.size = B := ⟨_, rfl⟩
          have r0 : Own W14 TW 0 (.slice A4 sn c4) := by rw [← hTW, ← hW14]; exact ⟨by simp [go_sem], by simp [go_sem]⟩
          have r1 : Own W14 TW 1 (.slice (some ⟨g5', 0, none⟩) fn c5) := by rw [← hTW, ← hW14]; exact ⟨by simp [go_sem], by simp [go_sem]⟩
          have zW14 : W14.heap.size = TW + 1 := by rw [← hTW, ← hW14]; simp
          have zT12 : W12.heap.size ≤ TW := by rw [← hTW]; exact Gr.size hb13
          have zT14 : W12.heap.size ≤ W14.heap.size := by omega
          have zL14 : TW < W14.heap.size := by omega
          have ZW := Lib.hid zW14
          clear zW14
          have hfr := Lib.hid (ownsRow_gr (hfr5 (by omega)) g1314)
          have hS14 := Lib.hid (hS4.gr g1314)
          have hb4T : 0 < sn → b4 < TW := fun h => by
            have := World.block_lt_of_cell? _ _ (hS4.hD 0 h).1.1
            rw [← hTW]; exact this
          have HB4 := Lib.hid (And.intro hbg4 hb4T)
          rw [hTW] at hgn5
          replace d0 := Gr.at gA d0; replace d1 := Gr.at gA d1
          have hfAe := HAT.out.f.hA (by rw [HNN.out.2]; omega)
          rw [HFE.out] at hfAe
          obtain ⟨⟨f0, f1, f2, f3⟩, -⟩ := HAT.out.f.hD 0 (by rw [HNN.out.2]; omega)
          have g14 := g12.trans gA
          replace f0 := Gr.at g14 f0; replace f1 := Gr.at g14 f1; replace f2 := Gr.at g14 f2; replace f3 := Gr.at g14 f3
          simp only [Nat.zero_mul, Nat.add_zero] at f0 f1 f2 f3
          obtain ⟨fz, hfz⟩ : ∃ x, m.F.D 0 = x := ⟨_, rfl⟩
          rw [hfz] at f0 f1 f2 f3
          have HFZ := Lib.hid hfz
          clear hfz hS4 hbg4 hb4T hfr5 hb13 g1314 hA5
          subst hfAe
          have x1 := r1.1; have y1 := r1.2
          have nz2 : 0 < fn := by omega
          have nz : (0 : Int) < (fn : Int) := by omega
          have bl0 := World.block_lt_of_cell? _ _ f0
          simp only at bl0
          -- @t
          go_upto_region 20 with fail
          try rw [hW14]
          try rw [hTW]
          -- @u
          go_region_law (refine step_append_lies _ (by rfl) _ _ 23 (by rfl) W12.heap.size 43 i5 (.agg #[.int .i64 0, .int .i64 0, .int .i64 0, .int .i64 0]) 4 32 Tryd.underlying23 KI.out KZ0.out KZ1.out KZ2.out rfl (by decide) (.slice (some ⟨g5', 0, none⟩) fn c5) fn (ffc m.F.D fn) (by rfl) (ownsRow_gr hfr.out (by exact gr_auto)) _ 1 1 [.int .i64 fz.a, .int .i64 fz.b, .int .i64 fz.c, .int .i64 fz.k] (by rfl) rfl (by intro p u hp; rcases p with _ | _ | _ | _ | p <;> simp at hp <;> (try subst hp) <;> first | (simp [Addr.add, go_sem]; done) | (simp [Addr.add]; done)) (by intro u hu; simp at hu; rcases hu with rfl | rfl | rfl | rfl <;> rfl) (by omega) (by unfold maxLen; omega) (by omega) (by first | omega | (simp; omega)) _ rfl ?_; intro G15 cp15 w15 hown15 hgrow15 hat15 hlt15; have R1 := own_gby hgrow15 r1 (by exact gr_auto) (by simp [Value.ownBlock]; omega); have R0 := own_gby hgrow15 r0 (by exact gr_auto) (by simp [Value.ownBlock]; omega); have x15 := R1.1; have y15 := R1.2; have S15 := spot_gby (hS14.out.gr (by exact gr_auto)) hgrow15 (fun h => (HB4.out.1 h)); have GG : Gr W12 w15 := Gr.own (show Gr W12 _ from Gr.trans gA (by exact gr_auto)) (Nat.le_refl _) (ownsRow_gr hfr.out (by exact gr_auto)) hgrow15; have hne15 : G15 ≠ TW := (by rcases hat15 with q | q; (have q2 : g5' = G15 := (by simpa [Value.ownBlock] using q); omega); (have q3 : G15 = W14.heap.size + 1 := (by simpa using q); have := ZW.out; omega)))
          -- @v
          all_goals (
            obtain ⟨Wf, hWf⟩ : ∃ W, w15.setCell ⟨TW, 1, none⟩ (.slice (some ⟨G15, 0, none⟩) (fn + 1) cp15) = W := ⟨_, rfl⟩
            have gxf : GrX TW w15 Wf := hWf ▸ GrX.setCell (p := ⟨TW, 1, none⟩) (GrX.refl TW w15) rfl _
            have n1 : Wf.cell? ⟨TW, 1, none⟩ = some (.slice (some ⟨G15, 0, none⟩) (fn + 1) cp15) := by rw [← hWf]; exact (Own.set R1).1
            have n0 : Wf.cell? ⟨TW, 0, none⟩ = some (.slice A4 sn c4) := by rw [← hWf]; exact (Own.other R0 (Or.inr (by omega))).1
            have gf : Gr W12 Wf := GrX.gr GG (by omega) gxf
            have ee0 := Gr.at gf e0
            have ee1 := Gr.at gf e1
            have hS := spot_grx S15 gxf (fun h => by have := HB4.out.2 h; show b4 ≠ TW; omega)
            have hF := face_grx (face_more hown15 (fun i hi => HFO.out i hi) (HFZ.out ▸ HFO.out 0 nz2)) gxf (fun _ => hne15)
            obtain ⟨mw, hmw⟩ : ∃ x : Ms.Mesh, x = ⟨⟨A4, sn, c4, b4, 0, m.S.D⟩, ⟨some ⟨G15, 0, none⟩, fn + 1, cp15, G15, 0, fun i => if i = fn then fz else m.F.D i⟩⟩ := ⟨_, rfl⟩
            have hmwA : mw.At Wf := by rw [hmw]; exact ⟨hS, hF⟩
            have hmwv : mw.val = .agg #[.slice A4 sn c4, .slice (some ⟨G15, 0, none⟩) (fn + 1) cp15] := by rw [hmw]; rfl
            have hmwn : mw.S.n ≤ 61 ∧ mw.F.n ≤ 61 := by rw [hmw]; exact ⟨by show sn ≤ 61; omega, by show fn + 1 ≤ 61; omega⟩
            have hmwb : Ms.vlB mw = false := by
              refine Ms.twice_vl (m := m) (by rw [HNN.out.2]; exact nz2) ?_ ?_ ?_
              · rw [hmw, HNN.out.2]
              · rw [hmw]; show (if 0 = fn then fz else m.F.D 0) = m.F.D 0; rw [if_neg (by omega)]
              · rw [hmw, HNN.out.2]; show (if fn = fn then fz else m.F.D fn) = m.F.D 0; rw [if_pos rfl, HFZ.out]
            have HVW := Lib.hid (fun W (hW : Gr Wf W) => show Calls Tryd.prog 14 #[.agg #[.slice A4 sn c4, .slice (some ⟨G15, 0, none⟩) (fn + 1) cp15]] W fun e w' => e = .returned (.bool false) ∧ Gr W w' from by
              have z := ms_valid mw W (hmwA.gr hW) (Or.inr hmwn)
              rw [hmwv, hmwb] at z; exact z)
            clear hmw hmwA hmwv hmwn hmwb mw hS hF S15 R0 R1 x15 y15 hown15 hgrow15 hat15 hlt15 hne15 GG gxf f0 f1 f2 f3 r0 r1 x1 y1 e0 e1 hfr
            rw [hWf]
            clear hWf
            go_wp2_with fail
            refine (HVL.out _ gf).mono ?_
            rintro e w16 ⟨rfl, hb16⟩
            replace n0 := Gr.at hb16 n0
            replace n1 := Gr.at hb16 n1
            go_wp2_with fail
            refine (HVW.out _ hb16).mono ?_
            rintro e w17 ⟨rfl, hb17⟩
            go_wp2_with fail
            go_ret
            exact ⟨rfl, g12.trans (gf.trans (hb16.trans hb17))⟩)
/-- MeshOrder returns true. -/
theorem order_law (s : Ba.SlSpot) (f : Ba.SlFace) (w : World) (h1 : s.At w) (h2 : f.At w) : Calls Tryd.prog 6 #[(Ms.Mesh.mk s f).val] w fun e w' => e = .returned (.bool true) ∧ Gr w w' := by
  by_cases hf : s.n ≤ 60 ∧ f.n ≤ 60
  · exact od_in _ w ⟨h1, h2⟩ hf
  · exact od_out _ w hf
end Go.Proofs.YtajhhplgcegodaaDoor
