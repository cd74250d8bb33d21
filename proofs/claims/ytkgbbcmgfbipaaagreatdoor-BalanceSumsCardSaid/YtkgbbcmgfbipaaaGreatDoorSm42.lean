/-
  The reference's Through. (Printed by mkbssum.py.)
-/
import Derived.Test.YtkgbbcmgfbipaaaGreatDoorSm36
import Derived.Test.YtkgbbcmgfbipaaaGreatDoorSm09

set_option linter.unusedVariables false
set_option linter.unusedSimpArgs false
namespace Go.Proofs.YtkgbbcmgfbipaaaGreatDoor
open Go.RowKit
attribute [local go_sem ↓] Go.wp_at_zero Go.wp_at_succ
set_option maxRecDepth 100000 in
set_option maxHeartbeats 4000000 in
theorem rthr_e (A A2 LA : Option Addr) (n c n2 c2 ln lc : Nat) (t : ByteArray) (w : World) (ec : Int) (hec : ec ≠ 0) (HL : Hid (∀ W, Gr w W → Calls Tryz.prog 27 #[.agg #[.slice A n c, .slice A2 n2 c2], .slice LA ln lc] W fun e w' => e = .returned (.int .i64 ec) ∧ Gr W w')) : Calls Tryz.prog 11 #[.agg #[.slice A n c, .slice A2 n2 c2], .slice LA ln lc, .string t] w (fun e w' => e = .returned (.tuple #[.int .i64 0, .int .i64 ec]) ∧ Gr w w') := by
  have t0 : (ec != 0) = true := Ba.bne_of' hec
  clear hec
  go_enter Tryz.func11, Tryz.ntmps11
  go_wp2_with fail
  (first | refine name_world ?_ | refine (show (∀ W, W = _ → Calls _ _ _ W _) → Calls _ _ _ _ _ from fun h => h _ rfl) ?_); intro W1 hW1
  have g1 : Gr w W1 := by rw [hW1]; exact gr_auto
  have k1_0 : W1.cell? ⟨w.heap.size, 0, none⟩ = some (.slice A n c) := by rw [hW1]; first | (simp [go_sem, *]; done) | (refine Gr.at ?_ (by assumption); exact gr_auto)
  have b1_0 : w.heap.size < W1.heap.size := World.block_lt_of_cell? _ _ k1_0
  have k1_1 : W1.cell? ⟨w.heap.size, 1, none⟩ = some (.slice A2 n2 c2) := by rw [hW1]; first | (simp [go_sem, *]; done) | (refine Gr.at ?_ (by assumption); exact gr_auto)
  clear hW1
  refine (HL.out _ g1).mono ?_
  rintro e w2 ⟨rfl, hb2⟩
  have g2 := g1.trans hb2
  have k1_0 := Gr.at (w1 := w2) gr_auto k1_0; have k1_1 := Gr.at (w1 := w2) gr_auto k1_1
  go_wp2_with fail
  go_ret2
  exact ⟨rfl, gr_auto⟩
set_option maxRecDepth 100000 in
set_option maxHeartbeats 4000000 in
theorem rthr_n (A A2 LA : Option Addr) (n c n2 c2 ln lc : Nat) (t : ByteArray) (w : World) (i : Int) (hi : i < 0) (HL : Hid (∀ W, Gr w W → Calls Tryz.prog 27 #[.agg #[.slice A n c, .slice A2 n2 c2], .slice LA ln lc] W fun e w' => e = .returned (.int .i64 0) ∧ Gr W w')) (HK : Hid (∀ W, Gr w W → Calls Tryz.prog 29 #[.agg #[.slice A n c, .slice A2 n2 c2], .string t] W fun e w' => e = .returned (.int .i64 i) ∧ Gr W w')) : Calls Tryz.prog 11 #[.agg #[.slice A n c, .slice A2 n2 c2], .slice LA ln lc, .string t] w (fun e w' => e = .returned (.tuple #[.int .i64 0, .int .i64 9]) ∧ Gr w w') := by
  go_enter Tryz.func11, Tryz.ntmps11
  go_wp2_with fail
  (first | refine name_world ?_ | refine (show (∀ W, W = _ → Calls _ _ _ W _) → Calls _ _ _ _ _ from fun h => h _ rfl) ?_); intro W1 hW1
  have g1 : Gr w W1 := by rw [hW1]; exact gr_auto
  have k1_0 : W1.cell? ⟨w.heap.size, 0, none⟩ = some (.slice A n c) := by rw [hW1]; first | (simp [go_sem, *]; done) | (refine Gr.at ?_ (by assumption); exact gr_auto)
  have b1_0 : w.heap.size < W1.heap.size := World.block_lt_of_cell? _ _ k1_0
  have k1_1 : W1.cell? ⟨w.heap.size, 1, none⟩ = some (.slice A2 n2 c2) := by rw [hW1]; first | (simp [go_sem, *]; done) | (refine Gr.at ?_ (by assumption); exact gr_auto)
  clear hW1
  refine (HL.out _ g1).mono ?_
  rintro e w2 ⟨rfl, hb2⟩
  have g2 := g1.trans hb2
  have k1_0 := Gr.at (w1 := w2) gr_auto k1_0; have k1_1 := Gr.at (w1 := w2) gr_auto k1_1
  go_wp2_with fail
  refine (HK.out _ g2).mono ?_
  rintro e w3 ⟨rfl, hb3⟩
  have g3 := g2.trans hb3
  go_wp2_with fail
  go_ret2
  exact ⟨rfl, gr_auto⟩
set_option maxRecDepth 100000 in
set_option maxHeartbeats 4000000 in
theorem rthr_l (A A2 LA : Option Addr) (n c n2 c2 ln lc : Nat) (t : ByteArray) (w : World) (lb lo k : Nat) (D : Nat → Ba.Ledger) (f : Nat → Int) (v ec : Int) (hm : ln ≤ 9223372036854775807) (LA0 : Hid (0 < ln → LA = some ⟨lb, lo, none⟩)) (LX : Hid (∀ i, i < ln → (D i).Cells w lb (lo + i * 3) ∧ (k < (D i).ps.n ∧ (0 < (D i).ps.n → (D i).ps.A = some ⟨(D i).ps.b, (D i).ps.o, none⟩) ∧ (w.cell? ⟨(D i).ps.b, (D i).ps.o + k, none⟩ = some (.int .i64 ((D i).ps.X k)) ∧ (0 ≤ (D i).ps.X k ∧ (D i).ps.X k ≤ 9007199254740992)))))
    (HL : Hid (∀ W, Gr w W → Calls Tryz.prog 27 #[.agg #[.slice A n c, .slice A2 n2 c2], .slice LA ln lc] W fun e w' => e = .returned (.int .i64 0) ∧ Gr W w')) (HK : Hid (∀ W, Gr w W → Calls Tryz.prog 29 #[.agg #[.slice A n c, .slice A2 n2 c2], .string t] W fun e w' => e = .returned (.int .i64 (k : Int)) ∧ Gr W w')) (F0 : f 0 = 0) (FS : Hid (∀ i, f (i + 1) = f i + (D i).ps.X k)) (FB : Hid (∀ i, i ≤ ln → Ba.allB (fun i => decide (f (i + 1) ≤ 9007199254740992)) i = true → 0 ≤ f i ∧ f i ≤ 9007199254740992))
    (hno : Hid (Ba.allB (fun i => decide (f (i + 1) ≤ 9007199254740992)) ln = false → v = 0 ∧ ec = 5)) (hok : Hid (Ba.allB (fun i => decide (f (i + 1) ≤ 9007199254740992)) ln = true → v = f ln ∧ ec = 0)) : Calls Tryz.prog 11 #[.agg #[.slice A n c, .slice A2 n2 c2], .slice LA ln lc, .string t] w (fun e w' => e = .returned (.tuple #[.int .i64 v, .int .i64 ec]) ∧ Gr w w') := by
  go_enter Tryz.func11, Tryz.ntmps11
  go_wp2_with fail
  (first | refine name_world ?_ | refine (show (∀ W, W = _ → Calls _ _ _ W _) → Calls _ _ _ _ _ from fun h => h _ rfl) ?_); intro W1 hW1
  have g1 : Gr w W1 := by rw [hW1]; exact gr_auto
  have k1_0 : W1.cell? ⟨w.heap.size, 0, none⟩ = some (.slice A n c) := by rw [hW1]; first | (simp [go_sem, *]; done) | (refine Gr.at ?_ (by assumption); exact gr_auto)
  have b1_0 : w.heap.size < W1.heap.size := World.block_lt_of_cell? _ _ k1_0
  have k1_1 : W1.cell? ⟨w.heap.size, 1, none⟩ = some (.slice A2 n2 c2) := by rw [hW1]; first | (simp [go_sem, *]; done) | (refine Gr.at ?_ (by assumption); exact gr_auto)
  clear hW1
  refine (HL.out _ g1).mono ?_
  rintro e w2 ⟨rfl, hb2⟩
  have g2 := g1.trans hb2
  have k1_0 := Gr.at (w1 := w2) gr_auto k1_0; have k1_1 := Gr.at (w1 := w2) gr_auto k1_1
  go_wp2_with fail
  refine (HK.out _ g2).mono ?_
  rintro e w3 ⟨rfl, hb3⟩
  have g3 := g2.trans hb3
  have k1_0 := Gr.at (w1 := w3) gr_auto k1_0; have k1_1 := Gr.at (w1 := w3) gr_auto k1_1
  go_wp2_with fail
  go_loopw [10, 11] (fun a x wr => ∃ i : Nat, i ≤ ln ∧ x = .int .i64 (i : Int) ∧ a = .int .i64 (f i) ∧ Hid (Ba.allB (fun i => decide (f (i + 1) ≤ 9007199254740992)) i = true) ∧ Gr w3 wr) (fun _ x _ => ln - (intOf x).toNat)
  case atStart => exact ⟨0, Nat.zero_le _, rfl, by rw [F0], Lib.hid rfl, Gr.refl _⟩
  case round =>
    obtain ⟨i, hi, rfl, rfl, HQ, hg⟩ := hrel
    have gr : Gr w wr := g3.trans hg
    have k0 := Gr.at hg k1_0; have k1 := Gr.at hg k1_1
    by_cases hlt : i < ln
    · obtain rfl := LA0.out (by omega)
      obtain ⟨a0, a1, a2⟩ := (LX.out i hlt).1.gr gr
      obtain ⟨p1, p2, p3⟩ := (LX.out i hlt).2
      have v0 := Gr.at gr p3.1
      have e0 := p3.2
      rw [p2 (by omega)] at a2
      have hb1 : ((D i).ps.b) < wr.heap.size := World.block_lt_of_cell? _ _ v0
      have hb2 : ((D i).ps.b) ≠ wr.heap.size := by omega
      have ib0 : (0 : Int) ≤ (i : Int) := by omega
      have ib1 : (i : Int) < (ln : Int) := by omega
      have ib2 : (0 : Int) ≤ (k : Int) := by omega
      have ib3 : (k : Int) < ((D i).ps.n : Int) := by omega
      have fb := FB.out i hi HQ.out
      have HT := Lib.hid (FS.out i)
      clear LX FB FS p2 p3
      generalize (D i).ps.X k = x at *
      cases t0 : decide (9007199254740992 < f i + x)
      · have HQ2 := Lib.hid (Ba.allB_go (p := fun i => decide (f (i + 1) ≤ 9007199254740992)) HQ.out (decide_eq_true (by rw [HT.out]; have := of_decide_eq_false t0; omega)))
        clear HQ
        generalize f i = y at *
        generalize D i = d at *
        go_wp2_with fail
        go_roundw
        case rel => exact ⟨i + 1, by omega, by go_num, by (rw [HT.out]; try rfl), HQ2, gr_auto⟩
        case measure => simp [intOf]; omega
      · have HZ := Lib.hid (Ba.allB_stop (p := fun i => decide (f (i + 1) ≤ 9007199254740992)) hlt (decide_eq_false (by rw [HT.out]; have := of_decide_eq_true t0; omega)))
        have HE := Lib.hid (hno.out HZ.out)
        clear HQ HZ
        generalize f i = y at *
        generalize D i = d at *
        go_wp2_with fail
        go_ret2
        exact ⟨by (rw [HE.out.1, HE.out.2]; try rfl), gr_auto⟩
    · obtain rfl : i = ln := by omega
      have HE := Lib.hid (hok.out HQ.out)
      clear LX FB FS HQ
      go_wp2_with fail
      go_ret2
      exact ⟨by (rw [HE.out.1, HE.out.2]; try rfl), gr_auto⟩
theorem rthr_any (N : Ba.SlNode) (L : Ba.SlLink) (G : Ba.SlLedger) (t : ByteArray) (w : World) (hN : N.At w) (hL : L.At w) (hG : G.At w) : Calls Tryz.prog 11 #[Ba.netVal N L, .slice G.A G.n G.c, .string t] w (fun e w' => e = .returned (.tuple #[.int .i64 (Ba.thrV N L G t), .int .i64 (Ba.thrE N L G t)]) ∧ Gr w w') := by
  have HL := Lib.hid (fun W (hh : Gr w W) => rlisted_any N L G W (hN.gr hh) (hL.gr hh) (hG.gr hh))
  have HK := Lib.hid (fun W (hh : Gr w W) => show Calls Tryz.prog 29 #[Ba.netVal N L, .string t] W fun e w' => e = .returned (.int .i64 (Ba.lix L t)) ∧ Gr W w' from rfindlink_any L N.A N.n N.c t W (hL.gr hh))
  have hm := Nat.le_trans hG.hc hG.hb
  by_cases he : Ba.lstE N L G = 0
  rotate_left
  · have e : Ba.thrE N L G t = Ba.lstE N L G := by unfold Ba.thrE; rw [if_neg he]
    have v : Ba.thrV N L G t = 0 := by unfold Ba.thrV; rw [e, if_neg he]
    rw [v, e]
    exact rthr_e N.A L.A G.A N.n N.c L.n L.c G.n G.c t w _ he HL
  rw [he] at HL
  have hv : Ba.netB N L = true := by
    cases q : Ba.netB N L
    · unfold Ba.lstE at he; rw [if_pos q] at he; omega
    · rfl
  have hq : Ba.ledsB L G = true := by
    cases q : Ba.ledsB L G
    · unfold Ba.lstE at he; rw [if_neg (by rw [hv]; decide), if_pos q] at he; omega
    · rfl
  have e0 : Ba.thrE N L G t = if Ba.lix L t < 0 then 9 else if Ba.thrOk G (Ba.lix L t).toNat = true then 0 else 5 := by unfold Ba.thrE; rw [if_pos he]
  rcases Ba.lix_cases L t with hx | ⟨k, hk, hx, -, -⟩
  · have e : Ba.thrE N L G t = 9 := by rw [e0, if_pos (by omega)]
    have v : Ba.thrV N L G t = 0 := by unfold Ba.thrV; rw [e, if_neg (by decide)]
    rw [v, e]
    rw [hx] at HK
    exact rthr_n N.A L.A G.A N.n N.c L.n L.c G.n G.c t w _ (by decide) HL HK
  · rw [hx] at HK
    have hb := fun i (hi : i < G.n) => Ba.ledg_parts (Ba.allB_at hq hi)
    have ex : (Ba.lix L t).toNat = k := by rw [hx]; simp
    have ge : ∀ i, i ≤ G.n → 0 ≤ Ba.thrI G k i := fun i hi => by
      have := Ba.sumI_le (X := fun j => (G.D j).ps.X k) (lo := 0) (hi := 9007199254740992) (n := i) fun j hj => (hb j (by omega)).2.2.2 k (by omega)
      unfold Ba.thrI
      omega
    refine rthr_l N.A L.A G.A N.n N.c L.n L.c G.n G.c t w G.b G.o k G.D (Ba.thrI G k) _ _ hm (Lib.hid hG.hA) (Lib.hid fun i hi => ⟨(hG.hD i hi).1, by rw [(hb i hi).2.2.1]; exact hk, (hG.hD i hi).2.2.2.hA, ((hG.hD i hi).2.2.2.hX k (by rw [(hb i hi).2.2.1]; exact hk)).1, (hb i hi).2.2.2 k hk⟩) HL HK rfl (Lib.hid fun i => rfl) (Lib.hid fun i hi h => ⟨ge i hi, ?_⟩) (Lib.hid fun h => ?_) (Lib.hid fun h => ?_)
    · cases i with
      | zero => unfold Ba.thrI Ba.sumI; omega
      | succ i => exact of_decide_eq_true (Ba.allB_at h (Nat.lt_succ_self i))
    · have e : Ba.thrE N L G t = 5 := by rw [e0, if_neg (by omega), ex, if_neg (by unfold Ba.thrOk; rw [h]; decide)]
      exact ⟨by unfold Ba.thrV; rw [e, if_neg (by decide)], e⟩
    · have e : Ba.thrE N L G t = 0 := by rw [e0, if_neg (by omega), ex, if_pos (show Ba.thrOk G k = true from h)]
      exact ⟨by unfold Ba.thrV; rw [e, if_pos rfl, ex], e⟩
end Go.Proofs.YtkgbbcmgfbipaaaGreatDoor
