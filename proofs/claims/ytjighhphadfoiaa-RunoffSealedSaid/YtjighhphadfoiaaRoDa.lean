/-
  Runoff: Volume and Coefficient, and the reference's. (Printed by mkda.py.)
-/
import Derived.Test.YtjighhphadfoiaaRoXb
import Derived.Test.YtjighhphadfoiaaRoWe
import Derived.Test.YtjighhphadfoiaaRoSmB
set_option linter.unusedVariables false
set_option linter.unusedSimpArgs false
namespace Go.Proofs.Ytjighhphadfoiaa
open Go.RowKit
attribute [local go_sem ↓] Go.wp_at_zero Go.wp_at_succ

set_option maxRecDepth 100000 in
set_option maxHeartbeats 4000000 in
theorem vol_ok (a d : Int) (w : World) (ha : 0 ≤ a ∧ a ≤ 1073741824) (hd : 0 ≤ d ∧ d ≤ 4194304) : Calls Try.prog 33 #[.int .i64 a, .int .i64 d] w fun e w' => e = .returned (.tuple #[.int .i64 (a * d), .int .i64 0]) ∧ Gr w w' := by
  have HA := Lib.hid (fun W => gr_of (rwithin_any_ a 1073741824 W)); have HD := Lib.hid (fun W => gr_of (rwithin_any_ d 4194304 W))
  rw [(Ba.bet_iff _ _ _).2 ha] at HA
  rw [(Ba.bet_iff _ _ _).2 hd] at HD
  have m := Ba.mul_bd ha hd
  have m2 : -9223372036854775808 ≤ a * d ∧ a * d ≤ 9223372036854775807 := by omega
  go_enter Try.func33, Try.ntmps33
  go_wp2_with fail
  refine (HA.out _).mono ?_
  rintro e w1 ⟨rfl, hb1⟩
  go_wp2_with fail
  refine (HD.out _).mono ?_
  rintro e w2 ⟨rfl, hb2⟩
  clear HA HD
  go_wp2_with fail
  refine bodyPost_ret (by simp [results, Try.results33, go_sem]; try rfl) rfl ?_
  exact ⟨rfl, hb1.trans hb2⟩

set_option maxRecDepth 100000 in
set_option maxHeartbeats 4000000 in
theorem vol_no (a d : Int) (w : World) (h : ¬ ((0 ≤ a ∧ a ≤ 1073741824) ∧ (0 ≤ d ∧ d ≤ 4194304))) : Calls Try.prog 33 #[.int .i64 a, .int .i64 d] w fun e w' => e = .returned (.tuple #[.int .i64 0, .int .i64 2]) ∧ Gr w w' := by
  have HA := Lib.hid (fun W => gr_of (rwithin_any_ a 1073741824 W)); have HD := Lib.hid (fun W => gr_of (rwithin_any_ d 4194304 W))
  cases ta : Ba.bet a 0 1073741824
  · rw [ta] at HA
    clear h ta
    go_enter Try.func33, Try.ntmps33
    go_wp2_with fail
    refine (HA.out _).mono ?_
    rintro e w1 ⟨rfl, hb1⟩
    go_wp2_with fail
    refine bodyPost_ret (by simp [results, Try.results33, go_sem]; try rfl) rfl ?_
    exact ⟨rfl, hb1⟩
  · have ha := (Ba.bet_iff _ _ _).1 ta
    have td : Ba.bet d 0 4194304 = false := by
      cases td : Ba.bet d 0 4194304
      · rfl
      · exact absurd ⟨ha, (Ba.bet_iff _ _ _).1 td⟩ h
    rw [ta] at HA
    rw [td] at HD
    clear h ta ha td
    go_enter Try.func33, Try.ntmps33
    go_wp2_with fail
    refine (HA.out _).mono ?_
    rintro e w1 ⟨rfl, hb1⟩
    go_wp2_with fail
    refine (HD.out _).mono ?_
    rintro e w2 ⟨rfl, hb2⟩
    clear HA HD
    go_wp2_with fail
    refine bodyPost_ret (by simp [results, Try.results33, go_sem]; try rfl) rfl ?_
    exact ⟨rfl, hb1.trans hb2⟩

set_option maxRecDepth 100000 in
set_option maxHeartbeats 4000000 in
theorem wsum_any (A : Option Addr) (n c b oo : Nat) (X SM : Nat → Int) (w : World) (hn : n ≤ 100000) (HA : Hid (0 < n → A = some ⟨b, oo, none⟩)) (HX : Hid (∀ i, i < n → w.cell? ⟨b, oo + i, none⟩ = some (.int .i64 (X i)) ∧ 0 ≤ X i ∧ X i ≤ 1152921504606846976)) (HS0 : Hid (SM 0 = 0)) (HSS : Hid (∀ i, SM (i + 1) = SM i + X i)) (HB : Hid (∀ i, i ≤ n → 0 ≤ SM i ∧ SM i ≤ 1152921504606846976)) : Calls Try.prog 54 #[.slice A n c] w fun e w' => e = .returned (.int .i64 (SM n)) ∧ Gr w w' := by
  go_enter Try.func54, Try.ntmps54
  go_wp2_with fail
  go_loopw [3, 8] (fun v x wr => ∃ i : Nat, i ≤ n ∧ x = .int .i64 (i : Int) ∧ v = .int .i64 (SM i) ∧ Gr w wr) (fun _ x _ => n - (intOf x).toNat)
  case atStart => exact ⟨0, Nat.zero_le _, rfl, by rw [HS0.out], Gr.refl _⟩
  case round =>
    obtain ⟨i, hi, rfl, rfl, hg⟩ := hrel
    have t := HB.out i hi
    by_cases hlt : i < n
    · obtain rfl := HA.out (by omega)
      obtain ⟨a0, a1, a2⟩ := HX.out i hlt
      replace a0 := Gr.at hg a0
      have ib0 : (0 : Int) ≤ (i : Int) := by omega
      have ib1 : (i : Int) < (n : Int) := by omega
      have T := Lib.hid (HSS.out i)
      clear HX HB HSS HS0
      generalize SM i = s0 at *
      generalize X i = x at *
      have mx := Lib.hid (show max 0 x = x by omega)
      go_wp2_with fail
      go_roundw
      case rel => exact ⟨i + 1, by omega, by go_num, by rw [T.out, mx.out], gr_auto⟩
      case measure => simp [intOf]; omega
    · obtain rfl : n = i := by omega
      clear HX HB HSS
      go_wp2_with fail
      go_ret
      exact ⟨rfl, hg⟩

set_option maxRecDepth 100000 in
set_option maxHeartbeats 4000000 in
theorem coef_e (A A2 DA : Option Addr) (n c an ac dn dc : Nat) (fr st : Int) (ec : Int) (w : World) (hec : ec ≠ 0) (h1 : n ≤ c) (h2 : c ≤ 9223372036854775807) (h3 : an ≤ ac) (h4 : ac ≤ 9223372036854775807) (h5 : dn ≤ dc) (h6 : dc ≤ 9223372036854775807) (HD : Hid (∀ W, Gr w W → Calls Try.prog 12 #[.slice A n c, .slice A2 an ac, .agg #[.int .i64 fr, .int .i64 st, .slice DA dn dc]] W fun e w' => ∃ r : Ba.SlI, e = .returned (.tuple #[.slice r.A r.n r.c, .int .i64 ec]) ∧ Gr W w')) : Calls Try.prog 34 #[.slice A n c, .slice A2 an ac, .agg #[.int .i64 fr, .int .i64 st, .slice DA dn dc]] w fun e w' => e = .returned (.tuple #[.int .i64 0, .int .i64 ec]) ∧ Gr w w' := by
  have t0 : (ec != 0) = true := bne_iff_ne.2 hec
  clear hec
  go_enter Try.func34, Try.ntmps34
  go_wp2_with fail
  (first | refine name_world ?_ | refine (show (∀ W, W = _ → Calls _ _ _ W _) → Calls _ _ _ _ _ from fun h => h _ rfl) ?_); intro W1 hW1
  have g1 : Gr w W1 := by rw [hW1]; exact gr_auto
  have k1_0 : W1.cell? ⟨w.heap.size, 0, none⟩ = some (.int .i64 fr) := by rw [hW1]; first | (simp [go_sem, *]; done) | (refine Gr.at ?_ (by assumption); exact gr_auto)
  have b1_0 : w.heap.size < W1.heap.size := World.block_lt_of_cell? _ _ k1_0
  have k1_1 : W1.cell? ⟨w.heap.size, 1, none⟩ = some (.int .i64 st) := by rw [hW1]; first | (simp [go_sem, *]; done) | (refine Gr.at ?_ (by assumption); exact gr_auto)
  have k1_2 : W1.cell? ⟨w.heap.size, 2, none⟩ = some (.slice DA dn dc) := by rw [hW1]; first | (simp [go_sem, *]; done) | (refine Gr.at ?_ (by assumption); exact gr_auto)
  clear hW1
  refine (HD.out _ (by exact g1)).mono ?_
  rintro e w2 ⟨r, rfl, hb2⟩
  have g2 := g1.trans hb2
  clear HD
  go_wp2_with fail
  refine bodyPost_ret (by simp [results, Try.results34, go_sem]; try rfl) rfl ?_
  exact ⟨rfl, g2⟩

set_option maxRecDepth 100000 in
set_option maxHeartbeats 4000000 in
theorem coef_ok (A A2 DA : Option Addr) (n c an ac dn dc : Nat) (fr st : Int) (SA SD SS rt V E : Int) (w : World) (h1 : n ≤ c) (h2 : c ≤ 9223372036854775807) (h3 : an ≤ ac) (h4 : ac ≤ 9223372036854775807) (h5 : dn ≤ dc) (h6 : dc ≤ 9223372036854775807) (HD : Hid (∀ W, Gr w W → Calls Try.prog 12 #[.slice A n c, .slice A2 an ac, .agg #[.int .i64 fr, .int .i64 st, .slice DA dn dc]] W fun e w' => ∃ r : Ba.SlI, e = .returned (.tuple #[.slice r.A r.n r.c, .int .i64 0]) ∧ Hid (∀ W', Gr w' W' → Calls Try.prog 54 #[.slice r.A r.n r.c] W' fun e w2 => e = .returned (.int .i64 SS) ∧ Gr W' w2) ∧ Gr W w'))
    (HA : Hid (∀ W, Gr w W → Calls Try.prog 54 #[.slice A2 an ac] W fun e w' => e = .returned (.int .i64 SA) ∧ Gr W w')) (HS : Hid (∀ W, Gr w W → Calls Try.prog 54 #[.slice DA dn dc] W fun e w' => e = .returned (.int .i64 SD) ∧ Gr W w'))
    (b1 : 0 ≤ SA ∧ SA ≤ 1073741824) (b2 : 0 ≤ SD ∧ SD ≤ 1073741824) (b3 : 0 ≤ SS ∧ SS ≤ 1152921504606846976) (hrt : SA * SD = rt) (b4 : 0 ≤ rt ∧ rt ≤ 1152921504606846976) (hz : rt = 0 → V = 0 ∧ E = 16) (hp : rt ≠ 0 → E = 0)
    (pH pL : Int) (HP : Hid (∀ W, Calls Try.prog 62 #[.int .i64 1000, .int .i64 SS] W fun e w' => e = .returned (.tuple #[.agg #[.int .i64 pH, .int .i64 pL], .int .i64 0]) ∧ Gr W w')) (HF : Hid (rt ≠ 0 → ∀ W, Calls Try.prog 63 #[.agg #[.int .i64 pH, .int .i64 pL], .int .i64 rt] W fun e w' => e = .returned (.tuple #[.int .i64 V, .int .i64 0]) ∧ Gr W w')) : Calls Try.prog 34 #[.slice A n c, .slice A2 an ac, .agg #[.int .i64 fr, .int .i64 st, .slice DA dn dc]] w fun e w' => e = .returned (.tuple #[.int .i64 V, .int .i64 E]) ∧ Gr w w' := by
  replace hz := Lib.hid hz; replace hp := Lib.hid hp
  go_enter Try.func34, Try.ntmps34
  go_wp2_with fail
  (first | refine name_world ?_ | refine (show (∀ W, W = _ → Calls _ _ _ W _) → Calls _ _ _ _ _ from fun h => h _ rfl) ?_); intro W1 hW1
  have g1 : Gr w W1 := by rw [hW1]; exact gr_auto
  have k1_0 : W1.cell? ⟨w.heap.size, 0, none⟩ = some (.int .i64 fr) := by rw [hW1]; first | (simp [go_sem, *]; done) | (refine Gr.at ?_ (by assumption); exact gr_auto)
  have b1_0 : w.heap.size < W1.heap.size := World.block_lt_of_cell? _ _ k1_0
  have k1_1 : W1.cell? ⟨w.heap.size, 1, none⟩ = some (.int .i64 st) := by rw [hW1]; first | (simp [go_sem, *]; done) | (refine Gr.at ?_ (by assumption); exact gr_auto)
  have k1_2 : W1.cell? ⟨w.heap.size, 2, none⟩ = some (.slice DA dn dc) := by rw [hW1]; first | (simp [go_sem, *]; done) | (refine Gr.at ?_ (by assumption); exact gr_auto)
  clear hW1
  refine (HD.out _ (by exact g1)).mono ?_
  rintro e w2 ⟨r, rfl, HR, hb2⟩
  have g2 := g1.trans hb2
  have d0 := Gr.at hb2 k1_0; have d1 := Gr.at hb2 k1_1; have d2 := Gr.at hb2 k1_2
  clear HD k1_0 k1_1 k1_2
  go_wp2_with fail
  (first | refine name_world ?_ | refine (show (∀ W, W = _ → Calls _ _ _ W _) → Calls _ _ _ _ _ from fun h => h _ rfl) ?_); intro W3 hW3
  have g3 : Gr w W3 := by rw [hW3]; exact gr_auto
  have gb3_w2 : Gr w2 W3 := by (try clear g3); rw [hW3]; exact gr_auto
  have k3_0 : W3.cell? ⟨w.heap.size, 0, none⟩ = some (.int .i64 fr) := by rw [hW3]; first | (simp [go_sem, *]; done) | (refine Gr.at ?_ (by assumption); exact gr_auto)
  have b3_0 : w.heap.size < W3.heap.size := World.block_lt_of_cell? _ _ k3_0
  have k3_1 : W3.cell? ⟨w.heap.size, 1, none⟩ = some (.int .i64 st) := by rw [hW3]; first | (simp [go_sem, *]; done) | (refine Gr.at ?_ (by assumption); exact gr_auto)
  have k3_2 : W3.cell? ⟨w.heap.size, 2, none⟩ = some (.slice DA dn dc) := by rw [hW3]; first | (simp [go_sem, *]; done) | (refine Gr.at ?_ (by assumption); exact gr_auto)
  clear hW3
  have s3_0 : ∀ gw : GW W3, gw.1.cell? ⟨w.heap.size, 0, none⟩ = some (.int .i64 fr) := fun gw => Gr.at gw.2 k3_0
  have s3_1 : ∀ gw : GW W3, gw.1.cell? ⟨w.heap.size, 1, none⟩ = some (.int .i64 st) := fun gw => Gr.at gw.2 k3_1
  have s3_2 : ∀ gw : GW W3, gw.1.cell? ⟨w.heap.size, 2, none⟩ = some (.slice DA dn dc) := fun gw => Gr.at gw.2 k3_2
  have HS1 := Lib.hid (fun gw : GW W3 => gw_call (HA.out gw.1 (g3.trans gw.2)))
  have HS2 := Lib.hid (fun gw : GW W3 => gw_call (HS.out gw.1 (g3.trans gw.2)))
  refine wp_region_gr (by kernel_rfl) (by kernel_rfl) ?_
  repeat (go_big_quiet_step (first | (go_at_call 54; with_reducible exact HS1.out _) | (go_at_call 54; with_reducible exact HS2.out _)))
  refine wpQuiet_nil ?_
  intro w4 hb4
  clear s3_0 s3_1 s3_2
  have g4 : Gr w w4 := g3.trans hb4
  have k3_0 := Gr.at hb4 k3_0
  have k3_1 := Gr.at hb4 k3_1
  have k3_2 := Gr.at hb4 k3_2
  clear HS1 HS2 HA HS d0 d1 d2 k3_0 k3_1 k3_2
  have gx4 : Gr w2 w4 := gb3_w2.trans hb4
  by_cases h0 : rt = 0
  · obtain ⟨rfl, rfl⟩ := hz.out h0
    rw [h0] at hrt
    have ht : (SA * SD == 0) = true := by rw [hrt]; rfl
    clear HP HF HR
    go_wp2_with fail
    refine bodyPost_ret (by simp [results, Try.results34, go_sem]; try rfl) rfl ?_
    exact ⟨rfl, g4⟩
  · obtain rfl := hp.out h0
    have hz1 : (SA * SD == 0) = false := by rw [hrt]; exact beq_eq_false_iff_ne.2 h0
    have hb0 : -9223372036854775808 ≤ SA * SD ∧ SA * SD ≤ 9223372036854775807 := by rw [hrt]; omega
    rw [← hrt] at *
    clear hrt hz hp
    go_wp2_with fail
    refine (HR.out _ (by exact gx4)).mono ?_
    rintro e w5 ⟨rfl, hb5⟩
    have g5 := g4.trans hb5
    clear HR
    go_wp2_with fail
    refine (HP.out _).mono ?_
    rintro e w6 ⟨rfl, hb6⟩
    have g6 := g5.trans hb6
    clear HP
    go_wp2_with fail
    (first | refine name_world ?_ | refine (show (∀ W, W = _ → Calls _ _ _ W _) → Calls _ _ _ _ _ from fun h => h _ rfl) ?_); intro W7 hW7
    have g7 : Gr w W7 := by rw [hW7]; exact gr_auto
    have gb7_w6 : Gr w6 W7 := by (try clear g7); rw [hW7]; exact gr_auto
    have k7_0 : W7.cell? ⟨w6.heap.size, 0, none⟩ = some (.int .i64 pH) := by rw [hW7]; first | (simp [go_sem, *]; done) | (refine Gr.at ?_ (by assumption); exact gr_auto)
    have b7_0 : w6.heap.size < W7.heap.size := World.block_lt_of_cell? _ _ k7_0
    have k7_1 : W7.cell? ⟨w6.heap.size, 1, none⟩ = some (.int .i64 pL) := by rw [hW7]; first | (simp [go_sem, *]; done) | (refine Gr.at ?_ (by assumption); exact gr_auto)
    clear hW7
    refine (HF.out h0 _).mono ?_
    rintro e w8 ⟨rfl, hb8⟩
    have g8 := g7.trans hb8
    clear HF
    go_wp2_with fail
    refine bodyPost_ret (by simp [results, Try.results34, go_sem]; try rfl) rfl ?_
    exact ⟨rfl, gr_auto⟩

set_option maxRecDepth 100000 in
set_option maxHeartbeats 4000000 in
theorem rcoef_e (A A2 DA : Option Addr) (n c an ac dn dc : Nat) (fr st : Int) (ec : Int) (w : World) (hec : ec ≠ 0) (h1 : n ≤ c) (h2 : c ≤ 9223372036854775807) (h3 : an ≤ ac) (h4 : ac ≤ 9223372036854775807) (h5 : dn ≤ dc) (h6 : dc ≤ 9223372036854775807) (HD : Hid (∀ W, Gr w W → Calls Try.prog 35 #[.slice A n c, .slice A2 an ac, .agg #[.int .i64 fr, .int .i64 st, .slice DA dn dc]] W fun e w' => ∃ r : Ba.SlI, e = .returned (.tuple #[.slice r.A r.n r.c, .int .i64 ec]) ∧ Gr W w')) : Calls Try.prog 36 #[.slice A n c, .slice A2 an ac, .agg #[.int .i64 fr, .int .i64 st, .slice DA dn dc]] w fun e w' => e = .returned (.tuple #[.int .i64 0, .int .i64 ec]) ∧ Gr w w' := by
  have t0 : (ec != 0) = true := bne_iff_ne.2 hec
  clear hec
  go_enter Try.func36, Try.ntmps36
  go_wp2_with fail
  (first | refine name_world ?_ | refine (show (∀ W, W = _ → Calls _ _ _ W _) → Calls _ _ _ _ _ from fun h => h _ rfl) ?_); intro W1 hW1
  have g1 : Gr w W1 := by rw [hW1]; exact gr_auto
  have k1_0 : W1.cell? ⟨w.heap.size, 0, none⟩ = some (.int .i64 fr) := by rw [hW1]; first | (simp [go_sem, *]; done) | (refine Gr.at ?_ (by assumption); exact gr_auto)
  have b1_0 : w.heap.size < W1.heap.size := World.block_lt_of_cell? _ _ k1_0
  have k1_1 : W1.cell? ⟨w.heap.size, 1, none⟩ = some (.int .i64 st) := by rw [hW1]; first | (simp [go_sem, *]; done) | (refine Gr.at ?_ (by assumption); exact gr_auto)
  have k1_2 : W1.cell? ⟨w.heap.size, 2, none⟩ = some (.slice DA dn dc) := by rw [hW1]; first | (simp [go_sem, *]; done) | (refine Gr.at ?_ (by assumption); exact gr_auto)
  clear hW1
  refine (HD.out _ (by exact g1)).mono ?_
  rintro e w2 ⟨r, rfl, hb2⟩
  have g2 := g1.trans hb2
  clear HD
  go_wp2_with fail
  refine bodyPost_ret (by simp [results, Try.results36, go_sem]; try rfl) rfl ?_
  exact ⟨rfl, g2⟩

set_option maxRecDepth 100000 in
set_option maxHeartbeats 4000000 in
theorem rcoef_ok (A A2 DA : Option Addr) (n c an ac dn dc : Nat) (fr st : Int) (SA SD SS rt V E : Int) (w : World) (h1 : n ≤ c) (h2 : c ≤ 9223372036854775807) (h3 : an ≤ ac) (h4 : ac ≤ 9223372036854775807) (h5 : dn ≤ dc) (h6 : dc ≤ 9223372036854775807) (HD : Hid (∀ W, Gr w W → Calls Try.prog 35 #[.slice A n c, .slice A2 an ac, .agg #[.int .i64 fr, .int .i64 st, .slice DA dn dc]] W fun e w' => ∃ r : Ba.SlI, e = .returned (.tuple #[.slice r.A r.n r.c, .int .i64 0]) ∧ Hid (∀ W', Gr w' W' → Calls Try.prog 66 #[.slice r.A r.n r.c] W' fun e w2 => e = .returned (.int .i64 SS) ∧ Gr W' w2) ∧ Gr W w'))
    (HA : Hid (∀ W, Gr w W → Calls Try.prog 66 #[.slice A2 an ac] W fun e w' => e = .returned (.int .i64 SA) ∧ Gr W w')) (HS : Hid (∀ W, Gr w W → Calls Try.prog 67 #[.slice DA dn dc] W fun e w' => e = .returned (.int .i64 SD) ∧ Gr W w'))
    (b1 : 0 ≤ SA ∧ SA ≤ 1073741824) (b2 : 0 ≤ SD ∧ SD ≤ 1073741824) (b3 : 0 ≤ SS ∧ SS ≤ 1152921504606846976) (hrt : SA * SD = rt) (b4 : 0 ≤ rt ∧ rt ≤ 1152921504606846976) (hz : rt = 0 → V = 0 ∧ E = 16) (hp : rt ≠ 0 → E = 0)
    (HF : Hid (rt ≠ 0 → ∀ W, Calls Try.prog 68 #[.int .i64 SS, .int .i64 1000, .int .i64 rt] W fun e w' => e = .returned (.int .i64 V) ∧ Gr W w')) : Calls Try.prog 36 #[.slice A n c, .slice A2 an ac, .agg #[.int .i64 fr, .int .i64 st, .slice DA dn dc]] w fun e w' => e = .returned (.tuple #[.int .i64 V, .int .i64 E]) ∧ Gr w w' := by
  replace hz := Lib.hid hz; replace hp := Lib.hid hp
  go_enter Try.func36, Try.ntmps36
  go_wp2_with fail
  (first | refine name_world ?_ | refine (show (∀ W, W = _ → Calls _ _ _ W _) → Calls _ _ _ _ _ from fun h => h _ rfl) ?_); intro W1 hW1
  have g1 : Gr w W1 := by rw [hW1]; exact gr_auto
  have k1_0 : W1.cell? ⟨w.heap.size, 0, none⟩ = some (.int .i64 fr) := by rw [hW1]; first | (simp [go_sem, *]; done) | (refine Gr.at ?_ (by assumption); exact gr_auto)
  have b1_0 : w.heap.size < W1.heap.size := World.block_lt_of_cell? _ _ k1_0
  have k1_1 : W1.cell? ⟨w.heap.size, 1, none⟩ = some (.int .i64 st) := by rw [hW1]; first | (simp [go_sem, *]; done) | (refine Gr.at ?_ (by assumption); exact gr_auto)
  have k1_2 : W1.cell? ⟨w.heap.size, 2, none⟩ = some (.slice DA dn dc) := by rw [hW1]; first | (simp [go_sem, *]; done) | (refine Gr.at ?_ (by assumption); exact gr_auto)
  clear hW1
  refine (HD.out _ (by exact g1)).mono ?_
  rintro e w2 ⟨r, rfl, HR, hb2⟩
  have g2 := g1.trans hb2
  have d0 := Gr.at hb2 k1_0; have d1 := Gr.at hb2 k1_1; have d2 := Gr.at hb2 k1_2
  clear HD k1_0 k1_1 k1_2
  go_wp2_with fail
  (first | refine name_world ?_ | refine (show (∀ W, W = _ → Calls _ _ _ W _) → Calls _ _ _ _ _ from fun h => h _ rfl) ?_); intro W3 hW3
  have g3 : Gr w W3 := by rw [hW3]; exact gr_auto
  have gb3_w2 : Gr w2 W3 := by (try clear g3); rw [hW3]; exact gr_auto
  have k3_0 : W3.cell? ⟨w.heap.size, 0, none⟩ = some (.int .i64 fr) := by rw [hW3]; first | (simp [go_sem, *]; done) | (refine Gr.at ?_ (by assumption); exact gr_auto)
  have b3_0 : w.heap.size < W3.heap.size := World.block_lt_of_cell? _ _ k3_0
  have k3_1 : W3.cell? ⟨w.heap.size, 1, none⟩ = some (.int .i64 st) := by rw [hW3]; first | (simp [go_sem, *]; done) | (refine Gr.at ?_ (by assumption); exact gr_auto)
  have k3_2 : W3.cell? ⟨w.heap.size, 2, none⟩ = some (.slice DA dn dc) := by rw [hW3]; first | (simp [go_sem, *]; done) | (refine Gr.at ?_ (by assumption); exact gr_auto)
  clear hW3
  have s3_0 : ∀ gw : GW W3, gw.1.cell? ⟨w.heap.size, 0, none⟩ = some (.int .i64 fr) := fun gw => Gr.at gw.2 k3_0
  have s3_1 : ∀ gw : GW W3, gw.1.cell? ⟨w.heap.size, 1, none⟩ = some (.int .i64 st) := fun gw => Gr.at gw.2 k3_1
  have s3_2 : ∀ gw : GW W3, gw.1.cell? ⟨w.heap.size, 2, none⟩ = some (.slice DA dn dc) := fun gw => Gr.at gw.2 k3_2
  have HS1 := Lib.hid (fun gw : GW W3 => gw_call (HA.out gw.1 (g3.trans gw.2)))
  have HS2 := Lib.hid (fun gw : GW W3 => gw_call (HS.out gw.1 (g3.trans gw.2)))
  refine wp_region_gr (by kernel_rfl) (by kernel_rfl) ?_
  repeat (go_big_quiet_step (first | (go_at_call 66; with_reducible exact HS1.out _) | (go_at_call 67; with_reducible exact HS2.out _)))
  refine wpQuiet_nil ?_
  intro w4 hb4
  clear s3_0 s3_1 s3_2
  have g4 : Gr w w4 := g3.trans hb4
  have k3_0 := Gr.at hb4 k3_0
  have k3_1 := Gr.at hb4 k3_1
  have k3_2 := Gr.at hb4 k3_2
  clear HS1 HS2 HA HS d0 d1 d2 k3_0 k3_1 k3_2
  have gx4 : Gr w2 w4 := gb3_w2.trans hb4
  by_cases h0 : rt = 0
  · obtain ⟨rfl, rfl⟩ := hz.out h0
    rw [h0] at hrt
    have ht : (SA * SD == 0) = true := by rw [hrt]; rfl
    clear HF HR
    go_wp2_with fail
    refine bodyPost_ret (by simp [results, Try.results36, go_sem]; try rfl) rfl ?_
    exact ⟨rfl, g4⟩
  · obtain rfl := hp.out h0
    have hz1 : (SA * SD == 0) = false := by rw [hrt]; exact beq_eq_false_iff_ne.2 h0
    have hb0 : -9223372036854775808 ≤ SA * SD ∧ SA * SD ≤ 9223372036854775807 := by rw [hrt]; omega
    rw [← hrt] at *
    clear hrt hz hp
    go_wp2_with fail
    refine (HR.out _ (by exact gx4)).mono ?_
    rintro e w5 ⟨rfl, hb5⟩
    have g5 := g4.trans hb5
    clear HR
    go_wp2_with fail
    refine (HF.out h0 _).mono ?_
    rintro e w8 ⟨rfl, hb8⟩
    have g8 := g5.trans hb8
    clear HF
    go_wp2_with fail
    refine bodyPost_ret (by simp [results, Try.results36, go_sem]; try rfl) rfl ?_
    exact ⟨rfl, gr_auto⟩

set_option maxHeartbeats 2000000 in
theorem rfloorof_any (n m d q : Int) (w : World) (n0 : -9223372036854775808 ≤ n) (n1 : n ≤ 9223372036854775807) (m0 : -9223372036854775808 ≤ m) (m1 : m ≤ 9223372036854775807) (d0 : 0 < d) (d1 : d ≤ 9223372036854775807) (hq : n * m / d = q) (q0 : 0 ≤ q) (q1 : q ≤ 9223372036854775807) : Calls Try.prog 68 #[.int .i64 n, .int .i64 m, .int .i64 d] w fun e w' => e = .returned (.int .i64 q) ∧ Gr w w' := by
  have mb := Wd.mul_bound (Wd.mag_le n0 n1) (Wd.mag_le m0 m1)
  have ph : Wd.hi (n * m) ≤ 18446744073709551614 := by have := Wd.mag_nonneg (n * m); unfold Wd.hi; omega
  have bh : Wd.hi d ≤ 18446744073709551615 := by have h1 := Wd.mag_le (show -9223372036854775808 ≤ d by omega) d1; have h2 := Wd.mag_nonneg d; unfold Wd.hi; omega
  have HT := Lib.hid (fun W => rtimes_any n m W n0 n1 m0 m1)
  have HO := Lib.hid (fun W => rofint_any d W (by omega) d1)
  have HD := Lib.hid (fun W => rdown_any (n * m) d W ph bh (by omega))
  have eq : Wd.flr (n * m) d = q := by unfold Wd.flr; rw [if_pos d0]; exact hq
  have HI := Lib.hid (fun W => risint_any q W)
  have fq : Wd.fits q = true := by unfold Wd.fits; simp; omega
  rw [Wd.low_fits fq, fq] at HI
  rw [eq] at HD
  clear mb ph bh n0 n1 m0 m1 d0 d1 eq fq hq
  generalize n * m = p at *
  go_enter Try.func68, Try.ntmps68
  go_wp2_with fail
  refine (HT.out _).mono ?_
  rintro e w1 ⟨rfl, hb1⟩
  go_wp2_with fail
  refine (HO.out _).mono ?_
  rintro e w2 ⟨rfl, hb2⟩
  go_wp2_with fail
  refine (HD.out _).mono ?_
  rintro e w3 ⟨rfl, hb3⟩
  go_wp2_with fail
  refine (HI.out _).mono ?_
  rintro e w4 ⟨rfl, hb4⟩
  clear HT HO HD HI
  go_wp2_with fail
  go_ret
  exact ⟨rfl, hb1.trans (hb2.trans (hb3.trans hb4))⟩
namespace Ba
theorem offJ_le {C : SlClass} {a : SlI} {s : Ser} (R : Right C a s) {i j : Nat} (hi : i < C.n) (hj : j < s.ds.n) : 0 ≤ offJ C s i j ∧ offJ C s i j ≤ 1000 * dpt s j := ((R.fit hi j (by omega)).parts (R.dep hj)).2.2
theorem vol_sum {C : SlClass} {a : SlI} {s : Ser} (j : Nat) : vol C a s j = sumI (fun i => a.X i * offJ C s i j) C.n := rfl
theorem sumI_mono {X Y : Nat → Int} : ∀ n, (∀ i, i < n → X i ≤ Y i) → sumI X n ≤ sumI Y n
  | 0, _ => Int.le_refl _
  | n + 1, h => by
    rw [sumI, sumI]
    have := sumI_mono n fun i hi => h i (by omega)
    have := h n (by omega)
    omega
theorem vol_rain {C : SlClass} {a : SlI} {s : Ser} (R : Right C a s) {j : Nat} (hj : j < s.ds.n) : vol C a s j ≤ (1000 * sumI a.X C.n) * dpt s j := by
  rw [vol_sum]
  have e : sumI (fun i => (1000 * dpt s j) * a.X i) C.n = (1000 * dpt s j) * sumI a.X C.n := sumI_mul _ _ _
  have : sumI (fun i => a.X i * offJ C s i j) C.n ≤ sumI (fun i => (1000 * dpt s j) * a.X i) C.n := sumI_mono _ fun i hi => by
    rw [Int.mul_comm (1000 * dpt s j)]
    exact Int.mul_le_mul_of_nonneg_left (offJ_le R hi hj).2 (R.mtr i hi).1
  rw [e] at this
  calc _ ≤ _ := this
    _ = _ := by rw [Int.mul_assoc, Int.mul_assoc, Int.mul_comm (dpt s j)]
theorem Right.are {C : SlClass} {a : SlI} {s : Ser} (R : Right C a s) : sumP a.X a.n = sumI a.X C.n := by
  unfold sumP
  rw [R.n]
  exact sumI_congr fun i hi => by have := R.mtr i hi; omega
/-- At most the rain runs off. -/
theorem out_rain {C : SlClass} {a : SlI} {s : Ser} (R : Right C a s) : sumI (out C a s) s.ds.n ≤ sumI a.X C.n * sumP s.ds.X s.ds.n := by
  have h : sumI (vol C a s) s.ds.n ≤ sumI (fun j => (1000 * sumI a.X C.n) * dpt s j) s.ds.n := sumI_mono _ fun j hj => vol_rain R hj
  rw [sumI_mul, dpt_sum, Int.mul_assoc] at h
  rw [← out_quot]
  omega
/-- What Coefficient answers. -/
def cofE (C : SlClass) (a : SlI) (s : Ser) : Int := if depE C a s = 0 then if sumP a.X a.n * sumP s.ds.X s.ds.n = 0 then 16 else 0 else depE C a s
def cofV (C : SlClass) (a : SlI) (s : Ser) : Int := if depE C a s = 0 then if sumP a.X a.n * sumP s.ds.X s.ds.n = 0 then 0 else 1000 * sumI (out C a s) s.ds.n / (sumP a.X a.n * sumP s.ds.X s.ds.n) else 0
end Ba
namespace Ba
theorem sum_all {X : Nat → Int} {n : Nat} (h : ∀ i, i < n → 0 ≤ X i) : 0 ≤ sumI X n ∧ ∀ i, i ≤ n → 0 ≤ sumI X i ∧ sumI X i ≤ sumI X n := by
  have b : ∀ i, i ≤ n → 0 ≤ sumI X i ∧ sumI X i ≤ sumI X n := fun i hi => by
    have a := sumI_up (X := X) (n := n) (i := 0) h i (by omega)
    have b := sumI_up (X := X) (n := n) (i := i) h (n - i) (by omega)
    rw [Nat.zero_add] at a
    rw [show i + (n - i) = n by omega] at b
    exact ⟨by rw [show sumI X 0 = 0 from rfl] at a; exact a, b⟩
  exact ⟨(b n (Nat.le_refl _)).1, b⟩
end Ba
set_option maxRecDepth 100000 in
set_option maxHeartbeats 4000000 in
theorem coef_any (C : Ba.SlClass) (a : Ba.SlI) (s : Ba.Ser) (w : World) (hC : C.At w) (ha : a.At w) (hs : s.Ok w) : Calls Try.prog 34 #[.slice C.A C.n C.c, .slice a.A a.n a.c, s.val] w fun e w' => e = .returned (.tuple #[.int .i64 (Ba.cofV C a s), .int .i64 (Ba.cofE C a s)]) ∧ Gr w w' := by
  by_cases he : Ba.depE C a s = 0
  rotate_left
  · have e1 : Ba.cofV C a s = 0 := by unfold Ba.cofV; rw [if_neg he]
    have e2 : Ba.cofE C a s = Ba.depE C a s := by unfold Ba.cofE; rw [if_neg he]
    rw [e1, e2]
    exact coef_e C.A a.A s.ds.A C.n C.c a.n a.c s.ds.n s.ds.c s.fr s.st _ w he hC.hc hC.hb ha.hc ha.hb hs.2.2.hc hs.2.2.hb (Lib.hid fun W hW => (dep_any C a s W (hC.gr hW) (ha.gr hW) (hs.gr hW)).mono fun e w' ⟨r, h1, _, _, _, h5⟩ => ⟨r, h1, h5⟩)
  obtain ⟨R, O⟩ := Ba.dep_right he
  have hn := R.n
  have hdn : s.ds.n ≤ 10000 := (Ba.ser_parts R.ser).2.2.1
  have hare := R.are
  have ba : 0 ≤ Ba.sumI a.X C.n := (Ba.sumI_le (X := a.X) (lo := 0) (hi := 1073741824) (n := C.n) fun i hi => R.mtr i hi) |>.1 |> fun h => by omega
  have bs := R.sum
  have bd : 0 ≤ Ba.sumP s.ds.X s.ds.n := (Ba.sumP_le (X := s.ds.X) (n := s.ds.n) (hi := 4194304) (by omega) fun i hi => by have := (Ba.ser_parts R.ser).2.2.2 i hi; omega).1
  have br := R.rain
  have bo := Ba.sum_all (X := Ba.out C a s) (n := s.ds.n) fun j hj => (O j hj).1
  have bt := Ba.out_rain R
  have bp := Ba.mul_bd (a := Ba.sumI a.X C.n) (A := 1073741824) (b := Ba.sumP s.ds.X s.ds.n) (B := 1073741824) ⟨ba, bs⟩ ⟨bd, br⟩
  have hcV : Ba.cofV C a s = if Ba.sumI a.X C.n * Ba.sumP s.ds.X s.ds.n = 0 then 0 else 1000 * Ba.sumI (Ba.out C a s) s.ds.n / (Ba.sumI a.X C.n * Ba.sumP s.ds.X s.ds.n) := by unfold Ba.cofV; rw [if_pos he, hare]
  have hcE : Ba.cofE C a s = if Ba.sumI a.X C.n * Ba.sumP s.ds.X s.ds.n = 0 then 16 else 0 := by unfold Ba.cofE; rw [if_pos he, hare]
  rw [hcV, hcE]
  have HSA := Lib.hid (fun W (hW : Gr w W) => psum_any a W (ha.gr hW) (by have := R.few; omega) (fun i hi => (R.mtr i (by omega)).2))
  have HSD := Lib.hid (fun W (hW : Gr w W) => psum_any s.ds W (hs.gr hW).2.2 (by omega) (fun i hi => by have := (Ba.ser_parts R.ser).2.2.2 i hi; omega))
  have HDD := Lib.hid (fun W (hW : Gr w W) => dep_any C a s W (hC.gr hW) (ha.gr hW) (hs.gr hW))
  have HSR := Lib.hid (fun (r : Ba.SlI) W (h : r.At W) (h1 : r.n = s.ds.n) (h2 : ∀ j, j < s.ds.n → r.X j = Ba.out C a s j) => by
    have bo := Ba.sum_all (X := r.X) (n := r.n) fun j hj => by rw [h2 j (by omega)]; exact (O j (by omega)).1
    have e : Ba.sumI r.X r.n = Ba.sumI (Ba.out C a s) s.ds.n := by rw [h1]; exact Ba.sumI_congr h2
    have := wsum_any r.A r.n r.c r.b r.o r.X (fun i => Ba.sumI r.X i) W (by omega) (Lib.hid h.hA) (Lib.hid fun i hi => ⟨(h.hX i hi).1, by rw [h2 i (by omega)]; have := O i (by omega); omega⟩) (Lib.hid rfl) (Lib.hid fun _ => rfl) (Lib.hid fun i hi => by have := bo.2 i hi; rw [e] at this; omega)
    rw [e] at this
    exact this)
  rw [hare] at HSA
  unfold RetDep at HDD
  rw [he] at HDD
  have e3 : ∀ i, i < s.ds.n → 0 ≤ Ba.out C a s i := fun i hi => (O i hi).1
  generalize hSA : Ba.sumI a.X C.n = SA at *
  generalize hSD : Ba.sumP s.ds.X s.ds.n = SD at *
  generalize hSS : Ba.sumI (Ba.out C a s) s.ds.n = SS at *
  obtain ⟨rt, hrt⟩ : ∃ z, SA * SD = z := ⟨_, rfl⟩
  rw [hrt] at bt bp ⊢
  have q0 : rt ≠ 0 → 0 ≤ 1000 * SS / rt ∧ 1000 * SS / rt ≤ 1000 := fun h => ⟨Int.ediv_nonneg (by omega) (by omega), Int.ediv_le_of_le_mul (by omega) (by omega)⟩
  have hv := Wd.val_w (v := 1000 * SS) (by unfold Wd.has; simp; omega)
  have hw := Wd.wE_has (v := 1000 * SS) (by unfold Wd.has; simp; omega)
  refine coef_ok C.A a.A s.ds.A C.n C.c a.n a.c s.ds.n s.ds.c s.fr s.st SA SD SS rt _ _ w hC.hc hC.hb ha.hc ha.hb hs.2.2.hc hs.2.2.hb (Lib.hid fun W hW => (HDD.out W hW).mono fun e w' ⟨r, h1, h2, h3, _, h5⟩ => ⟨r, h1, Lib.hid fun W' hW' => HSR.out r W' (h2.gr hW') (h3 rfl).1 (h3 rfl).2, h5⟩) HSA HSD (by omega) (by omega) (by omega) hrt (by omega) (fun h => by rw [if_pos h, if_pos h]; exact ⟨rfl, rfl⟩) (fun h => by rw [if_neg h]) (Wd.wH (1000 * SS)) (Wd.wL (1000 * SS)) ?_ ?_
  · exact Lib.hid fun W => by
      have z := product_any 1000 SS W (by omega) (by omega) (by omega) (by omega)
      rw [hw] at z
      exact z
  · exact Lib.hid fun h W => by
      have z := floor_any (Wd.wH (1000 * SS)) (Wd.wL (1000 * SS)) rt W (by omega) (by omega)
      unfold Wd.dvQ Wd.dvE at z
      rw [if_pos hv.1, if_pos hv.1, if_neg h, if_neg h, hv.2] at z
      have e : Wd.rnd (1000 * SS) rt false = 1000 * SS / rt := by unfold Wd.rnd Wd.flr; rw [if_neg (by decide), if_pos (by omega)]
      have := q0 h
      obtain ⟨f1, f2⟩ := Wd.fits_true (q := 1000 * SS / rt) (by omega) (by omega)
      rw [e, f1, f2] at z
      rw [if_neg h]
      exact z
set_option maxRecDepth 100000 in
set_option maxHeartbeats 4000000 in
theorem rcoef_any (C : Ba.SlClass) (a : Ba.SlI) (s : Ba.Ser) (w : World) (hC : C.At w) (ha : a.At w) (hs : s.Ok w) : Calls Try.prog 36 #[.slice C.A C.n C.c, .slice a.A a.n a.c, s.val] w fun e w' => e = .returned (.tuple #[.int .i64 (Ba.cofV C a s), .int .i64 (Ba.cofE C a s)]) ∧ Gr w w' := by
  by_cases he : Ba.depE C a s = 0
  rotate_left
  · have e1 : Ba.cofV C a s = 0 := by unfold Ba.cofV; rw [if_neg he]
    have e2 : Ba.cofE C a s = Ba.depE C a s := by unfold Ba.cofE; rw [if_neg he]
    rw [e1, e2]
    exact rcoef_e C.A a.A s.ds.A C.n C.c a.n a.c s.ds.n s.ds.c s.fr s.st _ w he hC.hc hC.hb ha.hc ha.hb hs.2.2.hc hs.2.2.hb (Lib.hid fun W hW => (rdep_any C a s W (hC.gr hW) (ha.gr hW) (hs.gr hW)).mono fun e w' ⟨r, h1, _, _, _, h5⟩ => ⟨r, h1, h5⟩)
  obtain ⟨R, O⟩ := Ba.dep_right he
  have hn := R.n
  have hdn : s.ds.n ≤ 10000 := (Ba.ser_parts R.ser).2.2.1
  have hare := R.are
  have ba : 0 ≤ Ba.sumI a.X C.n := (Ba.sumI_le (X := a.X) (lo := 0) (hi := 1073741824) (n := C.n) fun i hi => R.mtr i hi) |>.1 |> fun h => by omega
  have bs := R.sum
  have bd : 0 ≤ Ba.sumP s.ds.X s.ds.n := (Ba.sumP_le (X := s.ds.X) (n := s.ds.n) (hi := 4194304) (by omega) fun i hi => by have := (Ba.ser_parts R.ser).2.2.2 i hi; omega).1
  have br := R.rain
  have bo := Ba.sum_all (X := Ba.out C a s) (n := s.ds.n) fun j hj => (O j hj).1
  have bt := Ba.out_rain R
  have bp := Ba.mul_bd (a := Ba.sumI a.X C.n) (A := 1073741824) (b := Ba.sumP s.ds.X s.ds.n) (B := 1073741824) ⟨ba, bs⟩ ⟨bd, br⟩
  have hcV : Ba.cofV C a s = if Ba.sumI a.X C.n * Ba.sumP s.ds.X s.ds.n = 0 then 0 else 1000 * Ba.sumI (Ba.out C a s) s.ds.n / (Ba.sumI a.X C.n * Ba.sumP s.ds.X s.ds.n) := by unfold Ba.cofV; rw [if_pos he, hare]
  have hcE : Ba.cofE C a s = if Ba.sumI a.X C.n * Ba.sumP s.ds.X s.ds.n = 0 then 16 else 0 := by unfold Ba.cofE; rw [if_pos he, hare]
  rw [hcV, hcE]
  have HSA := Lib.hid (fun W (hW : Gr w W) => by
    have bo := Ba.sum_all (X := a.X) (n := a.n) fun j hj => (R.mtr j (by omega)).1
    have := rsumof_any a W (ha.gr hW) (fun i hi => by have := bo.2 i hi; rw [show Ba.sumI a.X a.n = Ba.sumI a.X C.n by rw [hn]] at this; unfold Ba.i64; omega)
    rw [show Ba.sumI a.X a.n = Ba.sumI a.X C.n by rw [hn]] at this
    exact this)
  have HSD := Lib.hid (fun W (hW : Gr w W) => rsum_any s.ds W (hs.gr hW).2.2 (by omega) (fun i hi => by have := (Ba.ser_parts R.ser).2.2.2 i hi; omega))
  have HDD := Lib.hid (fun W (hW : Gr w W) => rdep_any C a s W (hC.gr hW) (ha.gr hW) (hs.gr hW))
  have HSR := Lib.hid (fun (r : Ba.SlI) W (h : r.At W) (h1 : r.n = s.ds.n) (h2 : ∀ j, j < s.ds.n → r.X j = Ba.out C a s j) => by
    have bo := Ba.sum_all (X := r.X) (n := r.n) fun j hj => by rw [h2 j (by omega)]; exact (O j (by omega)).1
    have e : Ba.sumI r.X r.n = Ba.sumI (Ba.out C a s) s.ds.n := by rw [h1]; exact Ba.sumI_congr h2
    have := rsumof_any r W h (fun i hi => by have := bo.2 i hi; rw [e] at this; unfold Ba.i64; omega)
    rw [e] at this
    exact this)
  
  unfold RetDep at HDD
  rw [he] at HDD
  have e3 : ∀ i, i < s.ds.n → 0 ≤ Ba.out C a s i := fun i hi => (O i hi).1
  generalize hSA : Ba.sumI a.X C.n = SA at *
  generalize hSD : Ba.sumP s.ds.X s.ds.n = SD at *
  generalize hSS : Ba.sumI (Ba.out C a s) s.ds.n = SS at *
  obtain ⟨rt, hrt⟩ : ∃ z, SA * SD = z := ⟨_, rfl⟩
  rw [hrt] at bt bp ⊢
  have q0 : rt ≠ 0 → 0 ≤ 1000 * SS / rt ∧ 1000 * SS / rt ≤ 1000 := fun h => ⟨Int.ediv_nonneg (by omega) (by omega), Int.ediv_le_of_le_mul (by omega) (by omega)⟩
  refine rcoef_ok C.A a.A s.ds.A C.n C.c a.n a.c s.ds.n s.ds.c s.fr s.st SA SD SS rt _ _ w hC.hc hC.hb ha.hc ha.hb hs.2.2.hc hs.2.2.hb (Lib.hid fun W hW => (HDD.out W hW).mono fun e w' ⟨r, h1, h2, h3, _, h5⟩ => ⟨r, h1, Lib.hid fun W' hW' => HSR.out r W' (h2.gr hW') (h3 rfl).1 (h3 rfl).2, h5⟩) HSA HSD (by omega) (by omega) (by omega) hrt (by omega) (fun h => by rw [if_pos h, if_pos h]; exact ⟨rfl, rfl⟩) (fun h => by rw [if_neg h]) ?_
  exact Lib.hid fun h W => by
    have := q0 h
    rw [if_neg h]
    exact rfloorof_any SS 1000 rt (1000 * SS / rt) W (by omega) (by omega) (by omega) (by omega) (by omega) (by omega) (by rw [Int.mul_comm]) (by omega) (by omega)
end Go.Proofs.Ytjighhphadfoiaa
