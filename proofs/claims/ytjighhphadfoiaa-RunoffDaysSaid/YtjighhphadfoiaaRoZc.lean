/-
  Law 25: RunoffDays, the main way.
-/
import Derived.Test.YtjighhphadfoiaaRoZb
set_option linter.unusedVariables false
set_option linter.unusedSimpArgs false
namespace Go.Proofs.Ytjighhphadfoiaa
open Go.RowKit
attribute [local go_sem ↓] Go.wp_at_zero Go.wp_at_succ
namespace Ba
theorem sum_in {X : Nat → Int} {n : Nat} (h : ∀ i, i < n → 0 ≤ X i) (i : Nat) (hi : i ≤ n) : 0 ≤ sumI X i ∧ sumI X i ≤ sumI X n := by
  have a := sumI_up (X := X) (n := n) (i := 0) h i (by omega)
  have b := sumI_up (X := X) (n := n) (i := i) h (n - i) (by omega)
  rw [Nat.zero_add] at a
  rw [show i + (n - i) = n by omega] at b
  exact ⟨by rw [show sumI X 0 = 0 from rfl] at a; exact a, b⟩
theorem dry_x {s x : SlI} {daily st : Int} {K : Nat} (hu : uniB s = true) (hd : 86400 % (s.n : Int) = 0) (h1 : 0 ≤ daily ∧ daily ≤ 1099511627776) (hK1 : 1 ≤ K ∧ K ≤ 24) (hks : (K : Int) * st = 86400) (hst : 1 ≤ st ∧ st ≤ 86400) (hn : x.n = 2 * K) (hx : ∀ i : Nat, i < 2 * K → x.X i = upI s.X daily s.n (((i + 1 : Nat) : Int) * st) - upI s.X daily s.n ((i : Int) * st)) : (∀ i, i < x.n → 0 ≤ x.X i) ∧ sumI x.X K = daily ∧ sumI x.X (2 * K) = 2 * daily := by
  have d0 := up_day hu hd h1 0; have d1 := up_day hu hd h1 1; have d2 := up_day hu hd h1 2
  rw [Int.zero_mul, Int.zero_mul] at d0
  refine ⟨fun i hi => ?_, ?_, ?_⟩
  · rw [hx i (by omega)]
    have b : ((i + 1 : Nat) : Int) * st ≤ 48 * 86400 := Int.mul_le_mul (by omega) hst.2 (by omega) (by omega)
    have := up_up hu hd h1 (t := (i : Int) * st) (q := ((i + 1 : Nat) : Int) * st) (Int.mul_nonneg (by omega) (by omega)) (Int.mul_le_mul_of_nonneg_right (by omega) (by omega)) (by omega)
    omega
  · rw [up_sum (U := upI s.X daily s.n) (st := st) K fun i hi => hx i (by omega), hks, d0]
    rw [show (1 : Int) * 86400 = 86400 by decide, Int.one_mul] at d1
    omega
  · rw [up_sum (U := upI s.X daily s.n) (st := st) (2 * K) fun i hi => hx i (by omega), d0]
    have e : ((2 * K : Nat) : Int) * st = 2 * 86400 := by rw [← hks]; push_cast; rw [Int.mul_assoc]
    rw [e, d2]
    omega
theorem dry_y {s y : SlI} {daily : Int} (hu : uniB s = true) (hd : 86400 % (s.n : Int) = 0) (h1 : 0 ≤ daily ∧ daily ≤ 1099511627776) (hx : ∀ i : Nat, i < 2 → y.X i = upI s.X daily s.n (((i + 1 : Nat) : Int) * 86400) - upI s.X daily s.n ((i : Int) * 86400)) : ∀ i, i < 2 → y.X i = daily := fun i hi => by
  rw [hx i hi, up_day hu hd h1, up_day hu hd h1, ← Int.sub_mul]
  push_cast
  rw [show (i : Int) + 1 - (i : Int) = 1 by omega, Int.one_mul]
theorem g3_at {w : World} {b : Nat} {x o y : Inflow} (h : x.Ok w ∧ o.Ok w ∧ y.Ok w) (c0 : w.cell? ⟨b, 0, none⟩ = some (.string x.nm)) (c1 : w.cell? ⟨b, 1, none⟩ = some (.slice x.vs.A x.vs.n x.vs.c)) (c2 : w.cell? ⟨b, 2, none⟩ = some (.string o.nm)) (c3 : w.cell? ⟨b, 3, none⟩ = some (.slice o.vs.A o.vs.n o.vs.c)) (c4 : w.cell? ⟨b, 4, none⟩ = some (.string y.nm)) (c5 : w.cell? ⟨b, 5, none⟩ = some (.slice y.vs.A y.vs.n y.vs.c)) : (G3 b x o y).At w := by
  refine ⟨fun _ => rfl, by simp [G3], by simp [G3], fun i hi => ?_⟩
  rcases (by simp [G3] at hi; omega : i = 0 ∨ i = 1 ∨ i = 2) with rfl | rfl | rfl
  · exact ⟨⟨by simpa [G3] using c0, by simpa [G3] using c1⟩, by simpa [G3] using h.1⟩
  · exact ⟨⟨by simpa [G3] using c2, by simpa [G3] using c3⟩, by simpa [G3] using h.2.1⟩
  · exact ⟨⟨by simpa [G3] using c4, by simpa [G3] using c5⟩, by simpa [G3] using h.2.2⟩
/-- What the law wants of the total and the sums. -/
theorem g3_tot {b : Nat} {x o y : Inflow} : (totE (G3 b x o y) = 0 ∧ infE (G3 b x o y) = 0 ∧ totV (G3 b x o y) = totI (G3 b x o y) 3 ∧ totI (G3 b x o y) 3 ≤ 1152921504606846976) ∨ (totV (G3 b x o y) = 0 ∧ (totE (G3 b x o y) = 1 ∨ totE (G3 b x o y) = 5)) := by
  by_cases e : totE (G3 b x o y) = 0
  · have v : totV (G3 b x o y) = totI (G3 b x o y) (G3 b x o y).n := by unfold totV; rw [if_pos e]
    have e0 := e
    unfold totE at e
    split at e
    · rename_i h
      split at e
      · rename_i h2
        exact .inl ⟨e0, h, v, h2⟩
      · omega
    · rename_i h; exact absurd e h
  · refine .inr ⟨by unfold totV; rw [if_neg e], ?_⟩
    unfold totE at e ⊢
    split
    · rename_i h
      rw [if_pos h] at e
      split
      · rename_i h2; rw [if_pos h2] at e; exact absurd rfl e
      · exact .inr rfl
    · rename_i h
      unfold infE at h ⊢
      rw [if_neg (by simp [G3])] at h ⊢
      split
      · exact .inl rfl
      · rename_i h2; rw [if_neg h2] at h; exact absurd rfl h
theorem g3_in {b : Nat} {x o y : Inflow} (hE : infE (G3 b x o y) = 0) : (∀ k, k < x.vs.n → 0 ≤ x.vs.X k) ∧ (∀ k, k < o.vs.n → 0 ≤ o.vs.X k) ∧ (∀ k, k < y.vs.n → 0 ≤ y.vs.X k) := by
  have z := fun i hi => (inf_vol ((inf_right hE).2 i hi)).2
  exact ⟨fun k hk => by have := z 0 (by simp [G3]); simp [G3] at this; exact (this k hk).1, fun k hk => by have := z 1 (by simp [G3]); simp [G3] at this; exact (this k hk).1, fun k hk => by have := z 2 (by simp [G3]); simp [G3] at this; exact (this k hk).1⟩
/-- The sums of the node: between 0 and the total. -/
theorem g3_sum {b : Nat} {x o y : Inflow} {nd : ByteArray} {r : SlI} (hE : infE (G3 b x o y) = 0) (hT : totI (G3 b x o y) 3 ≤ 1152921504606846976) (hx : x.nm = nd) (hy : y.nm = nd) (r1 : r.n = lnS (G3 b x o y) nd 3) (r2 : ∀ j, j < r.n → r.X j = vlS (G3 b x o y) nd 3 j) : sumI r.X r.n = totN (G3 b x o y) nd 3 ∧ (∀ i, i ≤ r.n → 0 ≤ sumI r.X i ∧ sumI r.X i ≤ 1152921504606846976) := by
  have e : sumI r.X r.n = totN (G3 b x o y) nd 3 := by
    rw [sumI_congr r2, r1]; exact vls_sum 3 _ (Nat.le_refl _)
  have nn : ∀ j, j < r.n → 0 ≤ r.X j := fun j hj => by rw [r2 j hj]; exact (vlS_le hE 3 (by simp [G3]) j).1
  obtain ⟨n1, n2, n3⟩ := g3_in hE
  have s1 := (sum_in n1 x.vs.n (Nat.le_refl _)).1; have s2 := (sum_in n2 o.vs.n (Nat.le_refl _)).1; have s3 := (sum_in n3 y.vs.n (Nat.le_refl _)).1
  have t := tot3 b x o y
  have u : totN (G3 b x o y) nd 3 ≤ 1152921504606846976 := by
    rw [totn3 hx hy]; split <;> omega
  refine ⟨e, fun i hi => ?_⟩
  have := sum_in nn i hi
  omega
end Ba
set_option maxRecDepth 100000 in
set_option maxHeartbeats 8000000 in
theorem days_ok (nd : ByteArray) (daily : Int) (s : Ba.SlI) (pt : Int) (d : Ba.Inflow) (K : Nat) (st : Int) (w : World) (hs : s.At w) (hm : nd.size ≤ 9223372036854775807) (hd : d.Ok w) (a1 : (nd.size : Int) ≤ 100) (a2 : (s.n : Int) ≤ 96) (a3 : (d.vs.n : Int) ≤ 100) (a4 : (d.nm.size : Int) ≤ 100) (hp : 0 ≤ pt ∧ pt ≤ 255) (hK : DaysK pt K) (hK1 : 1 ≤ K ∧ K ≤ 24) (hst : Hid (86400 / (K : Int) = st)) (hks : (K : Int) * st = 86400) (he : Ba.dryE nd daily st (2 * (K : Int)) s = 0) : Calls Try.prog 6 #[.string nd, .int .i64 daily, .slice s.A s.n s.c, .int .u8 pt, d.val] w fun e w' => e = .returned (.bool true) ∧ Gr w w' := by
  obtain ⟨hnm, hu, hdv, h1, h5, h6⟩ := dryE_ok he
  have HD1 := Lib.hid (fun W (hh : Gr w W) => dry_any nd s daily st (2 * K) W hm hnm (hs.gr hh) hu hdv h1 h5 (by omega))
  have HD2 := Lib.hid (fun W (hh : Gr w W) => dry_any nd s daily 86400 2 W hm hnm (hs.gr hh) hu hdv h1 (by omega) (by omega))
  unfold RetDry at HD1 HD2
  rw [show ((2 * K : Nat) : Int) = 2 * (K : Int) by push_cast; rfl, ← hst.out] at HD1
  have HXP := Lib.hid (fun (x : Ba.SlI) hn hx => Ba.dry_x (s := s) (x := x) (daily := daily) (st := 86400 / (K : Int)) (K := K) hu hdv h1 hK1 (by rw [hst.out]; exact hks) (by rw [hst.out]; exact h5) hn hx)
  have HYP := Lib.hid (fun (y : Ba.SlI) hy => Ba.dry_y (s := s) (y := y) (daily := daily) hu hdv h1 hy)
  have ms := Nat.le_trans hs.hc hs.hb
  have md := hd.1; have mv := Nat.le_trans hd.2.hc hd.2.hb
  have HD := Lib.hid hd
  clear hs he hst hd hks h5 h6 hdv hu hnm
  unfold Ba.Inflow.val
  unfold DaysK at hK
  obtain ⟨dn, ⟨dA, dl, dc, db, do', dX⟩⟩ := d
  simp only at *
  generalize Ba.upI s.X daily s.n = U at *
  generalize s.A = sA at *
  generalize s.n = sn at *
  generalize s.c = sc at *
  have k0 : (K : Int) ≠ 0 := by omega
  go_enter Try.func6, Try.ntmps6
  go_wp2_with fail
  (first | refine name_world ?_ | refine (show (∀ W, W = _ → Calls _ _ _ W _) → Calls _ _ _ _ _ from fun h => h _ rfl) ?_); intro W1 hW1
  have g1 : Gr w W1 := by rw [hW1]; exact gr_auto
  have k1_0 : W1.cell? ⟨w.heap.size, 0, none⟩ = some (.string dn) := by rw [hW1]; first | (simp [go_sem, *]; done) | (refine Gr.at ?_ (by assumption); exact gr_auto)
  have b1_0 : w.heap.size < W1.heap.size := World.block_lt_of_cell? _ _ k1_0
  have k1_1 : W1.cell? ⟨w.heap.size, 1, none⟩ = some (.slice dA dl dc) := by rw [hW1]; first | (simp [go_sem, *]; done) | (refine Gr.at ?_ (by assumption); exact gr_auto)
  clear hW1
  refine (awake_any _).mono ?_
  rintro e w2 ⟨rfl, hb2⟩
  have g2 := g1.trans hb2
  have d0 := Gr.at hb2 k1_0; have d1 := Gr.at hb2 k1_1
  clear k1_0 k1_1
  go_wp2_with fail
  (first | refine name_world ?_ | refine (show (∀ W, W = _ → Calls _ _ _ W _) → Calls _ _ _ _ _ from fun h => h _ rfl) ?_); intro W3 hW3
  have g3 : Gr w W3 := by rw [hW3]; exact gr_auto
  have gb3_w2 : Gr w2 W3 := by (try clear g3); rw [hW3]; exact gr_auto
  have k3_0 : W3.cell? ⟨w.heap.size, 0, none⟩ = some (.string dn) := by rw [hW3]; first | (simp [go_sem, *]; done) | (refine Gr.at ?_ (by assumption); exact gr_auto)
  have b3_0 : w.heap.size < W3.heap.size := World.block_lt_of_cell? _ _ k3_0
  have k3_1 : W3.cell? ⟨w.heap.size, 1, none⟩ = some (.slice dA dl dc) := by rw [hW3]; first | (simp [go_sem, *]; done) | (refine Gr.at ?_ (by assumption); exact gr_auto)
  clear hW3
  refine (HD1.out _ (by exact g3)).mono ?_
  rintro e w4 ⟨x, rfl, x1, x2, x3, hb4⟩
  have g4 := g3.trans hb4
  clear d0 d1
  have d0 := Gr.at hb4 k3_0; have d1 := Gr.at hb4 k3_1
  clear k3_0 k3_1 HD1
  obtain ⟨xp, xk, xs⟩ := HXP.out x x2 x3
  have XN := Lib.hid x2; have XP := Lib.hid xp; have XK := Lib.hid xk; have XS := Lib.hid xs; have XA := Lib.hid x1
  clear x1 x2 x3 xp xk xs HXP
  go_wp2_with fail
  (first | refine name_world ?_ | refine (show (∀ W, W = _ → Calls _ _ _ W _) → Calls _ _ _ _ _ from fun h => h _ rfl) ?_); intro W5 hW5
  have g5 : Gr w W5 := by rw [hW5]; exact gr_auto
  have gb5_w4 : Gr w4 W5 := by (try clear g5); rw [hW5]; exact gr_auto
  have k5_0 : W5.cell? ⟨w.heap.size, 0, none⟩ = some (.string dn) := by rw [hW5]; first | (simp [go_sem, *]; done) | (refine Gr.at ?_ (by assumption); exact gr_auto)
  have b5_0 : w.heap.size < W5.heap.size := World.block_lt_of_cell? _ _ k5_0
  have k5_1 : W5.cell? ⟨w.heap.size, 1, none⟩ = some (.slice dA dl dc) := by rw [hW5]; first | (simp [go_sem, *]; done) | (refine Gr.at ?_ (by assumption); exact gr_auto)
  have k5_2 : W5.cell? ⟨w4.heap.size, 0, none⟩ = some (.string nd) := by rw [hW5]; first | (simp [go_sem, *]; done) | (refine Gr.at ?_ (by assumption); exact gr_auto)
  have b5_2 : w4.heap.size < W5.heap.size := World.block_lt_of_cell? _ _ k5_2
  have k5_3 : W5.cell? ⟨w4.heap.size, 1, none⟩ = some (.slice x.A x.n x.c) := by rw [hW5]; first | (simp [go_sem, *]; done) | (refine Gr.at ?_ (by assumption); exact gr_auto)
  clear hW5
  refine (HD2.out _ (by exact g5)).mono ?_
  rintro e w6 ⟨y, rfl, y1, y2, y3, hb6⟩
  have g6 := g5.trans hb6
  clear d0 d1
  have d0 := Gr.at hb6 k5_0; have d1 := Gr.at hb6 k5_1; have e0 := Gr.at hb6 k5_2; have e1 := Gr.at hb6 k5_3
  clear k5_0 k5_1 k5_2 k5_3 HD2
  have yp := HYP.out y y3
  have YN := Lib.hid y2; have YA := Lib.hid y1; have YP := Lib.hid yp
  clear y1 y2 y3 yp HYP
  have xc1 := XA.out.hc; have xc2 := XA.out.hb; have xc3 := XA.out.hA (by have := XN.out; omega)
  have yc1 := YA.out.hc; have yc2 := YA.out.hb
  have xn := XN.out
  have hxn : (x.n : Int) = 2 * (K : Int) := by omega
  have hkc : K ≤ x.c := by omega
  go_wp2_with fail
  (first | refine name_world ?_ | refine (show (∀ W, W = _ → Calls _ _ _ W _) → Calls _ _ _ _ _ from fun h => h _ rfl) ?_); intro W7 hW7
  have g7 : Gr w W7 := by rw [hW7]; exact gr_auto
  have gb7_w6 : Gr w6 W7 := by (try clear g7); rw [hW7]; exact gr_auto
  have k7_0 : W7.cell? ⟨w.heap.size, 0, none⟩ = some (.string dn) := by rw [hW7]; first | (simp [go_sem, *]; done) | (refine Gr.at ?_ (by assumption); exact gr_auto)
  have b7_0 : w.heap.size < W7.heap.size := World.block_lt_of_cell? _ _ k7_0
  have k7_1 : W7.cell? ⟨w.heap.size, 1, none⟩ = some (.slice dA dl dc) := by rw [hW7]; first | (simp [go_sem, *]; done) | (refine Gr.at ?_ (by assumption); exact gr_auto)
  have k7_2 : W7.cell? ⟨w4.heap.size, 0, none⟩ = some (.string nd) := by rw [hW7]; first | (simp [go_sem, *]; done) | (refine Gr.at ?_ (by assumption); exact gr_auto)
  have b7_2 : w4.heap.size < W7.heap.size := World.block_lt_of_cell? _ _ k7_2
  have k7_3 : W7.cell? ⟨w4.heap.size, 1, none⟩ = some (.slice x.A x.n x.c) := by rw [hW7]; first | (simp [go_sem, *]; done) | (refine Gr.at ?_ (by assumption); exact gr_auto)
  have k7_4 : W7.cell? ⟨w6.heap.size, 0, none⟩ = some (.string nd) := by rw [hW7]; first | (simp [go_sem, *]; done) | (refine Gr.at ?_ (by assumption); exact gr_auto)
  have b7_4 : w6.heap.size < W7.heap.size := World.block_lt_of_cell? _ _ k7_4
  have k7_5 : W7.cell? ⟨w6.heap.size, 1, none⟩ = some (.slice y.A y.n y.c) := by rw [hW7]; first | (simp [go_sem, *]; done) | (refine Gr.at ?_ (by assumption); exact gr_auto)
  have k7_6 : W7.cell? ⟨w6.heap.size + 1, 0, none⟩ = some (.int .i64 daily) := by rw [hW7]; first | (simp [go_sem, *]; done) | (refine Gr.at ?_ (by assumption); exact gr_auto)
  have b7_6 : w6.heap.size + 1 < W7.heap.size := World.block_lt_of_cell? _ _ k7_6
  have k7_7 : W7.cell? ⟨w6.heap.size + 1, 1, none⟩ = some (.int .i64 daily) := by rw [hW7]; first | (simp [go_sem, *]; done) | (refine Gr.at ?_ (by assumption); exact gr_auto)
  clear hW7
  clear d0 d1 e0 e1
  have HC := Lib.hid (equal_any y ⟨some ⟨w6.heap.size + 1, 0, none⟩, 2, 2, w6.heap.size + 1, 0, fun _ => daily⟩ W7 (YA.out.gr gb7_w6) ⟨fun _ => rfl, by simp, by simp, fun i hi => by
    rcases (by simp at hi; omega : i = 0 ∨ i = 1) with rfl | rfl
    · exact ⟨by simpa using k7_6, by show Ba.i64 daily; unfold Ba.i64; omega⟩
    · exact ⟨by simpa using k7_7, by show Ba.i64 daily; unfold Ba.i64; omega⟩⟩)
  rw [Ba.eqI_of (a := y) (b := ⟨some ⟨w6.heap.size + 1, 0, none⟩, 2, 2, w6.heap.size + 1, 0, fun _ => daily⟩) YN.out (by intro i hi; exact YP.out i (by have := YN.out; omega))] at HC
  have HD8 := HC.out
  clear HC
  refine HD8.mono ?_
  clear HD8 k7_6 k7_7
  rintro e w8 ⟨rfl, hb8⟩
  have g8 := g7.trans hb8
  have d0 := Gr.at hb8 k7_0; have d1 := Gr.at hb8 k7_1; have e0 := Gr.at hb8 k7_2; have e1 := Gr.at hb8 k7_3; have f0 := Gr.at hb8 k7_4; have f1 := Gr.at hb8 k7_5
  clear k7_0 k7_1 k7_2 k7_3 k7_4 k7_5
  have gx8 : Gr w4 w8 := gb5_w4.trans (hb6.trans (gb7_w6.trans hb8))
  have gy8 : Gr w6 w8 := gb7_w6.trans hb8
  have HS1 := Lib.hid (fun W (hh : Gr w8 W) => lsum_any ⟨x.A, K, x.c, x.b, x.o, x.X⟩ W ⟨fun _ => XA.out.hA (by have := XN.out; omega), hkc, XA.out.hb, fun i hi => (XA.out.gr (gx8.trans hh)).hX i (by have := XN.out; simp at hi; omega)⟩ (fun i hi => by
    have := Ba.sum_in (n := K) (fun j hj => XP.out j (by have := XN.out; omega)) i hi
    have := XK.out
    unfold Ba.i64
    show -9223372036854775808 ≤ Ba.sumI x.X i ∧ Ba.sumI x.X i ≤ 9223372036854775807
    omega))
  have HS2 := Lib.hid (fun W (hh : Gr w8 W) => lsum_any x W (XA.out.gr (gx8.trans hh)) (fun i hi => by
    have := Ba.sum_in (n := x.n) XP.out i hi
    have := XS.out
    rw [XN.out] at *
    unfold Ba.i64
    omega))
  have HMN := Lib.hid (fun W (hh : Gr w8 W) => min_any x W (XA.out.gr (gx8.trans hh)) (by have := XN.out; omega) XP.out)
  simp only at HS1
  rw [XK.out] at HS1
  rw [show Ba.sumI x.X x.n = 2 * daily by rw [XN.out]; exact XS.out] at HS2
  clear xn
  rw [xc3] at HS1
  go_wp2_with fail
  refine (HS1.out _ (by exact Gr.refl _)).mono ?_
  rintro e w9 ⟨rfl, hb9⟩
  clear xc3
  have g9 := g8.trans hb9
  replace d0 := Gr.at hb9 d0; replace d1 := Gr.at hb9 d1; replace e0 := Gr.at hb9 e0; replace e1 := Gr.at hb9 e1; replace f0 := Gr.at hb9 f0; replace f1 := Gr.at hb9 f1
  go_wp2_with fail
  refine (HS2.out _ (by exact hb9)).mono ?_
  rintro e w10 ⟨rfl, hb10⟩
  have g10 := g9.trans hb10
  replace d0 := Gr.at hb10 d0; replace d1 := Gr.at hb10 d1; replace e0 := Gr.at hb10 e0; replace e1 := Gr.at hb10 e1; replace f0 := Gr.at hb10 f0; replace f1 := Gr.at hb10 f1
  go_wp2_with fail
  refine (HMN.out _ (by exact (hb9.trans hb10))).mono ?_
  rintro e w11 ⟨⟨v, rfl, hv⟩, hb11⟩
  have g11 := g10.trans hb11
  replace d0 := Gr.at hb11 d0; replace d1 := Gr.at hb11 d1; replace e0 := Gr.at hb11 e0; replace e1 := Gr.at hb11 e1; replace f0 := Gr.at hb11 f0; replace f1 := Gr.at hb11 f1
  have gx11 : Gr w4 w11 := gx8.trans (hb9.trans (hb10.trans hb11))
  have gy11 : Gr w6 w11 := gy8.trans (hb9.trans (hb10.trans hb11))
  clear HS1 HS2 HMN
  go_wp2_with fail
  (first | refine name_world ?_ | refine (show (∀ W, W = _ → Calls _ _ _ W _) → Calls _ _ _ _ _ from fun h => h _ rfl) ?_); intro W12 hW12
  have g12 : Gr w W12 := by rw [hW12]; exact gr_auto
  have gb12_w11 : Gr w11 W12 := by (try clear g12); rw [hW12]; exact gr_auto
  have k12_0 : W12.cell? ⟨w.heap.size, 0, none⟩ = some (.string dn) := by rw [hW12]; first | (simp [go_sem, *]; done) | (refine Gr.at ?_ (by assumption); exact gr_auto)
  have b12_0 : w.heap.size < W12.heap.size := World.block_lt_of_cell? _ _ k12_0
  have k12_1 : W12.cell? ⟨w.heap.size, 1, none⟩ = some (.slice dA dl dc) := by rw [hW12]; first | (simp [go_sem, *]; done) | (refine Gr.at ?_ (by assumption); exact gr_auto)
  have k12_2 : W12.cell? ⟨w11.heap.size, 0, none⟩ = some (.string nd) := by rw [hW12]; first | (simp [go_sem, *]; done) | (refine Gr.at ?_ (by assumption); exact gr_auto)
  have b12_2 : w11.heap.size < W12.heap.size := World.block_lt_of_cell? _ _ k12_2
  have k12_3 : W12.cell? ⟨w11.heap.size, 1, none⟩ = some (.slice x.A x.n x.c) := by rw [hW12]; first | (simp [go_sem, *]; done) | (refine Gr.at ?_ (by assumption); exact gr_auto)
  have k12_4 : W12.cell? ⟨w11.heap.size, 2, none⟩ = some (.string dn) := by rw [hW12]; first | (simp [go_sem, *]; done) | (refine Gr.at ?_ (by assumption); exact gr_auto)
  have k12_5 : W12.cell? ⟨w11.heap.size, 3, none⟩ = some (.slice dA dl dc) := by rw [hW12]; first | (simp [go_sem, *]; done) | (refine Gr.at ?_ (by assumption); exact gr_auto)
  have k12_6 : W12.cell? ⟨w11.heap.size, 4, none⟩ = some (.string nd) := by rw [hW12]; first | (simp [go_sem, *]; done) | (refine Gr.at ?_ (by assumption); exact gr_auto)
  have k12_7 : W12.cell? ⟨w11.heap.size, 5, none⟩ = some (.slice y.A y.n y.c) := by rw [hW12]; first | (simp [go_sem, *]; done) | (refine Gr.at ?_ (by assumption); exact gr_auto)
  clear hW12
  clear d0 d1 e0 e1 f0 f1
  have HGA : Hid ((Ba.G3 w11.heap.size ⟨nd, x⟩ ⟨dn, ⟨dA, dl, dc, db, do', dX⟩⟩ ⟨nd, y⟩).At W12) := Lib.hid (Ba.g3_at ⟨⟨hm, XA.out.gr (gx11.trans gb12_w11)⟩, HD.out.gr g12, ⟨hm, YA.out.gr (gy11.trans gb12_w11)⟩⟩ k12_2 k12_3 k12_4 k12_5 k12_6 k12_7)
  clear k12_2 k12_3 k12_4 k12_5 k12_6 k12_7
  have hG1 : (Ba.G3 w11.heap.size ⟨nd, x⟩ ⟨dn, ⟨dA, dl, dc, db, do', dX⟩⟩ ⟨nd, y⟩).A = some ⟨w11.heap.size, 0, none⟩ := rfl
  have hG2 : (Ba.G3 w11.heap.size ⟨nd, x⟩ ⟨dn, ⟨dA, dl, dc, db, do', dX⟩⟩ ⟨nd, y⟩).n = 3 := rfl
  have hG3 : (Ba.G3 w11.heap.size ⟨nd, x⟩ ⟨dn, ⟨dA, dl, dc, db, do', dX⟩⟩ ⟨nd, y⟩).c = 3 := rfl
  have HTT := Lib.hid (Ba.g3_tot (b := w11.heap.size) (x := ⟨nd, x⟩) (o := ⟨dn, ⟨dA, dl, dc, db, do', dX⟩⟩) (y := ⟨nd, y⟩))
  have HNX := Lib.hid (fun hE => Ba.sm3 (b := w11.heap.size) (x := ⟨nd, x⟩) (o := ⟨dn, ⟨dA, dl, dc, db, do', dX⟩⟩) (y := ⟨nd, y⟩) (nd := nd) rfl hE)
  have HNO := Lib.hid (fun hE ho => Ba.other3 (b := w11.heap.size) (x := ⟨nd, x⟩) (o := ⟨dn, ⟨dA, dl, dc, db, do', dX⟩⟩) (y := ⟨nd, y⟩) (nd := nd) rfl rfl ho hE)
  have HNS := Lib.hid (fun (r : Ba.SlI) hE hT => Ba.g3_sum (b := w11.heap.size) (x := ⟨nd, x⟩) (o := ⟨dn, ⟨dA, dl, dc, db, do', dX⟩⟩) (y := ⟨nd, y⟩) (nd := nd) (r := r) hE hT rfl rfl)
  have HNT := Lib.hid (Ba.totn3 (b := w11.heap.size) (x := ⟨nd, x⟩) (o := ⟨dn, ⟨dA, dl, dc, db, do', dX⟩⟩) (y := ⟨nd, y⟩) (nd := nd) rfl rfl)
  have HT3 := Lib.hid (Ba.tot3 w11.heap.size ⟨nd, x⟩ ⟨dn, ⟨dA, dl, dc, db, do', dX⟩⟩ ⟨nd, y⟩)
  have HNI := Lib.hid (fun hE => Ba.g3_in (b := w11.heap.size) (x := ⟨nd, x⟩) (o := ⟨dn, ⟨dA, dl, dc, db, do', dX⟩⟩) (y := ⟨nd, y⟩) hE)
  generalize Ba.G3 w11.heap.size ⟨nd, x⟩ ⟨dn, ⟨dA, dl, dc, db, do', dX⟩⟩ ⟨nd, y⟩ = G at *
  simp only at HNX HNO HNS HNT HT3 HNI
  have HT := Lib.hid (fun W (hh : Gr W12 W) => ptot_any G W (HGA.out.gr hh))
  have HS := Lib.hid (fun W (hh : Gr W12 W) => psum_any_ G nd W (HGA.out.gr hh))
  have HO := Lib.hid (fun W (hh : Gr W12 W) => psum_any_ G dn W (HGA.out.gr hh))
  rw [hG1, hG2, hG3] at HT HS HO
  unfold RetSum at HS HO
  rw [hG2] at HS HO
  have HDD := Lib.hid (HD.out.2.gr g12)
  clear hG1 hG2 hG3 HGA HD XA YA XP YP XN YN XK XS hxn hkc xc1 xc2 yc1 yc2
  rcases HTT.out with ⟨t1, t2, t3, t4⟩ | ⟨t1, t2⟩
  rotate_left
  · rw [t1] at HT
    generalize Ba.totE G = E at *
    clear HS HO HNX HNO HNS HNT HT3 HNI HTT HDD
    refine (HT.out _ (by exact Gr.refl _)).mono ?_
    rintro e w13 ⟨rfl, hb13⟩
    rcases t2 with rfl | rfl
    · go_wp2_with fail
      go_ret
      exact ⟨rfl, g12.trans hb13⟩
    · go_wp2_with fail
      go_ret
      exact ⟨rfl, g12.trans hb13⟩
  have HSR := Lib.hid (fun (r : Ba.SlI) => HNS.out r t2 t4)
  have HOR := Lib.hid (fun ho => HNO.out t2 ho)
  have HIR := Lib.hid (HNI.out t2)
  have z5 := HNX.out t2
  rw [t1, t3] at HT
  have HT4 := Lib.hid t4
  clear t1 t2 t3 t4 HNS HNO HNI HTT HNX
  refine (HT.out _ (by exact Gr.refl _)).mono ?_
  rintro e w13 ⟨rfl, hb13⟩
  clear HT
  have d0 := Gr.at hb13 k12_0; have d1 := Gr.at hb13 k12_1
  clear k12_0 k12_1
  have g13 := g12.trans hb13
  obtain ⟨TT, hTT⟩ : ∃ z, Ba.totI G 3 = z := ⟨_, rfl⟩
  rw [hTT] at HNT HT3 HT4 ⊢
  clear hTT
  rcases z5 with z5 | z5
  rotate_left
  · rw [z5] at HS
    clear HO HSR HOR HIR HNT HT3 HT4 HDD
    go_wp2_with fail
    refine (HS.out _ (by exact hb13)).mono ?_
    rintro e w14 ⟨r, rfl, -, -, r3, hb14⟩
    have rn := r3 (by decide)
    rw [rn]
    clear r3 rn HS
    go_wp2_with fail
    go_ret
    exact ⟨rfl, g13.trans hb14⟩
  rw [z5] at HS
  clear z5
  go_wp2_with fail
  refine (HS.out _ (by exact hb13)).mono ?_
  rintro e w14 ⟨r, rfl, r1, r2, -, hb14⟩
  obtain ⟨r3, r4⟩ := r2 (by trivial)
  obtain ⟨r5, r6⟩ := HSR.out r r3 r4
  have g14 := g13.trans hb14
  have rc1 := r1.hc; have rc2 := r1.hb
  replace d0 := Gr.at hb14 d0; replace d1 := Gr.at hb14 d1
  have HSS := Lib.hid (fun W (hh : Gr w14 W) => lsum_any r W (r1.gr hh) (fun i hi => by have := r6 i hi; unfold Ba.i64; omega))
  rw [r5] at HSS
  clear HS HSR r1 r2 r3 r4 r5 r6
  obtain ⟨TN, hTN⟩ : ∃ z, Ba.totN G nd 3 = z := ⟨_, rfl⟩
  rw [hTN] at HNT HSS
  clear hTN
  go_wp2_with fail
  refine (HSS.out _ (by exact Gr.refl _)).mono ?_
  rintro e w15 ⟨rfl, hb15⟩
  replace d0 := Gr.at hb15 d0; replace d1 := Gr.at hb15 d1
  have g15 := g14.trans hb15
  clear HSS
  cases ho : Ba.eqS dn nd
  rotate_left
  · have HN2 := HNT.out
    rw [ho, if_pos rfl] at HN2
    have hN : (dn.toList == nd.toList) = true := ho
    clear HO HOR HIR HNT HT3 HT4 HDD ho
    subst HN2
    go_wp2_with fail
    go_ret
    exact ⟨rfl, gr_auto⟩
  have HN2 := HNT.out
  rw [ho, if_neg (by decide)] at HN2
  obtain ⟨o1, o2, o3⟩ := HOR.out ho
  have hN : (dn.toList == nd.toList) = false := ho
  have i2 := Ba.sum_in HIR.out.2.1 dl (Nat.le_refl _)
  have o4 := HDD.out.hc; have o5 := HDD.out.hb
  have i1 := Ba.sum_in HIR.out.1 x.n (Nat.le_refl _); have i3 := Ba.sum_in HIR.out.2.2 y.n (Nat.le_refl _)
  have HIO := Lib.hid HIR.out.2.1
  have ht3 := HT3.out; have ht4 := HT4.out
  (try simp only at ht3 HN2 i1 i2 i3)
  obtain ⟨SX, hSX⟩ : ∃ z, Ba.sumI x.X x.n = z := ⟨_, rfl⟩
  obtain ⟨SY, hSY⟩ : ∃ z, Ba.sumI y.X y.n = z := ⟨_, rfl⟩
  obtain ⟨SO, hSO⟩ : ∃ z, Ba.sumI dX dl = z := ⟨_, rfl⟩
  rw [hSX, hSY] at HN2
  rw [hSX, hSY, hSO] at ht3
  rw [hSX] at i1; rw [hSO] at i2; rw [hSY] at i3
  clear hSX hSY
  have hso : TN + SO = TT := by rw [HN2, ht3]; omega
  have hs1 : 0 ≤ SO ∧ SO ≤ 1152921504606846976 := by omega
  have hs2 : 0 ≤ TN ∧ TN ≤ 1152921504606846976 := by omega
  have hs3 : 0 ≤ TT ∧ TT ≤ 1152921504606846976 := by omega
  rw [o1] at HO
  replace o2 := Lib.hid o2; replace o3 := Lib.hid o3; replace hSO := Lib.hid hSO
  clear HOR HIR HNT HT3 HT4 HN2 ht3 ht4 i1 i2 i3 ho o1
  go_wp2_with fail
  refine (HO.out _ (by exact hb13.trans (hb14.trans hb15))).mono ?_
  rintro e w16 ⟨q, rfl, q1, q2, -, hb16⟩
  obtain ⟨q3, q4⟩ := q2 (by trivial)
  rw [o2.out] at q3
  have hqX : ∀ i, i < q.n → q.X i = dX i := fun i hi => (q4 i hi).trans (o3.out i (by omega))
  have qs : Ba.sumI q.X q.n = SO := by rw [Ba.sumI_congr hqX, q3]; exact hSO.out
  have qn : ∀ i, i < q.n → 0 ≤ q.X i := fun i hi => by rw [hqX i hi]; exact HIO.out i (by first | omega | (simp; omega))
  have g16 := g15.trans hb16
  replace d0 := Gr.at hb16 d0; replace d1 := Gr.at hb16 d1
  have gz : Gr W12 w16 := hb13.trans (hb14.trans (hb15.trans hb16))
  have HEQ := Lib.hid (fun W (hh : Gr w16 W) => equal_any q ⟨dA, dl, dc, db, do', dX⟩ W (q1.gr hh) (HDD.out.gr (gz.trans hh)))
  rw [Ba.eqI_of (a := q) (b := ⟨dA, dl, dc, db, do', dX⟩) q3 hqX] at HEQ
  have HSO := Lib.hid (fun W (hh : Gr w16 W) => lsum_any q W (q1.gr hh) (fun i hi => by have := Ba.sum_in qn i hi; rw [qs] at this; unfold Ba.i64; omega))
  rw [qs] at HSO
  have qc1 := q1.hc; have qc2 := q1.hb
  clear HO q1 q2 q3 q4 hqX qs qn HIO o2 o3 hSO HDD
  go_wp2_with fail
  refine (HEQ.out _ (by exact Gr.refl _)).mono ?_
  rintro e w17 ⟨rfl, hb17⟩
  clear HEQ
  go_wp2_with fail
  refine (HSO.out _ (by exact hb17)).mono ?_
  rintro e w18 ⟨rfl, hb18⟩
  clear HSO
  have g18 := g16.trans (hb17.trans hb18)
  go_wp2_with fail
  go_ret
  exact ⟨rfl, gr_auto⟩
end Go.Proofs.Ytjighhphadfoiaa
