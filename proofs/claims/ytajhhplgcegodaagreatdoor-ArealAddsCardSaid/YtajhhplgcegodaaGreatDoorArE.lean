/-
  Areal: areal.given, areal.common. (Printed by mke.py.)
-/
import Derived.Test.YtajhhplgcegodaaGreatDoorArA
set_option linter.unusedVariables false
set_option linter.unusedSimpArgs false
namespace Go.Proofs.YtajhhplgcegodaaGreatDoor
open Go.RowKit
attribute [local go_sem ↓] Go.wp_at_zero Go.wp_at_succ
namespace Ba
/-- The error of records. -/
def giE (S : SlSer) : Int := if allB (fun i => serB (S.D i)) S.n = true then if 100 < S.n then 4 else if S.n = 0 then 14 else 0 else 1
/-- A record fits to the first one; the common beginning and end of the first records. -/
def ftB (S : SlSer) (i : Nat) : Bool := ((S.D i).st == (S.D 0).st) && (((S.D i).fr - (S.D 0).fr).tmod (S.D 0).st == 0)
def fitB (S : SlSer) : Bool := allB (ftB S) S.n
def frI (S : SlSer) : Nat → Int
  | 0 => (S.D 0).fr
  | i + 1 => max (frI S i) (S.D i).fr
def enI (S : SlSer) : Nat → Int
  | 0 => (S.D 0).fr + (S.D 0).st * (S.D 0).ds.n
  | i + 1 => min (enI S i) ((S.D i).fr + (S.D 0).st * (S.D i).ds.n)
theorem ser_nums {s : Ser} (h : serB s = true) : (-68719476736 ≤ s.fr ∧ s.fr ≤ 68719476736) ∧ (1 ≤ s.st ∧ s.st ≤ 86400) ∧ s.ds.n ≤ 10000 ∧ (-68719476736 ≤ s.fr + s.st * s.ds.n ∧ s.fr + s.st * s.ds.n ≤ 68719476736) ∧ ∀ i, i < s.ds.n → -1 ≤ s.ds.X i ∧ s.ds.X i ≤ 4194304 := by
  unfold serB at h
  simp only [Bool.and_eq_true, bet_iff, decide_eq_true_eq, allB_iff] at h
  exact ⟨h.1, h.2.1, h.2.2.1, h.2.2.2.1, fun i hi => (bet_iff _ _ _).1 (h.2.2.2.2 i hi)⟩
theorem gi_parts {S : SlSer} (h : giE S = 0) : 1 ≤ S.n ∧ S.n ≤ 100 ∧ ∀ i, i < S.n → serB (S.D i) = true := by
  unfold giE at h
  by_cases a : allB (fun i => serB (S.D i)) S.n = true
  · rw [if_pos a] at h
    by_cases b : 100 < S.n
    · rw [if_pos b] at h; omega
    · rw [if_neg b] at h
      by_cases c : S.n = 0
      · rw [if_pos c] at h; omega
      · exact ⟨by omega, by omega, allB_iff.1 a⟩
  · rw [if_neg a] at h; omega
theorem fr_bd {S : SlSer} (h : ∀ i, i < S.n → serB (S.D i) = true) (h1 : 1 ≤ S.n) : ∀ i, i ≤ S.n → -68719476736 ≤ frI S i ∧ frI S i ≤ 68719476736
  | 0, _ => by have := (ser_nums (h 0 h1)).1; rw [frI]; exact this
  | i + 1, hi => by
    have a := fr_bd h h1 i (by omega); have b := (ser_nums (h i (by omega))).1
    rw [frI]; omega
theorem en_bd {S : SlSer} (h : ∀ i, i < S.n → serB (S.D i) = true) (h1 : 1 ≤ S.n) : ∀ i, i ≤ S.n → (∀ k, k < i → (S.D k).st = (S.D 0).st) → -68719476736 ≤ enI S i ∧ enI S i ≤ 68719476736
  | 0, _, _ => by have := (ser_nums (h 0 h1)).2.2.2.1; rw [enI]; exact this
  | i + 1, hi, hs => by
    have a := en_bd h h1 i (by omega) (fun k hk => hs k (by omega)); have b := (ser_nums (h i (by omega))).2.2.2.1
    rw [hs i (by omega)] at b
    rw [enI]; omega
/-- The common steps. -/
def cmN (S : SlSer) : Int := (max 0 (enI S S.n - frI S S.n)) / (S.D 0).st
end Ba

set_option maxRecDepth 100000 in
set_option maxHeartbeats 4000000 in
theorem givf_any (s : Ba.Ser) (w : World) (h : s.Ok w) : Calls Tryz.prog 119 #[s.val] w fun e w' => e = .returned (.bool (!Ba.serB s)) ∧ Gr w w' := by
  have HV := Lib.hid (fun W (hh : Gr w W) => gvalid_any s W (h.gr hh))
  have hm := Nat.le_trans h.2.2.hc h.2.2.hb
  clear h
  generalize Ba.serB s = q at *
  unfold Ba.Ser.val at HV ⊢
  obtain ⟨fr, st, ⟨A, n, c, b, o, X⟩⟩ := s
  simp only at *
  go_enter Tryz.func119, Tryz.ntmps119
  go_wp2_with fail
  (first | refine name_world ?_ | refine (show (∀ W, W = _ → Calls _ _ _ W _) → Calls _ _ _ _ _ from fun h => h _ rfl) ?_); intro W1 hW1
  have g1 : Gr w W1 := by rw [hW1]; exact gr_auto
  have k1_0 : W1.cell? ⟨w.heap.size, 0, none⟩ = some (.int .i64 fr) := by rw [hW1]; first | (simp [go_sem, *]; done) | (refine Gr.at ?_ (by assumption); exact gr_auto)
  have b1_0 : w.heap.size < W1.heap.size := World.block_lt_of_cell? _ _ k1_0
  have k1_1 : W1.cell? ⟨w.heap.size, 1, none⟩ = some (.int .i64 st) := by rw [hW1]; first | (simp [go_sem, *]; done) | (refine Gr.at ?_ (by assumption); exact gr_auto)
  have k1_2 : W1.cell? ⟨w.heap.size, 2, none⟩ = some (.slice A n c) := by rw [hW1]; first | (simp [go_sem, *]; done) | (refine Gr.at ?_ (by assumption); exact gr_auto)
  clear hW1
  refine (HV.out _ g1).mono ?_
  rintro e w2 ⟨rfl, hb2⟩
  have g2 := g1.trans hb2
  clear HV
  go_wp2_with fail
  go_ret
  exact ⟨rfl, g2⟩

set_option maxRecDepth 100000 in
set_option maxHeartbeats 4000000 in
theorem giv_any (S : Ba.SlSer) (w : World) (h : S.At w) : Calls Tryz.prog 68 #[.slice S.A S.n S.c] w fun e w' => e = .returned (.int .i64 (Ba.giE S)) ∧ Gr w w' := by
  have HC := Lib.hid (fun W (hh : Gr w W) => has_ser 119 #[] S (fun i => !Ba.serB (S.D i)) W (h.gr hh) (enter_of Tryz.func119 (by kernel_rfl) (by kernel_rfl)) fun i hi W' hW => givf_any (S.D i) W' (((h.gr hh).hD i hi).2.gr hW))
  have e : Ba.any (fun i => !Ba.serB (S.D i)) S.n = !Ba.allB (fun i => Ba.serB (S.D i)) S.n := by rw [← Ba.any_not, Bool.not_not]
  rw [e] at HC
  have hm := Nat.le_trans h.hc h.hb
  clear e h
  unfold Ba.giE
  generalize Ba.allB (fun i => Ba.serB (S.D i)) S.n = q at *
  generalize S.A = A at *; generalize S.n = n at *; generalize S.c = c at *
  cases q
  · rw [if_neg (by decide)]
    go_enter Tryz.func68, Tryz.ntmps68
    go_wp2_with fail
    refine (HC.out _ (Gr.refl _)).mono ?_
    rintro e w1 ⟨rfl, hb1⟩
    clear HC
    go_wp2_with fail
    go_ret
    exact ⟨rfl, hb1⟩
  rw [if_pos rfl]
  by_cases h1 : 100 < n
  · have t1 : decide ((100 : Int) < (n : Int)) = true := decide_eq_true (by omega)
    rw [if_pos h1]
    clear h1
    go_enter Tryz.func68, Tryz.ntmps68
    go_wp2_with fail
    refine (HC.out _ (Gr.refl _)).mono ?_
    rintro e w1 ⟨rfl, hb1⟩
    clear HC
    go_wp2_with fail
    go_ret
    exact ⟨rfl, hb1⟩
  have t1 : decide ((100 : Int) < (n : Int)) = false := decide_eq_false (by omega)
  rw [if_neg h1]
  clear h1
  by_cases h2 : n = 0
  · have t2 : ((n : Int) == 0) = true := by rw [h2]; rfl
    rw [if_pos h2]
    clear h2
    go_enter Tryz.func68, Tryz.ntmps68
    go_wp2_with fail
    refine (HC.out _ (Gr.refl _)).mono ?_
    rintro e w1 ⟨rfl, hb1⟩
    clear HC
    go_wp2_with fail
    go_ret
    exact ⟨rfl, hb1⟩
  · have t2 : ((n : Int) == 0) = false := beq_eq_false_iff_ne.2 (by omega)
    rw [if_neg h2]
    clear h2
    go_enter Tryz.func68, Tryz.ntmps68
    go_wp2_with fail
    refine (HC.out _ (Gr.refl _)).mono ?_
    rintro e w1 ⟨rfl, hb1⟩
    clear HC
    go_wp2_with fail
    go_ret
    exact ⟨rfl, hb1⟩

set_option maxRecDepth 100000 in
set_option maxHeartbeats 4000000 in
theorem com_any (S : Ba.SlSer) (w : World) (h : S.At w) (hg0 : Ba.giE S = 0) : Calls Tryz.prog 70 #[.slice S.A S.n S.c] w fun e w' => e = .returned (.tuple #[.int .i64 (if Ba.fitB S = true then Ba.frI S S.n else 0), .int .i64 (if Ba.fitB S = true then Ba.cmN S else 0), .bool (Ba.fitB S)]) ∧ Gr w w' := by
  obtain ⟨n1, n2, hv⟩ := Ba.gi_parts hg0
  have hA := h.hA (by omega)
  have HD := Lib.hid h.hD; have hnc := h.hc; have hcb := h.hb
  have HFB := Lib.hid (Ba.fr_bd hv n1); have HEB := Lib.hid (Ba.en_bd hv n1)
  have HV := Lib.hid (fun i hi => Ba.ser_nums (hv i hi))
  have HF := Lib.hid (fun i => show Ba.frI S (i + 1) = max (Ba.frI S i) (S.D i).fr from rfl)
  have HE := Lib.hid (fun i => show Ba.enI S (i + 1) = min (Ba.enI S i) ((S.D i).fr + (S.D 0).st * (S.D i).ds.n) from rfl)
  have HF0 := Lib.hid (show Ba.frI S 0 = (S.D 0).fr from rfl); have HE0 := Lib.hid (show Ba.enI S 0 = (S.D 0).fr + (S.D 0).st * (S.D 0).ds.n from rfl)
  have HT := Lib.hid (fun i => show Ba.ftB S i = (((S.D i).st == (S.D 0).st) && (((S.D i).fr - (S.D 0).fr).tmod (S.D 0).st == 0)) from rfl)
  unfold Ba.fitB Ba.cmN
  clear hg0 hv h
  rw [hA]
  generalize Ba.frI S = fr at *
  generalize Ba.enI S = en at *
  generalize Ba.ftB S = ft at *
  clear hA
  obtain ⟨A, n, c, b, o, D⟩ := S
  simp only at *
  clear A
  obtain ⟨z0, z1, z2⟩ := (HD.out 0 (by omega)).1
  rw [Nat.zero_mul, Nat.add_zero] at z0 z1 z2
  have v0 := HV.out 0 (by omega)
  have ez1 : ((D 0).st == 0) = false := beq_eq_false_iff_ne.2 (by omega)
  have ez2 : (D 0).st ≠ 0 := by omega
  obtain ⟨vf, vs, vn, ve, -⟩ := v0
  obtain ⟨d0, hd0⟩ : ∃ z, D 0 = z := ⟨_, rfl⟩
  rw [hd0] at z0 z1 z2 vf vs vn ve ez1 ez2 HE HF0 HE0 HT HEB ⊢
  have Hd0 := Lib.hid hd0
  clear hd0
  obtain ⟨p0, hp0⟩ : ∃ z, d0.st * (d0.ds.n : Int) = z := ⟨_, rfl⟩
  have Hp0 := Lib.hid hp0
  have pb : -9223372036854775808 ≤ d0.st * (d0.ds.n : Int) ∧ d0.st * (d0.ds.n : Int) ≤ 9223372036854775807 := by omega
  clear hp0
  have nb0 : (0 : Int) < (n : Int) := by omega
  have nb1 : 0 < n := by omega
  obtain ⟨vF, hvF⟩ : ∃ z, (if Ba.allB ft n = true then fr n else 0) = z := ⟨_, rfl⟩
  obtain ⟨vN, hvN⟩ : ∃ z, (if Ba.allB ft n = true then (max 0 (en n - fr n)) / d0.st else 0) = z := ⟨_, rfl⟩
  obtain ⟨vB, hvB⟩ : ∃ z, Ba.allB ft n = z := ⟨_, rfl⟩
  rw [hvF, hvN, hvB]
  have HR1 := Lib.hid (fun (h : Ba.allB ft n = true) => show vF = fr n ∧ vN = (max 0 (en n - fr n)) / d0.st ∧ vB = true from ⟨by rw [← hvF, if_pos h], by rw [← hvN, if_pos h], by rw [← hvB, h]⟩)
  have HR0 := Lib.hid (fun (h : Ba.allB ft n = false) => show vF = 0 ∧ vN = 0 ∧ vB = false from ⟨by rw [← hvF, h]; rfl, by rw [← hvN, h]; rfl, by rw [← hvB, h]⟩)
  clear hvF hvN hvB
  have co0 : Gr w w := Gr.refl w
  go_enter Tryz.func70, Tryz.ntmps70
  go_wp2_with fail
  -- @a
  go_loopw [2, 6, 28] (fun f e x wr => ∃ i : Nat, i ≤ n ∧ x = .int .i64 (i : Int) ∧ f = .int .i64 (fr i) ∧ e = .int .i64 (en i) ∧ Hid (Ba.allB ft i = true) ∧ Gr w wr) (fun _ _ x _ => n - (intOf x).toNat)
  case atStart => exact ⟨0, Nat.zero_le _, rfl, by rw [HF0.out], by rw [HE0.out], Lib.hid rfl, Gr.refl _⟩
  case round =>
    obtain ⟨i, hi, rfl, rfl, rfl, HQ, hg⟩ := hrel
    replace z0 := Gr.at hg z0; replace z1 := Gr.at hg z1; replace z2 := Gr.at hg z2
    have hst : ∀ k, k < i → (D k).st = d0.st := fun k hk => by
      have := Ba.allB_at HQ.out hk
      rw [HT.out k, Bool.and_eq_true, beq_iff_eq] at this
      exact this.1
    have fb := HFB.out i hi; have eb := HEB.out i hi hst
    by_cases hlt : i < n
    · obtain ⟨a0, a1, a2⟩ := (HD.out i hlt).1.gr hg
      obtain ⟨wf, ws, wn, we, -⟩ := HV.out i hlt
      have Fn := Lib.hid (HF.out i); have En := Lib.hid (HE.out i); have Tn := Lib.hid (HT.out i)
      have fbn := HFB.out (i + 1) hlt
      have ebn := Lib.hid (fun hs => HEB.out (i + 1) hlt hs)
      have HQs := Lib.hid (fun (h : ft i = true) => Ba.allB_go HQ.out h); have HQn := Lib.hid (fun (h : ft i = false) => Ba.allB_stop (n := n) hlt h)
      have ib0 : (0 : Int) ≤ (i : Int) := by omega
      have ib1 : (i : Int) < (n : Int) := by omega
      clear HF HE HT HFB HEB HV HD HQ HF0 HE0 Hd0 Hp0 hst
      generalize D i = d at *
      have sb : -137438953472 ≤ d.fr - d0.fr ∧ d.fr - d0.fr ≤ 137438953472 := by omega
      cases t0 : (d.st == d0.st)
      · have HQm := Lib.hid (HQn.out (by rw [Tn.out, t0]; rfl))
        have t0b : (d.st != d0.st) = true := by simp only [bne, t0, Bool.not_false]
        clear HQn HQs Fn En Tn ebn t0
        go_wp2_with fail
        (first | refine name_world ?_ | refine (show (∀ W, W = _ → Calls _ _ _ W _) → Calls _ _ _ _ _ from fun h => h _ rfl) ?_); intro W3 hW3
        have g3 : Gr w W3 := by rw [hW3]; exact gr_auto
        have gb3_wr : Gr wr W3 := by (try clear g3); rw [hW3]; exact gr_auto
        have k3_0 : W3.cell? ⟨wr.heap.size, 0, none⟩ = some (.int .i64 d.fr) := by rw [hW3]; first | (simp [go_sem, *]; done) | (refine Gr.at ?_ (by assumption); exact gr_auto)
        have b3_0 : wr.heap.size < W3.heap.size := World.block_lt_of_cell? _ _ k3_0
        have k3_1 : W3.cell? ⟨wr.heap.size, 1, none⟩ = some (.int .i64 d.st) := by rw [hW3]; first | (simp [go_sem, *]; done) | (refine Gr.at ?_ (by assumption); exact gr_auto)
        have k3_2 : W3.cell? ⟨wr.heap.size, 2, none⟩ = some (.slice d.ds.A d.ds.n d.ds.c) := by rw [hW3]; first | (simp [go_sem, *]; done) | (refine Gr.at ?_ (by assumption); exact gr_auto)
        have k3_3 : W3.cell? ⟨b, o, none⟩ = some (.int .i64 d0.fr) := by rw [hW3]; first | (simp [go_sem, *]; done) | (refine Gr.at ?_ (by assumption); exact gr_auto)
        have b3_3 : b < W3.heap.size := World.block_lt_of_cell? _ _ k3_3
        have k3_4 : W3.cell? ⟨b, o + 1, none⟩ = some (.int .i64 d0.st) := by rw [hW3]; first | (simp [go_sem, *]; done) | (refine Gr.at ?_ (by assumption); exact gr_auto)
        clear hW3
        have s3_0 : ∀ gw : GW W3, gw.1.cell? ⟨wr.heap.size, 0, none⟩ = some (.int .i64 d.fr) := fun gw => Gr.at gw.2 k3_0
        have s3_1 : ∀ gw : GW W3, gw.1.cell? ⟨wr.heap.size, 1, none⟩ = some (.int .i64 d.st) := fun gw => Gr.at gw.2 k3_1
        have s3_2 : ∀ gw : GW W3, gw.1.cell? ⟨wr.heap.size, 2, none⟩ = some (.slice d.ds.A d.ds.n d.ds.c) := fun gw => Gr.at gw.2 k3_2
        have s3_3 : ∀ gw : GW W3, gw.1.cell? ⟨b, o, none⟩ = some (.int .i64 d0.fr) := fun gw => Gr.at gw.2 k3_3
        have s3_4 : ∀ gw : GW W3, gw.1.cell? ⟨b, o + 1, none⟩ = some (.int .i64 d0.st) := fun gw => Gr.at gw.2 k3_4
        have hnn := Nat.le_refl 0
        refine wp_region_gr (by kernel_rfl) (by kernel_rfl) ?_
        repeat (go_big_quiet_step (skip))
        refine wpQuiet_nil ?_
        intro w4 hb4
        clear s3_0 s3_1 s3_2 s3_3 s3_4
        have g4 : Gr w w4 := g3.trans hb4
        have k3_0 := Gr.at hb4 k3_0
        have k3_1 := Gr.at hb4 k3_1
        have k3_2 := Gr.at hb4 k3_2
        have k3_3 := Gr.at hb4 k3_3
        have k3_4 := Gr.at hb4 k3_4
        go_wp2_with fail
        refine bodyPost_ret (by simp [results, Tryz.results70, go_sem]; try rfl) rfl ?_
        obtain ⟨r1, r2, r3⟩ := HR0.out HQm.out
        exact ⟨by rw [r1, r2, r3], hg.trans (gb3_wr.trans hb4)⟩
      have t0b : (d.st != d0.st) = false := by simp only [bne, t0, Bool.not_true]
      have t0c : d.st = d0.st := beq_iff_eq.1 t0
      cases t1 : ((d.fr - d0.fr).tmod d0.st == 0)
      · have HQm := Lib.hid (HQn.out (by rw [Tn.out, t0, t1]; rfl))
        have t1b : ((d.fr - d0.fr).tmod d0.st != 0) = true := by simp only [bne, t1, Bool.not_false]
        clear HQn HQs Fn En Tn ebn t0 t1
        replace t0c := Lib.hid t0c
        go_wp2_with fail
        (first | refine name_world ?_ | refine (show (∀ W, W = _ → Calls _ _ _ W _) → Calls _ _ _ _ _ from fun h => h _ rfl) ?_); intro W3 hW3
        have g3 : Gr w W3 := by rw [hW3]; exact gr_auto
        have gb3_wr : Gr wr W3 := by (try clear g3); rw [hW3]; exact gr_auto
        have k3_0 : W3.cell? ⟨wr.heap.size, 0, none⟩ = some (.int .i64 d.fr) := by rw [hW3]; first | (simp [go_sem, *]; done) | (refine Gr.at ?_ (by assumption); exact gr_auto)
        have b3_0 : wr.heap.size < W3.heap.size := World.block_lt_of_cell? _ _ k3_0
        have k3_1 : W3.cell? ⟨wr.heap.size, 1, none⟩ = some (.int .i64 d.st) := by rw [hW3]; first | (simp [go_sem, *]; done) | (refine Gr.at ?_ (by assumption); exact gr_auto)
        have k3_2 : W3.cell? ⟨wr.heap.size, 2, none⟩ = some (.slice d.ds.A d.ds.n d.ds.c) := by rw [hW3]; first | (simp [go_sem, *]; done) | (refine Gr.at ?_ (by assumption); exact gr_auto)
        have k3_3 : W3.cell? ⟨b, o, none⟩ = some (.int .i64 d0.fr) := by rw [hW3]; first | (simp [go_sem, *]; done) | (refine Gr.at ?_ (by assumption); exact gr_auto)
        have b3_3 : b < W3.heap.size := World.block_lt_of_cell? _ _ k3_3
        have k3_4 : W3.cell? ⟨b, o + 1, none⟩ = some (.int .i64 d0.st) := by rw [hW3]; first | (simp [go_sem, *]; done) | (refine Gr.at ?_ (by assumption); exact gr_auto)
        clear hW3
        have s3_0 : ∀ gw : GW W3, gw.1.cell? ⟨wr.heap.size, 0, none⟩ = some (.int .i64 d.fr) := fun gw => Gr.at gw.2 k3_0
        have s3_1 : ∀ gw : GW W3, gw.1.cell? ⟨wr.heap.size, 1, none⟩ = some (.int .i64 d.st) := fun gw => Gr.at gw.2 k3_1
        have s3_2 : ∀ gw : GW W3, gw.1.cell? ⟨wr.heap.size, 2, none⟩ = some (.slice d.ds.A d.ds.n d.ds.c) := fun gw => Gr.at gw.2 k3_2
        have s3_3 : ∀ gw : GW W3, gw.1.cell? ⟨b, o, none⟩ = some (.int .i64 d0.fr) := fun gw => Gr.at gw.2 k3_3
        have s3_4 : ∀ gw : GW W3, gw.1.cell? ⟨b, o + 1, none⟩ = some (.int .i64 d0.st) := fun gw => Gr.at gw.2 k3_4
        have hnn := Nat.le_refl 0
        refine wp_region_gr (by kernel_rfl) (by kernel_rfl) ?_
        repeat (go_big_quiet_step (skip))
        refine wpQuiet_nil ?_
        intro w4 hb4
        clear s3_0 s3_1 s3_2 s3_3 s3_4
        have g4 : Gr w w4 := g3.trans hb4
        have k3_0 := Gr.at hb4 k3_0
        have k3_1 := Gr.at hb4 k3_1
        have k3_2 := Gr.at hb4 k3_2
        have k3_3 := Gr.at hb4 k3_3
        have k3_4 := Gr.at hb4 k3_4
        go_wp2_with fail
        refine bodyPost_ret (by simp [results, Tryz.results70, go_sem]; try rfl) rfl ?_
        obtain ⟨r1, r2, r3⟩ := HR0.out HQm.out
        exact ⟨by rw [r1, r2, r3], hg.trans (gb3_wr.trans hb4)⟩
      · have hft : ft i = true := by rw [Tn.out, t0, t1]; rfl
        have HQm := Lib.hid (HQs.out hft)
        have t1b : ((d.fr - d0.fr).tmod d0.st != 0) = false := by simp only [bne, t1, Bool.not_true]
        have we2 : -68719476736 ≤ d.fr + d0.st * (d.ds.n : Int) ∧ d.fr + d0.st * (d.ds.n : Int) ≤ 68719476736 := by rw [← t0c]; exact we
        have wp : -9223372036854775808 ≤ d0.st * (d.ds.n : Int) ∧ d0.st * (d.ds.n : Int) ≤ 9223372036854775807 := by omega
        clear HQn HQs Tn ebn t0 t1 hft we
        replace t0c := Lib.hid t0c
        go_wp2_with fail
        -- @b
        (first | refine name_world ?_ | refine (show (∀ W, W = _ → Calls _ _ _ W _) → Calls _ _ _ _ _ from fun h => h _ rfl) ?_); intro W3 hW3
        have g3 : Gr w W3 := by rw [hW3]; exact gr_auto
        have gb3_wr : Gr wr W3 := by (try clear g3); rw [hW3]; exact gr_auto
        have k3_0 : W3.cell? ⟨wr.heap.size, 0, none⟩ = some (.int .i64 d.fr) := by rw [hW3]; first | (simp [go_sem, *]; done) | (refine Gr.at ?_ (by assumption); exact gr_auto)
        have b3_0 : wr.heap.size < W3.heap.size := World.block_lt_of_cell? _ _ k3_0
        have k3_1 : W3.cell? ⟨wr.heap.size, 1, none⟩ = some (.int .i64 d.st) := by rw [hW3]; first | (simp [go_sem, *]; done) | (refine Gr.at ?_ (by assumption); exact gr_auto)
        have k3_2 : W3.cell? ⟨wr.heap.size, 2, none⟩ = some (.slice d.ds.A d.ds.n d.ds.c) := by rw [hW3]; first | (simp [go_sem, *]; done) | (refine Gr.at ?_ (by assumption); exact gr_auto)
        have k3_3 : W3.cell? ⟨b, o, none⟩ = some (.int .i64 d0.fr) := by rw [hW3]; first | (simp [go_sem, *]; done) | (refine Gr.at ?_ (by assumption); exact gr_auto)
        have b3_3 : b < W3.heap.size := World.block_lt_of_cell? _ _ k3_3
        have k3_4 : W3.cell? ⟨b, o + 1, none⟩ = some (.int .i64 d0.st) := by rw [hW3]; first | (simp [go_sem, *]; done) | (refine Gr.at ?_ (by assumption); exact gr_auto)
        clear hW3
        have s3_0 : ∀ gw : GW W3, gw.1.cell? ⟨wr.heap.size, 0, none⟩ = some (.int .i64 d.fr) := fun gw => Gr.at gw.2 k3_0
        have s3_1 : ∀ gw : GW W3, gw.1.cell? ⟨wr.heap.size, 1, none⟩ = some (.int .i64 d.st) := fun gw => Gr.at gw.2 k3_1
        have s3_2 : ∀ gw : GW W3, gw.1.cell? ⟨wr.heap.size, 2, none⟩ = some (.slice d.ds.A d.ds.n d.ds.c) := fun gw => Gr.at gw.2 k3_2
        have s3_3 : ∀ gw : GW W3, gw.1.cell? ⟨b, o, none⟩ = some (.int .i64 d0.fr) := fun gw => Gr.at gw.2 k3_3
        have s3_4 : ∀ gw : GW W3, gw.1.cell? ⟨b, o + 1, none⟩ = some (.int .i64 d0.st) := fun gw => Gr.at gw.2 k3_4
        have hnn := Nat.le_refl 0
        refine wp_region_gr (by kernel_rfl) (by kernel_rfl) ?_
        repeat (go_big_quiet_step (skip))
        refine wpQuiet_nil ?_
        intro w4 hb4
        clear s3_0 s3_1 s3_2 s3_3 s3_4
        have g4 : Gr w w4 := g3.trans hb4
        have k3_0 := Gr.at hb4 k3_0
        have k3_1 := Gr.at hb4 k3_1
        have k3_2 := Gr.at hb4 k3_2
        have k3_3 := Gr.at hb4 k3_3
        have k3_4 := Gr.at hb4 k3_4
        go_wp2_with fail
        -- @c
        (first | refine name_world ?_ | refine (show (∀ W, W = _ → Calls _ _ _ W _) → Calls _ _ _ _ _ from fun h => h _ rfl) ?_); intro W5 hW5
        have g5 : Gr w W5 := by rw [hW5]; exact gr_auto
        have gb5_w4 : Gr w4 W5 := by (try clear g5); rw [hW5]; exact gr_auto
        have k5_0 : W5.cell? ⟨wr.heap.size, 0, none⟩ = some (.int .i64 d.fr) := by rw [hW5]; first | (simp [go_sem, *]; done) | (refine Gr.at ?_ (by assumption); exact gr_auto)
        have b5_0 : wr.heap.size < W5.heap.size := World.block_lt_of_cell? _ _ k5_0
        have k5_1 : W5.cell? ⟨wr.heap.size, 1, none⟩ = some (.int .i64 d.st) := by rw [hW5]; first | (simp [go_sem, *]; done) | (refine Gr.at ?_ (by assumption); exact gr_auto)
        have k5_2 : W5.cell? ⟨wr.heap.size, 2, none⟩ = some (.slice d.ds.A d.ds.n d.ds.c) := by rw [hW5]; first | (simp [go_sem, *]; done) | (refine Gr.at ?_ (by assumption); exact gr_auto)
        clear hW5
        have s5_0 : ∀ gw : GW W5, gw.1.cell? ⟨wr.heap.size, 0, none⟩ = some (.int .i64 d.fr) := fun gw => Gr.at gw.2 k5_0
        have s5_1 : ∀ gw : GW W5, gw.1.cell? ⟨wr.heap.size, 1, none⟩ = some (.int .i64 d.st) := fun gw => Gr.at gw.2 k5_1
        have s5_2 : ∀ gw : GW W5, gw.1.cell? ⟨wr.heap.size, 2, none⟩ = some (.slice d.ds.A d.ds.n d.ds.c) := fun gw => Gr.at gw.2 k5_2
        have hnn := Nat.le_refl 0
        refine wp_region_gr (by kernel_rfl) (by kernel_rfl) ?_
        repeat (go_big_quiet_step (skip))
        refine wpQuiet_nil ?_
        intro w6 hb6
        clear s5_0 s5_1 s5_2
        have g6 : Gr w w6 := g5.trans hb6
        have k5_0 := Gr.at hb6 k5_0
        have k5_1 := Gr.at hb6 k5_1
        have k5_2 := Gr.at hb6 k5_2
        go_wp2_with fail
        -- @d
        go_roundw
        case rel => exact ⟨i + 1, by omega, by go_num, by rw [Fn.out]; congr 1; split <;> omega, by rw [En.out]; congr 1; split <;> omega, HQm, hg.trans (gb3_wr.trans (hb4.trans (gb5_w4.trans hb6)))⟩
        case measure => simp [intOf]; omega
    · obtain rfl : n = i := by omega
      have HQm := Lib.hid HQ.out
      have sb : -137438953472 ≤ en n - fr n ∧ en n - fr n ≤ 137438953472 := by omega
      clear HF HE HT HFB HEB HV HD HQ HF0 HE0 Hd0 Hp0 hst
      have ss : (0 < en n - fr n ∧ max 0 (en n - fr n) = en n - fr n) ∨ (en n - fr n ≤ 0 ∧ max 0 (en n - fr n) = 0) := by omega
      rcases ss with ⟨s1, s2⟩ | ⟨s1, s2⟩
      all_goals
        replace s2 := Lib.hid s2
        go_wp2_with fail
        go_region
        all_goals
          go_wp2_with fail
          refine bodyPost_ret (by simp [results, Tryz.results70, go_sem]; try rfl) rfl ?_
          obtain ⟨r1, r2, r3⟩ := HR1.out HQm.out
          exact ⟨by simp only [r1, r2, r3, s2.out, Int.zero_ediv], gr_auto⟩
end Go.Proofs.YtajhhplgcegodaaGreatDoor
