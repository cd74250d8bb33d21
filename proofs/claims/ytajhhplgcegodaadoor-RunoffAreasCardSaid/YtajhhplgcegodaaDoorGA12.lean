/-
  Runoff.Inflows, plain: what each node's area is; the sum of a row. Typed.
  RunoffAreas, plain: the square metres of a node add up to its twofold area / 2000000. Typed.
  Runoff: gauge.Total of a valid record; losses.Run and losses.Lost of what is right. (Printed by mkxa.py.)
-/
import Derived.Test.YtajhhplgcegodaaDoorRmE
import Derived.Test.YtajhhplgcegodaaDoorRmA
import Derived.Test.YtajhhplgcegodaaDoorZaA
import Derived.Test.YtajhhplgcegodaaDoorRoW
import Derived.Test.YtajhhplgcegodaaDoorGA9
import Derived.Test.YtajhhplgcegodaaDoorGA2
import Derived.Deep.RegionLaw
import Derived.Deep.AppendLies
set_option linter.unusedVariables false
set_option linter.unusedSimpArgs false
namespace Go.Proofs.YtajhhplgcegodaaDoor
open Go.RowKit
namespace Ba
/-- The square metres of node i, class by class. -/
def ownX (m : Ms.Mesh) (P : SlI) (C i c : Nat) : Int := if i < arK P.X P.n then mtI (arS m P.X P.n i) C c else 0
def ownS (m : Ms.Mesh) (P : SlI) (C i : Nat) : SlI := ⟨none, C, C, 0, 0, ownX m P C i⟩
/-- The error of node i. -/
def inE (m : Ms.Mesh) (C : SlClass) (P : SlI) (U : SlU) (s : Ser) (i : Nat) : Int := ofE C (ownS m P C.n i) (U.X i) s
theorem lft_own (C : SlClass) (A : Option Addr) (n c b o : Nat) (X : Nat → Int) (s : Ser) : ∀ j, lft C ⟨A, n, c, b, o, X⟩ s j = lft C ⟨none, n, n, 0, 0, X⟩ s j
  | 0 => rfl
  | j + 1 => by
    show (vol C ⟨A, n, c, b, o, X⟩ s j + lft C ⟨A, n, c, b, o, X⟩ s j) % 1000 = (vol C ⟨none, n, n, 0, 0, X⟩ s j + lft C ⟨none, n, n, 0, 0, X⟩ s j) % 1000
    rw [lft_own C A n c b o X s j]; rfl
theorem out_own (C : SlClass) (A : Option Addr) (n c b o : Nat) (X : Nat → Int) (s : Ser) : out C ⟨A, n, c, b, o, X⟩ s = out C ⟨none, n, n, 0, 0, X⟩ s := by
  funext j
  unfold out
  rw [lft_own]; rfl
theorem ofE_own (C : SlClass) (A : Option Addr) (n c b o : Nat) (X : Nat → Int) (u : SlI) (s : Ser) : ofE C ⟨A, n, c, b, o, X⟩ u s = ofE C ⟨none, n, n, 0, 0, X⟩ u s := by
  have e : fitO C ⟨A, n, c, b, o, X⟩ s = fitO C ⟨none, n, n, 0, 0, X⟩ s := by funext j; unfold fitO; rw [out_own]
  have e2 : depE C ⟨A, n, c, b, o, X⟩ s = depE C ⟨none, n, n, 0, 0, X⟩ s := by unfold depE; rw [e]; rfl
  unfold ofE outL
  rw [e2, out_own]
theorem ofN_own (C : SlClass) (A : Option Addr) (n c b o : Nat) (X : Nat → Int) (u : SlI) (s : Ser) : ofN C ⟨A, n, c, b, o, X⟩ u s = ofN C ⟨none, n, n, 0, 0, X⟩ u s := rfl
theorem ofX_own (C : SlClass) (A : Option Addr) (n c b o : Nat) (X : Nat → Int) (u : SlI) (s : Ser) : ofX C ⟨A, n, c, b, o, X⟩ u s = ofX C ⟨none, n, n, 0, 0, X⟩ u s := by unfold ofX; rw [out_own]
theorem rsum_add (X Y : Nat → Int) : ∀ n, sumI (fun i => X i + Y i) n = sumI X n + sumI Y n
  | 0 => rfl
  | n + 1 => by rw [sumI, sumI, sumI, rsum_add X Y n]; omega
theorem rsum_one (q : Nat → Prop) [DecidablePred q] (t : Int) (ht : 0 ≤ t) (hq : ∀ i j, q i → q j → i = j) : ∀ n, 0 ≤ sumI (fun i => if q i then t else 0) n ∧ sumI (fun i => if q i then t else 0) n ≤ t ∧ ((∀ i, i < n → ¬ q i) → sumI (fun i => if q i then t else 0) n = 0)
  | 0 => ⟨Int.le_refl _, ht, fun _ => rfl⟩
  | n + 1 => by
    obtain ⟨a, b, c⟩ := rsum_one q t ht hq n
    rw [sumI]
    by_cases e : q n
    · rw [if_pos e, c (fun i hi qi => by have := hq i n qi e; omega)]
      exact ⟨by omega, by omega, fun h => absurd e (h n (by omega))⟩
    · rw [if_neg e]
      exact ⟨by omega, by omega, fun h => by rw [c (fun i hi => h i (by omega))]; rfl⟩
theorem arS_sum {m : Ms.Mesh} (hv : Ms.vlB m = true) {P : Nat → Int} (r C : Nat) : ∀ k, k ≤ m.F.n → 0 ≤ sumI (arS m P k r) C ∧ sumI (arS m P k r) C ≤ 2251799813685248 * (k : Int)
  | 0, _ => by
    have e : ∀ n, sumI (arS m P 0 r) n = 0 := fun n => by
      induction n with
      | zero => rfl
      | succ n ih => rw [sumI, ih]; rfl
    rw [e]; omega
  | k + 1, h => by
    obtain ⟨a, b⟩ := arS_sum hv (P := P) r C k (by omega)
    have t := (Ms.tTn_bd (Ms.tri_ok (Ms.vl_fc hv (i := k) (by omega)))).2
    have e := Ms.vl_tn hv (i := k) (by omega)
    have q := rsum_one (fun c : Nat => P k = (r : Int) ∧ (m.F.D k).k = (c : Int)) (Ms.tTn (Ms.tri m (m.F.D k))) (by omega) (fun i j x y => by have := x.2; have := y.2; omega) C
    have z : sumI (arS m P (k + 1) r) C = sumI (arS m P k r) C + sumI (fun c : Nat => if P k = (r : Int) ∧ (m.F.D k).k = (c : Int) then Ms.tTn (Ms.tri m (m.F.D k)) else 0) C := by rw [← rsum_add]; rfl
    rw [z]
    omega
end Ba
/-- What Inflows answers of what is right. -/
def RetIn (m : Ms.Mesh) (C : Ba.SlClass) (P : Ba.SlI) (N : Ba.SlS) (U : Ba.SlU) (s : Ba.Ser) (w : World) (e : Ending) (w' : World) : Prop :=
  ∃ (err : Int) (A : Option Addr) (n c b : Nat) (V : Nat → Ba.SlI), e = .returned (.tuple #[.slice A n c, .int .i64 err]) ∧ Gr w w' ∧
    (err = 0 → n = N.n ∧ (0 < n → A = some ⟨b, 0, none⟩) ∧ n ≤ c ∧ c ≤ 9223372036854775807 ∧ ∀ i, i < N.n → Ba.inE m C P U s i = 0 ∧ w'.cell? ⟨b, i * 2, none⟩ = some (.string (N.X i)) ∧ w'.cell? ⟨b, i * 2 + 1, none⟩ = some (.slice (V i).A (V i).n (V i).c) ∧ (V i).At w' ∧ (V i).n = Ba.ofN C (Ba.ownS m P C.n i) (U.X i) s ∧ ∀ j, j < (V i).n → (V i).X j = Ba.ofX C (Ba.ownS m P C.n i) (U.X i) s j) ∧
    (err ≠ 0 → n = 0 ∧ ∃ i, i < N.n ∧ err = Ba.inE m C P U s i ∧ ∀ j, j < i → Ba.inE m C P U s j = 0)
/-- Metres of row r of the areas. -/
theorem metres_row {m : Ms.Mesh} {P : Ba.SlI} {C r B : Nat} {w : World} (hv : Ms.vlB m = true) (hn : P.n = m.F.n) (hf : m.F.n ≤ 61) (hC : C ≤ 16) (hr : r < Ba.arK P.X P.n) (h : Row w B C (fun c => .int .i64 (Ba.arS m P.X P.n r c))) : Calls Tryd.prog 88 #[.slice (some ⟨B, 0, none⟩) C C] w fun e w' => ∃ (A : Option Addr) (c b o : Nat), e = .returned (.tuple #[.slice A C c, .int .i64 0]) ∧ Ba.SlI.At w' ⟨A, C, c, b, o, Ba.ownX m P C r⟩ ∧ Gr w w' := by
  have bd := fun c => Ba.arS_bd hv (P := P.X) r c P.n (by omega)
  have sm := Ba.arS_sum hv (P := P.X) r C P.n (by omega)
  have hs := row_sl h (by omega) (fun j _ => by have := bd j; unfold Ba.i64; omega)
  refine (metres_ok ⟨some ⟨B, 0, none⟩, C, C, B, 0, Ba.arS m P.X P.n r⟩ w hs (by show C ≤ 1000; omega) (fun i _ => (bd i).1) (by show Ba.sumI (Ba.arS m P.X P.n r) C ≤ _; omega)).mono ?_
  rintro e w' ⟨⟨A, n, c, b, o, X⟩, rfl, h1, h2, h3, h4⟩
  simp only at h2 h3
  subst h2
  have e : ∀ i, i < n → X i = Ba.ownX m P n r i := fun i hi => by unfold Ba.ownX; rw [if_pos hr]; exact h3 i hi
  exact ⟨A, c, b, o, rfl, ⟨h1.hA, h1.hc, h1.hb, fun i hi => by have q := h1.hX i hi; simp only at q ⊢; rw [e i hi] at q; exact q⟩, h4⟩
theorem info_inflow : (Tryd.prog.info? 95).map (fun i => (i.zero, i.size, i.bytes)) = some (some (.agg #[.string ⟨#[]⟩, .slice none 0 0]), 2, 40) := by kernel_rfl
end Go.Proofs.YtajhhplgcegodaaDoor
namespace Go.Proofs.YtajhhplgcegodaaDoor
open Go.RowKit
namespace Ba
theorem mtI_tele (X : Nat → Int) (n : Nat) : ∀ k, sumI (mtI X n) k = mtQ X n k - mtQ X n 0
  | 0 => by rw [sumI]; omega
  | k + 1 => by rw [sumI, mtI_tele X n k]; unfold mtI; omega
theorem mtI_sum (X : Nat → Int) (n : Nat) : sumI (mtI X n) n = sumI X n / 2000000 := by
  rw [mtI_tele]
  unfold mtQ
  by_cases h : sumI X n = 0
  · rw [if_pos h, if_pos h, h]; rfl
  · rw [if_neg h, if_neg h, Int.mul_ediv_cancel _ h]
    have e : sumI X 0 = 0 := rfl
    rw [e, Int.mul_zero, Int.zero_ediv]; omega
/-- Twofold the area of node r, of the first k faces. -/
def twI (m : Ms.Mesh) (P : Nat → Int) (r : Nat) : Nat → Int
  | 0 => 0
  | k + 1 => twI m P r k + if P k = (r : Int) then Ms.tTn (Ms.tri m (m.F.D k)) else 0
theorem one_sum (c C : Nat) (t : Int) : c < C → sumI (fun i : Nat => if i = c then t else 0) C = t := by
  induction C with
  | zero => intro h; omega
  | succ n ih =>
    intro h
    rw [sumI]
    by_cases e : n = c
    · rw [if_pos e]
      have z : ∀ k, k ≤ c → sumI (fun i : Nat => if i = c then t else 0) k = 0 := fun k => by
        induction k with
        | zero => intro _; rfl
        | succ k ih => intro hk; rw [sumI, ih (by omega), if_neg (by omega)]; rfl
      rw [z n (by omega)]; omega
    · rw [if_neg e, ih (by omega)]; omega
end Ba
end Go.Proofs.YtajhhplgcegodaaDoor
namespace Go.Proofs.YtajhhplgcegodaaDoor
open Go.RowKit
attribute [local go_sem ↓] Go.wp_at_zero Go.wp_at_succ

set_option maxRecDepth 100000 in
set_option maxHeartbeats 4000000 in
theorem gdepth_any (x : Int) (w : World) : Calls Tryd.prog 92 #[.int .i64 x] w fun e w' => e = .returned (.int .i64 (max 0 x)) ∧ w = w' := by
  rw [Int.max_comm]
  go_enter Tryd.func92, Tryd.ntmps92
  go_wp2_with fail
  go_ret
  exact ⟨rfl, rfl⟩

set_option maxRecDepth 100000 in
set_option maxHeartbeats 4000000 in
theorem gtotal_ok (fr st : Int) (A : Option Addr) (n c b oo : Nat) (X SM : Nat → Int) (w : World) (hn : n ≤ 10000) (HV : Hid (∀ W, Gr w W → Calls Tryd.prog 46 #[.agg #[.int .i64 fr, .int .i64 st, .slice A n c]] W fun e w' => e = .returned (.bool true) ∧ Gr W w')) (HA : Hid (0 < n → A = some ⟨b, oo, none⟩)) (HX : Hid (∀ i, i < n → w.cell? ⟨b, oo + i, none⟩ = some (.int .i64 (X i)) ∧ -1 ≤ X i ∧ X i ≤ 4194304))
    (HS0 : Hid (SM 0 = 0)) (HSS : Hid (∀ i, SM (i + 1) = SM i + max 0 (X i))) (HSB : Hid (∀ i, i ≤ n → 0 ≤ SM i ∧ SM i ≤ 107374182400000)) : Calls Tryd.prog 47 #[.agg #[.int .i64 fr, .int .i64 st, .slice A n c]] w fun e w' => ∃ m : Int, e = .returned (.tuple #[.int .i64 (SM n), .int .i64 m, .int .i64 0]) ∧ Gr w w' := by
  go_enter Tryd.func47, Tryd.ntmps47
  go_wp2_with fail
  (first | refine name_world ?_ | refine (show (∀ W, W = _ → Calls _ _ _ W _) → Calls _ _ _ _ _ from fun h => h _ rfl) ?_); intro W1 hW1
  have g1 : Gr w W1 := by rw [hW1]; exact gr_auto
  have k1_0 : W1.cell? ⟨w.heap.size, 0, none⟩ = some (.int .i64 fr) := by rw [hW1]; first | (simp [go_sem, *]; done) | (refine Gr.at ?_ (by assumption); exact gr_auto)
  have b1_0 : w.heap.size < W1.heap.size := World.block_lt_of_cell? _ _ k1_0
  have k1_1 : W1.cell? ⟨w.heap.size, 1, none⟩ = some (.int .i64 st) := by rw [hW1]; first | (simp [go_sem, *]; done) | (refine Gr.at ?_ (by assumption); exact gr_auto)
  have k1_2 : W1.cell? ⟨w.heap.size, 2, none⟩ = some (.slice A n c) := by rw [hW1]; first | (simp [go_sem, *]; done) | (refine Gr.at ?_ (by assumption); exact gr_auto)
  clear hW1
  refine (HV.out _ (by exact g1)).mono ?_
  rintro e w2 ⟨rfl, hb2⟩
  have g2 := g1.trans hb2
  have c0 := Gr.at hb2 k1_0; have c1 := Gr.at hb2 k1_1; have c2 := Gr.at hb2 k1_2
  clear k1_0 k1_1 k1_2 HV
  go_wp2_with fail
  go_loopw [5, 6, 15] (fun v u x wr => ∃ i : Nat, i ≤ n ∧ x = .int .i64 (i : Int) ∧ v = .int .i64 (SM i) ∧ (∃ m : Int, u = .int .i64 m ∧ 0 ≤ m ∧ m ≤ (i : Int)) ∧ Gr w2 wr) (fun _ _ x _ => n - (intOf x).toNat)
  case atStart => exact ⟨0, Nat.zero_le _, rfl, by rw [HS0.out], ⟨0, rfl, by omega, by omega⟩, Gr.refl _⟩
  case round =>
    obtain ⟨i, hi, rfl, rfl, ⟨m, rfl, m0, m1⟩, hg⟩ := hrel
    have t := HSB.out i hi
    by_cases hlt : i < n
    · obtain rfl := HA.out (by omega)
      obtain ⟨a0, x0, x1⟩ := HX.out i hlt
      replace a0 := Gr.at (g2.trans hg) a0
      have T := Lib.hid (HSS.out i)
      have tc := HSB.out (i + 1) hlt
      rw [T.out] at tc
      have ib0 : (0 : Int) ≤ (i : Int) := by omega
      have ib1 : (i : Int) < (n : Int) := by omega
      have HD := Lib.hid (fun W => gdepth_any (X i) W)
      clear HX HA HS0 HSS HSB
      generalize SM i = s0 at *
      generalize X i = x at *
      obtain ⟨y, hy⟩ : ∃ y, max 0 x = y := ⟨_, rfl⟩
      rw [hy] at T tc HD
      clear hy
      by_cases hm : x = -1
      · have tz : (x == -1) = true := by rw [hm]; rfl
        clear hm
        go_wp2_with fail
        refine (HD.out _).mono ?_
        rintro e w4 ⟨rfl, rfl⟩
        go_wp2_with fail
        go_roundw
        case rel => exact ⟨i + 1, by omega, by go_num, by rw [T.out], ⟨m + 1, rfl, by omega, by omega⟩, hg⟩
        case measure => simp [intOf]; omega
      · have tz : (x == -1) = false := beq_eq_false_iff_ne.2 hm
        clear hm
        go_wp2_with fail
        refine (HD.out _).mono ?_
        rintro e w4 ⟨rfl, rfl⟩
        go_wp2_with fail
        go_roundw
        case rel => exact ⟨i + 1, by omega, by go_num, by rw [T.out], ⟨m, rfl, by omega, by omega⟩, hg⟩
        case measure => simp [intOf]; omega
    · obtain rfl : n = i := by omega
      clear HX HA HS0 HSS HSB
      go_wp2_with fail
      refine bodyPost_ret (by simp [results, Tryd.results47, go_sem]; try rfl) rfl ?_
      exact ⟨m, rfl, g2.trans hg⟩

end Go.Proofs.YtajhhplgcegodaaDoor
