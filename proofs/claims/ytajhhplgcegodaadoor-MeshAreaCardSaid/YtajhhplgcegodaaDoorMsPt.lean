/-
  Points in memory; slices.ContainsFunc on them; plane.all, plane.polygon, plane.Twice. (Printed by mkpt.py.) No condition but what stands at each theorem.
-/
import Derived.Test.YtajhhplgcegodaaDoorMsA
import Derived.Test.YtajhhplgcegodaaDoorMsAr
set_option linter.unusedVariables false
set_option linter.unusedSimpArgs false
namespace Go.Proofs.YtajhhplgcegodaaDoor
open Go.RowKit
namespace Ba
structure Point where
  x : Int
  y : Int
def Point.val (d : Point) : Value := .agg #[.int .i64 d.x, .int .i64 d.y]
/-- The cells. -/
def Point.Cells (w : World) (b o : Nat) (d : Point) : Prop := w.cell? ⟨b, o, none⟩ = some (.int .i64 d.x) ∧ w.cell? ⟨b, o + 1, none⟩ = some (.int .i64 d.y)
def Point.Ok (w : World) (d : Point) : Prop := i64 d.x ∧ i64 d.y
theorem Point.Cells.gr {w w1 : World} {b o : Nat} {d : Point} (h : d.Cells w b o) (hg : Gr w w1) : d.Cells w1 b o := by
  obtain ⟨h0, h1⟩ := h
  exact ⟨Gr.at hg h0, Gr.at hg h1⟩
structure SlPoint where
  A : Option Addr
  n : Nat
  c : Nat
  b : Nat
  o : Nat
  D : Nat → Point
structure SlPoint.At (w : World) (s : SlPoint) : Prop where
  hA : 0 < s.n → s.A = some ⟨s.b, s.o, none⟩
  hc : s.n ≤ s.c
  hb : s.c ≤ 9223372036854775807
  hD : ∀ i, i < s.n → (s.D i).Cells w s.b (s.o + i * 2) ∧ (s.D i).Ok w
theorem Point.Ok.gr {w w1 : World} {d : Point} (h : d.Ok w) (hg : Gr w w1) : d.Ok w1 := by
  obtain ⟨h0, h1⟩ := h
  exact ⟨h0, h1⟩
theorem SlPoint.At.gr {w w1 : World} {s : SlPoint} (h : s.At w) (hg : Gr w w1) : s.At w1 := ⟨h.hA, h.hc, h.hb, fun i hi => ⟨(h.hD i hi).1.gr hg, (h.hD i hi).2.gr hg⟩⟩
end Ba
set_option maxRecDepth 100000 in
set_option maxHeartbeats 2000000 in
theorem idx_point (f : FuncId) (cap : Array Value) (s : Ba.SlPoint) (p : Nat → Bool) (w : World) (h : s.At w) (hen : ∀ args w, (callFunc f args).run Tryd.prog w = .ok (.enter f args) w)
    (hp : ∀ i, i < s.n → ∀ W, Gr w W → Calls Tryd.prog f (#[(s.D i).val] ++ cap) W fun e w' => e = .returned (.bool (p i)) ∧ Gr W w') :
    Calls Tryd.prog 148 #[.slice s.A s.n s.c, .func (.func f) #[] cap] w fun e w' => e = .returned (.int .i64 (Ba.fstI p s.n)) ∧ Gr w w' := by
  have HA := Lib.hid h.hA; have HX := Lib.hid h.hD; have HP := Lib.hid hp
  have hn : s.n ≤ 9223372036854775807 := Nat.le_trans h.hc h.hb
  clear h hp
  obtain ⟨A, hAe⟩ : ∃ A, s.A = A := ⟨_, rfl⟩
  obtain ⟨n, hne⟩ : ∃ n, s.n = n := ⟨_, rfl⟩
  obtain ⟨b, hbe⟩ : ∃ b, s.b = b := ⟨_, rfl⟩
  obtain ⟨o, hoe⟩ : ∃ o, s.o = o := ⟨_, rfl⟩
  rw [hAe, hne, hbe, hoe] at HA
  rw [hne, hbe, hoe] at HX
  rw [hne] at HP hn
  rw [hAe, hne]
  clear hAe hne hbe hoe
  go_enter Tryd.func148, Tryd.ntmps148
  go_wp2_with fail
  go_loopw [8] (fun s8 wr => ∃ i : Nat, i ≤ n ∧ s8 = .int .i64 (i : Int) ∧ Gr w wr ∧ Hid (Ba.fst p i = none)) (fun s8 _ => n - (intOf s8).toNat)
  case atStart => exact ⟨0, Nat.zero_le _, rfl, Gr.refl _, rfl⟩
  case round =>
    obtain ⟨i, hi, rfl, hg, hf⟩ := hrel
    by_cases hlt : i < n
    · obtain rfl := HA.out (by omega)
      have HC := Lib.hid (HP.out i hlt)
      obtain ⟨a0, a1⟩ := (HX.out i hlt).1.gr hg
      unfold Ba.Point.val at HC
      generalize s.D i = d at *
      cases hpi : p i
      · rw [hpi] at HC
        have HF := Lib.hid (Ba.fst_miss hf.out hpi)
        clear hpi hi
        go_wp2_with fail
        refine (HC.out _ gr_auto).mono ?_
        rintro e w1 ⟨rfl, hb1⟩
        go_wp2_with fail
        go_roundw
        case rel => exact ⟨i + 1, by omega, by go_num, gr_auto, HF⟩
        case measure => simp [intOf]; omega
      · rw [hpi] at HC
        have HF := Lib.hid (Ba.fstI_hit hf.out hpi hlt)
        clear hpi hi
        go_wp2_with fail
        refine (HC.out _ gr_auto).mono ?_
        rintro e w1 ⟨rfl, hb1⟩
        go_wp2_with fail
        go_ret
        exact ⟨ret_int HF.out.symm, gr_auto⟩
    · obtain rfl : i = n := by omega
      have HF := Lib.hid (Ba.fstI_none hf.out)
      go_wp2_with fail
      go_ret
      exact ⟨ret_int HF.out.symm, hg⟩
theorem has_point (f : FuncId) (cap : Array Value) (s : Ba.SlPoint) (p : Nat → Bool) (w : World) (h : s.At w) (hen : ∀ args w, (callFunc f args).run Tryd.prog w = .ok (.enter f args) w)
    (hp : ∀ i, i < s.n → ∀ W, Gr w W → Calls Tryd.prog f (#[(s.D i).val] ++ cap) W fun e w' => e = .returned (.bool (p i)) ∧ Gr W w') :
    Calls Tryd.prog 127 #[.slice s.A s.n s.c, .func (.func f) #[] cap] w fun e w' => e = .returned (.bool (Ba.any p s.n)) ∧ Gr w w' := by
  have HI := Lib.hid (idx_point f cap s p w h hen hp)
  have HG := Lib.hid (Ba.fstI_ge p s.n)
  clear hp h
  generalize Ba.fstI p s.n = r at *
  generalize Ba.any p s.n = q at *
  generalize s.A = A at *
  generalize s.n = n at *
  generalize s.c = c at *
  go_enter Tryd.func127, Tryd.ntmps127
  go_wp2_with fail
  refine HI.out.mono ?_
  rintro e w1 ⟨rfl, hb1⟩
  go_wp2
  go_ret
  exact ⟨ret_bool HG.out, hb1⟩
set_option maxRecDepth 100000 in
set_option maxHeartbeats 4000000 in
theorem pl_all1 (x y : Int) (w : World) : Calls Tryd.prog 128 #[.agg #[.int .i64 x, .int .i64 y]] w fun e w' => e = .returned (.bool (!Ms.ptB x y)) ∧ Gr w w' := by
  have HP := Lib.hid (fun W => ms_pvalid x y W)
  generalize Ms.ptB x y = q at *
  go_enter Tryd.func128, Tryd.ntmps128
  go_wp2_with fail
  refine (HP.out _).mono ?_
  rintro e w1 ⟨rfl, hb1⟩
  clear HP
  go_wp2_with fail
  go_ret
  exact ⟨rfl, gr_auto⟩
theorem any_none {p : Nat → Bool} : ∀ {n : Nat}, (∀ i, i < n → p i = false) → Ba.any p n = false := fun {n} h => by
  cases e : Ba.any p n with
  | false => rfl
  | true =>
    obtain ⟨i, hi, h1⟩ := (Ms.any_iff p n).1 e
    rw [h i hi] at h1; cases h1
set_option maxRecDepth 100000 in
set_option maxHeartbeats 4000000 in
theorem pl_all (s : Ba.SlPoint) (w : World) (h : s.At w) (hp : ∀ i, i < s.n → Ms.ptB (s.D i).x (s.D i).y = true) : Calls Tryd.prog 102 #[.slice s.A s.n s.c] w fun e w' => e = .returned (.bool true) ∧ Gr w w' := by
  have HC := Lib.hid (fun W (hW : Gr w W) => has_point 128 #[] s (fun i => !Ms.ptB (s.D i).x (s.D i).y) W (h.gr hW) (enters_of Tryd.func128 (by kernel_rfl) rfl) (fun i _ W' _ => pl_all1 (s.D i).x (s.D i).y W'))
  rw [any_none (p := fun i => !Ms.ptB (s.D i).x (s.D i).y) (fun i hi => by show (!Ms.ptB (s.D i).x (s.D i).y) = false; rw [hp i hi]; rfl)] at HC
  clear h hp
  generalize s.A = A at *; generalize s.n = n at *; generalize s.c = c at *
  go_enter Tryd.func102, Tryd.ntmps102
  go_wp2_with fail
  refine (HC.out _ gr_auto).mono ?_
  rintro e w1 ⟨rfl, hb1⟩
  clear HC
  go_wp2_with fail
  go_ret
  exact ⟨rfl, gr_auto⟩
set_option maxRecDepth 100000 in
set_option maxHeartbeats 4000000 in
theorem pl_poly (s : Ba.SlPoint) (w : World) (h : s.At w) (hp : ∀ i, i < s.n → Ms.ptB (s.D i).x (s.D i).y = true) (h3 : 3 ≤ s.n) (hn : s.n ≤ 1000) : Calls Tryd.prog 81 #[.slice s.A s.n s.c] w fun e w' => e = .returned (.int .i64 0) ∧ Gr w w' := by
  have HC := Lib.hid (fun W (hW : Gr w W) => pl_all s W (h.gr hW) hp)
  clear h hp
  generalize s.A = A at *; generalize s.n = n at *; generalize s.c = c at *
  have a1 : ¬ (n : Int) < 3 := by omega
  have a2 : ¬ (1000 : Int) < (n : Int) := by omega
  go_enter Tryd.func81, Tryd.ntmps81
  go_wp2_with fail
  refine (HC.out _ gr_auto).mono ?_
  rintro e w1 ⟨rfl, hb1⟩
  clear HC
  go_wp2_with fail
  go_ret
  exact ⟨rfl, gr_auto⟩
set_option maxRecDepth 100000 in
set_option maxHeartbeats 4000000 in
theorem pl_twice (s : Ba.SlPoint) (w : World) (h : s.At w) (hp : ∀ i, i < s.n → Ms.ptB (s.D i).x (s.D i).y = true) (h3 : 3 ≤ s.n) (hn : s.n ≤ 1000) : Calls Tryd.prog 41 #[.slice s.A s.n s.c] w fun e w' => e = .returned (.tuple #[.int .i64 (Ms.fanS (fun i => (s.D i).x) (fun i => (s.D i).y) (s.n - 2)), .int .i64 0]) ∧ Gr w w' := by
  have HC := Lib.hid (fun W (hW : Gr w W) => pl_poly s W (h.gr hW) hp h3 hn)
  have hcd : ∀ i, i < s.n → Ms.cd (s.D i).x ∧ Ms.cd (s.D i).y := fun i hi => Ms.ptB_iff.1 (hp i hi)
  have HT := Lib.hid (fun i (hi : i + 2 < s.n) W => ps_turn (s.D 0).x (s.D 0).y (s.D (i + 1)).x (s.D (i + 1)).y (s.D (i + 2)).x (s.D (i + 2)).y W (hcd 0 (by omega)).1 (hcd 0 (by omega)).2 (hcd _ (by omega)).1 (hcd _ (by omega)).2 (hcd _ hi).1 (hcd _ hi).2)
  have HB := Lib.hid (fun k hk => Ms.fanS_bd (X := fun i => (s.D i).x) (Y := fun i => (s.D i).y) (n := s.n) hcd k hk)
  have HS := Lib.hid (fun k => show Ms.fanS (fun i => (s.D i).x) (fun i => (s.D i).y) (k + 1) = Ms.fanS (fun i => (s.D i).x) (fun i => (s.D i).y) k + Ms.tr2 (s.D 0).x (s.D 0).y (s.D (k + 1)).x (s.D (k + 1)).y (s.D (k + 2)).x (s.D (k + 2)).y from rfl)
  have HD := Lib.hid (fun i (hi : i < s.n) => (h.hD i hi).1)
  have hA := h.hA (by omega)
  clear h hp hcd
  rw [hA] at HC ⊢
  clear hA
  have HZ0 := Lib.hid (show Ms.fanS (fun i => (s.D i).x) (fun i => (s.D i).y) 0 = 0 from rfl)
  generalize Ms.fanS (fun i => (s.D i).x) (fun i => (s.D i).y) = fs at *
  generalize s.n = n at *; generalize s.c = c at *; generalize s.D = D at *; generalize s.b = b at *; generalize s.o = o at *
  go_enter Tryd.func41, Tryd.ntmps41
  go_wp2_with fail
  refine (HC.out _ gr_auto).mono ?_
  rintro e w1 ⟨rfl, hb1⟩
  clear HC
  have g1 : Gr w w1 := Gr.trans (by exact gr_auto) hb1
  go_wp2_with fail
  -- @a
  go_loopw [5, 6] (fun v x wr => ∃ k : Nat, k + 2 ≤ n ∧ x = .int .i64 ((k + 1 : Nat) : Int) ∧ v = .int .i64 (fs k) ∧ Gr w1 wr) (fun _ x _ => n - (intOf x).toNat)
  case atStart => exact ⟨0, by omega, rfl, by rw [show fs 0 = 0 from HZ0.out], Gr.refl _⟩
  case round =>
    obtain ⟨k, hk, rfl, rfl, hg⟩ := hrel
    rename World => W1
    have gw := g1.trans hg
    have kc : ((k + 1 : Nat) : Int) = (k : Int) + 1 := by omega
    by_cases hlt : k + 2 < n
    · have k1 : (k : Int) + 1 + 1 < (n : Int) := by omega
      have k0 : (0 : Int) ≤ (k : Int) + 1 := by omega
      obtain ⟨a0, a1⟩ := (HD.out 0 (by omega)).gr gw
      obtain ⟨b0, b1⟩ := (HD.out (k + 1) (by omega)).gr gw
      obtain ⟨c0, c1⟩ := (HD.out (k + 2) (by omega)).gr gw
      rw [Nat.zero_mul, Nat.add_zero] at a0 a1
      have HTk := Lib.hid (HT.out k hlt)
      have HSk := HS.out k
      have e1 := HB.out k hk; have e2 := HB.out (k + 1) (by omega)
      rw [HSk] at e2
      have HS2 := Lib.hid HSk
      clear HT HS HB HD HSk
      generalize Ms.tr2 (D 0).x (D 0).y (D (k + 1)).x (D (k + 1)).y (D (k + 2)).x (D (k + 2)).y = tv at *
      generalize (D 0).x = x0 at *; generalize (D 0).y = y0 at *; generalize (D (k + 1)).x = x1 at *; generalize (D (k + 1)).y = y1 at *; generalize (D (k + 2)).x = x2 at *; generalize (D (k + 2)).y = y2 at *
      have bt1 : -9223372036854775808 ≤ fs k + tv := by omega
      have bt2 : fs k + tv ≤ 9223372036854775807 := by omega
      clear e1 e2
      -- @b
      go_upto_region 8 with fail
      -- @c
      (first | refine name_world ?_ | refine (show (∀ W, W = _ → Calls _ _ _ W _) → Calls _ _ _ _ _ from fun h => h _ rfl) ?_); intro W6 hW6
      have g6 : Gr w W6 := by rw [hW6]; exact gr_auto
      have gb6_W1 : Gr W1 W6 := by (try clear g6); rw [hW6]; exact gr_auto
      have k6_0 : W6.cell? ⟨b, o, none⟩ = some (.int .i64 x0) := by rw [hW6]; first | (simp [go_sem, *]; done) | (refine Gr.at ?_ (by assumption); exact gr_auto)
      have b6_0 : b < W6.heap.size := World.block_lt_of_cell? _ _ k6_0
      have k6_1 : W6.cell? ⟨b, o + 1, none⟩ = some (.int .i64 y0) := by rw [hW6]; first | (simp [go_sem, *]; done) | (refine Gr.at ?_ (by assumption); exact gr_auto)
      have k6_2 : W6.cell? ⟨b, o + (k + 1) * 2, none⟩ = some (.int .i64 x1) := by rw [hW6]; first | (simp [go_sem, *]; done) | (refine Gr.at ?_ (by assumption); exact gr_auto)
      have k6_3 : W6.cell? ⟨b, o + (k + 1) * 2 + 1, none⟩ = some (.int .i64 y1) := by rw [hW6]; first | (simp [go_sem, *]; done) | (refine Gr.at ?_ (by assumption); exact gr_auto)
      have k6_4 : W6.cell? ⟨b, o + (k + 2) * 2, none⟩ = some (.int .i64 x2) := by rw [hW6]; first | (simp [go_sem, *]; done) | (refine Gr.at ?_ (by assumption); exact gr_auto)
      have k6_5 : W6.cell? ⟨b, o + (k + 2) * 2 + 1, none⟩ = some (.int .i64 y2) := by rw [hW6]; first | (simp [go_sem, *]; done) | (refine Gr.at ?_ (by assumption); exact gr_auto)
      clear hW6
      have s6_0 : ∀ gw : GW W6, gw.1.cell? ⟨b, o, none⟩ = some (.int .i64 x0) := fun gw => Gr.at gw.2 k6_0
      have s6_1 : ∀ gw : GW W6, gw.1.cell? ⟨b, o + 1, none⟩ = some (.int .i64 y0) := fun gw => Gr.at gw.2 k6_1
      have s6_2 : ∀ gw : GW W6, gw.1.cell? ⟨b, o + (k + 1) * 2, none⟩ = some (.int .i64 x1) := fun gw => Gr.at gw.2 k6_2
      have s6_3 : ∀ gw : GW W6, gw.1.cell? ⟨b, o + (k + 1) * 2 + 1, none⟩ = some (.int .i64 y1) := fun gw => Gr.at gw.2 k6_3
      have s6_4 : ∀ gw : GW W6, gw.1.cell? ⟨b, o + (k + 2) * 2, none⟩ = some (.int .i64 x2) := fun gw => Gr.at gw.2 k6_4
      have s6_5 : ∀ gw : GW W6, gw.1.cell? ⟨b, o + (k + 2) * 2 + 1, none⟩ = some (.int .i64 y2) := fun gw => Gr.at gw.2 k6_5
      have Q1 := Lib.hid (fun gw : GW W6 => gw_call (HTk.out gw.1 ))
      refine wp_region_gr (by kernel_rfl) (by kernel_rfl) ?_
      repeat (go_big_quiet_step ((go_at_call 82; with_reducible exact Q1.out _)))
      refine wpQuiet_nil ?_
      intro w7 hb7
      clear s6_0 s6_1 s6_2 s6_3 s6_4 s6_5
      have g7 : Gr w w7 := g6.trans hb7
      have k6_0 := Gr.at hb7 k6_0
      have k6_1 := Gr.at hb7 k6_1
      have k6_2 := Gr.at hb7 k6_2
      have k6_3 := Gr.at hb7 k6_3
      have k6_4 := Gr.at hb7 k6_4
      have k6_5 := Gr.at hb7 k6_5
      -- @d
      go_wp2_with fail
      -- @e
      go_roundw
      case rel => exact ⟨k + 1, by omega, by go_num, by rw [HS2.out], hg.trans (Gr.trans gb6_W1 hb7)⟩
      case measure => simp [intOf]; omega
    · obtain rfl : n = k + 2 := by omega
      go_wp2_with fail
      -- @f
      go_ret2
      exact ⟨rfl, g1.trans hg⟩
end Go.Proofs.YtajhhplgcegodaaDoor
