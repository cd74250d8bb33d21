/-
  Seat .ZD: the reference's Core. (Printed by mkzxe.py.)
  Seat .ZD: slices.Equal of ints (out of al/XClA). Typed.
-/
import Derived.Test.YtllkiadedaghoaaGreatDoorEx46
import Derived.Test.YtllkiadedaghoaaGreatDoorEx39
import Derived.Test.YtllkiadedaghoaaGreatDoorEx45
import Derived.Test.YtllkiadedaghoaaGreatDoorEx40
import Derived.Test.YtllkiadedaghoaaGreatDoorEx17

set_option linter.unusedVariables false
set_option linter.unusedSimpArgs false
namespace Go.Proofs.YtllkiadedaghoaaGreatDoor
open Go.RowKit Go.Shelf Go.Sort
attribute [local go_sem ↓] Go.wp_at_zero Go.wp_at_succ
namespace Al
/-- Indices that the reference answers. -/
def RetIb (l : List Nat) (w : World) (e : Ending) (w' : World) : Prop := ∃ d : Ba.SlI, e = .returned (.tuple #[.slice d.A d.n d.c, .bool true]) ∧ d.At w' ∧ d.n = l.length ∧ (∀ j (hj : j < l.length), d.X j = (l[j] : Int)) ∧ Gr w w'
theorem any_zero (p : Nat → Bool) : Ba.any p 0 = false := rfl
theorem any_succ (p : Nat → Bool) (n : Nat) : Ba.any p (n + 1) = (Ba.any p n || p n) := by
  rw [Bool.eq_iff_iff, Bool.or_eq_true, Ba.any_iff, Ba.any_iff]
  constructor
  · rintro ⟨i, hi, h⟩
    by_cases e : i = n
    · subst e; exact .inr h
    · exact .inl ⟨i, by omega, h⟩
  · rintro (⟨i, hi, h⟩ | h)
    · exact ⟨i, by omega, h⟩
    · exact ⟨n, by omega, h⟩
end Al
/-- One alarm of a row, and an alarm alone. -/
theorem rsame_one (r : Al.SlA) (i : Nat) (a : Al.A) (g : Nat) (w : World) (hr : r.At w) (hi : i < r.n) (ha : a.At w) (hc : a.Cells w g 0) : Calls Tryz.prog 18 #[.slice (some ⟨r.b, r.o + i * 4, none⟩) 1 (r.c - i), .slice (some ⟨g, 0, none⟩) 1 1] w fun e w' => e = .returned (.bool (Al.eqC (r.D i).con a.con)) ∧ Gr w w' := by
  have h1 : (⟨some ⟨r.b, r.o + i * 4, none⟩, 1, r.c - i, r.b, r.o + i * 4, fun j => r.D (i + j)⟩ : Al.SlA).Rd w := ⟨fun _ => rfl, by have := hr.hc; show 1 ≤ r.c - i; omega, by have := hr.hb; show r.c - i ≤ _; omega, fun j hj => by
    have hj' : j < 1 := hj
    obtain rfl : j = 0 := by omega
    have := hr.hD i hi
    exact ⟨by simpa using this.1, by simpa using this.2.at'⟩⟩
  have h2 : (⟨some ⟨g, 0, none⟩, 1, 1, g, 0, fun _ => a⟩ : Al.SlA).Rd w := ⟨fun _ => rfl, Nat.le_refl _, by show 1 ≤ _; omega, fun j hj => by
    have hj' : j < 1 := hj
    obtain rfl : j = 0 := by omega
    exact ⟨by simpa using hc, ha⟩⟩
  have := rsameA_any _ _ w h1 h2
  simp [Al.SlA.con, Al.samB] at this
  exact this
set_option maxRecDepth 100000 in
set_option maxHeartbeats 4000000 in
theorem rCore_none (N : Ba.SlNode) (L : Ba.SlLink) (s : Al.SlM) (jp sm tl : Int) (a : Al.A) (w : World) (hN : N.At w) (hL : L.At w) (h : s.At w) (ha : a.At w) (hsv : Al.vL s.lst) (hj : 0 ≤ jp ∧ jp ≤ 8388608) (hsm : 2 ≤ sm ∧ sm ≤ 10000) (hm : a.con ∉ Al.allC N s.lst jp sm) : Calls Tryz.prog 13 #[Ba.netVal N L, .slice s.A s.n s.c, .agg #[.int .i64 jp, .int .i64 sm, .int .i64 tl], .agg #[.int .i64 a.kd, .string a.nd, .int .i64 a.tm, .slice a.p a.n a.c]] w fun e w' => e = .returned (.tuple #[.slice none 0 0, .bool false]) ∧ Gr w w' := by
  have hsn : s.n ≤ 10000 := by have := hsv.1; rw [Al.SlM.lst_len] at this; exact this
  have HAll := Lib.hid (fun W (hW : Gr w W) => rall_any N L s jp sm tl W (hN.gr hW) (hL.gr hW) (h.gr hW) hsv hj hsm)
  have HSm := Lib.hid (fun (r : Al.SlA) i g W (hW : Gr w W) (hr : r.At W) (hi : i < r.n) (hc : a.Cells W g 0) => rsame_one r i a g W hr hi (ha.gr hW) hc)
  clear hN hL hj hsm hsv
  clear h ha
  generalize Al.allC N s.lst jp sm = X1 at *
  unfold Ba.netVal at *
  generalize N.A = nA at *; generalize N.n = nn at *; generalize N.c = nc at *; generalize L.A = lA at *; generalize L.n = ln at *; generalize L.c = lc at *
  generalize hAC : a.con = AC at *
  cases a with | mk akd and_ atm ap ab ao an ac aX =>
  unfold Al.A.Cells at HSm
  simp only [Nat.zero_add] at *
  generalize s.A = sA at *; generalize s.n = sn at *; generalize s.c = sc at *
  go_enter Tryz.func13, Tryz.ntmps13
  go_upto_region 1 with fail
  refine name_world ?_
  intro WK hWK
  have gK : Gr w WK := by rw [hWK]; exact gr_auto
  have p0 : WK.cell? ⟨w.heap.size, 0, none⟩ = some (.slice nA nn nc) := by rw [hWK]; simp [go_sem]
  have p1 : WK.cell? ⟨w.heap.size, 1, none⟩ = some (.slice lA ln lc) := by rw [hWK]; simp [go_sem]
  have p2 : WK.cell? ⟨w.heap.size + 1, 0, none⟩ = some (.int .i64 jp) := by rw [hWK]; simp [go_sem]
  have p3 : WK.cell? ⟨w.heap.size + 1, 1, none⟩ = some (.int .i64 sm) := by rw [hWK]; simp [go_sem]
  have p4 : WK.cell? ⟨w.heap.size + 1, 2, none⟩ = some (.int .i64 tl) := by rw [hWK]; simp [go_sem]
  have q5 : WK.cell? ⟨w.heap.size + 1 + 1, 0, none⟩ = some (.int .i64 akd) := by rw [hWK]; simp [go_sem]
  have q6 : WK.cell? ⟨w.heap.size + 1 + 1, 1, none⟩ = some (.string and_) := by rw [hWK]; simp [go_sem]
  have q7 : WK.cell? ⟨w.heap.size + 1 + 1, 2, none⟩ = some (.int .i64 atm) := by rw [hWK]; simp [go_sem]
  have q8 : WK.cell? ⟨w.heap.size + 1 + 1, 3, none⟩ = some (.slice ap an ac) := by rw [hWK]; simp [go_sem]
  clear hWK
  have z0 : w.heap.size < WK.heap.size := World.block_lt_of_cell? _ _ p0
  have z1 : w.heap.size + 1 < WK.heap.size := World.block_lt_of_cell? _ _ p2
  go_wp2_with fail
  refine (HAll.out _ gK).mono ?_
  intro e w2 hR; obtain ⟨r, rfl, hr, hcr, hb⟩ := hR.at; clear hR
  replace q5 := Gr.at hb q5; replace q6 := Gr.at hb q6; replace q7 := Gr.at hb q7; replace q8 := Gr.at hb q8
  have g2 := gK.trans hb
  clear p0 p1 p2 p3 p4 z0 z1 hb gK HAll
  obtain ⟨BA, hBA⟩ : ∃ BA, BA = w.heap.size + 1 + 1 := ⟨_, rfl⟩
  rw [← hBA] at q5 q6 q7 q8
  try rw [← hBA]
  clear hBA
  have HR := Lib.hid hr; have HCr := Lib.hid hcr
  have hrc := hr.hc; have hrb := hr.hb
  have HrA := Lib.hid hr.hA
  have HF := Lib.hid (fun i => show Ba.any (fun j => Al.eqC (r.D j).con AC) (i + 1) = (Ba.any (fun j => Al.eqC (r.D j).con AC) i || Al.eqC (r.D i).con AC) from Al.any_succ _ i)
  have HF0 := Lib.hid (show Ba.any (fun j => Al.eqC (r.D j).con AC) 0 = false from rfl)
  have HFn := Lib.hid (show Ba.any (fun j => Al.eqC (r.D j).con AC) r.n = false from by rw [Bool.eq_false_iff, ne_eq, ← hAC, Al.any_mem, hcr, hAC]; exact hm)
  have HSr := Lib.hid (fun i g W (hW : Gr w2 W) (hi : i < r.n) hc => HSm.out r i g W (g2.trans hW) (hr.gr hW) hi hc)
  have HSc := Lib.hid (fun i => show (r.D i).con = (r.D i).con from rfl)
  clear HSm hr hcr HSc hm
  generalize Ba.any (fun j => Al.eqC (r.D j).con AC) = FN at *
  generalize hEQ : (fun j => Al.eqC (r.D j).con AC) = EQ at *
  cases r with | mk rA rn rc rb ro rD =>
  simp only [] at *
  go_wp2_with fail
  go_loopw [11, 12] (fun u y wr => ∃ i : Nat, i ≤ rn ∧ y = .int .i64 (i : Int) ∧ u = .bool (FN i) ∧ Gr w2 wr) (fun _ y _ => rn - (intOf y).toNat)
  case atStart => exact ⟨0, Nat.zero_le _, rfl, by rw [HF0.out], Gr.refl _⟩
  case round =>
    obtain ⟨i, hi, rfl, rfl, hg2⟩ := hrel
    rename World => wx
    have gw := g2.trans hg2
    by_cases hlt : i < rn
    · obtain rfl := HrA.out (by omega)
      replace q5 := Gr.at hg2 q5; replace q6 := Gr.at hg2 q6; replace q7 := Gr.at hg2 q7; replace q8 := Gr.at hg2 q8
      have ib0 : (0 : Int) ≤ (i : Int) := by omega
      have ib1 : (i : Int) < (rn : Int) := by omega
      have HFi := Lib.hid (HF.out i)
      have HSi := Lib.hid (fun g W (hW : Gr wx W) hc => HSr.out i g W (hg2.trans hW) hlt hc)
      clear HSr HF HF0 HFn HR HCr 
      obtain ⟨E, hE⟩ : ∃ E, Al.eqC (rD i).con AC = E := ⟨_, rfl⟩
      rw [hE] at HSi HFi
      clear hE hEQ
      obtain ⟨FI, hFI⟩ : ∃ FI, FN i = FI := ⟨_, rfl⟩
      rw [hFI] at HFi
      rw [hFI]
      clear hFI
      cases FI
      · rw [Bool.false_or] at HFi
        go_upto_region 6 with fail
        refine name_world ?_
        intro W4 hW4
        have g4 : Gr wx W4 := by rw [hW4]; exact gr_auto
        clear hW4
        have s0 : ∀ w', Gr W4 w' → w'.cell? ⟨BA, 0, none⟩ = some (.int .i64 akd) := fun w' h => Gr.at (g4.trans h) q5
        have s1 : ∀ w', Gr W4 w' → w'.cell? ⟨BA, 1, none⟩ = some (.string and_) := fun w' h => Gr.at (g4.trans h) q6
        have s2 : ∀ w', Gr W4 w' → w'.cell? ⟨BA, 2, none⟩ = some (.int .i64 atm) := fun w' h => Gr.at (g4.trans h) q7
        have s3 : ∀ w', Gr W4 w' → w'.cell? ⟨BA, 3, none⟩ = some (.slice ap an ac) := fun w' h => Gr.at (g4.trans h) q8
        have HSj := Lib.hid (fun g W (hW : Gr W4 W) hc => HSi.out g W (g4.trans hW) hc)
        have hwi : IntKind.i64.wrap ((i : Int) + 1) = (i : Int) + 1 := by rw [IntKind.wrap_i64]; omega
        have hrc1 : (i : Int) + 1 ≤ (rc : Int) := by omega
        have hii : (i : Int) ≤ (i : Int) + 1 := by omega
        have hni : ¬ rc = i := by omega
        clear HSi q5 q6 q7 q8
        go_region_held3 (fun w' => Gr W4 w') (exact gr_auto) ((go_at_call 18; refine (HSj.out _ _ gr_auto ⟨by simp [go_sem], by simp [go_sem], by simp [go_sem], by simp [go_sem]⟩).mono ?_; rintro e w6 ⟨rfl, hb6⟩))
        all_goals (
          go_wp2_with fail
          go_roundw
          case rel => exact ⟨i + 1, by omega, by go_num, by rw [HFi.out], gr_auto⟩
          case measure => simp [intOf]; omega)
      · rw [Bool.true_or] at HFi
        clear HSi
        go_wp2_with fail
        go_quiet (fail)
        go_wp2_with fail
        go_roundw
        case rel => exact ⟨i + 1, by omega, by go_num, by rw [HFi.out], gr_auto⟩
        case measure => simp [intOf]; omega
    · obtain rfl : i = rn := by omega
      have hf := HFn.out
      clear HSr HF HF0 HFn HR HCr HrA
      rw [hf]
      clear hf hEQ
      go_wp2_with fail
      go_ret2
      exact ⟨rfl, gw⟩
set_option maxRecDepth 100000 in
set_option maxHeartbeats 4000000 in
theorem rCore_ok (N : Ba.SlNode) (L : Ba.SlLink) (s : Al.SlM) (jp sm tl : Int) (a : Al.A) (w : World) (hN : N.At w) (hL : L.At w) (h : s.At w) (ha : a.At w) (hsv : Al.vL s.lst) (hj : 0 ≤ jp ∧ jp ≤ 8388608) (hsm : 2 ≤ sm ∧ sm ≤ 10000) (hm : a.con ∈ Al.allC N s.lst jp sm) : Calls Tryz.prog 13 #[Ba.netVal N L, .slice s.A s.n s.c, .agg #[.int .i64 jp, .int .i64 sm, .int .i64 tl], .agg #[.int .i64 a.kd, .string a.nd, .int .i64 a.tm, .slice a.p a.n a.c]] w (Al.RetIb (Al.cix a.con s.D s.n) w) := by
  have hsn : s.n ≤ 10000 := by have := hsv.1; rw [Al.SlM.lst_len] at this; exact this
  have HAll := Lib.hid (fun W (hW : Gr w W) => rall_any N L s jp sm tl W (hN.gr hW) (hL.gr hW) (h.gr hW) hsv hj hsm)
  have HSm := Lib.hid (fun (r : Al.SlA) i g W (hW : Gr w W) (hr : r.At W) (hi : i < r.n) (hc : a.Cells W g 0) => rsame_one r i a g W hr hi (ha.gr hW) hc)
  clear hN hL hj hsm hsv
  have HA := Lib.hid h.hA; have HX := Lib.hid h.hD
  have hsc := h.hc; have hsb := h.hb
  have HpA := Lib.hid ha.hp; have HpX := Lib.hid ha.hX
  have han := ha.hn
  have HQ0 := Lib.hid (fun i => show Al.cix a.con s.D (i + 1) = Al.cix a.con s.D i ++ Al.oneIf (Ba.eqS (s.D i).nd a.nd && a.con.bc.contains (s.D i).nu) i from Al.idxP_succ _ i)
  have HQL := Lib.hid (fun i => show (Al.cix a.con s.D i).length ≤ i from Al.idxP_len _ i)
  have HQM := Lib.hid (fun i q (hq : q ∈ Al.cix a.con s.D i) => show q < i from (Al.idxP_lt hq).1)
  have HQ1 := Lib.hid (show Al.cix a.con s.D 0 = [] from rfl)
  have HB := Lib.hid (fun x => Al.hasi_bc a x)
  generalize Al.cix a.con s.D = Q at *
  generalize a.con.bc = bc at *
  clear h ha
  generalize Al.allC N s.lst jp sm = X1 at *
  unfold Ba.netVal at *
  generalize N.A = nA at *; generalize N.n = nn at *; generalize N.c = nc at *; generalize L.A = lA at *; generalize L.n = ln at *; generalize L.c = lc at *
  generalize hAC : a.con = AC at *
  cases a with | mk akd and_ atm ap ab ao an ac aX =>
  unfold Al.A.Cells at HSm
  simp only [Nat.zero_add] at *
  cases s with | mk sA sn sc sb so D =>
  simp only [] at *
  obtain ⟨i1, k0, k1, k2, k3⟩ := info_parts infoI
  have KI := Lib.hid k0; have KZ0 := Lib.hid k1; have KZ1 := Lib.hid k2; have KZ2 := Lib.hid k3
  clear k0 k1 k2 k3
  go_enter Tryz.func13, Tryz.ntmps13
  go_upto_region 1 with fail
  refine name_world ?_
  intro WK hWK
  have gK : Gr w WK := by rw [hWK]; exact gr_auto
  have p0 : WK.cell? ⟨w.heap.size, 0, none⟩ = some (.slice nA nn nc) := by rw [hWK]; simp [go_sem]
  have p1 : WK.cell? ⟨w.heap.size, 1, none⟩ = some (.slice lA ln lc) := by rw [hWK]; simp [go_sem]
  have p2 : WK.cell? ⟨w.heap.size + 1, 0, none⟩ = some (.int .i64 jp) := by rw [hWK]; simp [go_sem]
  have p3 : WK.cell? ⟨w.heap.size + 1, 1, none⟩ = some (.int .i64 sm) := by rw [hWK]; simp [go_sem]
  have p4 : WK.cell? ⟨w.heap.size + 1, 2, none⟩ = some (.int .i64 tl) := by rw [hWK]; simp [go_sem]
  have q5 : WK.cell? ⟨w.heap.size + 1 + 1, 0, none⟩ = some (.int .i64 akd) := by rw [hWK]; simp [go_sem]
  have q6 : WK.cell? ⟨w.heap.size + 1 + 1, 1, none⟩ = some (.string and_) := by rw [hWK]; simp [go_sem]
  have q7 : WK.cell? ⟨w.heap.size + 1 + 1, 2, none⟩ = some (.int .i64 atm) := by rw [hWK]; simp [go_sem]
  have q8 : WK.cell? ⟨w.heap.size + 1 + 1, 3, none⟩ = some (.slice ap an ac) := by rw [hWK]; simp [go_sem]
  clear hWK
  have z0 : w.heap.size < WK.heap.size := World.block_lt_of_cell? _ _ p0
  have z1 : w.heap.size + 1 < WK.heap.size := World.block_lt_of_cell? _ _ p2
  go_wp2_with fail
  refine (HAll.out _ gK).mono ?_
  intro e w2 hR; obtain ⟨r, rfl, hr, hcr, hb⟩ := hR.at; clear hR
  replace q5 := Gr.at hb q5; replace q6 := Gr.at hb q6; replace q7 := Gr.at hb q7; replace q8 := Gr.at hb q8
  have g2 := gK.trans hb
  clear p0 p1 p2 p3 p4 z0 z1 hb gK HAll
  obtain ⟨BA, hBA⟩ : ∃ BA, BA = w.heap.size + 1 + 1 := ⟨_, rfl⟩
  rw [← hBA] at q5 q6 q7 q8
  try rw [← hBA]
  clear hBA
  have HR := Lib.hid hr; have HCr := Lib.hid hcr
  have hrc := hr.hc; have hrb := hr.hb
  have HrA := Lib.hid hr.hA
  have HF := Lib.hid (fun i => show Ba.any (fun j => Al.eqC (r.D j).con AC) (i + 1) = (Ba.any (fun j => Al.eqC (r.D j).con AC) i || Al.eqC (r.D i).con AC) from Al.any_succ _ i)
  have HF0 := Lib.hid (show Ba.any (fun j => Al.eqC (r.D j).con AC) 0 = false from rfl)
  have HFn := Lib.hid (show Ba.any (fun j => Al.eqC (r.D j).con AC) r.n = true from by rw [← hAC, Al.any_mem, hcr, hAC]; exact hm)
  have HSr := Lib.hid (fun i g W (hW : Gr w2 W) (hi : i < r.n) hc => HSm.out r i g W (g2.trans hW) (hr.gr hW) hi hc)
  have HSc := Lib.hid (fun i => show (r.D i).con = (r.D i).con from rfl)
  clear HSm hr hcr HSc hm
  generalize Ba.any (fun j => Al.eqC (r.D j).con AC) = FN at *
  generalize hEQ : (fun j => Al.eqC (r.D j).con AC) = EQ at *
  cases r with | mk rA rn rc rb ro rD =>
  simp only [] at *
  go_wp2_with fail
  go_loopw [11, 12] (fun u y wr => ∃ i : Nat, i ≤ rn ∧ y = .int .i64 (i : Int) ∧ u = .bool (FN i) ∧ Gr w2 wr) (fun _ y _ => rn - (intOf y).toNat)
  case atStart => exact ⟨0, Nat.zero_le _, rfl, by rw [HF0.out], Gr.refl _⟩
  case round =>
    obtain ⟨i, hi, rfl, rfl, hg2⟩ := hrel
    rename World => wx
    have gw := g2.trans hg2
    by_cases hlt : i < rn
    · obtain rfl := HrA.out (by omega)
      replace q5 := Gr.at hg2 q5; replace q6 := Gr.at hg2 q6; replace q7 := Gr.at hg2 q7; replace q8 := Gr.at hg2 q8
      have ib0 : (0 : Int) ≤ (i : Int) := by omega
      have ib1 : (i : Int) < (rn : Int) := by omega
      have HFi := Lib.hid (HF.out i)
      have HSi := Lib.hid (fun g W (hW : Gr wx W) hc => HSr.out i g W (hg2.trans hW) hlt hc)
      clear HSr HF HF0 HFn HR HCr HA HX HpA HpX HQ0 HQL HQM HQ1 HB KI KZ0 KZ1 KZ2
      obtain ⟨E, hE⟩ : ∃ E, Al.eqC (rD i).con AC = E := ⟨_, rfl⟩
      rw [hE] at HSi HFi
      clear hE hEQ
      obtain ⟨FI, hFI⟩ : ∃ FI, FN i = FI := ⟨_, rfl⟩
      rw [hFI] at HFi
      rw [hFI]
      clear hFI
      cases FI
      · rw [Bool.false_or] at HFi
        go_upto_region 6 with fail
        refine name_world ?_
        intro W4 hW4
        have g4 : Gr wx W4 := by rw [hW4]; exact gr_auto
        clear hW4
        have s0 : ∀ w', Gr W4 w' → w'.cell? ⟨BA, 0, none⟩ = some (.int .i64 akd) := fun w' h => Gr.at (g4.trans h) q5
        have s1 : ∀ w', Gr W4 w' → w'.cell? ⟨BA, 1, none⟩ = some (.string and_) := fun w' h => Gr.at (g4.trans h) q6
        have s2 : ∀ w', Gr W4 w' → w'.cell? ⟨BA, 2, none⟩ = some (.int .i64 atm) := fun w' h => Gr.at (g4.trans h) q7
        have s3 : ∀ w', Gr W4 w' → w'.cell? ⟨BA, 3, none⟩ = some (.slice ap an ac) := fun w' h => Gr.at (g4.trans h) q8
        have HSj := Lib.hid (fun g W (hW : Gr W4 W) hc => HSi.out g W (g4.trans hW) hc)
        have hwi : IntKind.i64.wrap ((i : Int) + 1) = (i : Int) + 1 := by rw [IntKind.wrap_i64]; omega
        have hrc1 : (i : Int) + 1 ≤ (rc : Int) := by omega
        have hii : (i : Int) ≤ (i : Int) + 1 := by omega
        have hni : ¬ rc = i := by omega
        clear HSi q5 q6 q7 q8
        go_region_held3 (fun w' => Gr W4 w') (exact gr_auto) ((go_at_call 18; refine (HSj.out _ _ gr_auto ⟨by simp [go_sem], by simp [go_sem], by simp [go_sem], by simp [go_sem]⟩).mono ?_; rintro e w6 ⟨rfl, hb6⟩))
        all_goals (
          go_wp2_with fail
          go_roundw
          case rel => exact ⟨i + 1, by omega, by go_num, by rw [HFi.out], gr_auto⟩
          case measure => simp [intOf]; omega)
      · rw [Bool.true_or] at HFi
        clear HSi
        go_wp2_with fail
        go_quiet (fail)
        go_wp2_with fail
        go_roundw
        case rel => exact ⟨i + 1, by omega, by go_num, by rw [HFi.out], gr_auto⟩
        case measure => simp [intOf]; omega
    · obtain rfl : i = rn := by omega
      have hf := HFn.out
      clear HSr HF HF0 HFn HR HCr HrA
      rw [hf]
      clear hf hEQ
      go_wp2_with fail
      refine name_world ?_
      intro W4 hW4
      have g4 : Gr w2 W4 := by rw [hW4]; exact hg2.trans (by exact gr_auto)
      replace q6 := Gr.at g4 q6; replace q8 := Gr.at g4 q8
      have g := g2.trans g4
      clear hW4 g2 gw hg2 q5 q7 hlt
      go_loopw [13, 14] (fun v y wr => ∃ i : Nat, i ≤ sn ∧ y = .int .i64 (i : Int) ∧ Hid (wr.ownsRow W4.heap.size 3 1 v (Q i).length ((Q i).map fun (q : Nat) => Value.int .i64 (q : Int))) ∧ Gr W4 wr) (fun _ y _ => sn - (intOf y).toNat)
      case atStart => exact ⟨0, Nat.zero_le _, rfl, Lib.hid (by rw [HQ1.out]; exact World.ownsRow_nil _ _ _ _), Gr.refl _⟩
      case round =>
        obtain ⟨i, hi, rfl, HO, hg2⟩ := hrel
        rename World => wr
        have gw := g.trans hg2
        by_cases hlt : i < sn
        · have hsA := HA.out (by omega)
          subst hsA
          obtain ⟨a0, a1, a2, a3, a4⟩ := (HX.out i hlt).1.gr gw
          have ib0 : (0 : Int) ≤ (i : Int) := by omega
          have ib1 : (i : Int) < (sn : Int) := by omega
          replace q6 := Gr.at hg2 q6; replace q8 := Gr.at hg2 q8
          have hll := HQL.out i
          have HN := Lib.hid (HQ0.out i)
          have hz := Gr.size hg2
          have HBe := Lib.hid (HB.out (D i).nu)
          clear HX HA HQ0 HQL HQM HQ1 HB
          obtain ⟨m, hm⟩ : ∃ m, D i = m := ⟨_, rfl⟩
          rw [hm] at a0 a1 a2 a3 a4 HN HBe
          clear hm
          obtain ⟨LO, hLO⟩ : ∃ LO, Q i = LO := ⟨_, rfl⟩
          rw [hLO] at HN HO hll
          clear hLO
          obtain ⟨PN, hPN⟩ : ∃ PN : Nat → Bool, (fun q => aX q == m.nu) = PN := ⟨_, rfl⟩
          rw [hPN] at HBe
          have HPN := Lib.hid (fun k => show (m.nu == aX k) = PN k from by rw [← hPN]; exact BEq.comm)
          have HAs := Lib.hid (Al.any_succ PN)
          have HAz := Lib.hid (Al.any_zero PN)
          clear hPN
          generalize Ba.any PN = AN at *
          go_wp2_with fail
          go_loopw [15, 16] (fun u z wz => ∃ k : Nat, k ≤ an ∧ z = .int .i64 (k : Int) ∧ u = .bool (AN k) ∧ Gr wr wz) (fun _ z _ => an - (intOf z).toNat)
          case atStart => exact ⟨0, Nat.zero_le _, rfl, by rw [HAz.out], by exact gr_auto⟩
          case round =>
            obtain ⟨k, hk, rfl, rfl, hg3⟩ := hrel
            rename World => wz
            replace q6 := Gr.at hg3 q6; replace q8 := Gr.at hg3 q8; replace a0 := Gr.at hg3 a0; replace a1 := Gr.at hg3 a1
            by_cases hkl : k < an
            · obtain rfl := HpA.out (by omega)
              have c0 := Gr.at (gw.trans hg3) (HpX.out k hkl)
              have kb0 : (0 : Int) ≤ (k : Int) := by omega
              have kb1 : (k : Int) < (an : Int) := by omega
              have hq := HPN.out k
              have HS := Lib.hid (HAs.out k)
              clear HPN HAs HAz HBe HN HO HpA HpX
              obtain ⟨x, hx⟩ : ∃ x, aX k = x := ⟨_, rfl⟩
              rw [hx] at c0 hq
              clear hx
              obtain ⟨P, hP⟩ : ∃ P, PN k = P := ⟨_, rfl⟩
              rw [hP] at hq HS
              clear hP
              obtain ⟨F, hF⟩ : ∃ F, AN k = F := ⟨_, rfl⟩
              rw [hF] at HS
              rw [hF]
              clear hF
              cases F
              · rw [Bool.false_or] at HS
                go_wp2_with fail
                go_quiet (fail)
                go_wp2_with fail
                go_roundw
                case rel => exact ⟨k + 1, by omega, by go_num, by rw [HS.out, ← hq], hg3.trans (by exact gr_auto)⟩
                case measure => simp [intOf]; omega
              · rw [Bool.true_or] at HS
                clear hq
                go_wp2_with fail
                go_quiet (fail)
                go_wp2_with fail
                go_roundw
                case rel => exact ⟨k + 1, by omega, by go_num, by rw [HS.out], hg3.trans (by exact gr_auto)⟩
                case measure => simp [intOf]; omega
            · obtain rfl : k = an := by omega
              have hbe := HBe.out
              rw [← hbe] at HN
              clear HPN HAs HAz HBe hbe HpA HpX
              obtain ⟨F, hF⟩ : ∃ F, AN k = F := ⟨_, rfl⟩
              rw [hF] at HN
              rw [hF]
              clear hF
              have hg4 := hg2.trans hg3
              cases F
              · rw [Bool.and_false] at HN
                simp only [Al.oneIf, cond_false, List.append_nil] at HN
                have HP := Lib.hid (show ∀ wx, Gr wr wx → wx.ownsRow W4.heap.size 3 1 _ (Q (i + 1)).length ((Q (i + 1)).map fun (q : Nat) => Value.int .i64 (q : Int)) from fun wx hwx => by rw [HN.out]; exact ownsRow_gr HO.out hwx)
                clear HO HN
                go_wp2_with fail
                go_quiet (fail)
                go_wp2_with fail
                go_roundw
                case rel => exact ⟨i + 1, by omega, by go_num, Lib.hid (HP.out _ (hg3.trans (by exact gr_auto))), hg4.trans (by exact gr_auto)⟩
                case measure => simp [intOf]; omega
              · rw [Bool.and_true] at HN
                have hsi : (m.nd.toList == and_.toList) = Ba.eqS m.nd and_ := rfl
                cases e : Ba.eqS m.nd and_
                · rw [e] at HN hsi
                  simp only [Al.oneIf, cond_false, List.append_nil] at HN
                  have HP := Lib.hid (show ∀ wx, Gr wr wx → wx.ownsRow W4.heap.size 3 1 _ (Q (i + 1)).length ((Q (i + 1)).map fun (q : Nat) => Value.int .i64 (q : Int)) from fun wx hwx => by rw [HN.out]; exact ownsRow_gr HO.out hwx)
                  clear HO HN
                  go_wp2_with fail
                  go_quiet (fail)
                  go_wp2_with fail
                  go_roundw
                  case rel => exact ⟨i + 1, by omega, by go_num, Lib.hid (HP.out _ (hg3.trans (by exact gr_auto))), hg4.trans (by exact gr_auto)⟩
                  case measure => simp [intOf]; omega
                · rw [e] at HN hsi
                  simp only [Al.oneIf, cond_true] at HN
                  have HOz := Lib.hid (ownsRow_gr HO.out hg3)
                  have hz3 := Gr.size hg4
                  clear HO
                  go_wp2_with fail
                  go_quiet (fail)
                  go_upto_region 19 with fail
                  refine name_world ?_
                  intro W7 hW7
                  have g7 : Gr wz W7 := by rw [hW7]; exact gr_auto
                  have hz7 := Gr.size g7
                  clear hW7
                  go_wp2_with (at_builtin; refine wpList_append_own _ rfl _ _ 29 rfl W4.heap.size 3 i1 (.int .i64 0) 1 8 Tryz.underlying29 KI.out KZ0.out KZ1.out KZ2.out rfl (by decide) _ _ _ rfl (ownsRow_gr HOz.out (by exact gr_auto)) ⟨W7.heap.size, 0, none⟩ 1 1 [.int .i64 (i : Int)] rfl rfl (by intro p u hp; rcases p with _ | p <;> simp at hp <;> (try subst hp) <;> first | (simp [Addr.add, go_sem]; done) | (simp [Addr.add]; done)) (by intro u hu; simp at hu; rcases hu with rfl; rfl) (by unfold maxLen; omega) (by omega) (by simp; omega) ?_)
                  intro v' w9 hown' hgrow hnil
                  have HP := Lib.hid (show w9.ownsRow W4.heap.size 3 1 v' (Q (i + 1)).length ((Q (i + 1)).map fun (q : Nat) => Value.int .i64 (q : Int)) from by rw [HN.out, List.length_append, List.map_append]; exact hown')
                  have g9 : Gr W4 w9 := Gr.own (by exact gr_auto) (Nat.le_refl _) (ownsRow_gr HOz.out (by exact gr_auto)) hgrow
                  clear HOz hown' hgrow hnil HN
                  go_wp2_with fail
                  go_roundw
                  case rel => exact ⟨i + 1, by omega, by go_num, HP, g9⟩
                  case measure => simp [intOf]; omega
        · obtain rfl : sn = i := by omega
          obtain ⟨d, rfl, hd1, hd2, hd3⟩ := ownI_sl HO.out (fun q hq => by have := HQM.out _ q hq; omega)
          have HD1 := Lib.hid hd1; have HD2 := Lib.hid hd2; have HD3 := Lib.hid hd3
          clear HX HA HO hd1 hd2 hd3 HQ0 HQL HQM HQ1 HB HpA HpX q6 q8
          go_wp2_with fail
          go_ret2
          exact ⟨d, rfl, HD1.out, HD2.out, HD3.out, gw⟩
end Go.Proofs.YtllkiadedaghoaaGreatDoor
set_option linter.unusedVariables false
set_option linter.unusedSimpArgs false
namespace Go.Proofs.YtllkiadedaghoaaGreatDoor
open Go.RowKit Go.Shelf Go.Sort
attribute [local go_sem ↓] Go.wp_at_zero Go.wp_at_succ
namespace Ba
/-- Are the numbers the same? -/
def eqI (a b : SlI) : Bool := decide (a.n = b.n) && allB (fun i => a.X i == b.X i) a.n
end Ba
set_option maxRecDepth 100000 in
set_option maxHeartbeats 4000000 in
theorem eqi_any (a b : Ba.SlI) (w : World) (m1 : a.n ≤ 9223372036854775807) (m2 : b.n ≤ 9223372036854775807) (ha : 0 < a.n → a.A = some ⟨a.b, a.o, none⟩) (hax : ∀ i, i < a.n → w.cell? ⟨a.b, a.o + i, none⟩ = some (.int .i64 (a.X i))) (hb : 0 < b.n → b.A = some ⟨b.b, b.o, none⟩) (hbx : ∀ i, i < b.n → w.cell? ⟨b.b, b.o + i, none⟩ = some (.int .i64 (b.X i))) : Calls Tryz.prog 14 #[.slice a.A a.n a.c, .slice b.A b.n b.c] w fun e w' => e = .returned (.bool (Ba.eqI a b)) ∧ Gr w w' := by
  have HA := Lib.hid ha; have HX := Lib.hid hax; have KA := Lib.hid hb; have KX := Lib.hid hbx
  clear ha hb hax hbx
  unfold Ba.eqI
  obtain ⟨A, n, c, b1, o1, X⟩ := a
  obtain ⟨A2, n2, c2, b2, o2, Y⟩ := b
  simp only at *
  by_cases hn : n = n2
  rotate_left
  · rw [decide_eq_false hn]
    have t0 : ((n : Int) != (n2 : Int)) = true := by rw [bne_iff_ne]; omega
    clear hn
    go_enter Tryz.func14, Tryz.ntmps14
    go_wp2_with fail
    go_ret
    exact ⟨rfl, gr_auto⟩
  subst hn
  rw [decide_eq_true rfl, Bool.true_and]
  go_enter Tryz.func14, Tryz.ntmps14
  go_wp2_with fail
  go_loopw [13] (fun x wr => ∃ i : Nat, i ≤ n ∧ x = .int .i64 (i : Int) ∧ Hid (Ba.allB (fun i => X i == Y i) i = true) ∧ Gr w wr) (fun x _ => n - (intOf x).toNat)
  case atStart => exact ⟨0, Nat.zero_le _, rfl, Lib.hid rfl, Gr.refl _⟩
  case round =>
    obtain ⟨i, hi, rfl, HQ, hg⟩ := hrel
    by_cases hlt : i < n
    · obtain rfl := HA.out (by omega); obtain rfl := KA.out (by omega)
      have a0 := Gr.at hg (HX.out i hlt); have a1 := Gr.at hg (KX.out i hlt)
      have ib0 : (0 : Int) ≤ (i : Int) := by omega
      have ib1 : (i : Int) < (n : Int) := by omega
      cases hq : (X i == Y i)
      · have HZ := Lib.hid (Ba.allB_stop (p := fun i => X i == Y i) hlt hq)
        have hq2 : (X i != Y i) = true := by simp only [bne, hq, Bool.not_false]
        clear HX KX HQ
        generalize X i = x at *
        generalize Y i = y at *
        go_wp2_with fail
        go_quiet (fail)
        go_wp2_with fail
        go_ret
        exact ⟨by rw [HZ.out]; rfl, gr_auto⟩
      · have HZ := Lib.hid (Ba.allB_go (p := fun i => X i == Y i) HQ.out hq)
        have hq2 : (X i != Y i) = false := by simp only [bne, hq, Bool.not_true]
        clear HX KX HQ
        generalize X i = x at *
        generalize Y i = y at *
        go_wp2_with fail
        go_quiet (fail)
        go_wp2_with fail
        go_roundw
        case rel => exact ⟨i + 1, by omega, by go_num, HZ, gr_auto⟩
        case measure => simp [intOf]; omega
    · obtain rfl : n = i := by omega
      have HR := Lib.hid HQ.out
      clear HX KX HQ
      go_wp2_with fail
      go_ret
      exact ⟨by rw [HR.out]; rfl, hg⟩
end Go.Proofs.YtllkiadedaghoaaGreatDoor
