/-
  Surfaces: mesh.Valid. (Printed by mki.py.)
  Runoff: ContainsFunc at []string and [][]int; the closures of runoff.right. (Printed by mkrc.py.)
-/
import Derived.Test.YtajhhplgcegodaaGreatDoorInf19
import Derived.Test.YtajhhplgcegodaaGreatDoorInf09
import Derived.Test.YtajhhplgcegodaaGreatDoorInf16
import Derived.Test.YtajhhplgcegodaaGreatDoorInf06

set_option linter.unusedVariables false
set_option linter.unusedSimpArgs false
namespace Go.Proofs.YtajhhplgcegodaaGreatDoor
open Go.RowKit
theorem own_slice {w : World} {base e size n : Nat} {v : Value} {xs : List Value} (h : w.ownsRow base e size v n xs) : ∃ (A : Option Addr) (c : Nat), v = .slice A n c ∧ n ≤ c ∧ c ≤ 9223372036854775807 := by
  obtain ⟨hl, ⟨rfl, rfl⟩ | ⟨g, cap, cur, rfl, hb, hc, hn, hm, r⟩⟩ := h
  · exact ⟨none, 0, rfl, Nat.le_refl _, by omega⟩
  · exact ⟨_, cap, rfl, hn, by unfold maxLen at hm; exact hm⟩
set_option maxRecDepth 100000 in
set_option maxHeartbeats 4000000 in
theorem ms_valid (m : Ms.Mesh) (w : World) (h : m.At w) (hs : Ms.smB m = false ∨ (m.S.n ≤ 61 ∧ m.F.n ≤ 61)) : Calls Tryz.prog 32 #[m.val] w fun e w' => e = .returned (.bool (Ms.vlB m)) ∧ Gr w w' := by
  cases hq : Ms.smB m
  · have HC := Lib.hid (fun W => ms_check_big m W hq)
    have HQ := Lib.hid (show Ms.vlB m = false from by unfold Ms.vlB; rw [hq]; rfl)
    clear h hs hq
    unfold Ms.Mesh.val at *
    generalize m.S.A = sA at *; generalize m.S.n = sn at *; generalize m.S.c = sc at *; generalize m.F.A = fA at *; generalize m.F.n = fn at *; generalize m.F.c = fc at *
    go_enter Tryz.func32, Tryz.ntmps32
    go_wp2_with fail
    refine (HC.out _).mono ?_
    rintro e w2 ⟨rfl, hb2⟩
    clear HC
    have g1 := Gr.alloc (Gr.refl w) (Obj.cells #[.slice sA sn sc, .slice fA fn fc] 25)
    go_wp2_with fail
    go_ret
    exact ⟨by rw [HQ.out]; rfl, g1.trans hb2⟩
  · rw [hq] at hs
    obtain ⟨h1, h2⟩ := hs.resolve_left (by decide)
    have HC := Lib.hid (fun W (hW : Gr w W) => ms_check m W (h.gr hW) h1 h2)
    have HQ := Lib.hid (show Ms.vlB m = decide ((Ms.fnd m 7).length = 0) from by unfold Ms.vlB; rw [hq]; cases Ms.fnd m 7 <;> rfl)
    have hl := Ms.fnd_le m h1 h2 7
    unfold RetChk at HC
    clear h hs hq h1 h2
    unfold Ms.Mesh.val at *
    generalize m.S.A = sA at *; generalize m.S.n = sn at *; generalize m.S.c = sc at *; generalize m.F.A = fA at *; generalize m.F.n = fn at *; generalize m.F.c = fc at *
    generalize Ms.vlB m = q at *
    obtain ⟨L, hL⟩ : ∃ L, Ms.fnd m 7 = L := ⟨_, rfl⟩
    simp only [hL] at HC HQ hl
    clear hL
    go_enter Tryz.func32, Tryz.ntmps32
    go_wp2_with fail
    have g1 := Gr.alloc (Gr.refl w) (Obj.cells #[.slice sA sn sc, .slice fA fn fc] 25)
    refine (HC.out _ g1).mono ?_
    rintro e w2 ⟨v, rfl, ho, hb2⟩
    obtain ⟨A, c, rfl, -, -⟩ := own_slice ho
    clear HC ho
    by_cases h0 : L.length = 0
    · have t0 : ((L.length : Int) == 0) = true := by rw [h0]; rfl
      rw [decide_eq_true h0] at HQ
      clear h0
      go_wp2_with fail
      go_ret
      exact ⟨by rw [HQ.out]; rfl, g1.trans hb2⟩
    · have t0 : ((L.length : Int) == 0) = false := beq_eq_false_iff_ne.2 (by omega)
      rw [decide_eq_false h0] at HQ
      clear h0
      go_wp2_with fail
      go_ret
      exact ⟨by rw [HQ.out]; rfl, g1.trans hb2⟩
end Go.Proofs.YtajhhplgcegodaaGreatDoor
set_option linter.unusedVariables false
set_option linter.unusedSimpArgs false
namespace Go.Proofs.YtajhhplgcegodaaGreatDoor
open Go.RowKit
namespace Ba
/-- Slices of ints in a slice. -/
structure SlU where
  A : Option Addr
  n : Nat
  c : Nat
  b : Nat
  o : Nat
  X : Nat → SlI
structure SlU.At (w : World) (s : SlU) : Prop where
  hA : 0 < s.n → s.A = some ⟨s.b, s.o, none⟩
  hc : s.n ≤ s.c
  hb : s.c ≤ 9223372036854775807
  hX : ∀ i, i < s.n → w.cell? ⟨s.b, s.o + i, none⟩ = some (.slice (s.X i).A (s.X i).n (s.X i).c) ∧ (s.X i).At w
theorem SlU.At.gr {w w1 : World} {s : SlU} (h : s.At w) (hg : Gr w w1) : s.At w1 := ⟨h.hA, h.hc, h.hb, fun i hi => ⟨Gr.at hg (h.hX i hi).1, (h.hX i hi).2.gr hg⟩⟩
end Ba
set_option maxRecDepth 100000 in
set_option maxHeartbeats 4000000 in
theorem idx_strs (f : FuncId) (cap : Array Value) (A : Option Addr) (n c b o : Nat) (X : Nat → ByteArray) (p : Nat → Bool) (w : World) (hn : n ≤ 9223372036854775807) (hen : ∀ args w, (callFunc f args).run Tryz.prog w = .ok (.enter f args) w)
    (hA : 0 < n → A = some ⟨b, o, none⟩) (hX : ∀ i, i < n → w.cell? ⟨b, o + i, none⟩ = some (.string (X i)))
    (hp : ∀ i, i < n → ∀ W, Gr w W → Calls Tryz.prog f (#[.string (X i)] ++ cap) W fun e w' => e = .returned (.bool (p i)) ∧ Gr W w') :
    Calls Tryz.prog 53 #[.slice A n c, .func (.func f) #[] cap] w fun e w' => e = .returned (.int .i64 (Ba.fstI p n)) ∧ Gr w w' := by
  have HA := Lib.hid hA; have HX := Lib.hid hX; have HP := Lib.hid hp
  clear hA hX hp
  go_enter Tryz.func53, Tryz.ntmps53
  go_wp2_with fail
  go_loopw [8] (fun s8 wr => ∃ i : Nat, i ≤ n ∧ s8 = .int .i64 (i : Int) ∧ Gr w wr ∧ Hid (Ba.fst p i = none)) (fun s8 _ => n - (intOf s8).toNat)
  case atStart => exact ⟨0, Nat.zero_le _, rfl, Gr.refl _, rfl⟩
  case round =>
    obtain ⟨i, hi, rfl, hg, hf⟩ := hrel
    by_cases hlt : i < n
    · obtain rfl := HA.out (by omega)
      have a0 := Gr.at hg (HX.out i hlt)
      have HC := Lib.hid (HP.out i hlt)
      cases hpi : p i
      · rw [hpi] at HC
        have HF := Lib.hid (Ba.fst_miss hf.out hpi)
        clear hpi hi
        go_wp2_with fail
        refine (HC.out _ gr_auto).mono ?_
        rintro e w1 ⟨rfl, hb1⟩
        go_wp2_with fail
        go_roundw
        case rel => exact ⟨i + 1, by omega, by go_num, gr_auto, HF⟩
        case measure => simp [intOf]; omega
      · rw [hpi] at HC
        have HF := Lib.hid (Ba.fstI_hit hf.out hpi hlt)
        clear hpi hi
        go_wp2_with fail
        refine (HC.out _ gr_auto).mono ?_
        rintro e w1 ⟨rfl, hb1⟩
        go_wp2_with fail
        go_ret
        exact ⟨ret_int HF.out.symm, gr_auto⟩
    · obtain rfl : i = n := by omega
      have HF := Lib.hid (Ba.fstI_none hf.out)
      go_wp2_with fail
      go_ret
      exact ⟨ret_int HF.out.symm, hg⟩
theorem has_strs (f : FuncId) (cap : Array Value) (s : Ba.SlS) (p : Nat → Bool) (w : World) (h : s.At w) (hen : ∀ args w, (callFunc f args).run Tryz.prog w = .ok (.enter f args) w)
    (hp : ∀ i, i < s.n → ∀ W, Gr w W → Calls Tryz.prog f (#[.string (s.X i)] ++ cap) W fun e w' => e = .returned (.bool (p i)) ∧ Gr W w') :
    Calls Tryz.prog 19 #[.slice s.A s.n s.c, .func (.func f) #[] cap] w fun e w' => e = .returned (.bool (Ba.any p s.n)) ∧ Gr w w' := by
  have HI := Lib.hid (idx_strs f cap s.A s.n s.c s.b s.o s.X p w (Nat.le_trans h.hc h.hb) hen h.hA (fun i hi => (h.hX i hi).1) hp)
  have HG := Lib.hid (Ba.fstI_ge p s.n)
  clear hp h
  generalize Ba.fstI p s.n = r at *
  generalize Ba.any p s.n = q at *
  generalize s.A = A at *
  generalize s.n = n at *
  generalize s.c = c at *
  go_enter Tryz.func19, Tryz.ntmps19
  go_wp2_with fail
  refine HI.out.mono ?_
  rintro e w1 ⟨rfl, hb1⟩
  go_wp2
  go_ret
  exact ⟨ret_bool HG.out, hb1⟩
set_option maxRecDepth 100000 in
set_option maxHeartbeats 4000000 in
theorem idx_units (f : FuncId) (cap : Array Value) (A : Option Addr) (n c b o : Nat) (X : Nat → Ba.SlI) (p : Nat → Bool) (w : World) (hn : n ≤ 9223372036854775807) (hen : ∀ args w, (callFunc f args).run Tryz.prog w = .ok (.enter f args) w)
    (hA : 0 < n → A = some ⟨b, o, none⟩) (hX : ∀ i, i < n → w.cell? ⟨b, o + i, none⟩ = some (.slice (X i).A (X i).n (X i).c))
    (hp : ∀ i, i < n → ∀ W, Gr w W → Calls Tryz.prog f (#[.slice (X i).A (X i).n (X i).c] ++ cap) W fun e w' => e = .returned (.bool (p i)) ∧ Gr W w') :
    Calls Tryz.prog 54 #[.slice A n c, .func (.func f) #[] cap] w fun e w' => e = .returned (.int .i64 (Ba.fstI p n)) ∧ Gr w w' := by
  have HA := Lib.hid hA; have HX := Lib.hid hX; have HP := Lib.hid hp
  clear hA hX hp
  go_enter Tryz.func54, Tryz.ntmps54
  go_wp2_with fail
  go_loopw [8] (fun s8 wr => ∃ i : Nat, i ≤ n ∧ s8 = .int .i64 (i : Int) ∧ Gr w wr ∧ Hid (Ba.fst p i = none)) (fun s8 _ => n - (intOf s8).toNat)
  case atStart => exact ⟨0, Nat.zero_le _, rfl, Gr.refl _, rfl⟩
  case round =>
    obtain ⟨i, hi, rfl, hg, hf⟩ := hrel
    by_cases hlt : i < n
    · obtain rfl := HA.out (by omega)
      have a0 := Gr.at hg (HX.out i hlt)
      have HC := Lib.hid (HP.out i hlt)
      cases hpi : p i
      · rw [hpi] at HC
        have HF := Lib.hid (Ba.fst_miss hf.out hpi)
        clear hpi hi
        go_wp2_with fail
        refine (HC.out _ gr_auto).mono ?_
        rintro e w1 ⟨rfl, hb1⟩
        go_wp2_with fail
        go_roundw
        case rel => exact ⟨i + 1, by omega, by go_num, gr_auto, HF⟩
        case measure => simp [intOf]; omega
      · rw [hpi] at HC
        have HF := Lib.hid (Ba.fstI_hit hf.out hpi hlt)
        clear hpi hi
        go_wp2_with fail
        refine (HC.out _ gr_auto).mono ?_
        rintro e w1 ⟨rfl, hb1⟩
        go_wp2_with fail
        go_ret
        exact ⟨ret_int HF.out.symm, gr_auto⟩
    · obtain rfl : i = n := by omega
      have HF := Lib.hid (Ba.fstI_none hf.out)
      go_wp2_with fail
      go_ret
      exact ⟨ret_int HF.out.symm, hg⟩
theorem has_units (f : FuncId) (cap : Array Value) (s : Ba.SlU) (p : Nat → Bool) (w : World) (h : s.At w) (hen : ∀ args w, (callFunc f args).run Tryz.prog w = .ok (.enter f args) w)
    (hp : ∀ i, i < s.n → ∀ W, Gr w W → Calls Tryz.prog f (#[.slice (s.X i).A (s.X i).n (s.X i).c] ++ cap) W fun e w' => e = .returned (.bool (p i)) ∧ Gr W w') :
    Calls Tryz.prog 21 #[.slice s.A s.n s.c, .func (.func f) #[] cap] w fun e w' => e = .returned (.bool (Ba.any p s.n)) ∧ Gr w w' := by
  have HI := Lib.hid (idx_units f cap s.A s.n s.c s.b s.o s.X p w (Nat.le_trans h.hc h.hb) hen h.hA (fun i hi => (h.hX i hi).1) hp)
  have HG := Lib.hid (Ba.fstI_ge p s.n)
  clear hp h
  generalize Ba.fstI p s.n = r at *
  generalize Ba.any p s.n = q at *
  generalize s.A = A at *
  generalize s.n = n at *
  generalize s.c = c at *
  go_enter Tryz.func21, Tryz.ntmps21
  go_wp2_with fail
  refine HI.out.mono ?_
  rintro e w1 ⟨rfl, hb1⟩
  go_wp2
  go_ret
  exact ⟨ret_bool HG.out, hb1⟩
theorem rw1_any (s : Ba.SlI) (w : World) (h : s.At w) : Calls Tryz.prog 100 #[.slice s.A s.n s.c] w fun e w' => e = .returned (.bool (!Ba.uniB s)) ∧ Gr w w' := by
  have HU := Lib.hid (fun W (hh : Gr w W) => hvalid_any s W (h.gr hh))
  clear h
  generalize Ba.uniB s = q at *
  obtain ⟨A, n, c, b, o, X⟩ := s
  simp only at *
  go_enter Tryz.func100, Tryz.ntmps100
  go_wp2_with fail
  refine (HU.out _ gr_auto).mono ?_
  rintro e w1 ⟨rfl, hb1⟩
  go_wp2_with fail
  go_ret
  exact ⟨rfl, hb1⟩
theorem rw2_any (s : ByteArray) (w : World) (hm : s.size ≤ 9223372036854775807) : Calls Tryz.prog 101 #[.string s] w fun e w' => e = .returned (.bool (!Dc.isName s.data.toList)) ∧ Gr w w' := by
  have HU := Lib.hid (fun W => isname_all s W hm)
  generalize Dc.isName s.data.toList = q at *
  go_enter Tryz.func101, Tryz.ntmps101
  go_wp2_with fail
  refine (HU.out _).mono ?_
  rintro e w1 ⟨rfl, rfl⟩
  go_wp2_with fail
  go_ret
  exact ⟨rfl, gr_auto⟩
theorem rw3_any (x : Int) (A : Option Addr) (n c B : Nat) (w : World) (hc : w.cell? ⟨B, 0, none⟩ = some (.slice A n c)) : Calls Tryz.prog 104 #[.int .i64 x, .pointer (some ⟨B, 0, none⟩)] w fun e w' => e = .returned (.bool (decide (x < -1) || decide ((n : Int) ≤ x))) ∧ Gr w w' := by
  cases t0 : decide (x < -1)
  · cases t1 : decide ((n : Int) ≤ x)
    · go_enter Tryz.func104, Tryz.ntmps104
      go_wp2_with fail
      go_ret
      exact ⟨rfl, gr_auto⟩
    · go_enter Tryz.func104, Tryz.ntmps104
      go_wp2_with fail
      go_ret
      exact ⟨rfl, gr_auto⟩
  · go_enter Tryz.func104, Tryz.ntmps104
    go_wp2_with fail
    go_ret
    exact ⟨rfl, gr_auto⟩
theorem rw4_any (f : Ba.Face) (A : Option Addr) (n c B : Nat) (w : World) (hc : w.cell? ⟨B, 0, none⟩ = some (.slice A n c)) : Calls Tryz.prog 105 #[f.val, .pointer (some ⟨B, 0, none⟩)] w fun e w' => e = .returned (.bool (decide ((n : Int) ≤ f.k))) ∧ Gr w w' := by
  have bl := World.block_lt_of_cell? _ _ hc
  simp only at bl
  unfold Ba.Face.val
  go_enter Tryz.func105, Tryz.ntmps105
  go_wp2_with fail
  go_ret
  exact ⟨rfl, gr_auto⟩
end Go.Proofs.YtajhhplgcegodaaGreatDoor
