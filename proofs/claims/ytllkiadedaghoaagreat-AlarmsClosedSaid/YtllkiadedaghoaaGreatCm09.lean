/-
  The curve of a pump: network's test of each knot is the reference's test of the ends.
  Names of any size: decimal.IsName and the reference's.
  Alarms: telemetry.right, and the reference's Right. (Printed by mkaf.py.)
-/
import Derived.Test.YtllkiadedaghoaaGreatCm08
import Derived.Test.YtllkiadedaghoaaGreatCm04
import Derived.Test.YtllkiadedaghoaaGreatCm07

set_option linter.unusedVariables false
set_option linter.unusedSimpArgs false
namespace Go.Proofs.YtllkiadedaghoaaGreat
open Go.RowKit
namespace Ba
theorem any_iff (p : Nat → Bool) : ∀ n, any p n = true ↔ ∃ i, i < n ∧ p i = true
  | 0 => by simp [any, fst]
  | n + 1 => by
    have ih := any_iff p n
    unfold any at ih ⊢
    rw [fst]
    cases e : fst p n with
    | some k =>
      rw [e] at ih
      obtain ⟨i, hi, hp⟩ := ih.1 rfl
      simp only [Option.isSome_some, true_iff]
      exact ⟨i, by omega, hp⟩
    | none =>
      rw [e] at ih
      simp only [Option.isSome_none, Bool.false_eq_true, false_iff] at ih
      cases hp : p n
      · simp only [Bool.false_eq_true, if_false, Option.isSome_none, false_iff]
        rintro ⟨i, hi, h⟩
        by_cases e2 : i = n
        · subst e2; rw [hp] at h; cases h
        · exact ih ⟨i, by omega, h⟩
      · simp only [if_true, Option.isSome_some, true_iff]
        exact ⟨n, by omega, hp⟩
theorem kn_step {X Y : Nat → Int} {k : Nat} (h : kn X Y (k + 1) = true) : X k ≤ X (k + 1) ∧ Y k ≤ Y (k + 1) := by
  simp only [kn, Bool.and_eq_true, decide_eq_true_eq] at h; omega
theorem kns_le {X Y : Nat → Int} {n : Nat} (h : kns X Y n = true) : ∀ {i j : Nat}, i ≤ j → j < n → X i ≤ X j ∧ Y i ≤ Y j := by
  intro i j hij
  obtain ⟨d, rfl⟩ : ∃ d, j = i + d := ⟨j - i, by omega⟩
  clear hij
  induction d with
  | zero => intro _; exact ⟨Int.le_refl _, Int.le_refl _⟩
  | succ d ih =>
    intro hj
    have a := ih (by omega)
    have b := kn_step (kns_at (k := i + d + 1) h (by omega))
    rw [show i + (d + 1) = i + d + 1 by omega]
    omega
/-- A knot that is not one of a curve. -/
def offc (s : SlK) (i : Nat) : Bool := !bet (s.X i) 0 4194304 || !bet (s.Y i) 0 1099511627776
theorem crv_all {s : SlK} (h : tblB s = true) : (!any (offc s) s.n) = crv s := by
  have hn := tblB_n h
  have hk : kns s.X s.Y s.n = true := by unfold tblB at h; simp only [Bool.and_eq_true] at h; exact h.2
  unfold crv
  rw [h, Bool.true_and]
  have hz := any_iff (offc s) s.n
  cases e : any (offc s) s.n
  · rw [e] at hz
    have g : ∀ i, i < s.n → bet (s.X i) 0 4194304 = true ∧ bet (s.Y i) 0 1099511627776 = true := by
      intro i hi
      have : ¬ offc s i = true := fun q => by have := hz.2 ⟨i, hi, q⟩; cases this
      unfold offc at this
      simp only [Bool.or_eq_true, Bool.not_eq_true', not_or, Bool.not_eq_false] at this
      exact this
    have g0 := g 0 (by omega); have g1 := g (s.n - 1) (by omega)
    simp only [bet_iff] at g0 g1
    unfold crvB
    simp only [Bool.not_false]
    symm
    simp only [Bool.and_eq_true, decide_eq_true_eq]
    omega
  · rw [e] at hz
    obtain ⟨i, hi, hp⟩ := hz.1 rfl
    have l0 := kns_le hk (Nat.zero_le i) hi
    have l1 := kns_le hk (i := i) (j := s.n - 1) (by omega) (by omega)
    simp only [Bool.not_true]
    symm
    cases q : crvB (s.X 0) (s.Y 0) (s.X (s.n - 1)) (s.Y (s.n - 1))
    · rfl
    · exfalso
      unfold crvB at q
      simp only [Bool.and_eq_true, decide_eq_true_eq] at q
      have b0 : bet (s.X i) 0 4194304 = true := (bet_iff _ _ _).2 (by omega)
      have b1 : bet (s.Y i) 0 1099511627776 = true := (bet_iff _ _ _).2 (by omega)
      unfold offc at hp
      rw [b0, b1] at hp
      cases hp
end Ba
set_option maxRecDepth 100000 in
theorem linkc_any (x y : Int) (w : World) : Calls Tryz.prog 155 #[.agg #[.int .i64 x, .int .i64 y]] w fun e w' => e = .returned (.bool (!Ba.bet x 0 4194304 || !Ba.bet y 0 1099511627776)) ∧ Gr w w' := by
  have HX := Lib.hid (between_any x 0 4194304); have HY := Lib.hid (between_any y 0 1099511627776)
  cases h0 : Ba.bet x 0 4194304
  · rw [h0] at HX
    clear HY h0
    go_enter Tryz.func155, Tryz.ntmps155
    go_wp2_with fail
    refine (HX.out _).mono ?_
    rintro e w1 ⟨rfl, rfl⟩
    go_wp2_with fail
    go_ret
    exact ⟨rfl, gr_auto⟩
  rw [h0] at HX
  clear h0
  generalize Ba.bet y 0 1099511627776 = q at *
  cases q
  all_goals
    go_enter Tryz.func155, Tryz.ntmps155
    go_wp2_with fail
    refine (HX.out _).mono ?_
    rintro e w1 ⟨rfl, rfl⟩
    go_wp2_with fail
    refine (HY.out _).mono ?_
    rintro e w1 ⟨rfl, rfl⟩
    go_wp2_with fail
    go_ret
    exact ⟨rfl, gr_auto⟩
/-- slices.ContainsFunc over the knots of a valid table, by network's closure. -/
theorem curve_any (s : Ba.SlK) (w : World) (h : s.At w) (hb : Ba.tblB s = true) :
    Calls Tryz.prog 154 #[.slice s.A s.n s.c, .func (.func 155) #[] #[]] w fun e w' => e = .returned (.bool (!Ba.crv s)) ∧ Gr w w' := by
  rw [← Ba.crv_all hb, Bool.not_not]
  exact has_knot 155 #[] s (Ba.offc s) w h (enter_of Tryz.func155 (by kernel_rfl) (by kernel_rfl)) fun i hi W hW => linkc_any (s.X i) (s.Y i) W
end Go.Proofs.YtllkiadedaghoaaGreat
set_option linter.unusedVariables false
set_option linter.unusedSimpArgs false
namespace Go.Proofs.YtllkiadedaghoaaGreat
open Go.RowKit
theorem Dc.isName_big (s : ByteArray) (h : 1000 < s.size) : Dc.isName s.data.toList = false := by
  unfold Dc.isName
  rw [show s.data.toList.length = s.size by simp, decide_eq_false (by omega : ¬ s.size ≤ 20)]
  simp
set_option maxRecDepth 100000 in
theorem isname_all (s : ByteArray) (w : World) (hm : s.size ≤ 9223372036854775807) : Calls Tryz.prog 111 #[.string s] w fun e w' => e = .returned (.bool (Dc.isName s.data.toList)) ∧ w = w' := by
  by_cases h : s.size ≤ 1000
  · exact isname_any s w h
  · rw [Dc.isName_big s (by omega)]
    have hE := empty_no s (by omega)
    have t1 : decide ((s.size : Int) ≤ 20) = false := decide_eq_false (by omega)
    clear h
    go_enter Tryz.func111, Tryz.ntmps111
    go_wp2_with fail
    go_ret
    exact ⟨rfl, rfl⟩
set_option maxRecDepth 100000 in
theorem risname_all (s : ByteArray) (w : World) (hm : s.size ≤ 9223372036854775807) : Calls Tryz.prog 89 #[.string s] w fun e w' => e = .returned (.bool (Dc.isName s.data.toList)) ∧ w = w' := by
  by_cases h : s.size ≤ 1000
  · exact risname_any s w h
  · rw [Dc.isName_big s (by omega)]
    have t0 : ((s.size : Int) == 0) = false := by rw [beq_eq_false_iff_ne]; omega
    have t1 : decide ((20 : Int) < (s.size : Int)) = true := decide_eq_true (by omega)
    clear h
    go_enter Tryz.func89, Tryz.ntmps89
    go_wp2_with fail
    go_ret
    exact ⟨rfl, rfl⟩
end Go.Proofs.YtllkiadedaghoaaGreat
set_option linter.unusedVariables false
set_option linter.unusedSimpArgs false
namespace Go.Proofs.YtllkiadedaghoaaGreat
open Go.RowKit
attribute [local go_sem ↓] Go.wp_at_zero Go.wp_at_succ
namespace Al
/-- What a message must be. -/
def mOk (m : M) : Bool := Dc.isName m.nd.data.toList && (Ba.bet m.nu 0 1073741824 && (Ba.bet m.tm (-68719476736) 68719476736 && (Ba.bet m.ar (-68719476736) 68719476736 && (decide (m.tm ≤ m.ar) && Ba.bet m.lv (-4194304) 4194304))))
end Al
set_option maxRecDepth 100000 in
set_option maxHeartbeats 4000000 in
theorem twithin_any (x l h : Int) (w : World) : Calls Tryz.prog 112 #[.int .i64 x, .int .i64 l, .int .i64 h] w fun e w' => e = .returned (.bool (Ba.bet x l h)) ∧ w = w' := by
  unfold Ba.bet
  cases t0 : decide (l ≤ x)
  · go_enter Tryz.func112, Tryz.ntmps112
    go_wp2_with fail
    go_ret
    exact ⟨rfl, rfl⟩
  · cases t1 : decide (x ≤ h)
    · go_enter Tryz.func112, Tryz.ntmps112
      go_wp2_with fail
      go_ret
      exact ⟨rfl, rfl⟩
    · go_enter Tryz.func112, Tryz.ntmps112
      go_wp2_with fail
      go_ret
      exact ⟨rfl, rfl⟩
set_option maxRecDepth 100000 in
set_option maxHeartbeats 4000000 in
theorem tinst_any (x : Int) (w : World) : Calls Tryz.prog 113 #[.int .i64 x] w fun e w' => e = .returned (.bool (Ba.bet x (-68719476736) 68719476736)) ∧ w = w' := by
  have HC := Lib.hid (fun W => twithin_any x (-68719476736) 68719476736 W)
  generalize Ba.bet x (-68719476736) 68719476736 = b at *
  go_enter Tryz.func113, Tryz.ntmps113
  go_wp2_with fail
  refine (HC.out _).mono ?_
  rintro e w1 ⟨rfl, rfl⟩
  go_wp2_with fail
  go_ret
  exact ⟨rfl, rfl⟩
set_option maxRecDepth 100000 in
set_option maxHeartbeats 4000000 in
theorem rtime_any (x : Int) (w : World) : Calls Tryz.prog 90 #[.int .i64 x] w fun e w' => e = .returned (.bool (Ba.bet x (-68719476736) 68719476736)) ∧ w = w' := by
  unfold Ba.bet
  cases t0 : decide (-68719476736 ≤ x)
  · go_enter Tryz.func90, Tryz.ntmps90
    go_wp2_with fail
    go_ret
    exact ⟨rfl, rfl⟩
  · cases t1 : decide (x ≤ 68719476736)
    · go_enter Tryz.func90, Tryz.ntmps90
      go_wp2_with fail
      go_ret
      exact ⟨rfl, rfl⟩
    · go_enter Tryz.func90, Tryz.ntmps90
      go_wp2_with fail
      go_ret
      exact ⟨rfl, rfl⟩
set_option maxRecDepth 100000 in
set_option maxHeartbeats 4000000 in
theorem right_any (m : Al.M) (w : World) (h : m.Ok) : Calls Tryz.prog 84 #[.agg m.enc.toArray] w fun e w' => e = .returned (.bool (Al.mOk m)) ∧ Gr w w' := by
  unfold Al.mOk Al.M.enc
  cases m with | mk nd nu tm ar lv =>
  have HN := Lib.hid (fun W => isname_all nd W h.nd)
  have H1 := Lib.hid (fun W => twithin_any nu 0 1073741824 W)
  have H2 := Lib.hid (fun W => tinst_any tm W)
  have H3 := Lib.hid (fun W => tinst_any ar W)
  have H5 := Lib.hid (fun W => twithin_any lv (-4194304) 4194304 W)
  clear h
  simp only [] at *
  generalize Dc.isName nd.data.toList = b0 at *
  generalize Ba.bet nu 0 1073741824 = b1 at *
  generalize Ba.bet tm (-68719476736) 68719476736 = b2 at *
  generalize Ba.bet ar (-68719476736) 68719476736 = b3 at *
  generalize Ba.bet lv (-4194304) 4194304 = b5 at *
  cases b0
  · go_enter Tryz.func84, Tryz.ntmps84
    go_wp2_with fail
    refine (HN.out _).mono ?_
    rintro e w0 ⟨rfl, rfl⟩
    go_wp2_with fail
    go_ret
    exact ⟨rfl, gr_auto⟩
  · skip
    cases b1
    · go_enter Tryz.func84, Tryz.ntmps84
      go_wp2_with fail
      refine (HN.out _).mono ?_
      rintro e w0 ⟨rfl, rfl⟩
      go_wp2_with fail
      refine (H1.out _).mono ?_
      rintro e w1 ⟨rfl, rfl⟩
      go_wp2_with fail
      go_ret
      exact ⟨rfl, gr_auto⟩
    · skip
      cases b2
      · go_enter Tryz.func84, Tryz.ntmps84
        go_wp2_with fail
        refine (HN.out _).mono ?_
        rintro e w0 ⟨rfl, rfl⟩
        go_wp2_with fail
        refine (H1.out _).mono ?_
        rintro e w1 ⟨rfl, rfl⟩
        go_wp2_with fail
        refine (H2.out _).mono ?_
        rintro e w2 ⟨rfl, rfl⟩
        go_wp2_with fail
        go_ret
        exact ⟨rfl, gr_auto⟩
      · skip
        cases b3
        · go_enter Tryz.func84, Tryz.ntmps84
          go_wp2_with fail
          refine (HN.out _).mono ?_
          rintro e w0 ⟨rfl, rfl⟩
          go_wp2_with fail
          refine (H1.out _).mono ?_
          rintro e w1 ⟨rfl, rfl⟩
          go_wp2_with fail
          refine (H2.out _).mono ?_
          rintro e w2 ⟨rfl, rfl⟩
          go_wp2_with fail
          refine (H3.out _).mono ?_
          rintro e w3 ⟨rfl, rfl⟩
          go_wp2_with fail
          go_ret
          exact ⟨rfl, gr_auto⟩
        · skip
          cases t4 : decide (tm ≤ ar)
          · go_enter Tryz.func84, Tryz.ntmps84
            go_wp2_with fail
            refine (HN.out _).mono ?_
            rintro e w0 ⟨rfl, rfl⟩
            go_wp2_with fail
            refine (H1.out _).mono ?_
            rintro e w1 ⟨rfl, rfl⟩
            go_wp2_with fail
            refine (H2.out _).mono ?_
            rintro e w2 ⟨rfl, rfl⟩
            go_wp2_with fail
            refine (H3.out _).mono ?_
            rintro e w3 ⟨rfl, rfl⟩
            go_wp2_with fail
            go_ret
            exact ⟨rfl, gr_auto⟩
          · skip
            cases b5
            · go_enter Tryz.func84, Tryz.ntmps84
              go_wp2_with fail
              refine (HN.out _).mono ?_
              rintro e w0 ⟨rfl, rfl⟩
              go_wp2_with fail
              refine (H1.out _).mono ?_
              rintro e w1 ⟨rfl, rfl⟩
              go_wp2_with fail
              refine (H2.out _).mono ?_
              rintro e w2 ⟨rfl, rfl⟩
              go_wp2_with fail
              refine (H3.out _).mono ?_
              rintro e w3 ⟨rfl, rfl⟩
              go_wp2_with fail
              refine (H5.out _).mono ?_
              rintro e w5 ⟨rfl, rfl⟩
              go_wp2_with fail
              go_ret
              exact ⟨rfl, gr_auto⟩
            · go_enter Tryz.func84, Tryz.ntmps84
              go_wp2_with fail
              refine (HN.out _).mono ?_
              rintro e w0 ⟨rfl, rfl⟩
              go_wp2_with fail
              refine (H1.out _).mono ?_
              rintro e w1 ⟨rfl, rfl⟩
              go_wp2_with fail
              refine (H2.out _).mono ?_
              rintro e w2 ⟨rfl, rfl⟩
              go_wp2_with fail
              refine (H3.out _).mono ?_
              rintro e w3 ⟨rfl, rfl⟩
              go_wp2_with fail
              refine (H5.out _).mono ?_
              rintro e w5 ⟨rfl, rfl⟩
              go_wp2_with fail
              go_ret
              exact ⟨rfl, gr_auto⟩
set_option maxRecDepth 100000 in
set_option maxHeartbeats 4000000 in
theorem rright_any (m : Al.M) (w : World) (h : m.Ok) : Calls Tryz.prog 62 #[.agg m.enc.toArray] w fun e w' => e = .returned (.bool (Al.mOk m)) ∧ Gr w w' := by
  unfold Al.mOk Al.M.enc
  cases m with | mk nd nu tm ar lv =>
  have HN := Lib.hid (fun W => risname_all nd W h.nd)
  have H2 := Lib.hid (fun W => rtime_any tm W)
  have H3 := Lib.hid (fun W => rtime_any ar W)
  clear h
  simp only [] at *
  rw [show Ba.bet nu 0 1073741824 = (decide (0 ≤ nu) && decide (nu ≤ 1073741824)) from rfl, show Ba.bet lv (-4194304) 4194304 = (decide (-4194304 ≤ lv) && decide (lv ≤ 4194304)) from rfl]
  generalize Dc.isName nd.data.toList = b0 at *
  generalize Ba.bet tm (-68719476736) 68719476736 = b2 at *
  generalize Ba.bet ar (-68719476736) 68719476736 = b3 at *
  cases b0
  · go_enter Tryz.func62, Tryz.ntmps62
    go_wp2_with fail
    refine (HN.out _).mono ?_
    rintro e w0 ⟨rfl, rfl⟩
    go_wp2_with fail
    go_ret
    exact ⟨rfl, gr_auto⟩
  · skip
    cases t1 : decide (0 ≤ nu)
    · go_enter Tryz.func62, Tryz.ntmps62
      go_wp2_with fail
      refine (HN.out _).mono ?_
      rintro e w0 ⟨rfl, rfl⟩
      go_wp2_with fail
      go_ret
      exact ⟨rfl, gr_auto⟩
    · skip
      cases t2 : decide (nu ≤ 1073741824)
      · go_enter Tryz.func62, Tryz.ntmps62
        go_wp2_with fail
        refine (HN.out _).mono ?_
        rintro e w0 ⟨rfl, rfl⟩
        go_wp2_with fail
        go_ret
        exact ⟨rfl, gr_auto⟩
      · skip
        cases b2
        · go_enter Tryz.func62, Tryz.ntmps62
          go_wp2_with fail
          refine (HN.out _).mono ?_
          rintro e w0 ⟨rfl, rfl⟩
          go_wp2_with fail
          refine (H2.out _).mono ?_
          rintro e w3 ⟨rfl, rfl⟩
          go_wp2_with fail
          go_ret
          exact ⟨rfl, gr_auto⟩
        · skip
          cases b3
          · go_enter Tryz.func62, Tryz.ntmps62
            go_wp2_with fail
            refine (HN.out _).mono ?_
            rintro e w0 ⟨rfl, rfl⟩
            go_wp2_with fail
            refine (H2.out _).mono ?_
            rintro e w3 ⟨rfl, rfl⟩
            go_wp2_with fail
            refine (H3.out _).mono ?_
            rintro e w4 ⟨rfl, rfl⟩
            go_wp2_with fail
            go_ret
            exact ⟨rfl, gr_auto⟩
          · skip
            cases t5 : decide (tm ≤ ar)
            · go_enter Tryz.func62, Tryz.ntmps62
              go_wp2_with fail
              refine (HN.out _).mono ?_
              rintro e w0 ⟨rfl, rfl⟩
              go_wp2_with fail
              refine (H2.out _).mono ?_
              rintro e w3 ⟨rfl, rfl⟩
              go_wp2_with fail
              refine (H3.out _).mono ?_
              rintro e w4 ⟨rfl, rfl⟩
              go_wp2_with fail
              go_ret
              exact ⟨rfl, gr_auto⟩
            · skip
              cases t6 : decide (-4194304 ≤ lv)
              · go_enter Tryz.func62, Tryz.ntmps62
                go_wp2_with fail
                refine (HN.out _).mono ?_
                rintro e w0 ⟨rfl, rfl⟩
                go_wp2_with fail
                refine (H2.out _).mono ?_
                rintro e w3 ⟨rfl, rfl⟩
                go_wp2_with fail
                refine (H3.out _).mono ?_
                rintro e w4 ⟨rfl, rfl⟩
                go_wp2_with fail
                go_ret
                exact ⟨rfl, gr_auto⟩
              · skip
                cases t7 : decide (lv ≤ 4194304)
                · go_enter Tryz.func62, Tryz.ntmps62
                  go_wp2_with fail
                  refine (HN.out _).mono ?_
                  rintro e w0 ⟨rfl, rfl⟩
                  go_wp2_with fail
                  refine (H2.out _).mono ?_
                  rintro e w3 ⟨rfl, rfl⟩
                  go_wp2_with fail
                  refine (H3.out _).mono ?_
                  rintro e w4 ⟨rfl, rfl⟩
                  go_wp2_with fail
                  go_ret
                  exact ⟨rfl, gr_auto⟩
                · go_enter Tryz.func62, Tryz.ntmps62
                  go_wp2_with fail
                  refine (HN.out _).mono ?_
                  rintro e w0 ⟨rfl, rfl⟩
                  go_wp2_with fail
                  refine (H2.out _).mono ?_
                  rintro e w3 ⟨rfl, rfl⟩
                  go_wp2_with fail
                  refine (H3.out _).mono ?_
                  rintro e w4 ⟨rfl, rfl⟩
                  go_wp2_with fail
                  go_ret
                  exact ⟨rfl, gr_auto⟩
end Go.Proofs.YtllkiadedaghoaaGreat
