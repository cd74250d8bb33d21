/-
  Alarms, plain: wider limits have no more alarms.
  Alarms: the law AlarmsWider. (Printed by mkamw.py.)
  AlarmsWider returns true for all its arguments, and leaves them as they were. No condition.
-/
import Derived.Test.YtllkiadedaghoaaGreatCm46

set_option linter.unusedVariables false
set_option linter.unusedSimpArgs false
namespace Go.Proofs.YtllkiadedaghoaaGreat
namespace Al
theorem jmp_sub {a b : Int} (h : a ≤ b) : ∀ l : List M, ∀ c ∈ jmp b l, c ∈ jmp a l
  | [], c, hc => by simp [jmp] at hc
  | [x], c, hc => by simp [jmp] at hc
  | x :: y :: r, c, hc => by
    rw [jmp, List.mem_append] at hc ⊢
    rcases hc with hc | hc
    · left
      split at hc
      · rw [if_pos (by omega)]; exact hc
      · cases hc
    · right; exact jmp_sub h (y :: r) c hc
theorem jmpC_sub {a b : Int} (h : a ≤ b) {l : List M} {c : C} (hc : c ∈ jmpC b l) : c ∈ jmpC a l := by
  unfold jmpC at *
  rw [List.mem_flatMap] at *
  obtain ⟨t, ht, h1⟩ := hc
  exact ⟨t, ht, jmp_sub h _ _ h1⟩
theorem srt_jmp {a b : Int} (h : a ≤ b) {l : List M} {c : C} (hc : c ∈ srt (jmpC b l)) : c ∈ srt (jmpC a l) :=
  (srt_perm _).mem_iff.2 (jmpC_sub h ((srt_perm _).mem_iff.1 hc))
theorem run_sub {a b : Int} (h : a ≤ b) : ∀ (n : Nat) (l : List M), l.length ≤ n → ∀ c ∈ run b l, c ∈ run a l ∧ b ≤ (c.bc.length : Int)
  | _, [], _, c, hc => by simp [run] at hc
  | 0, x :: r, hl, c, hc => by simp at hl
  | n + 1, x :: r, hl, c, hc => by
    rw [run, List.mem_append] at hc
    rw [run, List.mem_append]
    rcases hc with hc | hc
    · split at hc
      · rename_i hb
        refine ⟨.inl ?_, ?_⟩
        · rw [if_pos (by omega)]; exact hc
        · rw [List.mem_singleton] at hc
          subst hc
          show b ≤ ((List.map M.nu (x :: r.takeWhile fun m => m.lv == x.lv)).length : Int)
          rw [List.length_map, List.length_cons]; exact hb
      · cases hc
    · have hle := (List.dropWhile_sublist (fun m : M => m.lv == x.lv) (l := r)).length_le
      have := run_sub h n _ (by rw [List.length_cons] at hl; omega) c hc
      exact ⟨.inr this.1, this.2⟩
theorem runC_sub {a b : Int} (h : a ≤ b) {l : List M} {c : C} (hc : c ∈ runC b l) : c ∈ runC a l ∧ b ≤ (c.bc.length : Int) := by
  unfold runC at *
  rw [List.mem_flatMap] at *
  obtain ⟨t, ht, h1⟩ := hc
  have := run_sub h _ _ (Nat.le_refl _) c h1
  exact ⟨⟨t, ht, this.1⟩, this.2⟩
theorem srt_run {a b : Int} (h : a ≤ b) {l : List M} {c : C} (hc : c ∈ srt (runC b l)) : c ∈ srt (runC a l) ∧ b ≤ (c.bc.length : Int) := by
  have := runC_sub h ((srt_perm _).mem_iff.1 hc)
  exact ⟨(srt_perm _).mem_iff.2 this.1, this.2⟩
theorem con_mem {s : SlA} {i : Nat} (hi : i < s.n) : (s.D i).con ∈ s.con := List.mem_map.2 ⟨i, List.mem_range.2 hi, rfl⟩
theorem con_bc (a : A) : a.con.bc.length = a.n := by simp [A.con, lst]
end Al
end Go.Proofs.YtllkiadedaghoaaGreat
set_option linter.unusedVariables false
set_option linter.unusedSimpArgs false
namespace Go.Proofs.YtllkiadedaghoaaGreat
open Go.RowKit Go.Shelf Go.Sort
attribute [local go_sem ↓] Go.wp_at_zero Go.wp_at_succ
namespace Al
def noN : Ba.SlNode := ⟨none, 0, 0, 0, 0, fun _ => exD 0⟩
theorem noN_at (w : World) : noN.At w := ⟨fun h => absurd h (Nat.lt_irrefl _), Nat.le_refl _, Nat.zero_le _, fun i hi => absurd hi (Nat.not_lt_zero _)⟩
end Al
theorem jumps_err (s : Al.SlM) (most : Int) (w : World) (h : s.At w) (hq : ¬ (s.vB = true ∧ Al.jmO most = true)) : ∃ k : Int, (k == 0) = false ∧ (k != 0) = true ∧ ∀ W, Gr w W → Calls Tryz.prog 12 #[.slice s.A s.n s.c, .int .i64 most] W (Al.RetAe [] k W) := by
  cases hv : s.vB
  · exact ⟨1, rfl, rfl, fun W hW => Jumps_no s most W (h.gr hW) hv⟩
  · cases hj : Al.jmO most
    · exact ⟨2, rfl, rfl, fun W hW => Jumps_range s most W (h.gr hW) hv hj⟩
    · exact absurd ⟨hv, hj⟩ hq
theorem frozen_err (s : Al.SlM) (count : Int) (w : World) (h : s.At w) (hq : ¬ (s.vB = true ∧ Al.stO count = true)) : ∃ k : Int, (k == 0) = false ∧ (k != 0) = true ∧ ∀ W, Gr w W → Calls Tryz.prog 16 #[.slice s.A s.n s.c, .int .i64 count] W (Al.RetAe [] k W) := by
  cases hv : s.vB
  · exact ⟨1, rfl, rfl, fun W hW => Frozen_no s count W (h.gr hW) hv⟩
  · cases hj : Al.stO count
    · exact ⟨2, rfl, rfl, fun W hW => Frozen_range s count W (h.gr hW) hv hj⟩
    · exact absurd ⟨hv, hj⟩ hq
set_option maxRecDepth 100000 in
set_option maxHeartbeats 4000000 in
theorem wider_few (s : Al.SlM) (a b c d : Int) (w : World) (h : s.At w) (hf : Al.fewB Al.noN.n Al.exL.n s.n (Al.lngB s) = false) : Calls Tryz.prog 3 #[.slice s.A s.n s.c, .int .i64 a, .int .i64 b, .int .i64 c, .int .i64 d] w fun e w' => e = .returned (.bool true) ∧ Gr w w' := by
  have HAw := Lib.hid (fun W => awake_any W)
  have HFe := Lib.hid (fun W (hW : Gr w W) => few_any Al.noN Al.exL s W (Al.noN_at W) (Al.exL_at W) (h.gr hW))
  rw [hf] at HFe
  have HFe := Lib.hid (fun W (hW : Gr w W) => show Calls Tryz.prog 11 #[.agg #[.slice none 0 0, .slice none 0 0], .slice s.A s.n s.c] W fun e w' => e = .returned (.bool false) ∧ Gr W w' from HFe.out W hW)
  clear h hf
  generalize s.A = sA at *; generalize s.n = sn at *; generalize s.c = sc at *
  go_enter Tryz.func3, Tryz.ntmps3
  go_wp2_with fail
  refine (HAw.out _).mono ?_
  rintro e w1 ⟨rfl, hb⟩
  have g : Gr w w1 := gr_auto
  clear hb HAw
  go_wp2_with fail
  refine (HFe.out _ g).mono ?_
  rintro e w2 ⟨rfl, hb⟩
  replace g := g.trans hb
  clear hb
  go_wp2_with fail
  go_ret
  exact ⟨rfl, g⟩
set_option maxRecDepth 100000 in
set_option maxHeartbeats 4000000 in
theorem wider_ab (s : Al.SlM) (a b c d : Int) (w : World) (h : s.At w) (hf : Al.fewB Al.noN.n Al.exL.n s.n (Al.lngB s) = true) (hab : b < a) : Calls Tryz.prog 3 #[.slice s.A s.n s.c, .int .i64 a, .int .i64 b, .int .i64 c, .int .i64 d] w fun e w' => e = .returned (.bool true) ∧ Gr w w' := by
  have HAw := Lib.hid (fun W => awake_any W)
  have HFe := Lib.hid (fun W (hW : Gr w W) => few_any Al.noN Al.exL s W (Al.noN_at W) (Al.exL_at W) (h.gr hW))
  rw [hf] at HFe
  have HFe := Lib.hid (fun W (hW : Gr w W) => show Calls Tryz.prog 11 #[.agg #[.slice none 0 0, .slice none 0 0], .slice s.A s.n s.c] W fun e w' => e = .returned (.bool true) ∧ Gr W w' from HFe.out W hW)
  clear h hf
  generalize s.A = sA at *; generalize s.n = sn at *; generalize s.c = sc at *
  go_enter Tryz.func3, Tryz.ntmps3
  go_wp2_with fail
  refine (HAw.out _).mono ?_
  rintro e w1 ⟨rfl, hb⟩
  have g : Gr w w1 := gr_auto
  clear hb HAw
  go_wp2_with fail
  refine (HFe.out _ g).mono ?_
  rintro e w2 ⟨rfl, hb⟩
  replace g := g.trans hb
  clear hb
  go_wp2_with fail
  go_ret
  exact ⟨rfl, g⟩
set_option maxRecDepth 100000 in
set_option maxHeartbeats 4000000 in
theorem wider_cd (s : Al.SlM) (a b c d : Int) (w : World) (h : s.At w) (hf : Al.fewB Al.noN.n Al.exL.n s.n (Al.lngB s) = true) (hab : a ≤ b) (hcd : d < c) : Calls Tryz.prog 3 #[.slice s.A s.n s.c, .int .i64 a, .int .i64 b, .int .i64 c, .int .i64 d] w fun e w' => e = .returned (.bool true) ∧ Gr w w' := by
  have HAw := Lib.hid (fun W => awake_any W)
  have HFe := Lib.hid (fun W (hW : Gr w W) => few_any Al.noN Al.exL s W (Al.noN_at W) (Al.exL_at W) (h.gr hW))
  rw [hf] at HFe
  have HFe := Lib.hid (fun W (hW : Gr w W) => show Calls Tryz.prog 11 #[.agg #[.slice none 0 0, .slice none 0 0], .slice s.A s.n s.c] W fun e w' => e = .returned (.bool true) ∧ Gr W w' from HFe.out W hW)
  clear h hf
  generalize s.A = sA at *; generalize s.n = sn at *; generalize s.c = sc at *
  go_enter Tryz.func3, Tryz.ntmps3
  go_wp2_with fail
  refine (HAw.out _).mono ?_
  rintro e w1 ⟨rfl, hb⟩
  have g : Gr w w1 := gr_auto
  clear hb HAw
  go_wp2_with fail
  refine (HFe.out _ g).mono ?_
  rintro e w2 ⟨rfl, hb⟩
  replace g := g.trans hb
  clear hb
  go_wp2_with fail
  go_ret
  exact ⟨rfl, g⟩
set_option maxRecDepth 100000 in
set_option maxHeartbeats 4000000 in
theorem wider_n_n (s : Al.SlM) (a b c d : Int) (w : World) (h : s.At w) (hf : Al.fewB Al.noN.n Al.exL.n s.n (Al.lngB s) = true) (hab : a ≤ b) (hcd : c ≤ d) (ka : Int) (ka0 : (ka == 0) = false) (ka1 : (ka != 0) = true) (HJa : Hid (∀ W, Gr w W → Calls Tryz.prog 12 #[.slice s.A s.n s.c, .int .i64 a] W (Al.RetAe [] ka W))) (kb : Int) (XB : List Al.C) (HJb : Hid (∀ W, Gr w W → Calls Tryz.prog 12 #[.slice s.A s.n s.c, .int .i64 b] W (Al.RetAe XB kb W))) (kc : Int) (kc0 : (kc == 0) = false) (kc1 : (kc != 0) = true) (HFc : Hid (∀ W, Gr w W → Calls Tryz.prog 16 #[.slice s.A s.n s.c, .int .i64 c] W (Al.RetAe [] kc W))) (kd : Int) (XD : List Al.C) (HFd : Hid (∀ W, Gr w W → Calls Tryz.prog 16 #[.slice s.A s.n s.c, .int .i64 d] W (Al.RetAe XD kd W))) : Calls Tryz.prog 3 #[.slice s.A s.n s.c, .int .i64 a, .int .i64 b, .int .i64 c, .int .i64 d] w fun e w' => e = .returned (.bool true) ∧ Gr w w' := by
  have HAw := Lib.hid (fun W => awake_any W)
  have HFe := Lib.hid (fun W (hW : Gr w W) => few_any Al.noN Al.exL s W (Al.noN_at W) (Al.exL_at W) (h.gr hW))
  rw [hf] at HFe
  have HFe := Lib.hid (fun W (hW : Gr w W) => show Calls Tryz.prog 11 #[.agg #[.slice none 0 0, .slice none 0 0], .slice s.A s.n s.c] W fun e w' => e = .returned (.bool true) ∧ Gr W w' from HFe.out W hW)
  clear h hf
  generalize s.A = sA at *; generalize s.n = sn at *; generalize s.c = sc at *
  go_enter Tryz.func3, Tryz.ntmps3
  go_wp2_with fail
  refine (HAw.out _).mono ?_
  rintro e w1 ⟨rfl, hb⟩
  have g : Gr w w1 := gr_auto
  clear hb HAw
  go_wp2_with fail
  refine (HFe.out _ g).mono ?_
  rintro e w2 ⟨rfl, hb⟩
  replace g := g.trans hb
  clear hb
  go_wp2_with fail
  refine (HJa.out _ g).mono ?_
  intro e w3 hR; obtain ⟨A1, c1, rfl, hb⟩ := hR.nil; clear hR
  replace g := g.trans hb
  clear hb
  go_wp2_with fail
  refine (HJb.out _ g).mono ?_
  intro e w4 hR; obtain ⟨r2, rfl, hr, hc2, hb⟩ := hR.at; clear hR
  replace g := g.trans hb
  clear hb
  have HR2 := Lib.hid hr; have HC2 := Lib.hid hc2; clear hr hc2
  go_wp2_with fail
  refine (HFc.out _ g).mono ?_
  intro e w5 hR; obtain ⟨A3, c3, rfl, hb⟩ := hR.nil; clear hR
  replace g := g.trans hb
  clear hb
  go_wp2_with fail
  refine (HFd.out _ g).mono ?_
  intro e w6 hR; obtain ⟨r4, rfl, hr, hc4, hb⟩ := hR.at; clear hR
  replace g := g.trans hb
  clear hb
  have HR4 := Lib.hid hr; have HC4 := Lib.hid hc4; clear hr hc4
  go_wp2_with fail
  go_ret
  exact ⟨rfl, g⟩
set_option maxRecDepth 100000 in
set_option maxHeartbeats 4000000 in
theorem wider_n_yn (s : Al.SlM) (a b c d : Int) (w : World) (h : s.At w) (hf : Al.fewB Al.noN.n Al.exL.n s.n (Al.lngB s) = true) (hab : a ≤ b) (hcd : c ≤ d) (ka : Int) (ka0 : (ka == 0) = false) (ka1 : (ka != 0) = true) (HJa : Hid (∀ W, Gr w W → Calls Tryz.prog 12 #[.slice s.A s.n s.c, .int .i64 a] W (Al.RetAe [] ka W))) (kb : Int) (XB : List Al.C) (HJb : Hid (∀ W, Gr w W → Calls Tryz.prog 12 #[.slice s.A s.n s.c, .int .i64 b] W (Al.RetAe XB kb W))) (XC : List Al.C) (HFc : Hid (∀ W, Gr w W → Calls Tryz.prog 16 #[.slice s.A s.n s.c, .int .i64 c] W (Al.RetAe XC 0 W))) (kd : Int) (kd0 : (kd == 0) = false) (kd1 : (kd != 0) = true) (HFd : Hid (∀ W, Gr w W → Calls Tryz.prog 16 #[.slice s.A s.n s.c, .int .i64 d] W (Al.RetAe [] kd W))) : Calls Tryz.prog 3 #[.slice s.A s.n s.c, .int .i64 a, .int .i64 b, .int .i64 c, .int .i64 d] w fun e w' => e = .returned (.bool true) ∧ Gr w w' := by
  have HAw := Lib.hid (fun W => awake_any W)
  have HFe := Lib.hid (fun W (hW : Gr w W) => few_any Al.noN Al.exL s W (Al.noN_at W) (Al.exL_at W) (h.gr hW))
  rw [hf] at HFe
  have HFe := Lib.hid (fun W (hW : Gr w W) => show Calls Tryz.prog 11 #[.agg #[.slice none 0 0, .slice none 0 0], .slice s.A s.n s.c] W fun e w' => e = .returned (.bool true) ∧ Gr W w' from HFe.out W hW)
  clear h hf
  generalize s.A = sA at *; generalize s.n = sn at *; generalize s.c = sc at *
  go_enter Tryz.func3, Tryz.ntmps3
  go_wp2_with fail
  refine (HAw.out _).mono ?_
  rintro e w1 ⟨rfl, hb⟩
  have g : Gr w w1 := gr_auto
  clear hb HAw
  go_wp2_with fail
  refine (HFe.out _ g).mono ?_
  rintro e w2 ⟨rfl, hb⟩
  replace g := g.trans hb
  clear hb
  go_wp2_with fail
  refine (HJa.out _ g).mono ?_
  intro e w3 hR; obtain ⟨A1, c1, rfl, hb⟩ := hR.nil; clear hR
  replace g := g.trans hb
  clear hb
  go_wp2_with fail
  refine (HJb.out _ g).mono ?_
  intro e w4 hR; obtain ⟨r2, rfl, hr, hc2, hb⟩ := hR.at; clear hR
  replace g := g.trans hb
  clear hb
  have HR2 := Lib.hid hr; have HC2 := Lib.hid hc2; clear hr hc2
  go_wp2_with fail
  refine (HFc.out _ g).mono ?_
  intro e w5 hR; obtain ⟨r3, rfl, hr, hc3, hb⟩ := hR.at; clear hR
  replace g := g.trans hb
  clear hb
  have HR3 := Lib.hid hr; have HC3 := Lib.hid hc3; clear hr hc3
  go_wp2_with fail
  refine (HFd.out _ g).mono ?_
  intro e w6 hR; obtain ⟨A4, c4, rfl, hb⟩ := hR.nil; clear hR
  replace g := g.trans hb
  replace HR3 := Lib.hid (HR3.out.gr hb)
  clear hb
  go_wp2_with fail
  go_ret
  exact ⟨rfl, g⟩
set_option maxRecDepth 100000 in
set_option maxHeartbeats 4000000 in
theorem wider_n_yy (s : Al.SlM) (a b c d : Int) (w : World) (h : s.At w) (hf : Al.fewB Al.noN.n Al.exL.n s.n (Al.lngB s) = true) (hab : a ≤ b) (hcd : c ≤ d) (ka : Int) (ka0 : (ka == 0) = false) (ka1 : (ka != 0) = true) (HJa : Hid (∀ W, Gr w W → Calls Tryz.prog 12 #[.slice s.A s.n s.c, .int .i64 a] W (Al.RetAe [] ka W))) (kb : Int) (XB : List Al.C) (HJb : Hid (∀ W, Gr w W → Calls Tryz.prog 12 #[.slice s.A s.n s.c, .int .i64 b] W (Al.RetAe XB kb W))) (XC : List Al.C) (HFc : Hid (∀ W, Gr w W → Calls Tryz.prog 16 #[.slice s.A s.n s.c, .int .i64 c] W (Al.RetAe XC 0 W))) (XD : List Al.C) (HFd : Hid (∀ W, Gr w W → Calls Tryz.prog 16 #[.slice s.A s.n s.c, .int .i64 d] W (Al.RetAe XD 0 W))) (HY : Hid (∀ z ∈ XD, z ∈ XC ∧ d ≤ (z.bc.length : Int))) (HZ : Hid (∀ z ∈ XC, c ≤ (z.bc.length : Int))) : Calls Tryz.prog 3 #[.slice s.A s.n s.c, .int .i64 a, .int .i64 b, .int .i64 c, .int .i64 d] w fun e w' => e = .returned (.bool true) ∧ Gr w w' := by
  have HAw := Lib.hid (fun W => awake_any W)
  have HFe := Lib.hid (fun W (hW : Gr w W) => few_any Al.noN Al.exL s W (Al.noN_at W) (Al.exL_at W) (h.gr hW))
  rw [hf] at HFe
  have HFe := Lib.hid (fun W (hW : Gr w W) => show Calls Tryz.prog 11 #[.agg #[.slice none 0 0, .slice none 0 0], .slice s.A s.n s.c] W fun e w' => e = .returned (.bool true) ∧ Gr W w' from HFe.out W hW)
  clear h hf
  generalize s.A = sA at *; generalize s.n = sn at *; generalize s.c = sc at *
  go_enter Tryz.func3, Tryz.ntmps3
  go_wp2_with fail
  refine (HAw.out _).mono ?_
  rintro e w1 ⟨rfl, hb⟩
  have g : Gr w w1 := gr_auto
  clear hb HAw
  go_wp2_with fail
  refine (HFe.out _ g).mono ?_
  rintro e w2 ⟨rfl, hb⟩
  replace g := g.trans hb
  clear hb
  go_wp2_with fail
  refine (HJa.out _ g).mono ?_
  intro e w3 hR; obtain ⟨A1, c1, rfl, hb⟩ := hR.nil; clear hR
  replace g := g.trans hb
  clear hb
  go_wp2_with fail
  refine (HJb.out _ g).mono ?_
  intro e w4 hR; obtain ⟨r2, rfl, hr, hc2, hb⟩ := hR.at; clear hR
  replace g := g.trans hb
  clear hb
  have HR2 := Lib.hid hr; have HC2 := Lib.hid hc2; clear hr hc2
  go_wp2_with fail
  refine (HFc.out _ g).mono ?_
  intro e w5 hR; obtain ⟨r3, rfl, hr, hc3, hb⟩ := hR.at; clear hR
  replace g := g.trans hb
  clear hb
  have HR3 := Lib.hid hr; have HC3 := Lib.hid hc3; clear hr hc3
  go_wp2_with fail
  refine (HFd.out _ g).mono ?_
  intro e w6 hR; obtain ⟨r4, rfl, hr, hc4, hb⟩ := hR.at; clear hR
  replace g := g.trans hb
  replace HR3 := Lib.hid (HR3.out.gr hb)
  clear hb
  have HR4 := Lib.hid hr; have HC4 := Lib.hid hc4; clear hr hc4
  have HM4 := Lib.hid (fun i (hi : i < r4.n) => HY.out _ (HC4.out ▸ Al.con_mem hi))
  have HM3 := Lib.hid (fun i (hi : i < r3.n) => HZ.out _ (HC3.out ▸ Al.con_mem hi))
  clear HY HZ
  go_wp2_with fail
  refine name_world ?_
  intro V4 hV4
  have gV : Gr w6 V4 := by rw [hV4]; exact gr_auto
  clear hV4
  replace g := g.trans gV
  replace HR3 := Lib.hid (HR3.out.gr gV)
  replace HR4 := Lib.hid (HR4.out.gr gV)
  clear gV
  go_loopw [88] (fun x wr => ∃ i : Nat, i ≤ r4.n ∧ x = .int .i64 (i : Int) ∧ Gr V4 wr) (fun x _ => r4.n - (intOf x).toNat)
  case atStart => exact ⟨0, Nat.zero_le _, rfl, Gr.refl _⟩
  case round =>
    obtain ⟨i, hi, rfl, hg⟩ := hrel
    have hrc := HR4.out.hc; have hrb := HR4.out.hb
    by_cases hlt : i < r4.n
    · have hA := HR4.out.hA (by omega)
      rw [hA]
      obtain ⟨a0, a1, a2, a3⟩ := (HR4.out.hD i hlt).1.gr hg
      have hat := (HR4.out.hD i hlt).2.at'.gr hg
      have bB := World.block_lt_of_cell? _ _ a0
      have ib0 : (0 : Int) ≤ (i : Int) := by omega
      have ib1 : (i : Int) < (r4.n : Int) := by omega
      have hm4 := HM4.out i hlt
      have hlen : d ≤ ((r4.D i).n : Int) := by have := hm4.2; rw [Al.con_bc] at this; exact this
      have hmem : Ba.any (fun j => Al.eqC (r3.D j).con (r4.D i).con) r3.n = true := Al.any_mem.2 (HC3.out ▸ hm4.1)
      have HT := Lib.hid (fun B W' (hc : (r4.D i).Cells W' B 0) (hW : Gr wr W') => by
        have := wbh_any r3 (r4.D i) B W' (HR3.out.gr (hg.trans hW)) (hat.gr hW) hc
        rw [hmem] at this
        exact this)
      clear hm4 hmem HM3 HM4 hat
      generalize r4.D i = z at *
      obtain ⟨rn, hrn⟩ : ∃ x, r4.n = x := ⟨_, rfl⟩
      rw [hrn] at hi hlt ib1 hrc ⊢
      generalize r4.c = rc at *; generalize r4.b = rb at *; generalize r4.o = ro at *
      clear HR4 hA
      go_wp2_with fail
      refine (HT.out _ _ ?_ gr_auto).mono ?_
      · refine ⟨?_, ?_, ?_, ?_⟩ <;> simp [go_sem]
      rintro e w50 ⟨rfl, hb⟩
      have g50 := hg.trans (show Gr wr w50 from gr_auto)
      clear hb
      go_wp2_with fail
      go_roundw
      case rel => exact ⟨i + 1, by omega, by go_num, g50⟩
      case measure => simp [intOf]; omega
    · obtain rfl : r4.n = i := by omega
      have g' := g.trans hg
      replace HR3 := Lib.hid (HR3.out.gr hg)
      clear g HR4
      have g := g'
      clear g'
      clear HM4
      go_wp2_with fail
      refine name_world ?_
      intro V3 hV3
      have gV : Gr wr V3 := by rw [hV3]; exact gr_auto
      clear hV3
      replace g := g.trans gV
      replace HR3 := Lib.hid (HR3.out.gr gV)
      clear gV
      go_loopw [106] (fun x wr => ∃ i : Nat, i ≤ r3.n ∧ x = .int .i64 (i : Int) ∧ Gr V3 wr) (fun x _ => r3.n - (intOf x).toNat)
      case atStart => exact ⟨0, Nat.zero_le _, rfl, Gr.refl _⟩
      case round =>
        obtain ⟨i, hi, rfl, hg⟩ := hrel
        have hrc := HR3.out.hc; have hrb := HR3.out.hb
        by_cases hlt : i < r3.n
        · have hA := HR3.out.hA (by omega)
          rw [hA]
          obtain ⟨a0, a1, a2, a3⟩ := (HR3.out.hD i hlt).1.gr hg
          have hat := (HR3.out.hD i hlt).2.at'.gr hg
          have bB := World.block_lt_of_cell? _ _ a0
          have ib0 : (0 : Int) ≤ (i : Int) := by omega
          have ib1 : (i : Int) < (r3.n : Int) := by omega
          have hlen : c ≤ ((r3.D i).n : Int) := by have := HM3.out i hlt; rw [Al.con_bc] at this; exact this
          clear HM3 hat
          generalize r3.D i = z at *
          obtain ⟨rn, hrn⟩ : ∃ x, r3.n = x := ⟨_, rfl⟩
          rw [hrn] at hi hlt ib1 hrc ⊢
          generalize r3.c = rc at *; generalize r3.b = rb at *; generalize r3.o = ro at *
          clear HR3 hA
          go_wp2_with fail
          go_roundw
          case rel => exact ⟨i + 1, by omega, by go_num, gr_auto⟩
          case measure => simp [intOf]; omega
        · obtain rfl : r3.n = i := by omega
          have g' := g.trans hg
          clear g HR3
          have g := g'
          clear g'
          go_wp2_with fail
          go_ret
          exact ⟨rfl, g⟩
set_option maxRecDepth 100000 in
set_option maxHeartbeats 4000000 in
theorem wider_yn_n (s : Al.SlM) (a b c d : Int) (w : World) (h : s.At w) (hf : Al.fewB Al.noN.n Al.exL.n s.n (Al.lngB s) = true) (hab : a ≤ b) (hcd : c ≤ d) (XA : List Al.C) (HJa : Hid (∀ W, Gr w W → Calls Tryz.prog 12 #[.slice s.A s.n s.c, .int .i64 a] W (Al.RetAe XA 0 W))) (kb : Int) (kb0 : (kb == 0) = false) (kb1 : (kb != 0) = true) (HJb : Hid (∀ W, Gr w W → Calls Tryz.prog 12 #[.slice s.A s.n s.c, .int .i64 b] W (Al.RetAe [] kb W))) (kc : Int) (kc0 : (kc == 0) = false) (kc1 : (kc != 0) = true) (HFc : Hid (∀ W, Gr w W → Calls Tryz.prog 16 #[.slice s.A s.n s.c, .int .i64 c] W (Al.RetAe [] kc W))) (kd : Int) (XD : List Al.C) (HFd : Hid (∀ W, Gr w W → Calls Tryz.prog 16 #[.slice s.A s.n s.c, .int .i64 d] W (Al.RetAe XD kd W))) : Calls Tryz.prog 3 #[.slice s.A s.n s.c, .int .i64 a, .int .i64 b, .int .i64 c, .int .i64 d] w fun e w' => e = .returned (.bool true) ∧ Gr w w' := by
  have HAw := Lib.hid (fun W => awake_any W)
  have HFe := Lib.hid (fun W (hW : Gr w W) => few_any Al.noN Al.exL s W (Al.noN_at W) (Al.exL_at W) (h.gr hW))
  rw [hf] at HFe
  have HFe := Lib.hid (fun W (hW : Gr w W) => show Calls Tryz.prog 11 #[.agg #[.slice none 0 0, .slice none 0 0], .slice s.A s.n s.c] W fun e w' => e = .returned (.bool true) ∧ Gr W w' from HFe.out W hW)
  clear h hf
  generalize s.A = sA at *; generalize s.n = sn at *; generalize s.c = sc at *
  go_enter Tryz.func3, Tryz.ntmps3
  go_wp2_with fail
  refine (HAw.out _).mono ?_
  rintro e w1 ⟨rfl, hb⟩
  have g : Gr w w1 := gr_auto
  clear hb HAw
  go_wp2_with fail
  refine (HFe.out _ g).mono ?_
  rintro e w2 ⟨rfl, hb⟩
  replace g := g.trans hb
  clear hb
  go_wp2_with fail
  refine (HJa.out _ g).mono ?_
  intro e w3 hR; obtain ⟨r1, rfl, hr, hc1, hb⟩ := hR.at; clear hR
  replace g := g.trans hb
  clear hb
  have HR1 := Lib.hid hr; have HC1 := Lib.hid hc1; clear hr hc1
  go_wp2_with fail
  refine (HJb.out _ g).mono ?_
  intro e w4 hR; obtain ⟨A2, c2, rfl, hb⟩ := hR.nil; clear hR
  replace g := g.trans hb
  replace HR1 := Lib.hid (HR1.out.gr hb)
  clear hb
  go_wp2_with fail
  refine (HFc.out _ g).mono ?_
  intro e w5 hR; obtain ⟨A3, c3, rfl, hb⟩ := hR.nil; clear hR
  replace g := g.trans hb
  clear hb
  go_wp2_with fail
  refine (HFd.out _ g).mono ?_
  intro e w6 hR; obtain ⟨r4, rfl, hr, hc4, hb⟩ := hR.at; clear hR
  replace g := g.trans hb
  clear hb
  have HR4 := Lib.hid hr; have HC4 := Lib.hid hc4; clear hr hc4
  go_wp2_with fail
  go_ret
  exact ⟨rfl, g⟩
set_option maxRecDepth 100000 in
set_option maxHeartbeats 4000000 in
theorem wider_yn_yn (s : Al.SlM) (a b c d : Int) (w : World) (h : s.At w) (hf : Al.fewB Al.noN.n Al.exL.n s.n (Al.lngB s) = true) (hab : a ≤ b) (hcd : c ≤ d) (XA : List Al.C) (HJa : Hid (∀ W, Gr w W → Calls Tryz.prog 12 #[.slice s.A s.n s.c, .int .i64 a] W (Al.RetAe XA 0 W))) (kb : Int) (kb0 : (kb == 0) = false) (kb1 : (kb != 0) = true) (HJb : Hid (∀ W, Gr w W → Calls Tryz.prog 12 #[.slice s.A s.n s.c, .int .i64 b] W (Al.RetAe [] kb W))) (XC : List Al.C) (HFc : Hid (∀ W, Gr w W → Calls Tryz.prog 16 #[.slice s.A s.n s.c, .int .i64 c] W (Al.RetAe XC 0 W))) (kd : Int) (kd0 : (kd == 0) = false) (kd1 : (kd != 0) = true) (HFd : Hid (∀ W, Gr w W → Calls Tryz.prog 16 #[.slice s.A s.n s.c, .int .i64 d] W (Al.RetAe [] kd W))) : Calls Tryz.prog 3 #[.slice s.A s.n s.c, .int .i64 a, .int .i64 b, .int .i64 c, .int .i64 d] w fun e w' => e = .returned (.bool true) ∧ Gr w w' := by
  have HAw := Lib.hid (fun W => awake_any W)
  have HFe := Lib.hid (fun W (hW : Gr w W) => few_any Al.noN Al.exL s W (Al.noN_at W) (Al.exL_at W) (h.gr hW))
  rw [hf] at HFe
  have HFe := Lib.hid (fun W (hW : Gr w W) => show Calls Tryz.prog 11 #[.agg #[.slice none 0 0, .slice none 0 0], .slice s.A s.n s.c] W fun e w' => e = .returned (.bool true) ∧ Gr W w' from HFe.out W hW)
  clear h hf
  generalize s.A = sA at *; generalize s.n = sn at *; generalize s.c = sc at *
  go_enter Tryz.func3, Tryz.ntmps3
  go_wp2_with fail
  refine (HAw.out _).mono ?_
  rintro e w1 ⟨rfl, hb⟩
  have g : Gr w w1 := gr_auto
  clear hb HAw
  go_wp2_with fail
  refine (HFe.out _ g).mono ?_
  rintro e w2 ⟨rfl, hb⟩
  replace g := g.trans hb
  clear hb
  go_wp2_with fail
  refine (HJa.out _ g).mono ?_
  intro e w3 hR; obtain ⟨r1, rfl, hr, hc1, hb⟩ := hR.at; clear hR
  replace g := g.trans hb
  clear hb
  have HR1 := Lib.hid hr; have HC1 := Lib.hid hc1; clear hr hc1
  go_wp2_with fail
  refine (HJb.out _ g).mono ?_
  intro e w4 hR; obtain ⟨A2, c2, rfl, hb⟩ := hR.nil; clear hR
  replace g := g.trans hb
  replace HR1 := Lib.hid (HR1.out.gr hb)
  clear hb
  go_wp2_with fail
  refine (HFc.out _ g).mono ?_
  intro e w5 hR; obtain ⟨r3, rfl, hr, hc3, hb⟩ := hR.at; clear hR
  replace g := g.trans hb
  clear hb
  have HR3 := Lib.hid hr; have HC3 := Lib.hid hc3; clear hr hc3
  go_wp2_with fail
  refine (HFd.out _ g).mono ?_
  intro e w6 hR; obtain ⟨A4, c4, rfl, hb⟩ := hR.nil; clear hR
  replace g := g.trans hb
  replace HR3 := Lib.hid (HR3.out.gr hb)
  clear hb
  go_wp2_with fail
  go_ret
  exact ⟨rfl, g⟩
set_option maxRecDepth 100000 in
set_option maxHeartbeats 4000000 in
theorem wider_yn_yy (s : Al.SlM) (a b c d : Int) (w : World) (h : s.At w) (hf : Al.fewB Al.noN.n Al.exL.n s.n (Al.lngB s) = true) (hab : a ≤ b) (hcd : c ≤ d) (XA : List Al.C) (HJa : Hid (∀ W, Gr w W → Calls Tryz.prog 12 #[.slice s.A s.n s.c, .int .i64 a] W (Al.RetAe XA 0 W))) (kb : Int) (kb0 : (kb == 0) = false) (kb1 : (kb != 0) = true) (HJb : Hid (∀ W, Gr w W → Calls Tryz.prog 12 #[.slice s.A s.n s.c, .int .i64 b] W (Al.RetAe [] kb W))) (XC : List Al.C) (HFc : Hid (∀ W, Gr w W → Calls Tryz.prog 16 #[.slice s.A s.n s.c, .int .i64 c] W (Al.RetAe XC 0 W))) (XD : List Al.C) (HFd : Hid (∀ W, Gr w W → Calls Tryz.prog 16 #[.slice s.A s.n s.c, .int .i64 d] W (Al.RetAe XD 0 W))) (HY : Hid (∀ z ∈ XD, z ∈ XC ∧ d ≤ (z.bc.length : Int))) (HZ : Hid (∀ z ∈ XC, c ≤ (z.bc.length : Int))) : Calls Tryz.prog 3 #[.slice s.A s.n s.c, .int .i64 a, .int .i64 b, .int .i64 c, .int .i64 d] w fun e w' => e = .returned (.bool true) ∧ Gr w w' := by
  have HAw := Lib.hid (fun W => awake_any W)
  have HFe := Lib.hid (fun W (hW : Gr w W) => few_any Al.noN Al.exL s W (Al.noN_at W) (Al.exL_at W) (h.gr hW))
  rw [hf] at HFe
  have HFe := Lib.hid (fun W (hW : Gr w W) => show Calls Tryz.prog 11 #[.agg #[.slice none 0 0, .slice none 0 0], .slice s.A s.n s.c] W fun e w' => e = .returned (.bool true) ∧ Gr W w' from HFe.out W hW)
  clear h hf
  generalize s.A = sA at *; generalize s.n = sn at *; generalize s.c = sc at *
  go_enter Tryz.func3, Tryz.ntmps3
  go_wp2_with fail
  refine (HAw.out _).mono ?_
  rintro e w1 ⟨rfl, hb⟩
  have g : Gr w w1 := gr_auto
  clear hb HAw
  go_wp2_with fail
  refine (HFe.out _ g).mono ?_
  rintro e w2 ⟨rfl, hb⟩
  replace g := g.trans hb
  clear hb
  go_wp2_with fail
  refine (HJa.out _ g).mono ?_
  intro e w3 hR; obtain ⟨r1, rfl, hr, hc1, hb⟩ := hR.at; clear hR
  replace g := g.trans hb
  clear hb
  have HR1 := Lib.hid hr; have HC1 := Lib.hid hc1; clear hr hc1
  go_wp2_with fail
  refine (HJb.out _ g).mono ?_
  intro e w4 hR; obtain ⟨A2, c2, rfl, hb⟩ := hR.nil; clear hR
  replace g := g.trans hb
  replace HR1 := Lib.hid (HR1.out.gr hb)
  clear hb
  go_wp2_with fail
  refine (HFc.out _ g).mono ?_
  intro e w5 hR; obtain ⟨r3, rfl, hr, hc3, hb⟩ := hR.at; clear hR
  replace g := g.trans hb
  clear hb
  have HR3 := Lib.hid hr; have HC3 := Lib.hid hc3; clear hr hc3
  go_wp2_with fail
  refine (HFd.out _ g).mono ?_
  intro e w6 hR; obtain ⟨r4, rfl, hr, hc4, hb⟩ := hR.at; clear hR
  replace g := g.trans hb
  replace HR3 := Lib.hid (HR3.out.gr hb)
  clear hb
  have HR4 := Lib.hid hr; have HC4 := Lib.hid hc4; clear hr hc4
  have HM4 := Lib.hid (fun i (hi : i < r4.n) => HY.out _ (HC4.out ▸ Al.con_mem hi))
  have HM3 := Lib.hid (fun i (hi : i < r3.n) => HZ.out _ (HC3.out ▸ Al.con_mem hi))
  clear HY HZ
  go_wp2_with fail
  refine name_world ?_
  intro V4 hV4
  have gV : Gr w6 V4 := by rw [hV4]; exact gr_auto
  clear hV4
  replace g := g.trans gV
  replace HR3 := Lib.hid (HR3.out.gr gV)
  replace HR4 := Lib.hid (HR4.out.gr gV)
  clear gV
  go_loopw [88] (fun x wr => ∃ i : Nat, i ≤ r4.n ∧ x = .int .i64 (i : Int) ∧ Gr V4 wr) (fun x _ => r4.n - (intOf x).toNat)
  case atStart => exact ⟨0, Nat.zero_le _, rfl, Gr.refl _⟩
  case round =>
    obtain ⟨i, hi, rfl, hg⟩ := hrel
    have hrc := HR4.out.hc; have hrb := HR4.out.hb
    by_cases hlt : i < r4.n
    · have hA := HR4.out.hA (by omega)
      rw [hA]
      obtain ⟨a0, a1, a2, a3⟩ := (HR4.out.hD i hlt).1.gr hg
      have hat := (HR4.out.hD i hlt).2.at'.gr hg
      have bB := World.block_lt_of_cell? _ _ a0
      have ib0 : (0 : Int) ≤ (i : Int) := by omega
      have ib1 : (i : Int) < (r4.n : Int) := by omega
      have hm4 := HM4.out i hlt
      have hlen : d ≤ ((r4.D i).n : Int) := by have := hm4.2; rw [Al.con_bc] at this; exact this
      have hmem : Ba.any (fun j => Al.eqC (r3.D j).con (r4.D i).con) r3.n = true := Al.any_mem.2 (HC3.out ▸ hm4.1)
      have HT := Lib.hid (fun B W' (hc : (r4.D i).Cells W' B 0) (hW : Gr wr W') => by
        have := wbh_any r3 (r4.D i) B W' (HR3.out.gr (hg.trans hW)) (hat.gr hW) hc
        rw [hmem] at this
        exact this)
      clear hm4 hmem HM3 HM4 hat
      generalize r4.D i = z at *
      obtain ⟨rn, hrn⟩ : ∃ x, r4.n = x := ⟨_, rfl⟩
      rw [hrn] at hi hlt ib1 hrc ⊢
      generalize r4.c = rc at *; generalize r4.b = rb at *; generalize r4.o = ro at *
      clear HR4 hA
      go_wp2_with fail
      refine (HT.out _ _ ?_ gr_auto).mono ?_
      · refine ⟨?_, ?_, ?_, ?_⟩ <;> simp [go_sem]
      rintro e w50 ⟨rfl, hb⟩
      have g50 := hg.trans (show Gr wr w50 from gr_auto)
      clear hb
      go_wp2_with fail
      go_roundw
      case rel => exact ⟨i + 1, by omega, by go_num, g50⟩
      case measure => simp [intOf]; omega
    · obtain rfl : r4.n = i := by omega
      have g' := g.trans hg
      replace HR3 := Lib.hid (HR3.out.gr hg)
      clear g HR4
      have g := g'
      clear g'
      clear HM4
      go_wp2_with fail
      refine name_world ?_
      intro V3 hV3
      have gV : Gr wr V3 := by rw [hV3]; exact gr_auto
      clear hV3
      replace g := g.trans gV
      replace HR3 := Lib.hid (HR3.out.gr gV)
      clear gV
      go_loopw [106] (fun x wr => ∃ i : Nat, i ≤ r3.n ∧ x = .int .i64 (i : Int) ∧ Gr V3 wr) (fun x _ => r3.n - (intOf x).toNat)
      case atStart => exact ⟨0, Nat.zero_le _, rfl, Gr.refl _⟩
      case round =>
        obtain ⟨i, hi, rfl, hg⟩ := hrel
        have hrc := HR3.out.hc; have hrb := HR3.out.hb
        by_cases hlt : i < r3.n
        · have hA := HR3.out.hA (by omega)
          rw [hA]
          obtain ⟨a0, a1, a2, a3⟩ := (HR3.out.hD i hlt).1.gr hg
          have hat := (HR3.out.hD i hlt).2.at'.gr hg
          have bB := World.block_lt_of_cell? _ _ a0
          have ib0 : (0 : Int) ≤ (i : Int) := by omega
          have ib1 : (i : Int) < (r3.n : Int) := by omega
          have hlen : c ≤ ((r3.D i).n : Int) := by have := HM3.out i hlt; rw [Al.con_bc] at this; exact this
          clear HM3 hat
          generalize r3.D i = z at *
          obtain ⟨rn, hrn⟩ : ∃ x, r3.n = x := ⟨_, rfl⟩
          rw [hrn] at hi hlt ib1 hrc ⊢
          generalize r3.c = rc at *; generalize r3.b = rb at *; generalize r3.o = ro at *
          clear HR3 hA
          go_wp2_with fail
          go_roundw
          case rel => exact ⟨i + 1, by omega, by go_num, gr_auto⟩
          case measure => simp [intOf]; omega
        · obtain rfl : r3.n = i := by omega
          have g' := g.trans hg
          clear g HR3
          have g := g'
          clear g'
          go_wp2_with fail
          go_ret
          exact ⟨rfl, g⟩
set_option maxRecDepth 100000 in
set_option maxHeartbeats 4000000 in
theorem wider_yy_n (s : Al.SlM) (a b c d : Int) (w : World) (h : s.At w) (hf : Al.fewB Al.noN.n Al.exL.n s.n (Al.lngB s) = true) (hab : a ≤ b) (hcd : c ≤ d) (XA : List Al.C) (HJa : Hid (∀ W, Gr w W → Calls Tryz.prog 12 #[.slice s.A s.n s.c, .int .i64 a] W (Al.RetAe XA 0 W))) (XB : List Al.C) (HJb : Hid (∀ W, Gr w W → Calls Tryz.prog 12 #[.slice s.A s.n s.c, .int .i64 b] W (Al.RetAe XB 0 W))) (HX : Hid (∀ z ∈ XB, z ∈ XA)) (kc : Int) (kc0 : (kc == 0) = false) (kc1 : (kc != 0) = true) (HFc : Hid (∀ W, Gr w W → Calls Tryz.prog 16 #[.slice s.A s.n s.c, .int .i64 c] W (Al.RetAe [] kc W))) (kd : Int) (XD : List Al.C) (HFd : Hid (∀ W, Gr w W → Calls Tryz.prog 16 #[.slice s.A s.n s.c, .int .i64 d] W (Al.RetAe XD kd W))) : Calls Tryz.prog 3 #[.slice s.A s.n s.c, .int .i64 a, .int .i64 b, .int .i64 c, .int .i64 d] w fun e w' => e = .returned (.bool true) ∧ Gr w w' := by
  have HAw := Lib.hid (fun W => awake_any W)
  have HFe := Lib.hid (fun W (hW : Gr w W) => few_any Al.noN Al.exL s W (Al.noN_at W) (Al.exL_at W) (h.gr hW))
  rw [hf] at HFe
  have HFe := Lib.hid (fun W (hW : Gr w W) => show Calls Tryz.prog 11 #[.agg #[.slice none 0 0, .slice none 0 0], .slice s.A s.n s.c] W fun e w' => e = .returned (.bool true) ∧ Gr W w' from HFe.out W hW)
  clear h hf
  generalize s.A = sA at *; generalize s.n = sn at *; generalize s.c = sc at *
  go_enter Tryz.func3, Tryz.ntmps3
  go_wp2_with fail
  refine (HAw.out _).mono ?_
  rintro e w1 ⟨rfl, hb⟩
  have g : Gr w w1 := gr_auto
  clear hb HAw
  go_wp2_with fail
  refine (HFe.out _ g).mono ?_
  rintro e w2 ⟨rfl, hb⟩
  replace g := g.trans hb
  clear hb
  go_wp2_with fail
  refine (HJa.out _ g).mono ?_
  intro e w3 hR; obtain ⟨r1, rfl, hr, hc1, hb⟩ := hR.at; clear hR
  replace g := g.trans hb
  clear hb
  have HR1 := Lib.hid hr; have HC1 := Lib.hid hc1; clear hr hc1
  go_wp2_with fail
  refine (HJb.out _ g).mono ?_
  intro e w4 hR; obtain ⟨r2, rfl, hr, hc2, hb⟩ := hR.at; clear hR
  replace g := g.trans hb
  replace HR1 := Lib.hid (HR1.out.gr hb)
  clear hb
  have HR2 := Lib.hid hr; have HC2 := Lib.hid hc2; clear hr hc2
  have HM2 := Lib.hid (fun i (hi : i < r2.n) => HX.out _ (HC2.out ▸ Al.con_mem hi))
  clear HX
  go_wp2_with fail
  refine name_world ?_
  intro V2 hV2
  have gV : Gr w4 V2 := by rw [hV2]; exact gr_auto
  clear hV2
  replace g := g.trans gV
  replace HR1 := Lib.hid (HR1.out.gr gV)
  replace HR2 := Lib.hid (HR2.out.gr gV)
  clear gV
  go_loopw [59] (fun x wr => ∃ i : Nat, i ≤ r2.n ∧ x = .int .i64 (i : Int) ∧ Gr V2 wr) (fun x _ => r2.n - (intOf x).toNat)
  case atStart => exact ⟨0, Nat.zero_le _, rfl, Gr.refl _⟩
  case round =>
    obtain ⟨i, hi, rfl, hg⟩ := hrel
    have hrc := HR2.out.hc; have hrb := HR2.out.hb
    by_cases hlt : i < r2.n
    · have hA := HR2.out.hA (by omega)
      rw [hA]
      obtain ⟨a0, a1, a2, a3⟩ := (HR2.out.hD i hlt).1.gr hg
      have hat := (HR2.out.hD i hlt).2.at'.gr hg
      have bB := World.block_lt_of_cell? _ _ a0
      have ib0 : (0 : Int) ≤ (i : Int) := by omega
      have ib1 : (i : Int) < (r2.n : Int) := by omega
      have hmem : Ba.any (fun j => Al.eqC (r1.D j).con (r2.D i).con) r1.n = true := Al.any_mem.2 (HC1.out ▸ HM2.out i hlt)
      have HT := Lib.hid (fun B W' (hc : (r2.D i).Cells W' B 0) (hW : Gr wr W') => by
        have := wah_any r1 (r2.D i) B W' (HR1.out.gr (hg.trans hW)) (hat.gr hW) hc
        rw [hmem] at this
        exact this)
      clear HM2 hmem hat
      generalize r2.D i = z at *
      obtain ⟨rn, hrn⟩ : ∃ x, r2.n = x := ⟨_, rfl⟩
      rw [hrn] at hi hlt ib1 hrc ⊢
      generalize r2.c = rc at *; generalize r2.b = rb at *; generalize r2.o = ro at *
      clear HR2 hA
      go_wp2_with fail
      refine (HT.out _ _ ?_ gr_auto).mono ?_
      · refine ⟨?_, ?_, ?_, ?_⟩ <;> simp [go_sem]
      rintro e w50 ⟨rfl, hb⟩
      have g50 := hg.trans (show Gr wr w50 from gr_auto)
      clear hb
      go_wp2_with fail
      go_roundw
      case rel => exact ⟨i + 1, by omega, by go_num, g50⟩
      case measure => simp [intOf]; omega
    · obtain rfl : r2.n = i := by omega
      have g' := g.trans hg
      replace HR1 := Lib.hid (HR1.out.gr hg)
      clear g HR2
      have g := g'
      clear g'
      clear HM2 HR1 HC1 HC2
      go_wp2_with fail
      refine (HFc.out _ g).mono ?_
      intro e w5 hR; obtain ⟨A3, c3, rfl, hb⟩ := hR.nil; clear hR
      replace g := g.trans hb
      clear hb
      go_wp2_with fail
      refine (HFd.out _ g).mono ?_
      intro e w6 hR; obtain ⟨r4, rfl, hr, hc4, hb⟩ := hR.at; clear hR
      replace g := g.trans hb
      clear hb
      have HR4 := Lib.hid hr; have HC4 := Lib.hid hc4; clear hr hc4
      go_wp2_with fail
      go_ret
      exact ⟨rfl, g⟩
set_option maxRecDepth 100000 in
set_option maxHeartbeats 4000000 in
theorem wider_yy_yn (s : Al.SlM) (a b c d : Int) (w : World) (h : s.At w) (hf : Al.fewB Al.noN.n Al.exL.n s.n (Al.lngB s) = true) (hab : a ≤ b) (hcd : c ≤ d) (XA : List Al.C) (HJa : Hid (∀ W, Gr w W → Calls Tryz.prog 12 #[.slice s.A s.n s.c, .int .i64 a] W (Al.RetAe XA 0 W))) (XB : List Al.C) (HJb : Hid (∀ W, Gr w W → Calls Tryz.prog 12 #[.slice s.A s.n s.c, .int .i64 b] W (Al.RetAe XB 0 W))) (HX : Hid (∀ z ∈ XB, z ∈ XA)) (XC : List Al.C) (HFc : Hid (∀ W, Gr w W → Calls Tryz.prog 16 #[.slice s.A s.n s.c, .int .i64 c] W (Al.RetAe XC 0 W))) (kd : Int) (kd0 : (kd == 0) = false) (kd1 : (kd != 0) = true) (HFd : Hid (∀ W, Gr w W → Calls Tryz.prog 16 #[.slice s.A s.n s.c, .int .i64 d] W (Al.RetAe [] kd W))) : Calls Tryz.prog 3 #[.slice s.A s.n s.c, .int .i64 a, .int .i64 b, .int .i64 c, .int .i64 d] w fun e w' => e = .returned (.bool true) ∧ Gr w w' := by
  have HAw := Lib.hid (fun W => awake_any W)
  have HFe := Lib.hid (fun W (hW : Gr w W) => few_any Al.noN Al.exL s W (Al.noN_at W) (Al.exL_at W) (h.gr hW))
  rw [hf] at HFe
  have HFe := Lib.hid (fun W (hW : Gr w W) => show Calls Tryz.prog 11 #[.agg #[.slice none 0 0, .slice none 0 0], .slice s.A s.n s.c] W fun e w' => e = .returned (.bool true) ∧ Gr W w' from HFe.out W hW)
  clear h hf
  generalize s.A = sA at *; generalize s.n = sn at *; generalize s.c = sc at *
  go_enter Tryz.func3, Tryz.ntmps3
  go_wp2_with fail
  refine (HAw.out _).mono ?_
  rintro e w1 ⟨rfl, hb⟩
  have g : Gr w w1 := gr_auto
  clear hb HAw
  go_wp2_with fail
  refine (HFe.out _ g).mono ?_
  rintro e w2 ⟨rfl, hb⟩
  replace g := g.trans hb
  clear hb
  go_wp2_with fail
  refine (HJa.out _ g).mono ?_
  intro e w3 hR; obtain ⟨r1, rfl, hr, hc1, hb⟩ := hR.at; clear hR
  replace g := g.trans hb
  clear hb
  have HR1 := Lib.hid hr; have HC1 := Lib.hid hc1; clear hr hc1
  go_wp2_with fail
  refine (HJb.out _ g).mono ?_
  intro e w4 hR; obtain ⟨r2, rfl, hr, hc2, hb⟩ := hR.at; clear hR
  replace g := g.trans hb
  replace HR1 := Lib.hid (HR1.out.gr hb)
  clear hb
  have HR2 := Lib.hid hr; have HC2 := Lib.hid hc2; clear hr hc2
  have HM2 := Lib.hid (fun i (hi : i < r2.n) => HX.out _ (HC2.out ▸ Al.con_mem hi))
  clear HX
  go_wp2_with fail
  refine name_world ?_
  intro V2 hV2
  have gV : Gr w4 V2 := by rw [hV2]; exact gr_auto
  clear hV2
  replace g := g.trans gV
  replace HR1 := Lib.hid (HR1.out.gr gV)
  replace HR2 := Lib.hid (HR2.out.gr gV)
  clear gV
  go_loopw [59] (fun x wr => ∃ i : Nat, i ≤ r2.n ∧ x = .int .i64 (i : Int) ∧ Gr V2 wr) (fun x _ => r2.n - (intOf x).toNat)
  case atStart => exact ⟨0, Nat.zero_le _, rfl, Gr.refl _⟩
  case round =>
    obtain ⟨i, hi, rfl, hg⟩ := hrel
    have hrc := HR2.out.hc; have hrb := HR2.out.hb
    by_cases hlt : i < r2.n
    · have hA := HR2.out.hA (by omega)
      rw [hA]
      obtain ⟨a0, a1, a2, a3⟩ := (HR2.out.hD i hlt).1.gr hg
      have hat := (HR2.out.hD i hlt).2.at'.gr hg
      have bB := World.block_lt_of_cell? _ _ a0
      have ib0 : (0 : Int) ≤ (i : Int) := by omega
      have ib1 : (i : Int) < (r2.n : Int) := by omega
      have hmem : Ba.any (fun j => Al.eqC (r1.D j).con (r2.D i).con) r1.n = true := Al.any_mem.2 (HC1.out ▸ HM2.out i hlt)
      have HT := Lib.hid (fun B W' (hc : (r2.D i).Cells W' B 0) (hW : Gr wr W') => by
        have := wah_any r1 (r2.D i) B W' (HR1.out.gr (hg.trans hW)) (hat.gr hW) hc
        rw [hmem] at this
        exact this)
      clear HM2 hmem hat
      generalize r2.D i = z at *
      obtain ⟨rn, hrn⟩ : ∃ x, r2.n = x := ⟨_, rfl⟩
      rw [hrn] at hi hlt ib1 hrc ⊢
      generalize r2.c = rc at *; generalize r2.b = rb at *; generalize r2.o = ro at *
      clear HR2 hA
      go_wp2_with fail
      refine (HT.out _ _ ?_ gr_auto).mono ?_
      · refine ⟨?_, ?_, ?_, ?_⟩ <;> simp [go_sem]
      rintro e w50 ⟨rfl, hb⟩
      have g50 := hg.trans (show Gr wr w50 from gr_auto)
      clear hb
      go_wp2_with fail
      go_roundw
      case rel => exact ⟨i + 1, by omega, by go_num, g50⟩
      case measure => simp [intOf]; omega
    · obtain rfl : r2.n = i := by omega
      have g' := g.trans hg
      replace HR1 := Lib.hid (HR1.out.gr hg)
      clear g HR2
      have g := g'
      clear g'
      clear HM2 HR1 HC1 HC2
      go_wp2_with fail
      refine (HFc.out _ g).mono ?_
      intro e w5 hR; obtain ⟨r3, rfl, hr, hc3, hb⟩ := hR.at; clear hR
      replace g := g.trans hb
      clear hb
      have HR3 := Lib.hid hr; have HC3 := Lib.hid hc3; clear hr hc3
      go_wp2_with fail
      refine (HFd.out _ g).mono ?_
      intro e w6 hR; obtain ⟨A4, c4, rfl, hb⟩ := hR.nil; clear hR
      replace g := g.trans hb
      replace HR3 := Lib.hid (HR3.out.gr hb)
      clear hb
      go_wp2_with fail
      go_ret
      exact ⟨rfl, g⟩
set_option maxRecDepth 100000 in
set_option maxHeartbeats 4000000 in
theorem wider_yy_yy (s : Al.SlM) (a b c d : Int) (w : World) (h : s.At w) (hf : Al.fewB Al.noN.n Al.exL.n s.n (Al.lngB s) = true) (hab : a ≤ b) (hcd : c ≤ d) (XA : List Al.C) (HJa : Hid (∀ W, Gr w W → Calls Tryz.prog 12 #[.slice s.A s.n s.c, .int .i64 a] W (Al.RetAe XA 0 W))) (XB : List Al.C) (HJb : Hid (∀ W, Gr w W → Calls Tryz.prog 12 #[.slice s.A s.n s.c, .int .i64 b] W (Al.RetAe XB 0 W))) (HX : Hid (∀ z ∈ XB, z ∈ XA)) (XC : List Al.C) (HFc : Hid (∀ W, Gr w W → Calls Tryz.prog 16 #[.slice s.A s.n s.c, .int .i64 c] W (Al.RetAe XC 0 W))) (XD : List Al.C) (HFd : Hid (∀ W, Gr w W → Calls Tryz.prog 16 #[.slice s.A s.n s.c, .int .i64 d] W (Al.RetAe XD 0 W))) (HY : Hid (∀ z ∈ XD, z ∈ XC ∧ d ≤ (z.bc.length : Int))) (HZ : Hid (∀ z ∈ XC, c ≤ (z.bc.length : Int))) : Calls Tryz.prog 3 #[.slice s.A s.n s.c, .int .i64 a, .int .i64 b, .int .i64 c, .int .i64 d] w fun e w' => e = .returned (.bool true) ∧ Gr w w' := by
  have HAw := Lib.hid (fun W => awake_any W)
  have HFe := Lib.hid (fun W (hW : Gr w W) => few_any Al.noN Al.exL s W (Al.noN_at W) (Al.exL_at W) (h.gr hW))
  rw [hf] at HFe
  have HFe := Lib.hid (fun W (hW : Gr w W) => show Calls Tryz.prog 11 #[.agg #[.slice none 0 0, .slice none 0 0], .slice s.A s.n s.c] W fun e w' => e = .returned (.bool true) ∧ Gr W w' from HFe.out W hW)
  clear h hf
  generalize s.A = sA at *; generalize s.n = sn at *; generalize s.c = sc at *
  go_enter Tryz.func3, Tryz.ntmps3
  go_wp2_with fail
  refine (HAw.out _).mono ?_
  rintro e w1 ⟨rfl, hb⟩
  have g : Gr w w1 := gr_auto
  clear hb HAw
  go_wp2_with fail
  refine (HFe.out _ g).mono ?_
  rintro e w2 ⟨rfl, hb⟩
  replace g := g.trans hb
  clear hb
  go_wp2_with fail
  refine (HJa.out _ g).mono ?_
  intro e w3 hR; obtain ⟨r1, rfl, hr, hc1, hb⟩ := hR.at; clear hR
  replace g := g.trans hb
  clear hb
  have HR1 := Lib.hid hr; have HC1 := Lib.hid hc1; clear hr hc1
  go_wp2_with fail
  refine (HJb.out _ g).mono ?_
  intro e w4 hR; obtain ⟨r2, rfl, hr, hc2, hb⟩ := hR.at; clear hR
  replace g := g.trans hb
  replace HR1 := Lib.hid (HR1.out.gr hb)
  clear hb
  have HR2 := Lib.hid hr; have HC2 := Lib.hid hc2; clear hr hc2
  have HM2 := Lib.hid (fun i (hi : i < r2.n) => HX.out _ (HC2.out ▸ Al.con_mem hi))
  clear HX
  go_wp2_with fail
  refine name_world ?_
  intro V2 hV2
  have gV : Gr w4 V2 := by rw [hV2]; exact gr_auto
  clear hV2
  replace g := g.trans gV
  replace HR1 := Lib.hid (HR1.out.gr gV)
  replace HR2 := Lib.hid (HR2.out.gr gV)
  clear gV
  go_loopw [59] (fun x wr => ∃ i : Nat, i ≤ r2.n ∧ x = .int .i64 (i : Int) ∧ Gr V2 wr) (fun x _ => r2.n - (intOf x).toNat)
  case atStart => exact ⟨0, Nat.zero_le _, rfl, Gr.refl _⟩
  case round =>
    obtain ⟨i, hi, rfl, hg⟩ := hrel
    have hrc := HR2.out.hc; have hrb := HR2.out.hb
    by_cases hlt : i < r2.n
    · have hA := HR2.out.hA (by omega)
      rw [hA]
      obtain ⟨a0, a1, a2, a3⟩ := (HR2.out.hD i hlt).1.gr hg
      have hat := (HR2.out.hD i hlt).2.at'.gr hg
      have bB := World.block_lt_of_cell? _ _ a0
      have ib0 : (0 : Int) ≤ (i : Int) := by omega
      have ib1 : (i : Int) < (r2.n : Int) := by omega
      have hmem : Ba.any (fun j => Al.eqC (r1.D j).con (r2.D i).con) r1.n = true := Al.any_mem.2 (HC1.out ▸ HM2.out i hlt)
      have HT := Lib.hid (fun B W' (hc : (r2.D i).Cells W' B 0) (hW : Gr wr W') => by
        have := wah_any r1 (r2.D i) B W' (HR1.out.gr (hg.trans hW)) (hat.gr hW) hc
        rw [hmem] at this
        exact this)
      clear HM2 hmem hat
      generalize r2.D i = z at *
      obtain ⟨rn, hrn⟩ : ∃ x, r2.n = x := ⟨_, rfl⟩
      rw [hrn] at hi hlt ib1 hrc ⊢
      generalize r2.c = rc at *; generalize r2.b = rb at *; generalize r2.o = ro at *
      clear HR2 hA
      go_wp2_with fail
      refine (HT.out _ _ ?_ gr_auto).mono ?_
      · refine ⟨?_, ?_, ?_, ?_⟩ <;> simp [go_sem]
      rintro e w50 ⟨rfl, hb⟩
      have g50 := hg.trans (show Gr wr w50 from gr_auto)
      clear hb
      go_wp2_with fail
      go_roundw
      case rel => exact ⟨i + 1, by omega, by go_num, g50⟩
      case measure => simp [intOf]; omega
    · obtain rfl : r2.n = i := by omega
      have g' := g.trans hg
      replace HR1 := Lib.hid (HR1.out.gr hg)
      clear g HR2
      have g := g'
      clear g'
      clear HM2 HR1 HC1 HC2
      go_wp2_with fail
      refine (HFc.out _ g).mono ?_
      intro e w5 hR; obtain ⟨r3, rfl, hr, hc3, hb⟩ := hR.at; clear hR
      replace g := g.trans hb
      clear hb
      have HR3 := Lib.hid hr; have HC3 := Lib.hid hc3; clear hr hc3
      go_wp2_with fail
      refine (HFd.out _ g).mono ?_
      intro e w6 hR; obtain ⟨r4, rfl, hr, hc4, hb⟩ := hR.at; clear hR
      replace g := g.trans hb
      replace HR3 := Lib.hid (HR3.out.gr hb)
      clear hb
      have HR4 := Lib.hid hr; have HC4 := Lib.hid hc4; clear hr hc4
      have HM4 := Lib.hid (fun i (hi : i < r4.n) => HY.out _ (HC4.out ▸ Al.con_mem hi))
      have HM3 := Lib.hid (fun i (hi : i < r3.n) => HZ.out _ (HC3.out ▸ Al.con_mem hi))
      clear HY HZ
      go_wp2_with fail
      refine name_world ?_
      intro V4 hV4
      have gV : Gr w6 V4 := by rw [hV4]; exact gr_auto
      clear hV4
      replace g := g.trans gV
      replace HR3 := Lib.hid (HR3.out.gr gV)
      replace HR4 := Lib.hid (HR4.out.gr gV)
      clear gV
      go_loopw [88] (fun x wr => ∃ i : Nat, i ≤ r4.n ∧ x = .int .i64 (i : Int) ∧ Gr V4 wr) (fun x _ => r4.n - (intOf x).toNat)
      case atStart => exact ⟨0, Nat.zero_le _, rfl, Gr.refl _⟩
      case round =>
        obtain ⟨i, hi, rfl, hg⟩ := hrel
        have hrc := HR4.out.hc; have hrb := HR4.out.hb
        by_cases hlt : i < r4.n
        · have hA := HR4.out.hA (by omega)
          rw [hA]
          obtain ⟨a0, a1, a2, a3⟩ := (HR4.out.hD i hlt).1.gr hg
          have hat := (HR4.out.hD i hlt).2.at'.gr hg
          have bB := World.block_lt_of_cell? _ _ a0
          have ib0 : (0 : Int) ≤ (i : Int) := by omega
          have ib1 : (i : Int) < (r4.n : Int) := by omega
          have hm4 := HM4.out i hlt
          have hlen : d ≤ ((r4.D i).n : Int) := by have := hm4.2; rw [Al.con_bc] at this; exact this
          have hmem : Ba.any (fun j => Al.eqC (r3.D j).con (r4.D i).con) r3.n = true := Al.any_mem.2 (HC3.out ▸ hm4.1)
          have HT := Lib.hid (fun B W' (hc : (r4.D i).Cells W' B 0) (hW : Gr wr W') => by
            have := wbh_any r3 (r4.D i) B W' (HR3.out.gr (hg.trans hW)) (hat.gr hW) hc
            rw [hmem] at this
            exact this)
          clear hm4 hmem HM3 HM4 hat
          generalize r4.D i = z at *
          obtain ⟨rn, hrn⟩ : ∃ x, r4.n = x := ⟨_, rfl⟩
          rw [hrn] at hi hlt ib1 hrc ⊢
          generalize r4.c = rc at *; generalize r4.b = rb at *; generalize r4.o = ro at *
          clear HR4 hA
          go_wp2_with fail
          refine (HT.out _ _ ?_ gr_auto).mono ?_
          · refine ⟨?_, ?_, ?_, ?_⟩ <;> simp [go_sem]
          rintro e w50 ⟨rfl, hb⟩
          have g50 := hg.trans (show Gr wr w50 from gr_auto)
          clear hb
          go_wp2_with fail
          go_roundw
          case rel => exact ⟨i + 1, by omega, by go_num, g50⟩
          case measure => simp [intOf]; omega
        · obtain rfl : r4.n = i := by omega
          have g' := g.trans hg
          replace HR3 := Lib.hid (HR3.out.gr hg)
          clear g HR4
          have g := g'
          clear g'
          clear HM4
          go_wp2_with fail
          refine name_world ?_
          intro V3 hV3
          have gV : Gr wr V3 := by rw [hV3]; exact gr_auto
          clear hV3
          replace g := g.trans gV
          replace HR3 := Lib.hid (HR3.out.gr gV)
          clear gV
          go_loopw [106] (fun x wr => ∃ i : Nat, i ≤ r3.n ∧ x = .int .i64 (i : Int) ∧ Gr V3 wr) (fun x _ => r3.n - (intOf x).toNat)
          case atStart => exact ⟨0, Nat.zero_le _, rfl, Gr.refl _⟩
          case round =>
            obtain ⟨i, hi, rfl, hg⟩ := hrel
            have hrc := HR3.out.hc; have hrb := HR3.out.hb
            by_cases hlt : i < r3.n
            · have hA := HR3.out.hA (by omega)
              rw [hA]
              obtain ⟨a0, a1, a2, a3⟩ := (HR3.out.hD i hlt).1.gr hg
              have hat := (HR3.out.hD i hlt).2.at'.gr hg
              have bB := World.block_lt_of_cell? _ _ a0
              have ib0 : (0 : Int) ≤ (i : Int) := by omega
              have ib1 : (i : Int) < (r3.n : Int) := by omega
              have hlen : c ≤ ((r3.D i).n : Int) := by have := HM3.out i hlt; rw [Al.con_bc] at this; exact this
              clear HM3 hat
              generalize r3.D i = z at *
              obtain ⟨rn, hrn⟩ : ∃ x, r3.n = x := ⟨_, rfl⟩
              rw [hrn] at hi hlt ib1 hrc ⊢
              generalize r3.c = rc at *; generalize r3.b = rb at *; generalize r3.o = ro at *
              clear HR3 hA
              go_wp2_with fail
              go_roundw
              case rel => exact ⟨i + 1, by omega, by go_num, gr_auto⟩
              case measure => simp [intOf]; omega
            · obtain rfl : r3.n = i := by omega
              have g' := g.trans hg
              clear g HR3
              have g := g'
              clear g'
              go_wp2_with fail
              go_ret
              exact ⟨rfl, g⟩
theorem wider_law (s : Al.SlM) (a b c d : Int) (w : World) (h : s.At w) : Calls Tryz.prog 3 #[.slice s.A s.n s.c, .int .i64 a, .int .i64 b, .int .i64 c, .int .i64 d] w fun e w' => e = .returned (.bool true) ∧ Gr w w' := by
  cases hf : Al.fewB Al.noN.n Al.exL.n s.n (Al.lngB s)
  · exact wider_few s a b c d w h hf
  by_cases hab : a ≤ b
  · by_cases hcd : c ≤ d
    · have JA : ∀ m, ∃ k X, Hid (∀ W, Gr w W → Calls Tryz.prog 12 #[.slice s.A s.n s.c, .int .i64 m] W (Al.RetAe X k W)) := fun m => by
        by_cases q : s.vB = true ∧ Al.jmO m = true
        · exact ⟨0, _, fun W hW => Jumps_ok s m W (h.gr hW) q.1 q.2⟩
        · obtain ⟨k, -, -, hk⟩ := jumps_err s m w h q
          exact ⟨k, _, hk⟩
      have FA : ∀ m, ∃ k X, Hid (∀ W, Gr w W → Calls Tryz.prog 16 #[.slice s.A s.n s.c, .int .i64 m] W (Al.RetAe X k W)) := fun m => by
        by_cases q : s.vB = true ∧ Al.stO m = true
        · exact ⟨0, _, fun W hW => Frozen_ok s m W (h.gr hW) q.1 q.2⟩
        · obtain ⟨k, -, -, hk⟩ := frozen_err s m w h q
          exact ⟨k, _, hk⟩
      obtain ⟨kB, XB, hB⟩ := JA b
      obtain ⟨kD, XD, hD⟩ := FA d
      by_cases q1 : s.vB = true ∧ Al.jmO a = true
      · have j1 := Lib.hid (fun W (hW : Gr w W) => Jumps_ok s a W (h.gr hW) q1.1 q1.2)
        by_cases q2 : s.vB = true ∧ Al.jmO b = true
        · have j2 := Lib.hid (fun W (hW : Gr w W) => Jumps_ok s b W (h.gr hW) q2.1 q2.2)
          have hx := Lib.hid (fun z hz => Al.srt_jmp (l := s.lst) hab (c := z) hz)
          by_cases q3 : s.vB = true ∧ Al.stO c = true
          · have f3 := Lib.hid (fun W (hW : Gr w W) => Frozen_ok s c W (h.gr hW) q3.1 q3.2)
            by_cases q4 : s.vB = true ∧ Al.stO d = true
            · have f4 := Lib.hid (fun W (hW : Gr w W) => Frozen_ok s d W (h.gr hW) q4.1 q4.2)
              exact wider_yy_yy s a b c d w h hf hab hcd _ j1 _ j2 hx _ f3 _ f4 (Lib.hid fun z hz => Al.srt_run hcd hz) (Lib.hid fun z hz => (Al.srt_run (Int.le_refl c) hz).2)
            · obtain ⟨k4, e4, g4, f4⟩ := frozen_err s d w h q4
              exact wider_yy_yn s a b c d w h hf hab hcd _ j1 _ j2 hx _ f3 k4 e4 g4 f4
          · obtain ⟨k3, e3, g3, f3⟩ := frozen_err s c w h q3
            exact wider_yy_n s a b c d w h hf hab hcd _ j1 _ j2 hx k3 e3 g3 f3 kD XD hD
        · obtain ⟨k2, e2, f2, j2⟩ := jumps_err s b w h q2
          by_cases q3 : s.vB = true ∧ Al.stO c = true
          · have f3 := Lib.hid (fun W (hW : Gr w W) => Frozen_ok s c W (h.gr hW) q3.1 q3.2)
            by_cases q4 : s.vB = true ∧ Al.stO d = true
            · have f4 := Lib.hid (fun W (hW : Gr w W) => Frozen_ok s d W (h.gr hW) q4.1 q4.2)
              exact wider_yn_yy s a b c d w h hf hab hcd _ j1 k2 e2 f2 j2 _ f3 _ f4 (Lib.hid fun z hz => Al.srt_run hcd hz) (Lib.hid fun z hz => (Al.srt_run (Int.le_refl c) hz).2)
            · obtain ⟨k4, e4, g4, f4⟩ := frozen_err s d w h q4
              exact wider_yn_yn s a b c d w h hf hab hcd _ j1 k2 e2 f2 j2 _ f3 k4 e4 g4 f4
          · obtain ⟨k3, e3, g3, f3⟩ := frozen_err s c w h q3
            exact wider_yn_n s a b c d w h hf hab hcd _ j1 k2 e2 f2 j2 k3 e3 g3 f3 kD XD hD
      · obtain ⟨k1, e1, f1, j1⟩ := jumps_err s a w h q1
        by_cases q3 : s.vB = true ∧ Al.stO c = true
        · have f3 := Lib.hid (fun W (hW : Gr w W) => Frozen_ok s c W (h.gr hW) q3.1 q3.2)
          by_cases q4 : s.vB = true ∧ Al.stO d = true
          · have f4 := Lib.hid (fun W (hW : Gr w W) => Frozen_ok s d W (h.gr hW) q4.1 q4.2)
            exact wider_n_yy s a b c d w h hf hab hcd k1 e1 f1 j1 kB XB hB _ f3 _ f4 (Lib.hid fun z hz => Al.srt_run hcd hz) (Lib.hid fun z hz => (Al.srt_run (Int.le_refl c) hz).2)
          · obtain ⟨k4, e4, g4, f4⟩ := frozen_err s d w h q4
            exact wider_n_yn s a b c d w h hf hab hcd k1 e1 f1 j1 kB XB hB _ f3 k4 e4 g4 f4
        · obtain ⟨k3, e3, g3, f3⟩ := frozen_err s c w h q3
          exact wider_n_n s a b c d w h hf hab hcd k1 e1 f1 j1 kB XB hB k3 e3 g3 f3 kD XD hD
    · exact wider_cd s a b c d w h hf hab (by omega)
  · exact wider_ab s a b c d w h hf (by omega)
theorem wider_in (s : Al.SlM) (a b c d : Int) (w : World) (h : s.At w) (_ : Ba.i64 a) (_ : Ba.i64 b) (_ : Ba.i64 c) (_ : Ba.i64 d) : Calls Tryz.prog 3 #[.slice s.A s.n s.c, .int .i64 a, .int .i64 b, .int .i64 c, .int .i64 d] w fun e w' => e = .returned (.bool true) ∧ Gr w w' := wider_law s a b c d w h
end Go.Proofs.YtllkiadedaghoaaGreat
set_option linter.unusedVariables false
set_option linter.unusedSimpArgs false
namespace Go.Proofs.YtllkiadedaghoaaGreat
open Go.ChangeShapes Go.WideShapes Go.ChangeAt Go.RowKit Go.Joins
theorem trodAll_five {H : Type} {enc : TypeId × Value → H} {P : Program} {w : World} {base : Nat} {spare : Nat → Bool} {held : Bool} {t0 t1 t2 t3 t4 : TypeId} {args : Array Value} {ds : List (DataW H)} {ps : List MemPlace} (h : DataW.TrodAll enc P w base spare held [t0, t1, t2, t3, t4] args.toList ds ps) :
    ∃ v0 v1 v2 v3 v4 d0 d1 d2 d3 d4 p0 p1 p2 p3 p4, args = #[v0, v1, v2, v3, v4] ∧ ds = [d0, d1, d2, d3, d4] ∧ ps = p0 ++ p1 ++ p2 ++ p3 ++ p4 ∧ DataW.Trod enc P w base spare held t0 v0 d0 p0 ∧ DataW.Trod enc P w base spare held t1 v1 d1 p1 ∧ DataW.Trod enc P w base spare held t2 v2 d2 p2 ∧ DataW.Trod enc P w base spare held t3 v3 d3 p3 ∧ DataW.Trod enc P w base spare held t4 v4 d4 p4 := by
  obtain ⟨v0, vs0, d0, ds0, p0, q0, hargs, rfl, rfl, k0, h⟩ := trodAll_cons h
  obtain ⟨v1, vs1, d1, ds1, p1, q1, rfl, rfl, rfl, k1, h⟩ := trodAll_cons h
  obtain ⟨v2, vs2, d2, ds2, p2, q2, rfl, rfl, rfl, k2, h⟩ := trodAll_cons h
  obtain ⟨v3, vs3, d3, ds3, p3, q3, rfl, rfl, rfl, k3, h⟩ := trodAll_cons h
  obtain ⟨v4, vs4, d4, ds4, p4, q4, rfl, rfl, rfl, k4, h⟩ := trodAll_cons h
  obtain ⟨rfl, rfl, rfl⟩ := trodAll_nil h
  exact ⟨v0, v1, v2, v3, v4, d0, d1, d2, d3, d4, p0, p1, p2, p3, p4, by cases args; simp_all, rfl, by simp, k0, k1, k2, k3, k4⟩
set_option maxRecDepth 100000 in
theorem wider_lifted (os : Os) (started : os.Started) (H : Type) (enc : TypeId × Value → H) :
    ReturnsInHanded {} Tryz.checked os 3 .any (Rows.alarmsWiderSpec.pre6 enc Tryz.prog Tryz.f3 Rows.alarmsWiderRow.domain false) (Rows.alarmsWiderSpec.post enc Tryz.prog Tryz.f3 false true false false) := by
  refine returnsInHanded_of_change (C := Tryz.checked) fr_own started (by kernel_rfl) Tryz.func3
    (ChangeSpec.witness6 (enc := enc) (C := Tryz.checked) false ⟨#[], #[.slice none 0 0, .int .i64 0, .int .i64 0, .int .i64 0, .int .i64 0], []⟩ 8 (by kernel_rfl) (by kernel_rfl) (by kernel_rfl) (by kernel_rfl)) ?_
  intro W base args ds gs before hval0 hW _ _
  have hval : ∀ (j : Nat) t v, Tryz.f3.params[j]? = some t → args[j]? = some v → Value.okWide Tryz.prog W .any base t v := hval0
  have hW' := hW
  obtain ⟨p, q, hA0, hV, rfl, _, _⟩ := hW
  have hA : DataW.TrodAll enc Tryz.prog W 0 (fun _ => true) true Tryz.f3.params.toList args.toList ds p := hA0
  have hall := hA
  rw [Tryz.params3] at hA hval
  obtain ⟨v0, v1, v2, v3, v4, d0, d1, d2, d3, d4, p0, p1, p2, p3, p4, rfl, rfl, rfl, h0, h1, h2, h3, h4⟩ := trodAll_five hA
  obtain ⟨rfl, rfl⟩ := trodVars_none hV
  have hlt := DataW.TrodAll.lt hall
  obtain ⟨A0, n0, c0, rfl, f0⟩ := fit_slice is_msgs Tryz.underlying22 (hval 0 22 v0 rfl rfl) h0
  obtain ⟨M0, e0, hM0⟩ := Al.slm_of f0
  have e0' := Ba.sl_val e0
  obtain ⟨x1, rfl, rfl, rfl, wn1⟩ := open_int Tryz.underlying3 (hval 1 3 v1 rfl rfl) h1
  have b1 := bounds_i64 wn1
  obtain ⟨x2, rfl, rfl, rfl, wn2⟩ := open_int Tryz.underlying3 (hval 2 3 v2 rfl rfl) h2
  have b2 := bounds_i64 wn2
  obtain ⟨x3, rfl, rfl, rfl, wn3⟩ := open_int Tryz.underlying3 (hval 3 3 v3 rfl rfl) h3
  have b3 := bounds_i64 wn3
  obtain ⟨x4, rfl, rfl, rfl, wn4⟩ := open_int Tryz.underlying3 (hval 4 3 v4 rfl rfl) h4
  have b4 := bounds_i64 wn4
  clear hA0 hval0
  simp only [List.append_nil, List.nil_append] at hW' hall hlt
  have key := wider_in M0 x1 x2 x3 x4 W hM0 b1 b2 b3 b4
  rw [← e0'] at key
  refine key.mono fun e W' ⟨he, hg⟩ => ?_
  subst he
  refine ⟨_, rfl, _, _, _, [], p0, [], hW', trodAll_mk1 (shut_bool Tryz.underlying4 _), ?_, rfl, Below.frame hg _, fun h => by cases h⟩
  exact fr_args hg _ _ _ _ (by rw [Tryz.params3]; intro t ht; have hm : t ∈ [22, 3, 3, 3, 3] := (by simpa using ht); have hall : ([22, 3, 3, 3, 3].all fun u => Tryz.prog.readableRec u && decide (u < Tryz.prog.types.size)) = true := (by kernel_rfl); have := List.all_eq_true.1 hall t hm; simpa using this) hlt hall
theorem wider_holds : Rows.AlarmsWiderSaid :=
  OpenClaim.holds_of_wide 3 Tryz.f3 rfl rfl rfl rfl rfl rfl rfl ⟨rfl, rfl, rfl, rfl, rfl⟩ rfl rfl rfl rfl rfl (by kernel_rfl) Tryz.func3 (by kernel_rfl)
    (of_decide_eq_true (by kernel_rfl)) (by unfold Func.isWrapper; first | (rw [if_pos (by decide +kernel)]; kernel_rfl) | (rw [if_neg (by decide +kernel)]; exact ⟨rfl, rfl⟩))
    (fun os started H enc _ => wider_lifted os started H enc)
#print axioms wider_holds
end Go.Proofs.YtllkiadedaghoaaGreat
