/-
  Alarms: the reference's With, Sorted, Of. Typed.
  Alarms: the reference's All. Typed.
  Alarms: the reference's Without. (Printed by mkamo.py.)
  Alarms: slices.ContainsFunc at messages and at alarms; few. (Printed by mkamp.py.)
  Alarms: the network of the example, its messages, what All answers. Typed.
-/
import Derived.Test.YtllkiadedaghoaaGreatDoorOr41
import Derived.Test.YtllkiadedaghoaaGreatDoorOr25
import Derived.Test.YtllkiadedaghoaaGreatDoorOr42
import Derived.Test.YtllkiadedaghoaaGreatDoorOr10
import Derived.Test.YtllkiadedaghoaaGreatDoorOr39
import Derived.Test.YtllkiadedaghoaaGreatDoorOr14
import Derived.Test.YtllkiadedaghoaaGreatDoorOr40
import Derived.Test.YtllkiadedaghoaaGreatDoorOr23
import Derived.Deep.CutBlock
import Derived.Deep.RegionHeld3
set_option linter.unusedVariables false
set_option linter.unusedSimpArgs false
namespace Go.Proofs.YtllkiadedaghoaaGreatDoor
open Go.RowKit Go.Sort Go.Shelf
attribute [local go_sem ↓] Go.wp_at_zero Go.wp_at_succ
namespace Al
theorem flat_len5 (l : List M) : (flat l).length = l.length * 5 := by
  unfold flat
  induction l with
  | nil => rfl
  | cons a d ih => rw [List.flatMap_cons, List.length_append, ih, List.length_cons]; simp [M.enc]; omega
theorem flat_one (l : List M) : ∀ u ∈ flat l, u.oneCell' = true := by
  intro u hu
  obtain ⟨a, -, hu⟩ := List.mem_flatMap.1 hu
  simp [M.enc] at hu
  rcases hu with rfl | rfl | rfl | rfl | rfl <;> rfl
/-- The cells of the rest of a slice. -/
theorem SlM.rest {w : World} {s : SlM} (h : s.At w) {i : Nat} (hi : i < s.n) : ∀ j u, (flat (s.lst.drop i))[j]? = some u → w.cell? ((⟨s.b, s.o + i * 5, none⟩ : Addr).add j) = some u := by
  intro j u hj
  have hlt : j < (flat (s.lst.drop i)).length := (List.getElem?_eq_some_iff.1 hj).1
  rw [flat_len5, List.length_drop, SlM.lst_len] at hlt
  have e : ((⟨s.b, s.o + i * 5, none⟩ : Addr).add j) = ⟨s.b, s.o + i * 5 + j, none⟩ := by
    unfold Addr.add; split <;> simp_all
  rw [e]
  have hq : j / 5 < (s.lst.drop i).length := by rw [List.length_drop, SlM.lst_len]; omega
  have hf := flat_get M.enc 5 (fun _ => rfl) (s.lst.drop i) (j / 5) (j % 5) hq (by omega)
  rw [show j / 5 * 5 + j % 5 = j by omega] at hf
  unfold flat at hj
  rw [hf] at hj
  have hg : (s.lst.drop i)[j / 5]! = s.D (i + j / 5) := by
    rw [getElem!_pos (s.lst.drop i) (j / 5) hq, List.getElem_drop, lst_get]
  rw [hg] at hj
  obtain ⟨c0, c1, c2, c3, c4⟩ := (h.hD (i + j / 5) (by omega)).1
  have ea : s.o + i * 5 + j = s.o + (i + j / 5) * 5 + j % 5 := by omega
  rw [ea]
  generalize s.D (i + j / 5) = d at *
  have hm : j % 5 < 5 := by omega
  generalize j % 5 = r at *
  rcases (by omega : r = 0 ∨ r = 1 ∨ r = 2 ∨ r = 3 ∨ r = 4) with rfl | rfl | rfl | rfl | rfl <;> simp [M.enc] at hj <;> subst hj <;> assumption
end Al
end Go.Proofs.YtllkiadedaghoaaGreatDoor
set_option linter.unusedVariables false
set_option linter.unusedSimpArgs false
namespace Go.Proofs.YtllkiadedaghoaaGreatDoor
open Go.RowKit Go.Sort Go.Shelf
attribute [local go_sem ↓] Go.wp_at_zero Go.wp_at_succ
theorem Al.OwnA.empty {w : World} {base g : Nat} (h : w.heap[g]? = some (.cells #[] 31 (0, 0))) (hb : base ≤ g) : Al.OwnA w base (.slice (some ⟨g, 0, none⟩) 0 0) [] := ⟨own_empty h hb, fun a ha => by simp at ha⟩
end Go.Proofs.YtllkiadedaghoaaGreatDoor
set_option linter.unusedVariables false
set_option linter.unusedSimpArgs false
namespace Go.Proofs.YtllkiadedaghoaaGreatDoor
open Go.RowKit Go.Shelf Go.Sort
attribute [local go_sem ↓] Go.wp_at_zero Go.wp_at_succ
def Al.SlM.nil : Al.SlM := ⟨none, 0, 0, 0, 0, fun _ => default⟩
theorem Al.SlM.nil_at (w : World) : Al.SlM.nil.At w := ⟨fun h => absurd h (Nat.lt_irrefl _), Nat.le_refl _, Nat.zero_le _, fun i hi => absurd hi (Nat.not_lt_zero _)⟩
end Go.Proofs.YtllkiadedaghoaaGreatDoor
set_option linter.unusedVariables false
set_option linter.unusedSimpArgs false
namespace Go.Proofs.YtllkiadedaghoaaGreatDoor
open Go.RowKit Go.Shelf Go.Sort
attribute [local go_sem ↓] Go.wp_at_zero Go.wp_at_succ
namespace Al
def M.val (m : M) : Value := .agg #[.string m.nd, .int .i64 m.nu, .int .i64 m.tm, .int .i64 m.ar, .int .i64 m.lv]
def A.val (a : A) : Value := .agg #[.int .i64 a.kd, .string a.nd, .int .i64 a.tm, .slice a.p a.n a.c]
end Al
set_option maxRecDepth 100000 in
set_option maxHeartbeats 4000000 in
theorem idx_msg (f : FuncId) (cap : Array Value) (s : Al.SlM) (p : Nat → Bool) (w : World) (h : s.At w) (hen : ∀ args w, (callFunc f args).run Tryz.prog w = .ok (.enter f args) w)
    (hp : ∀ i, i < s.n → ∀ W, Gr w W → Calls Tryz.prog f (#[(s.D i).val] ++ cap) W fun e w' => e = .returned (.bool (p i)) ∧ Gr W w') :
    Calls Tryz.prog 55 #[.slice s.A s.n s.c, .func (.func f) #[] cap] w fun e w' => e = .returned (.int .i64 (Ba.fstI p s.n)) ∧ Gr w w' := by
  have HA := Lib.hid h.hA; have HX := Lib.hid h.hD; have HP := Lib.hid hp
  have hn : s.n ≤ 9223372036854775807 := Nat.le_trans h.hc h.hb
  clear h hp
  obtain ⟨A, hAe⟩ : ∃ A, s.A = A := ⟨_, rfl⟩
  obtain ⟨n, hne⟩ : ∃ n, s.n = n := ⟨_, rfl⟩
  obtain ⟨b, hbe⟩ : ∃ b, s.b = b := ⟨_, rfl⟩
  obtain ⟨o, hoe⟩ : ∃ o, s.o = o := ⟨_, rfl⟩
  rw [hAe, hne, hbe, hoe] at HA
  rw [hne, hbe, hoe] at HX
  rw [hne] at HP hn
  rw [hAe, hne]
  clear hAe hne hbe hoe
  go_enter Tryz.func55, Tryz.ntmps55
  go_wp2_with fail
  go_loopw [8] (fun s8 wr => ∃ i : Nat, i ≤ n ∧ s8 = .int .i64 (i : Int) ∧ Gr w wr ∧ Hid (Ba.fst p i = none)) (fun s8 _ => n - (intOf s8).toNat)
  case atStart => exact ⟨0, Nat.zero_le _, rfl, Gr.refl _, rfl⟩
  case round =>
    obtain ⟨i, hi, rfl, hg, hf⟩ := hrel
    by_cases hlt : i < n
    · obtain rfl := HA.out (by omega)
      have HC := Lib.hid (HP.out i hlt)
      obtain ⟨a0, a1, a2, a3, a4⟩ := (HX.out i hlt).1.gr hg
      unfold Al.M.val at HC
      generalize s.D i = d at *
      cases hpi : p i
      · rw [hpi] at HC
        have HF := Lib.hid (Ba.fst_miss hf.out hpi)
        clear hpi hi
        go_wp2_with fail
        refine (HC.out _ gr_auto).mono ?_
        rintro e w1 ⟨rfl, hb1⟩
        go_wp2_with fail
        go_roundw
        case rel => exact ⟨i + 1, by omega, by go_num, gr_auto, HF⟩
        case measure => simp [intOf]; omega
      · rw [hpi] at HC
        have HF := Lib.hid (Ba.fstI_hit hf.out hpi hlt)
        clear hpi hi
        go_wp2_with fail
        refine (HC.out _ gr_auto).mono ?_
        rintro e w1 ⟨rfl, hb1⟩
        go_wp2_with fail
        go_ret
        exact ⟨ret_int HF.out.symm, gr_auto⟩
    · obtain rfl : i = n := by omega
      have HF := Lib.hid (Ba.fstI_none hf.out)
      go_wp2_with fail
      go_ret
      exact ⟨ret_int HF.out.symm, hg⟩
set_option maxRecDepth 100000 in
set_option maxHeartbeats 4000000 in
theorem has_msg (f : FuncId) (cap : Array Value) (s : Al.SlM) (p : Nat → Bool) (w : World) (h : s.At w) (hen : ∀ args w, (callFunc f args).run Tryz.prog w = .ok (.enter f args) w)
    (hp : ∀ i, i < s.n → ∀ W, Gr w W → Calls Tryz.prog f (#[(s.D i).val] ++ cap) W fun e w' => e = .returned (.bool (p i)) ∧ Gr W w') :
    Calls Tryz.prog 23 #[.slice s.A s.n s.c, .func (.func f) #[] cap] w fun e w' => e = .returned (.bool (Ba.any p s.n)) ∧ Gr w w' := by
  have HI := Lib.hid (idx_msg f cap s p w h hen hp)
  have HG := Lib.hid (Ba.fstI_ge p s.n)
  clear hp h
  generalize Ba.fstI p s.n = r at *
  generalize Ba.any p s.n = q at *
  generalize s.A = A at *
  generalize s.n = n at *
  generalize s.c = c at *
  go_enter Tryz.func23, Tryz.ntmps23
  go_wp2_with fail
  refine HI.out.mono ?_
  rintro e w1 ⟨rfl, hb1⟩
  go_wp2
  go_ret
  exact ⟨ret_bool HG.out, hb1⟩
set_option maxRecDepth 100000 in
set_option maxHeartbeats 4000000 in
theorem fewf_any (m : Al.M) (w : World) (hm : m.nd.size ≤ 9223372036854775807) : Calls Tryz.prog 24 #[m.val] w fun e w' => e = .returned (.bool (decide (50 < m.nd.size))) ∧ Gr w w' := by
  unfold Al.M.val
  cases m with | mk nd nu tm ar lv =>
  simp only [] at *
  go_enter Tryz.func24, Tryz.ntmps24
  go_wp2_with fail
  go_ret
  exact ⟨ret_bool (decide_eq_decide.2 (by omega)), gr_auto⟩
def Al.lngB (s : Al.SlM) : Bool := Ba.any (fun i => decide (50 < (s.D i).nd.size)) s.n
theorem fewh_any (s : Al.SlM) (w : World) (h : s.At w) : Calls Tryz.prog 23 #[.slice s.A s.n s.c, .func (.func 24) #[] #[]] w fun e w' => e = .returned (.bool (Al.lngB s)) ∧ Gr w w' :=
  has_msg 24 #[] s _ w h (enter_of Tryz.func24 (by kernel_rfl) (by kernel_rfl)) fun i hi W _ => fewf_any (s.D i) W (h.hD i hi).2.nd
def Al.fewB (x y z : Nat) (q : Bool) : Bool := decide (x ≤ 12) && (decide (y ≤ 16) && (decide (z ≤ 40) && !q))
set_option maxRecDepth 100000 in
set_option maxHeartbeats 4000000 in
theorem few_any (N : Ba.SlNode) (L : Ba.SlLink) (s : Al.SlM) (w : World) (hN : N.At w) (hL : L.At w) (h : s.At w) : Calls Tryz.prog 6 #[Ba.netVal N L, .slice s.A s.n s.c] w fun e w' => e = .returned (.bool (Al.fewB N.n L.n s.n (Al.lngB s))) ∧ Gr w w' := by
  have HF := Lib.hid (fun W (hW : Gr w W) => fewh_any s W (h.gr hW))
  have hnc := hN.hc; have hnb := hN.hb; have hlc := hL.hc; have hlb := hL.hb; have hsc := h.hc; have hsb := h.hb
  clear hN hL h
  unfold Ba.netVal Al.fewB
  generalize Al.lngB s = q at *
  generalize N.A = nA at *; generalize N.n = nn at *; generalize N.c = nc at *; generalize L.A = lA at *; generalize L.n = ln at *; generalize L.c = lc at *; generalize s.A = sA at *; generalize s.n = sn at *; generalize s.c = sc at *
  by_cases t0 : nn ≤ 12
  · by_cases t1 : ln ≤ 16
    · by_cases t2 : sn ≤ 40
      · rw [decide_eq_true t0, decide_eq_true t1, decide_eq_true t2]
        go_enter Tryz.func6, Tryz.ntmps6
        go_wp2_with fail
        refine (HF.out _ gr_auto).mono ?_
        rintro e w1 ⟨rfl, hb1⟩
        have g1 : Gr w w1 := gr_auto
        clear hb1
        cases q
        · go_wp2_with fail
          go_ret
          exact ⟨rfl, g1⟩
        · go_wp2_with fail
          go_ret
          exact ⟨rfl, g1⟩
      · rw [decide_eq_true t0, decide_eq_true t1, decide_eq_false t2]
        clear HF
        go_enter Tryz.func6, Tryz.ntmps6
        go_wp2_with fail
        go_ret
        exact ⟨rfl, gr_auto⟩
    · rw [decide_eq_true t0, decide_eq_false t1]
      clear HF
      go_enter Tryz.func6, Tryz.ntmps6
      go_wp2_with fail
      go_ret
      exact ⟨rfl, gr_auto⟩
  · rw [decide_eq_false t0]
    clear HF
    go_enter Tryz.func6, Tryz.ntmps6
    go_wp2_with fail
    go_ret
    exact ⟨rfl, gr_auto⟩
end Go.Proofs.YtllkiadedaghoaaGreatDoor
set_option linter.unusedVariables false
set_option linter.unusedSimpArgs false
namespace Go.Proofs.YtllkiadedaghoaaGreatDoor
open Go.RowKit Go.Shelf Go.Sort
attribute [local go_sem ↓] Go.wp_at_zero Go.wp_at_succ
namespace Al
def mN : ByteArray := ⟨#[109]⟩
def exT (b : Nat) : Ba.SlK := ⟨some ⟨b, 0, none⟩, 2, 2, b, 0, fun i => if i = 0 then 0 else 1000, fun i => if i = 0 then 0 else 1000⟩
def exD (b : Nat) : Ba.Node := ⟨mN, 1, 0, 0, 0, 1000, exT b, false, 0⟩
def exN (a b : Nat) : Ba.SlNode := ⟨some ⟨a, 0, none⟩, 1, 1, a, 0, fun _ => exD b⟩
def exLk : Ba.Link := ⟨⟨#[]⟩, ⟨#[]⟩, ⟨#[]⟩, 0, 0, 0, 0, ⟨#[]⟩, 0, 0, ⟨none, 0, 0, 0, 0, fun _ => 0, fun _ => 0⟩⟩
def exL : Ba.SlLink := ⟨none, 0, 0, 0, 0, fun _ => exLk⟩
def exM (i : Nat) : M := ⟨mN, (i : Int) + 1, 10 * ((i : Int) + 1), 10 * ((i : Int) + 1), if i = 3 then 1200 else 500⟩
def exMs : List M := (List.range 4).map exM
def exA : List C := [⟨4, mN, 30, [1, 2, 3]⟩, ⟨2, mN, 40, [4]⟩, ⟨3, mN, 40, [3, 4]⟩]
theorem exL_at (w : World) : exL.At w := ⟨fun h => absurd h (Nat.lt_irrefl _), Nat.le_refl _, Nat.zero_le _, fun i hi => absurd hi (Nat.not_lt_zero _)⟩
theorem ex_netB (a b : Nat) : Ba.netB (exN a b) exL = true := by kernel_rfl
theorem ex_dist : Dist exMs := by
  show List.Pairwise _ [exM 0, exM 1, exM 2, exM 3]
  simp only [List.pairwise_cons, List.mem_cons, List.not_mem_nil, or_false, forall_eq_or_imp, forall_eq, false_imp_iff, implies_true, List.Pairwise.nil, and_true]
  refine ⟨⟨fun h => ?_, fun h => ?_, fun h => ?_⟩, ⟨fun h => ?_, fun h => ?_⟩, fun h => ?_⟩ <;> exact absurd (kM_inj h).2 (by decide)
theorem ex_srt : srtM exMs = exMs := by
  refine (srtM_of ex_dist (List.Perm.refl _) ?_).symm
  show List.Pairwise _ [exM 0, exM 1, exM 2, exM 3]
  simp only [List.pairwise_cons, List.mem_cons, List.not_mem_nil, or_false, forall_eq_or_imp, forall_eq, false_imp_iff, implies_true, List.Pairwise.nil, and_true]
  refine ⟨⟨?_, ?_, ?_⟩, ⟨?_, ?_⟩, ?_⟩ <;> exact of_decide_eq_true (by kernel_rfl)
theorem ex_nds : nds exMs = [mN] := by kernel_rfl
theorem ex_of : ofN exMs mN = exMs := by
  unfold ofN; rw [ex_srt]; kernel_rfl
theorem ex_jmp : jmpC 300 exMs = [⟨3, mN, 40, [3, 4]⟩] := by
  unfold jmpC; rw [ex_nds, List.flatMap_cons, List.flatMap_nil, List.append_nil, ex_of]; kernel_rfl
theorem ex_run : runC 3 exMs = [⟨4, mN, 30, [1, 2, 3]⟩] := by
  unfold runC; rw [ex_nds, List.flatMap_cons, List.flatMap_nil, List.append_nil, ex_of]
  show run 3 [exM 0, exM 1, exM 2, exM 3] = _
  rw [run, show [exM 1, exM 2, exM 3].takeWhile (fun m => m.lv == (exM 0).lv) = [exM 1, exM 2] by kernel_rfl, show [exM 1, exM 2, exM 3].dropWhile (fun m => m.lv == (exM 0).lv) = [exM 3] by kernel_rfl, run]
  rw [show ([] : List M).dropWhile (fun m => m.lv == (exM 3).lv) = [] by kernel_rfl, run]
  kernel_rfl
theorem ex_lim (a b : Nat) : limC (exN a b) exMs = [⟨2, mN, 40, [4]⟩] := by kernel_rfl
theorem ex_all (a b : Nat) : allC (exN a b) exMs 300 3 = exA := by
  unfold allC
  rw [ex_lim, ex_jmp, ex_run]
  refine (srt_of ?_ ?_).symm
  · exact List.perm_append_comm (l₁ := [_, _]) (l₂ := [_])
  · show List.Pairwise _ [_, _, _]
    simp only [List.pairwise_cons, List.mem_cons, List.not_mem_nil, or_false, forall_eq_or_imp, forall_eq, false_imp_iff, implies_true, List.Pairwise.nil, and_true]
    refine ⟨⟨?_, ?_⟩, ?_⟩ <;> exact of_decide_eq_true (by kernel_rfl)
end Al
end Go.Proofs.YtllkiadedaghoaaGreatDoor
