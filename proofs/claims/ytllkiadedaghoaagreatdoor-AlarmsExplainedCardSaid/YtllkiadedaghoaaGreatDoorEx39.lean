/-
  Alarms: the reference's All. Typed.
  Alarms: the reference's Without. (Printed by mkamo.py.)
  Alarms: slices.ContainsFunc at messages and at alarms; few. (Printed by mkamp.py.)
  Alarms: the network of the example, its messages, what All answers. Typed.
-/
import Derived.Test.YtllkiadedaghoaaGreatDoorEx37
import Derived.Test.YtllkiadedaghoaaGreatDoorEx38
import Derived.Test.YtllkiadedaghoaaGreatDoorEx32
import Derived.Test.YtllkiadedaghoaaGreatDoorEx18

set_option linter.unusedVariables false
set_option linter.unusedSimpArgs false
namespace Go.Proofs.YtllkiadedaghoaaGreatDoor
open Go.RowKit Go.Sort Go.Shelf
attribute [local go_sem ↓] Go.wp_at_zero Go.wp_at_succ
/-- Alarms put behind alarms, whatever they are. -/
theorem wpList_append_A (w : World) {ops : Array Oper} {rest : List Oper} {o : Oper} {a : Act} {Q : Exit → Act → World → Prop} (hgd : o.guard = none) (s x : Operand)
    (ho : o.op = .call { callee := .builtin .append, args := #[s, x], argTypes := #[48, 48] })
    (base : Nat) (v : Value) (d : List Al.A) (hs : a.eval s = v) (hown : Al.OwnA w base v d) (b2 : Nat) (v2 : Value) (d2 : List Al.A) (hx : a.eval x = v2) (h2 : Al.OwnA w b2 v2 d2)
    (hl : d.length + d2.length ≤ 200000) (hbase : base ≤ w.heap.size)
    (h : ∀ v' w', Al.OwnA w' base v' (d ++ d2) → (∀ W0, Gr W0 w → W0.heap.size ≤ base → Gr W0 w') → wpList Tryz.prog ops Q rest (a.put o.dst v') w') : wpList Tryz.prog ops Q (o :: rest) a w := by
  obtain ⟨i1, k0, k1, k2, k3⟩ := info_parts infoA
  rcases h2.open with ⟨hv, hd⟩ | ⟨g, cap, cur, hv, -, -, hn, hm, -⟩
  · refine wpList_append_own_none hgd s x 48 ho base 31 i1 4 Tryz.underlying48 k0 v _ _ hs hown.row (hx.trans hv) ?_
    refine h v w ?_ fun W0 h0 _ => h0
    rw [hd, List.append_nil]; exact hown
  · have hsr : w.ownsRow b2 31 4 (.slice (some ⟨g, 0, none⟩) d2.length cap) d2.length (d2.flatMap Al.A.enc) := by rw [← hv]; exact h2.row
    refine wpList_append_own _ hgd s x 48 ho base 31 i1 (.agg #[.int .i64 0, .string ⟨#[]⟩, .int .i64 0, .slice none 0 0]) 4 56 Tryz.underlying48 k0 k1 k2 k3 rfl (by decide) v _ _ hs hown.row ⟨g, 0, none⟩ d2.length cap (d2.flatMap Al.A.enc) (hx.trans hv) (Al.enc_len _) (fun j u hj => ?_) (Al.enc_one _) (by unfold maxLen; omega) (by omega) hbase ?_
    · have hlt2 : j < (d2.flatMap Al.A.enc).length := (List.getElem?_eq_some_iff.1 hj).1
      have := hsr.cellAt j (by rw [← Al.enc_len]; exact hlt2)
      rw [hj] at this
      have e : ((⟨g, 0, none⟩ : Addr).add j) = ⟨g, j, none⟩ := by
        unfold Addr.add
        split
        · rename_i h; rw [h]
        · simp
      rw [e]; exact this
    · intro v' w' hr hg _
      exact h v' w' (hown.cat h2.own hr hg) fun W0 h0 hb => Gr.own h0 hb hown.row hg
theorem Al.OwnA.empty {w : World} {base g : Nat} (h : w.heap[g]? = some (.cells #[] 31 (0, 0))) (hb : base ≤ g) : Al.OwnA w base (.slice (some ⟨g, 0, none⟩) 0 0) [] := ⟨own_empty h hb, fun a ha => by simp at ha⟩
set_option maxRecDepth 100000 in
set_option maxHeartbeats 4000000 in
theorem rall_any (N : Ba.SlNode) (L : Ba.SlLink) (s : Al.SlM) (jp sm tl : Int) (w : World) (hN : N.At w) (hL : L.At w) (h : s.At w) (hsv : Al.vL s.lst) (hj : 0 ≤ jp ∧ jp ≤ 8388608) (hsm : 2 ≤ sm ∧ sm ≤ 10000) :
    Calls Tryz.prog 48 #[Ba.netVal N L, .slice s.A s.n s.c, .agg #[.int .i64 jp, .int .i64 sm, .int .i64 tl]] w (Al.RetAl (Al.allC N s.lst jp sm) w) := by
  have hsn : s.n ≤ 10000 := by have := hsv.1; rw [Al.SlM.lst_len] at this; exact this
  have HLi := Lib.hid (fun W (hW : Gr w W) => rlimits_any N L s W (hN.gr hW) (hL.gr hW) (h.gr hW) hsn)
  have HJu := Lib.hid (fun W (hW : Gr w W) => rjumps_any s jp W (h.gr hW) hsv hj)
  have HSt := Lib.hid (fun W (hW : Gr w W) => rruns_any s sm W (h.gr hW) hsv hsm)
  have hl1 : (Al.limC N s.lst).length ≤ 10000 := Nat.le_trans (Al.limC_len N s.lst) (by rw [Al.SlM.lst_len]; exact hsn)
  have hl2 : (Al.jmpC jp s.lst).length ≤ 10000 := Nat.le_trans (Al.jmpC_len jp) (by rw [Al.SlM.lst_len]; exact hsn)
  have hl3 : (Al.runC sm s.lst).length ≤ 10000 := Nat.le_trans (Al.runC_len sm) (by rw [Al.SlM.lst_len]; exact hsn)
  have HLI := Lib.hid (fun (d : List Al.A) (hd : d.map Al.A.con = Al.srt (Al.limC N s.lst)) => show d.length ≤ 10000 from by
    have := congrArg List.length hd; rw [List.length_map, (Al.srt_perm _).length_eq] at this; omega)
  have HJU := Lib.hid (fun (d : List Al.A) (hd : d.map Al.A.con = Al.srt (Al.jmpC jp s.lst)) => show d.length ≤ 10000 from by
    have := congrArg List.length hd; rw [List.length_map, (Al.srt_perm _).length_eq] at this; omega)
  have HST := Lib.hid (fun (d : List Al.A) (hd : d.map Al.A.con = Al.srt (Al.runC sm s.lst)) => show d.length ≤ 10000 from by
    have := congrArg List.length hd; rw [List.length_map, (Al.srt_perm _).length_eq] at this; omega)
  clear hN hL h hsv hj hsm hsn hl1 hl2 hl3
  unfold Ba.netVal at *
  unfold Al.allC
  generalize Al.limC N s.lst = X1 at *; generalize Al.jmpC jp s.lst = X2 at *; generalize Al.runC sm s.lst = X3 at *
  generalize N.A = nA at *; generalize N.n = nn at *; generalize N.c = nc at *; generalize L.A = lA at *; generalize L.n = ln at *; generalize L.c = lc at *; generalize s.A = sA at *; generalize s.n = sn at *; generalize s.c = sc at *
  go_enter Tryz.func48, Tryz.ntmps48
  go_upto_region 1 with fail
  refine name_world ?_
  intro WK hWK
  have gK : Gr w WK := by rw [hWK]; exact gr_auto
  have p0 : WK.cell? ⟨w.heap.size, 0, none⟩ = some (.slice nA nn nc) := by rw [hWK]; simp [go_sem]
  have p1 : WK.cell? ⟨w.heap.size, 1, none⟩ = some (.slice lA ln lc) := by rw [hWK]; simp [go_sem]
  have q0 : WK.cell? ⟨w.heap.size + 1, 0, none⟩ = some (.int .i64 jp) := by rw [hWK]; simp [go_sem]
  have q1 : WK.cell? ⟨w.heap.size + 1, 1, none⟩ = some (.int .i64 sm) := by rw [hWK]; simp [go_sem]
  clear hWK
  have z0 : w.heap.size < WK.heap.size := World.block_lt_of_cell? _ _ p0
  have z1 : w.heap.size + 1 < WK.heap.size := World.block_lt_of_cell? _ _ q0
  go_wp2_with fail
  refine (HLi.out _ (gK.trans (by exact gr_auto))).mono ?_
  rintro e w3 ⟨v3, d3, rfl, ho3, hp3, hb3⟩
  have hE3 : Al.OwnA w3 WK.heap.size (.slice (some ⟨WK.heap.size, 0, none⟩) 0 0) [] := (Al.OwnA.empty (World.alloc_heap_new WK _) (Nat.le_refl _)).gr hb3
  have g3 : Gr WK w3 := Gr.trans (show Gr WK _ from by exact gr_auto) hb3
  have hl3 := HLI.out _ hp3
  have HP3 := Lib.hid hp3
  clear hp3 hb3
  go_wp2_with (at_builtin; refine wpList_append_A _ rfl _ _ rfl WK.heap.size _ [] rfl (by exact hE3) _ _ _ rfl (by exact ho3) (by simp; omega) (Gr.size g3) ?_)
  intro v1 w4 ho4 hk4
  have g4 := hk4 WK g3 (Nat.le_refl _)
  have q40 := Gr.at g4 q0; have q41 := Gr.at g4 q1
  clear hk4 ho3 hE3
  go_wp2_with fail
  refine (HJu.out _ (gK.trans g4)).mono ?_
  rintro e w5 ⟨v5, d5, rfl, ho5, hp5, hb5⟩
  have g5 : Gr WK w5 := g4.trans hb5
  have hl5 := HJU.out _ hp5
  have HP5 := Lib.hid hp5
  have ho4' := ho4.gr hb5
  clear hp5 hb5 ho4
  go_wp2_with (at_builtin; refine wpList_append_A _ rfl _ _ rfl WK.heap.size _ d3 rfl (by exact ho4') _ _ _ rfl (by exact ho5) (by omega) (Gr.size g5) ?_)
  intro v6 w6 ho6 hk6
  have g6 := hk6 WK g5 (Nat.le_refl _)
  have q60 := Gr.at g6 q0; have q61 := Gr.at g6 q1
  clear hk6 ho5 ho4' q40 q41
  go_wp2_with fail
  refine (HSt.out _ (gK.trans g6)).mono ?_
  rintro e w7 ⟨v7, d7, rfl, ho7, hp7, hb7⟩
  have g7 : Gr WK w7 := g6.trans hb7
  have hl7 := HST.out _ hp7
  have HP7 := Lib.hid hp7
  have ho6' := ho6.gr hb7
  clear hp7 hb7 ho6
  go_wp2_with (at_builtin; refine wpList_append_A _ rfl _ _ rfl WK.heap.size _ (d3 ++ d5) rfl (by exact ho6') _ _ _ rfl (by exact ho7) (by rw [List.length_append]; omega) (Gr.size g7) ?_)
  intro v8 w8 ho8 hk8
  have g8 := hk8 WK g7 (Nat.le_refl _)
  clear hk8 ho7 ho6' q60 q61
  go_wp2_with fail
  have ho8' : Al.OwnA w8 WK.heap.size v8 (d3 ++ d5 ++ d7) := by first | exact ho8 | (rw [List.append_assoc]; exact ho8)
  refine (rordered_own _ (d3 ++ d5 ++ d7) w8 _ ho8' (by rw [List.length_append, List.length_append]; omega)).mono ?_
  rintro e w9 ⟨v9, d9, rfl, ho9, hp9, hb9⟩
  obtain ⟨r, hr, hr1, hr2⟩ := ho9.sl
  have HR1 := Lib.hid hr1
  have HR2 := Lib.hid (show r.con = Al.srt (X1 ++ (X2 ++ X3)) from by
    rw [hr2, hp9]
    refine Al.srt_congr ?_
    rw [List.map_append, List.map_append, HP3.out, HP5.out, HP7.out, List.append_assoc]
    exact (Al.srt_perm X1).append ((Al.srt_perm X2).append (Al.srt_perm X3)))
  have g9 : Gr w w9 := gK.trans (g8.trans hb9)
  clear hp9 ho9 ho8 ho8' hr1 hr2
  go_wp2_with fail
  go_ret
  exact ⟨r, rfl, HR1.out, HR2.out, g9⟩
end Go.Proofs.YtllkiadedaghoaaGreatDoor
set_option linter.unusedVariables false
set_option linter.unusedSimpArgs false
namespace Go.Proofs.YtllkiadedaghoaaGreatDoor
open Go.RowKit Go.Shelf Go.Sort
attribute [local go_sem ↓] Go.wp_at_zero Go.wp_at_succ
def Al.SlM.nil : Al.SlM := ⟨none, 0, 0, 0, 0, fun _ => default⟩
theorem Al.SlM.nil_at (w : World) : Al.SlM.nil.At w := ⟨fun h => absurd h (Nat.lt_irrefl _), Nat.le_refl _, Nat.zero_le _, fun i hi => absurd hi (Nat.not_lt_zero _)⟩
end Go.Proofs.YtllkiadedaghoaaGreatDoor
set_option linter.unusedVariables false
set_option linter.unusedSimpArgs false
namespace Go.Proofs.YtllkiadedaghoaaGreatDoor
open Go.RowKit Go.Shelf Go.Sort
attribute [local go_sem ↓] Go.wp_at_zero Go.wp_at_succ
namespace Al
def M.val (m : M) : Value := .agg #[.string m.nd, .int .i64 m.nu, .int .i64 m.tm, .int .i64 m.ar, .int .i64 m.lv]
def A.val (a : A) : Value := .agg #[.int .i64 a.kd, .string a.nd, .int .i64 a.tm, .slice a.p a.n a.c]
end Al
set_option maxRecDepth 100000 in
set_option maxHeartbeats 4000000 in
theorem idx_msg (f : FuncId) (cap : Array Value) (s : Al.SlM) (p : Nat → Bool) (w : World) (h : s.At w) (hen : ∀ args w, (callFunc f args).run Tryz.prog w = .ok (.enter f args) w)
    (hp : ∀ i, i < s.n → ∀ W, Gr w W → Calls Tryz.prog f (#[(s.D i).val] ++ cap) W fun e w' => e = .returned (.bool (p i)) ∧ Gr W w') :
    Calls Tryz.prog 55 #[.slice s.A s.n s.c, .func (.func f) #[] cap] w fun e w' => e = .returned (.int .i64 (Ba.fstI p s.n)) ∧ Gr w w' := by
  have HA := Lib.hid h.hA; have HX := Lib.hid h.hD; have HP := Lib.hid hp
  have hn : s.n ≤ 9223372036854775807 := Nat.le_trans h.hc h.hb
  clear h hp
  obtain ⟨A, hAe⟩ : ∃ A, s.A = A := ⟨_, rfl⟩
  obtain ⟨n, hne⟩ : ∃ n, s.n = n := ⟨_, rfl⟩
  obtain ⟨b, hbe⟩ : ∃ b, s.b = b := ⟨_, rfl⟩
  obtain ⟨o, hoe⟩ : ∃ o, s.o = o := ⟨_, rfl⟩
  rw [hAe, hne, hbe, hoe] at HA
  rw [hne, hbe, hoe] at HX
  rw [hne] at HP hn
  rw [hAe, hne]
  clear hAe hne hbe hoe
  go_enter Tryz.func55, Tryz.ntmps55
  go_wp2_with fail
  go_loopw [8] (fun s8 wr => ∃ i : Nat, i ≤ n ∧ s8 = .int .i64 (i : Int) ∧ Gr w wr ∧ Hid (Ba.fst p i = none)) (fun s8 _ => n - (intOf s8).toNat)
  case atStart => exact ⟨0, Nat.zero_le _, rfl, Gr.refl _, rfl⟩
  case round =>
    obtain ⟨i, hi, rfl, hg, hf⟩ := hrel
    by_cases hlt : i < n
    · obtain rfl := HA.out (by omega)
      have HC := Lib.hid (HP.out i hlt)
      obtain ⟨a0, a1, a2, a3, a4⟩ := (HX.out i hlt).1.gr hg
      unfold Al.M.val at HC
      generalize s.D i = d at *
      cases hpi : p i
      · rw [hpi] at HC
        have HF := Lib.hid (Ba.fst_miss hf.out hpi)
        clear hpi hi
        go_wp2_with fail
        refine (HC.out _ gr_auto).mono ?_
        rintro e w1 ⟨rfl, hb1⟩
        go_wp2_with fail
        go_roundw
        case rel => exact ⟨i + 1, by omega, by go_num, gr_auto, HF⟩
        case measure => simp [intOf]; omega
      · rw [hpi] at HC
        have HF := Lib.hid (Ba.fstI_hit hf.out hpi hlt)
        clear hpi hi
        go_wp2_with fail
        refine (HC.out _ gr_auto).mono ?_
        rintro e w1 ⟨rfl, hb1⟩
        go_wp2_with fail
        go_ret
        exact ⟨ret_int HF.out.symm, gr_auto⟩
    · obtain rfl : i = n := by omega
      have HF := Lib.hid (Ba.fstI_none hf.out)
      go_wp2_with fail
      go_ret
      exact ⟨ret_int HF.out.symm, hg⟩
set_option maxRecDepth 100000 in
set_option maxHeartbeats 4000000 in
theorem has_msg (f : FuncId) (cap : Array Value) (s : Al.SlM) (p : Nat → Bool) (w : World) (h : s.At w) (hen : ∀ args w, (callFunc f args).run Tryz.prog w = .ok (.enter f args) w)
    (hp : ∀ i, i < s.n → ∀ W, Gr w W → Calls Tryz.prog f (#[(s.D i).val] ++ cap) W fun e w' => e = .returned (.bool (p i)) ∧ Gr W w') :
    Calls Tryz.prog 23 #[.slice s.A s.n s.c, .func (.func f) #[] cap] w fun e w' => e = .returned (.bool (Ba.any p s.n)) ∧ Gr w w' := by
  have HI := Lib.hid (idx_msg f cap s p w h hen hp)
  have HG := Lib.hid (Ba.fstI_ge p s.n)
  clear hp h
  generalize Ba.fstI p s.n = r at *
  generalize Ba.any p s.n = q at *
  generalize s.A = A at *
  generalize s.n = n at *
  generalize s.c = c at *
  go_enter Tryz.func23, Tryz.ntmps23
  go_wp2_with fail
  refine HI.out.mono ?_
  rintro e w1 ⟨rfl, hb1⟩
  go_wp2
  go_ret
  exact ⟨ret_bool HG.out, hb1⟩
set_option maxRecDepth 100000 in
set_option maxHeartbeats 4000000 in
theorem idx_alm (f : FuncId) (cap : Array Value) (s : Al.SlA) (p : Nat → Bool) (w : World) (h : s.At w) (hen : ∀ args w, (callFunc f args).run Tryz.prog w = .ok (.enter f args) w)
    (hp : ∀ i, i < s.n → ∀ W, Gr w W → Calls Tryz.prog f (#[(s.D i).val] ++ cap) W fun e w' => e = .returned (.bool (p i)) ∧ Gr W w') :
    Calls Tryz.prog 67 #[.slice s.A s.n s.c, .func (.func f) #[] cap] w fun e w' => e = .returned (.int .i64 (Ba.fstI p s.n)) ∧ Gr w w' := by
  have HA := Lib.hid h.hA; have HX := Lib.hid h.hD; have HP := Lib.hid hp
  have hn : s.n ≤ 9223372036854775807 := Nat.le_trans h.hc h.hb
  clear h hp
  obtain ⟨A, hAe⟩ : ∃ A, s.A = A := ⟨_, rfl⟩
  obtain ⟨n, hne⟩ : ∃ n, s.n = n := ⟨_, rfl⟩
  obtain ⟨b, hbe⟩ : ∃ b, s.b = b := ⟨_, rfl⟩
  obtain ⟨o, hoe⟩ : ∃ o, s.o = o := ⟨_, rfl⟩
  rw [hAe, hne, hbe, hoe] at HA
  rw [hne, hbe, hoe] at HX
  rw [hne] at HP hn
  rw [hAe, hne]
  clear hAe hne hbe hoe
  go_enter Tryz.func67, Tryz.ntmps67
  go_wp2_with fail
  go_loopw [8] (fun s8 wr => ∃ i : Nat, i ≤ n ∧ s8 = .int .i64 (i : Int) ∧ Gr w wr ∧ Hid (Ba.fst p i = none)) (fun s8 _ => n - (intOf s8).toNat)
  case atStart => exact ⟨0, Nat.zero_le _, rfl, Gr.refl _, rfl⟩
  case round =>
    obtain ⟨i, hi, rfl, hg, hf⟩ := hrel
    by_cases hlt : i < n
    · obtain rfl := HA.out (by omega)
      have HC := Lib.hid (HP.out i hlt)
      obtain ⟨a0, a1, a2, a3⟩ := (HX.out i hlt).1.gr hg
      unfold Al.A.val at HC
      generalize s.D i = d at *
      cases hpi : p i
      · rw [hpi] at HC
        have HF := Lib.hid (Ba.fst_miss hf.out hpi)
        clear hpi hi
        go_wp2_with fail
        refine (HC.out _ gr_auto).mono ?_
        rintro e w1 ⟨rfl, hb1⟩
        go_wp2_with fail
        go_roundw
        case rel => exact ⟨i + 1, by omega, by go_num, gr_auto, HF⟩
        case measure => simp [intOf]; omega
      · rw [hpi] at HC
        have HF := Lib.hid (Ba.fstI_hit hf.out hpi hlt)
        clear hpi hi
        go_wp2_with fail
        refine (HC.out _ gr_auto).mono ?_
        rintro e w1 ⟨rfl, hb1⟩
        go_wp2_with fail
        go_ret
        exact ⟨ret_int HF.out.symm, gr_auto⟩
    · obtain rfl : i = n := by omega
      have HF := Lib.hid (Ba.fstI_none hf.out)
      go_wp2_with fail
      go_ret
      exact ⟨ret_int HF.out.symm, hg⟩
set_option maxRecDepth 100000 in
set_option maxHeartbeats 4000000 in
theorem has_alm (f : FuncId) (cap : Array Value) (s : Al.SlA) (p : Nat → Bool) (w : World) (h : s.At w) (hen : ∀ args w, (callFunc f args).run Tryz.prog w = .ok (.enter f args) w)
    (hp : ∀ i, i < s.n → ∀ W, Gr w W → Calls Tryz.prog f (#[(s.D i).val] ++ cap) W fun e w' => e = .returned (.bool (p i)) ∧ Gr W w') :
    Calls Tryz.prog 32 #[.slice s.A s.n s.c, .func (.func f) #[] cap] w fun e w' => e = .returned (.bool (Ba.any p s.n)) ∧ Gr w w' := by
  have HI := Lib.hid (idx_alm f cap s p w h hen hp)
  have HG := Lib.hid (Ba.fstI_ge p s.n)
  clear hp h
  generalize Ba.fstI p s.n = r at *
  generalize Ba.any p s.n = q at *
  generalize s.A = A at *
  generalize s.n = n at *
  generalize s.c = c at *
  go_enter Tryz.func32, Tryz.ntmps32
  go_wp2_with fail
  refine HI.out.mono ?_
  rintro e w1 ⟨rfl, hb1⟩
  go_wp2
  go_ret
  exact ⟨ret_bool HG.out, hb1⟩
set_option maxRecDepth 100000 in
set_option maxHeartbeats 4000000 in
theorem fewf_any (m : Al.M) (w : World) (hm : m.nd.size ≤ 9223372036854775807) : Calls Tryz.prog 24 #[m.val] w fun e w' => e = .returned (.bool (decide (50 < m.nd.size))) ∧ Gr w w' := by
  unfold Al.M.val
  cases m with | mk nd nu tm ar lv =>
  simp only [] at *
  go_enter Tryz.func24, Tryz.ntmps24
  go_wp2_with fail
  go_ret
  exact ⟨ret_bool (decide_eq_decide.2 (by omega)), gr_auto⟩
def Al.lngB (s : Al.SlM) : Bool := Ba.any (fun i => decide (50 < (s.D i).nd.size)) s.n
theorem fewh_any (s : Al.SlM) (w : World) (h : s.At w) : Calls Tryz.prog 23 #[.slice s.A s.n s.c, .func (.func 24) #[] #[]] w fun e w' => e = .returned (.bool (Al.lngB s)) ∧ Gr w w' :=
  has_msg 24 #[] s _ w h (enter_of Tryz.func24 (by kernel_rfl) (by kernel_rfl)) fun i hi W _ => fewf_any (s.D i) W (h.hD i hi).2.nd
def Al.fewB (x y z : Nat) (q : Bool) : Bool := decide (x ≤ 12) && (decide (y ≤ 16) && (decide (z ≤ 40) && !q))
set_option maxRecDepth 100000 in
set_option maxHeartbeats 4000000 in
theorem few_any (N : Ba.SlNode) (L : Ba.SlLink) (s : Al.SlM) (w : World) (hN : N.At w) (hL : L.At w) (h : s.At w) : Calls Tryz.prog 6 #[Ba.netVal N L, .slice s.A s.n s.c] w fun e w' => e = .returned (.bool (Al.fewB N.n L.n s.n (Al.lngB s))) ∧ Gr w w' := by
  have HF := Lib.hid (fun W (hW : Gr w W) => fewh_any s W (h.gr hW))
  have hnc := hN.hc; have hnb := hN.hb; have hlc := hL.hc; have hlb := hL.hb; have hsc := h.hc; have hsb := h.hb
  clear hN hL h
  unfold Ba.netVal Al.fewB
  generalize Al.lngB s = q at *
  generalize N.A = nA at *; generalize N.n = nn at *; generalize N.c = nc at *; generalize L.A = lA at *; generalize L.n = ln at *; generalize L.c = lc at *; generalize s.A = sA at *; generalize s.n = sn at *; generalize s.c = sc at *
  by_cases t0 : nn ≤ 12
  · by_cases t1 : ln ≤ 16
    · by_cases t2 : sn ≤ 40
      · rw [decide_eq_true t0, decide_eq_true t1, decide_eq_true t2]
        go_enter Tryz.func6, Tryz.ntmps6
        go_wp2_with fail
        refine (HF.out _ gr_auto).mono ?_
        rintro e w1 ⟨rfl, hb1⟩
        have g1 : Gr w w1 := gr_auto
        clear hb1
        cases q
        · go_wp2_with fail
          go_ret
          exact ⟨rfl, g1⟩
        · go_wp2_with fail
          go_ret
          exact ⟨rfl, g1⟩
      · rw [decide_eq_true t0, decide_eq_true t1, decide_eq_false t2]
        clear HF
        go_enter Tryz.func6, Tryz.ntmps6
        go_wp2_with fail
        go_ret
        exact ⟨rfl, gr_auto⟩
    · rw [decide_eq_true t0, decide_eq_false t1]
      clear HF
      go_enter Tryz.func6, Tryz.ntmps6
      go_wp2_with fail
      go_ret
      exact ⟨rfl, gr_auto⟩
  · rw [decide_eq_false t0]
    clear HF
    go_enter Tryz.func6, Tryz.ntmps6
    go_wp2_with fail
    go_ret
    exact ⟨rfl, gr_auto⟩
end Go.Proofs.YtllkiadedaghoaaGreatDoor
set_option linter.unusedVariables false
set_option linter.unusedSimpArgs false
namespace Go.Proofs.YtllkiadedaghoaaGreatDoor
open Go.RowKit Go.Shelf Go.Sort
attribute [local go_sem ↓] Go.wp_at_zero Go.wp_at_succ
namespace Al
def mN : ByteArray := ⟨#[109]⟩
def exT (b : Nat) : Ba.SlK := ⟨some ⟨b, 0, none⟩, 2, 2, b, 0, fun i => if i = 0 then 0 else 1000, fun i => if i = 0 then 0 else 1000⟩
def exD (b : Nat) : Ba.Node := ⟨mN, 1, 0, 0, 0, 1000, exT b, false, 0⟩
def exN (a b : Nat) : Ba.SlNode := ⟨some ⟨a, 0, none⟩, 1, 1, a, 0, fun _ => exD b⟩
def exLk : Ba.Link := ⟨⟨#[]⟩, ⟨#[]⟩, ⟨#[]⟩, 0, 0, 0, 0, ⟨#[]⟩, 0, 0, ⟨none, 0, 0, 0, 0, fun _ => 0, fun _ => 0⟩⟩
def exL : Ba.SlLink := ⟨none, 0, 0, 0, 0, fun _ => exLk⟩
def exM (i : Nat) : M := ⟨mN, (i : Int) + 1, 10 * ((i : Int) + 1), 10 * ((i : Int) + 1), if i = 3 then 1200 else 500⟩
def exMs : List M := (List.range 4).map exM
def exA : List C := [⟨4, mN, 30, [1, 2, 3]⟩, ⟨2, mN, 40, [4]⟩, ⟨3, mN, 40, [3, 4]⟩]
theorem exL_at (w : World) : exL.At w := ⟨fun h => absurd h (Nat.lt_irrefl _), Nat.le_refl _, Nat.zero_le _, fun i hi => absurd hi (Nat.not_lt_zero _)⟩
theorem ex_netB (a b : Nat) : Ba.netB (exN a b) exL = true := by kernel_rfl
theorem ex_dist : Dist exMs := by
  show List.Pairwise _ [exM 0, exM 1, exM 2, exM 3]
  simp only [List.pairwise_cons, List.mem_cons, List.not_mem_nil, or_false, forall_eq_or_imp, forall_eq, false_imp_iff, implies_true, List.Pairwise.nil, and_true]
  refine ⟨⟨fun h => ?_, fun h => ?_, fun h => ?_⟩, ⟨fun h => ?_, fun h => ?_⟩, fun h => ?_⟩ <;> exact absurd (kM_inj h).2 (by decide)
theorem ex_srt : srtM exMs = exMs := by
  refine (srtM_of ex_dist (List.Perm.refl _) ?_).symm
  show List.Pairwise _ [exM 0, exM 1, exM 2, exM 3]
  simp only [List.pairwise_cons, List.mem_cons, List.not_mem_nil, or_false, forall_eq_or_imp, forall_eq, false_imp_iff, implies_true, List.Pairwise.nil, and_true]
  refine ⟨⟨?_, ?_, ?_⟩, ⟨?_, ?_⟩, ?_⟩ <;> exact of_decide_eq_true (by kernel_rfl)
theorem ex_nds : nds exMs = [mN] := by kernel_rfl
theorem ex_of : ofN exMs mN = exMs := by
  unfold ofN; rw [ex_srt]; kernel_rfl
theorem ex_jmp : jmpC 300 exMs = [⟨3, mN, 40, [3, 4]⟩] := by
  unfold jmpC; rw [ex_nds, List.flatMap_cons, List.flatMap_nil, List.append_nil, ex_of]; kernel_rfl
theorem ex_run : runC 3 exMs = [⟨4, mN, 30, [1, 2, 3]⟩] := by
  unfold runC; rw [ex_nds, List.flatMap_cons, List.flatMap_nil, List.append_nil, ex_of]
  show run 3 [exM 0, exM 1, exM 2, exM 3] = _
  rw [run, show [exM 1, exM 2, exM 3].takeWhile (fun m => m.lv == (exM 0).lv) = [exM 1, exM 2] by kernel_rfl, show [exM 1, exM 2, exM 3].dropWhile (fun m => m.lv == (exM 0).lv) = [exM 3] by kernel_rfl, run]
  rw [show ([] : List M).dropWhile (fun m => m.lv == (exM 3).lv) = [] by kernel_rfl, run]
  kernel_rfl
theorem ex_lim (a b : Nat) : limC (exN a b) exMs = [⟨2, mN, 40, [4]⟩] := by kernel_rfl
theorem ex_all (a b : Nat) : allC (exN a b) exMs 300 3 = exA := by
  unfold allC
  rw [ex_lim, ex_jmp, ex_run]
  refine (srt_of ?_ ?_).symm
  · exact List.perm_append_comm (l₁ := [_, _]) (l₂ := [_])
  · show List.Pairwise _ [_, _, _]
    simp only [List.pairwise_cons, List.mem_cons, List.not_mem_nil, or_false, forall_eq_or_imp, forall_eq, false_imp_iff, implies_true, List.Pairwise.nil, and_true]
    refine ⟨⟨?_, ?_⟩, ?_⟩ <;> exact of_decide_eq_true (by kernel_rfl)
end Al
end Go.Proofs.YtllkiadedaghoaaGreatDoor
