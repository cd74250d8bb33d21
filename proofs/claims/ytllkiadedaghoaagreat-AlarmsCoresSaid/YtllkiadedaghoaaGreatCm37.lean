/-
  Alarms: the reference's All. Typed.
  Alarms: Cleared. (Printed by mkamb.py.)
-/
import Derived.Test.YtllkiadedaghoaaGreatCm35
import Derived.Test.YtllkiadedaghoaaGreatCm36
import Derived.Test.YtllkiadedaghoaaGreatCm28
import Derived.Test.YtllkiadedaghoaaGreatCm12

set_option linter.unusedVariables false
set_option linter.unusedSimpArgs false
namespace Go.Proofs.YtllkiadedaghoaaGreat
open Go.RowKit Go.Sort Go.Shelf
attribute [local go_sem ↓] Go.wp_at_zero Go.wp_at_succ
/-- Alarms put behind alarms, whatever they are. -/
theorem wpList_append_A (w : World) {ops : Array Oper} {rest : List Oper} {o : Oper} {a : Act} {Q : Exit → Act → World → Prop} (hgd : o.guard = none) (s x : Operand)
    (ho : o.op = .call { callee := .builtin .append, args := #[s, x], argTypes := #[29, 29] })
    (base : Nat) (v : Value) (d : List Al.A) (hs : a.eval s = v) (hown : Al.OwnA w base v d) (b2 : Nat) (v2 : Value) (d2 : List Al.A) (hx : a.eval x = v2) (h2 : Al.OwnA w b2 v2 d2)
    (hl : d.length + d2.length ≤ 200000) (hbase : base ≤ w.heap.size)
    (h : ∀ v' w', Al.OwnA w' base v' (d ++ d2) → (∀ W0, Gr W0 w → W0.heap.size ≤ base → Gr W0 w') → wpList Tryz.prog ops Q rest (a.put o.dst v') w') : wpList Tryz.prog ops Q (o :: rest) a w := by
  obtain ⟨i1, k0, k1, k2, k3⟩ := info_parts infoA
  rcases h2.open with ⟨hv, hd⟩ | ⟨g, cap, cur, hv, -, -, hn, hm, -⟩
  · refine wpList_append_own_none hgd s x 29 ho base 35 i1 4 Tryz.underlying29 k0 v _ _ hs hown.row (hx.trans hv) ?_
    refine h v w ?_ fun W0 h0 _ => h0
    rw [hd, List.append_nil]; exact hown
  · have hsr : w.ownsRow b2 35 4 (.slice (some ⟨g, 0, none⟩) d2.length cap) d2.length (d2.flatMap Al.A.enc) := by rw [← hv]; exact h2.row
    refine wpList_append_own _ hgd s x 29 ho base 35 i1 (.agg #[.int .i64 0, .string ⟨#[]⟩, .int .i64 0, .slice none 0 0]) 4 56 Tryz.underlying29 k0 k1 k2 k3 rfl (by decide) v _ _ hs hown.row ⟨g, 0, none⟩ d2.length cap (d2.flatMap Al.A.enc) (hx.trans hv) (Al.enc_len _) (fun j u hj => ?_) (Al.enc_one _) (by unfold maxLen; omega) (by omega) hbase ?_
    · have hlt2 : j < (d2.flatMap Al.A.enc).length := (List.getElem?_eq_some_iff.1 hj).1
      have := hsr.cellAt j (by rw [← Al.enc_len]; exact hlt2)
      rw [hj] at this
      have e : ((⟨g, 0, none⟩ : Addr).add j) = ⟨g, j, none⟩ := by
        unfold Addr.add
        split
        · rename_i h; rw [h]
        · simp
      rw [e]; exact this
    · intro v' w' hr hg _
      exact h v' w' (hown.cat h2.own hr hg) fun W0 h0 hb => Gr.own h0 hb hown.row hg
theorem Al.OwnA.empty {w : World} {base g : Nat} (h : w.heap[g]? = some (.cells #[] 35 (0, 0))) (hb : base ≤ g) : Al.OwnA w base (.slice (some ⟨g, 0, none⟩) 0 0) [] := ⟨own_empty h hb, fun a ha => by simp at ha⟩
set_option maxRecDepth 100000 in
set_option maxHeartbeats 4000000 in
theorem rall_any (N : Ba.SlNode) (L : Ba.SlLink) (s : Al.SlM) (jp sm tl : Int) (w : World) (hN : N.At w) (hL : L.At w) (h : s.At w) (hsv : Al.vL s.lst) (hj : 0 ≤ jp ∧ jp ≤ 8388608) (hsm : 2 ≤ sm ∧ sm ≤ 10000) :
    Calls Tryz.prog 23 #[Ba.netVal N L, .slice s.A s.n s.c, .agg #[.int .i64 jp, .int .i64 sm, .int .i64 tl]] w (Al.RetAl (Al.allC N s.lst jp sm) w) := by
  have hsn : s.n ≤ 10000 := by have := hsv.1; rw [Al.SlM.lst_len] at this; exact this
  have HLi := Lib.hid (fun W (hW : Gr w W) => rlimits_any N L s W (hN.gr hW) (hL.gr hW) (h.gr hW) hsn)
  have HJu := Lib.hid (fun W (hW : Gr w W) => rjumps_any s jp W (h.gr hW) hsv hj)
  have HSt := Lib.hid (fun W (hW : Gr w W) => rruns_any s sm W (h.gr hW) hsv hsm)
  have hl1 : (Al.limC N s.lst).length ≤ 10000 := Nat.le_trans (Al.limC_len N s.lst) (by rw [Al.SlM.lst_len]; exact hsn)
  have hl2 : (Al.jmpC jp s.lst).length ≤ 10000 := Nat.le_trans (Al.jmpC_len jp) (by rw [Al.SlM.lst_len]; exact hsn)
  have hl3 : (Al.runC sm s.lst).length ≤ 10000 := Nat.le_trans (Al.runC_len sm) (by rw [Al.SlM.lst_len]; exact hsn)
  have HLI := Lib.hid (fun (d : List Al.A) (hd : d.map Al.A.con = Al.srt (Al.limC N s.lst)) => show d.length ≤ 10000 from by
    have := congrArg List.length hd; rw [List.length_map, (Al.srt_perm _).length_eq] at this; omega)
  have HJU := Lib.hid (fun (d : List Al.A) (hd : d.map Al.A.con = Al.srt (Al.jmpC jp s.lst)) => show d.length ≤ 10000 from by
    have := congrArg List.length hd; rw [List.length_map, (Al.srt_perm _).length_eq] at this; omega)
  have HST := Lib.hid (fun (d : List Al.A) (hd : d.map Al.A.con = Al.srt (Al.runC sm s.lst)) => show d.length ≤ 10000 from by
    have := congrArg List.length hd; rw [List.length_map, (Al.srt_perm _).length_eq] at this; omega)
  clear hN hL h hsv hj hsm hsn hl1 hl2 hl3
  unfold Ba.netVal at *
  unfold Al.allC
  generalize Al.limC N s.lst = X1 at *; generalize Al.jmpC jp s.lst = X2 at *; generalize Al.runC sm s.lst = X3 at *
  generalize N.A = nA at *; generalize N.n = nn at *; generalize N.c = nc at *; generalize L.A = lA at *; generalize L.n = ln at *; generalize L.c = lc at *; generalize s.A = sA at *; generalize s.n = sn at *; generalize s.c = sc at *
  go_enter Tryz.func23, Tryz.ntmps23
  go_upto_region 1 with fail
  refine name_world ?_
  intro WK hWK
  have gK : Gr w WK := by rw [hWK]; exact gr_auto
  have p0 : WK.cell? ⟨w.heap.size, 0, none⟩ = some (.slice nA nn nc) := by rw [hWK]; simp [go_sem]
  have p1 : WK.cell? ⟨w.heap.size, 1, none⟩ = some (.slice lA ln lc) := by rw [hWK]; simp [go_sem]
  have q0 : WK.cell? ⟨w.heap.size + 1, 0, none⟩ = some (.int .i64 jp) := by rw [hWK]; simp [go_sem]
  have q1 : WK.cell? ⟨w.heap.size + 1, 1, none⟩ = some (.int .i64 sm) := by rw [hWK]; simp [go_sem]
  clear hWK
  have z0 : w.heap.size < WK.heap.size := World.block_lt_of_cell? _ _ p0
  have z1 : w.heap.size + 1 < WK.heap.size := World.block_lt_of_cell? _ _ q0
  go_wp2_with fail
  refine (HLi.out _ (gK.trans (by exact gr_auto))).mono ?_
  rintro e w3 ⟨v3, d3, rfl, ho3, hp3, hb3⟩
  have hE3 : Al.OwnA w3 WK.heap.size (.slice (some ⟨WK.heap.size, 0, none⟩) 0 0) [] := (Al.OwnA.empty (World.alloc_heap_new WK _) (Nat.le_refl _)).gr hb3
  have g3 : Gr WK w3 := Gr.trans (show Gr WK _ from by exact gr_auto) hb3
  have hl3 := HLI.out _ hp3
  have HP3 := Lib.hid hp3
  clear hp3 hb3
  go_wp2_with (at_builtin; refine wpList_append_A _ rfl _ _ rfl WK.heap.size _ [] rfl (by exact hE3) _ _ _ rfl (by exact ho3) (by simp; omega) (Gr.size g3) ?_)
  intro v1 w4 ho4 hk4
  have g4 := hk4 WK g3 (Nat.le_refl _)
  have q40 := Gr.at g4 q0; have q41 := Gr.at g4 q1
  clear hk4 ho3 hE3
  go_wp2_with fail
  refine (HJu.out _ (gK.trans g4)).mono ?_
  rintro e w5 ⟨v5, d5, rfl, ho5, hp5, hb5⟩
  have g5 : Gr WK w5 := g4.trans hb5
  have hl5 := HJU.out _ hp5
  have HP5 := Lib.hid hp5
  have ho4' := ho4.gr hb5
  clear hp5 hb5 ho4
  go_wp2_with (at_builtin; refine wpList_append_A _ rfl _ _ rfl WK.heap.size _ d3 rfl (by exact ho4') _ _ _ rfl (by exact ho5) (by omega) (Gr.size g5) ?_)
  intro v6 w6 ho6 hk6
  have g6 := hk6 WK g5 (Nat.le_refl _)
  have q60 := Gr.at g6 q0; have q61 := Gr.at g6 q1
  clear hk6 ho5 ho4' q40 q41
  go_wp2_with fail
  refine (HSt.out _ (gK.trans g6)).mono ?_
  rintro e w7 ⟨v7, d7, rfl, ho7, hp7, hb7⟩
  have g7 : Gr WK w7 := g6.trans hb7
  have hl7 := HST.out _ hp7
  have HP7 := Lib.hid hp7
  have ho6' := ho6.gr hb7
  clear hp7 hb7 ho6
  go_wp2_with (at_builtin; refine wpList_append_A _ rfl _ _ rfl WK.heap.size _ (d3 ++ d5) rfl (by exact ho6') _ _ _ rfl (by exact ho7) (by rw [List.length_append]; omega) (Gr.size g7) ?_)
  intro v8 w8 ho8 hk8
  have g8 := hk8 WK g7 (Nat.le_refl _)
  clear hk8 ho7 ho6' q60 q61
  go_wp2_with fail
  have ho8' : Al.OwnA w8 WK.heap.size v8 (d3 ++ d5 ++ d7) := by first | exact ho8 | (rw [List.append_assoc]; exact ho8)
  refine (rordered_own _ (d3 ++ d5 ++ d7) w8 _ ho8' (by rw [List.length_append, List.length_append]; omega)).mono ?_
  rintro e w9 ⟨v9, d9, rfl, ho9, hp9, hb9⟩
  obtain ⟨r, hr, hr1, hr2⟩ := ho9.sl
  have HR1 := Lib.hid hr1
  have HR2 := Lib.hid (show r.con = Al.srt (X1 ++ (X2 ++ X3)) from by
    rw [hr2, hp9]
    refine Al.srt_congr ?_
    rw [List.map_append, List.map_append, HP3.out, HP5.out, HP7.out, List.append_assoc]
    exact (Al.srt_perm X1).append ((Al.srt_perm X2).append (Al.srt_perm X3)))
  have g9 : Gr w w9 := gK.trans (g8.trans hb9)
  clear hp9 ho9 ho8 ho8' hr1 hr2
  go_wp2_with fail
  go_ret
  exact ⟨r, rfl, HR1.out, HR2.out, g9⟩
end Go.Proofs.YtllkiadedaghoaaGreat
set_option linter.unusedVariables false
set_option linter.unusedSimpArgs false
namespace Go.Proofs.YtllkiadedaghoaaGreat
open Go.RowKit Go.Shelf Go.Sort
attribute [local go_sem ↓] Go.wp_at_zero Go.wp_at_succ
def Al.RetCl (b : Bool) (X : List Al.C) (w : World) (e : Ending) (w' : World) : Prop := if b = true then Al.RetAe [] 10 w e w' else Al.RetAe X 0 w e w'
theorem infoB : (Tryz.prog.info? 4).map (fun i => (i.zero, i.size, i.bytes)) = some (some (.bool false), 1, 1) := by kernel_rfl
set_option maxRecDepth 100000 in
set_option maxHeartbeats 4000000 in
theorem clf_any (x : Int) (A : Option Addr) (n c B : Nat) (w : World) (hc : w.cell? ⟨B, 0, none⟩ = some (.slice A n c)) (hn : n ≤ c) (hb : c ≤ 9223372036854775807) : Calls Tryz.prog 61 #[.int .i64 x, .pointer (some ⟨B, 0, none⟩)] w fun e w' => e = .returned (.bool (decide (x < 0) || decide ((n : Int) ≤ x))) ∧ Gr w w' := by
  cases t0 : decide (x < 0)
  · cases t1 : decide ((n : Int) ≤ x)
    · go_enter Tryz.func61, Tryz.ntmps61
      go_wp2_with fail
      go_ret
      exact ⟨rfl, gr_auto⟩
    · go_enter Tryz.func61, Tryz.ntmps61
      go_wp2_with fail
      go_ret
      exact ⟨rfl, gr_auto⟩
  · go_enter Tryz.func61, Tryz.ntmps61
    go_wp2_with fail
    go_ret
    exact ⟨rfl, gr_auto⟩
theorem clh_any (d : Ba.SlI) (A : Option Addr) (n c B : Nat) (w : World) (hd : d.At w) (hc : w.cell? ⟨B, 0, none⟩ = some (.slice A n c)) (hn : n ≤ c) (hb : c ≤ 9223372036854775807) : Calls Tryz.prog 60 #[.slice d.A d.n d.c, .func (.func 61) #[] #[.pointer (some ⟨B, 0, none⟩)]] w fun e w' => e = .returned (.bool (!Al.rgB d n)) ∧ Gr w w' := by
  have HC := has_int 61 #[.pointer (some ⟨B, 0, none⟩)] d (fun i => decide (d.X i < 0) || decide ((n : Int) ≤ d.X i)) w hd (enter_of Tryz.func61 (by kernel_rfl) (by kernel_rfl)) fun i _ W' hW => clf_any (d.X i) A n c B W' (Gr.at hW hc) hn hb
  unfold Al.rgB
  rw [Bool.not_not]
  exact HC
set_option maxRecDepth 100000 in
set_option maxHeartbeats 4000000 in
theorem Cleared_no (N : Ba.SlNode) (L : Ba.SlLink) (s : Al.SlM) (jp sm tl : Int) (d : Ba.SlI) (w : World) (hN : N.At w) (hL : L.At w) (h : s.At w) (hd : d.At w) (k : Int) (hk : Al.gvE (Ba.netB N L && s.vB) (Al.lmO jp sm tl) = k) (hk0 : k ≠ 0) :
    Calls Tryz.prog 19 #[Ba.netVal N L, .slice s.A s.n s.c, .agg #[.int .i64 jp, .int .i64 sm, .int .i64 tl], .slice d.A d.n d.c] w (Al.RetAe [] k w) := by
  have HR := Lib.hid (fun W (hW : Gr w W) => given_any N L s jp sm tl W (hN.gr hW) (hL.gr hW) (h.gr hW))
  rw [hk] at HR
  have hb0 : (k != 0) = true := bne_iff_ne.2 hk0
  clear hN hL h hd hk hk0
  unfold Ba.netVal at *
  generalize N.A = nA at *; generalize N.n = nn at *; generalize N.c = nc at *; generalize L.A = lA at *; generalize L.n = ln at *; generalize L.c = lc at *
  generalize s.A = sA at *; generalize s.n = sn at *; generalize s.c = sc at *
  generalize d.A = dA at *; generalize d.n = dn at *; generalize d.c = dc at *
  go_enter Tryz.func19, Tryz.ntmps19
  go_wp2_with fail
  refine (HR.out _ gr_auto).mono ?_
  rintro e w1 ⟨rfl, hb1⟩
  have g1 : Gr w w1 := gr_auto
  clear hb1
  go_wp2_with fail
  go_ret2
  exact ⟨Al.SlA.nil, rfl, Al.SlA.nil_at _, by simp [Al.SlA.con, Al.SlA.nil], g1⟩
set_option maxRecDepth 100000 in
set_option maxHeartbeats 4000000 in
theorem Cleared_range (N : Ba.SlNode) (L : Ba.SlLink) (s : Al.SlM) (jp sm tl : Int) (d : Ba.SlI) (w : World) (hN : N.At w) (hL : L.At w) (h : s.At w) (hd : d.At w) (hk : Al.gvE (Ba.netB N L && s.vB) (Al.lmO jp sm tl) = 0) (hr : Al.rgB d s.n = false) :
    Calls Tryz.prog 19 #[Ba.netVal N L, .slice s.A s.n s.c, .agg #[.int .i64 jp, .int .i64 sm, .int .i64 tl], .slice d.A d.n d.c] w (Al.RetAe [] 2 w) := by
  have hok : (Ba.netB N L && s.vB) = true ∧ Al.lmO jp sm tl = true := by
    unfold Al.gvE at hk
    split at hk
    · rename_i q
      split at hk
      · rename_i r; exact ⟨q, r⟩
      · exact absurd hk (by decide)
    · exact absurd hk (by decide)
  have hok1 := hok.1
  rw [Bool.and_eq_true] at hok1
  have hsn := Al.vB_len hok1.2
  have HR := Lib.hid (fun W (hW : Gr w W) => given_any N L s jp sm tl W (hN.gr hW) (hL.gr hW) (h.gr hW))
  rw [hk] at HR
  have hsc := h.hc; have hsb := h.hb
  have HD := Lib.hid (fun B W (hW : Gr w W) (hc : W.cell? ⟨B, 0, none⟩ = some (.slice s.A s.n s.c)) => clh_any d s.A s.n s.c B W (hd.gr hW) hc hsc hsb)
  rw [hr] at HD
  clear hN hL h hd hk hok hok1 hr
  unfold Ba.netVal at *
  generalize N.A = nA at *; generalize N.n = nn at *; generalize N.c = nc at *; generalize L.A = lA at *; generalize L.n = ln at *; generalize L.c = lc at *
  generalize s.A = sA at *; generalize s.n = sn at *; generalize s.c = sc at *
  generalize d.A = dA at *; generalize d.n = dn at *; generalize d.c = dc at *
  go_enter Tryz.func19, Tryz.ntmps19
  go_wp2_with fail
  refine (HR.out _ gr_auto).mono ?_
  rintro e w1 ⟨rfl, hb1⟩
  have g1 : Gr w w1 := gr_auto
  have q0 := Gr.at (show Gr _ w1 from hb1) (show World.cell? _ ⟨w.heap.size, 0, none⟩ = some (.slice nA nn nc) from by simp [go_sem])
  have q1 := Gr.at (show Gr _ w1 from hb1) (show World.cell? _ ⟨w.heap.size, 1, none⟩ = some (.slice lA ln lc) from by simp [go_sem])
  have q2 := Gr.at (show Gr _ w1 from hb1) (show World.cell? _ ⟨w.heap.size + 1, 0, none⟩ = some (.slice sA sn sc) from by simp [go_sem])
  have q3 := Gr.at (show Gr _ w1 from hb1) (show World.cell? _ ⟨w.heap.size + 1 + 1, 0, none⟩ = some (.int .i64 jp) from by simp [go_sem])
  have q4 := Gr.at (show Gr _ w1 from hb1) (show World.cell? _ ⟨w.heap.size + 1 + 1, 1, none⟩ = some (.int .i64 sm) from by simp [go_sem])
  have q5 := Gr.at (show Gr _ w1 from hb1) (show World.cell? _ ⟨w.heap.size + 1 + 1, 2, none⟩ = some (.int .i64 tl) from by simp [go_sem])
  clear hb1 HR
  go_wp2_with fail
  refine (HD.out _ _ g1 q2).mono ?_
  rintro e w2 ⟨rfl, hb2⟩
  have g2 := g1.trans hb2
  replace q0 := Gr.at hb2 q0; replace q1 := Gr.at hb2 q1; replace q2 := Gr.at hb2 q2; replace q3 := Gr.at hb2 q3; replace q4 := Gr.at hb2 q4; replace q5 := Gr.at hb2 q5
  clear HD hb2 g1
  go_wp2_with fail
  go_ret2
  exact ⟨Al.SlA.nil, rfl, Al.SlA.nil_at _, by simp [Al.SlA.con, Al.SlA.nil], g2⟩
set_option maxRecDepth 100000 in
set_option maxHeartbeats 4000000 in
theorem Cleared_at (N : Ba.SlNode) (L : Ba.SlLink) (s : Al.SlM) (jp sm tl : Int) (d : Ba.SlI) (w : World) (hN : N.At w) (hL : L.At w) (h : s.At w) (hd : d.At w) (hk : Al.gvE (Ba.netB N L && s.vB) (Al.lmO jp sm tl) = 0) (hr : Al.rgB d s.n = true) :
    Calls Tryz.prog 19 #[Ba.netVal N L, .slice s.A s.n s.c, .agg #[.int .i64 jp, .int .i64 sm, .int .i64 tl], .slice d.A d.n d.c] w (Al.RetCl (Al.dupB d.X d.n) (Al.allC N (s.left d) jp sm) w) := by
  have hok : (Ba.netB N L && s.vB) = true ∧ Al.lmO jp sm tl = true := by
    unfold Al.gvE at hk
    split at hk
    · rename_i q
      split at hk
      · rename_i r; exact ⟨q, r⟩
      · exact absurd hk (by decide)
    · exact absurd hk (by decide)
  have hok1 := hok.1
  rw [Bool.and_eq_true] at hok1
  have hsn := Al.vB_len hok1.2
  have HR := Lib.hid (fun W (hW : Gr w W) => given_any N L s jp sm tl W (hN.gr hW) (hL.gr hW) (h.gr hW))
  rw [hk] at HR
  have hsc := h.hc; have hsb := h.hb
  have HD := Lib.hid (fun B W (hW : Gr w W) (hc : W.cell? ⟨B, 0, none⟩ = some (.slice s.A s.n s.c)) => clh_any d s.A s.n s.c B W (hd.gr hW) hc hsc hsb)
  rw [hr] at HD
  have HAll := Lib.hid (fun (s' : Al.SlM) W (hW : Gr w W) (hs : s'.At W) (hl : s'.lst = s.left d) => show Calls Tryz.prog 59 #[Ba.netVal N L, .slice s'.A s'.n s'.c, .agg #[.int .i64 jp, .int .i64 sm, .int .i64 tl]] W (Al.RetAl (Al.allC N (s.left d) jp sm) W) from hl ▸ all_any N L s' jp sm tl W (hN.gr hW) (hL.gr hW) hs hok1.1 ((Al.vB_iff s').2 (hl ▸ ((Al.vB_iff s).1 hok1.2).sub (Al.left_sub s d))) (by have := hok.2; unfold Al.lmO at this; rw [Bool.and_eq_true] at this; exact Al.jmO_iff.1 this.1) (by have := hok.2; unfold Al.lmO at this; rw [Bool.and_eq_true, Bool.and_eq_true] at this; exact Al.stO_iff.1 this.2.1))
  have HLe := Lib.hid (show s.left d = Al.leftL s.D (Al.gonB d.X d.n) s.n from rfl)
  have HRg := Lib.hid (fun i (hi : i < d.n) => Al.rg_at hr hi)
  have HA := Lib.hid h.hA; have HX := Lib.hid h.hD
  have DA := Lib.hid hd.hA; have DX := Lib.hid hd.hX
  have hdc := hd.hc; have hdb := hd.hb
  have HDup := Lib.hid (fun k (hk : k < d.n) (h : Al.dupB d.X (k + 1) = true) => Al.dupB_stop h hk)
  clear hN hL h hd hk hok hok1 hr
  unfold Ba.netVal at *
  generalize s.left d = LF at *
  generalize Al.allC N LF jp sm = RES at *
  generalize N.A = nA at *; generalize N.n = nn at *; generalize N.c = nc at *; generalize L.A = lA at *; generalize L.n = ln at *; generalize L.c = lc at *
  cases s with | mk sA sn sc sb so D =>
  cases d with | mk dA dn dc db do_ X =>
  simp only [] at *
  obtain ⟨i0, k0, k1, k2, k3⟩ := info_parts infoB
  have BI := Lib.hid k0; have BZ0 := Lib.hid k1; have BZ1 := Lib.hid k2; have BZ2 := Lib.hid k3
  clear k0 k1 k2 k3
  obtain ⟨i1, k0, k1, k2, k3⟩ := info_parts infoM
  have KI := Lib.hid k0; have KZ0 := Lib.hid k1; have KZ1 := Lib.hid k2; have KZ2 := Lib.hid k3
  clear k0 k1 k2 k3
  go_enter Tryz.func19, Tryz.ntmps19
  go_wp2_with fail
  refine (HR.out _ gr_auto).mono ?_
  rintro e w1 ⟨rfl, hb1⟩
  have g1 : Gr w w1 := gr_auto
  have q0 := Gr.at (show Gr _ w1 from hb1) (show World.cell? _ ⟨w.heap.size, 0, none⟩ = some (.slice nA nn nc) from by simp [go_sem])
  have q1 := Gr.at (show Gr _ w1 from hb1) (show World.cell? _ ⟨w.heap.size, 1, none⟩ = some (.slice lA ln lc) from by simp [go_sem])
  have q2 := Gr.at (show Gr _ w1 from hb1) (show World.cell? _ ⟨w.heap.size + 1, 0, none⟩ = some (.slice sA sn sc) from by simp [go_sem])
  have q3 := Gr.at (show Gr _ w1 from hb1) (show World.cell? _ ⟨w.heap.size + 1 + 1, 0, none⟩ = some (.int .i64 jp) from by simp [go_sem])
  have q4 := Gr.at (show Gr _ w1 from hb1) (show World.cell? _ ⟨w.heap.size + 1 + 1, 1, none⟩ = some (.int .i64 sm) from by simp [go_sem])
  have q5 := Gr.at (show Gr _ w1 from hb1) (show World.cell? _ ⟨w.heap.size + 1 + 1, 2, none⟩ = some (.int .i64 tl) from by simp [go_sem])
  clear hb1 HR
  go_wp2_with fail
  refine (HD.out _ _ g1 q2).mono ?_
  rintro e w2 ⟨rfl, hb2⟩
  have g2 := g1.trans hb2
  replace q0 := Gr.at hb2 q0; replace q1 := Gr.at hb2 q1; replace q2 := Gr.at hb2 q2; replace q3 := Gr.at hb2 q3; replace q4 := Gr.at hb2 q4; replace q5 := Gr.at hb2 q5
  clear HD hb2 g1
  go_wp2_with (at_make; refine wpList_make_full _ rfl _ _ _ rfl w.heap.size 4 i0 (.bool false) 1 Tryz.underlying89 BI.out BZ0.out BZ1.out .i64 .i64 sn sn sn rfl rfl rfl rfl ?d1 ?d2 ?d3 ?_)
  case d1 => rw [BZ2.out]; omega
  case d2 => unfold maxLen; omega
  case d3 => exact Gr.size g2
  intro w3 hown hgrow
  obtain ⟨R, hR⟩ : ∃ R, R = w2.heap.size := ⟨_, rfl⟩
  have hR0 := Gr.size g2
  rw [← hR] at hown hR0
  have hrow := Lib.hid (made_row hown)
  have G2 := Gr.own (Gr.refl _) (Nat.le_refl _) (n := 0) (e := 4) (size := 1) (xs := []) (v := .slice none 0 0) ⟨rfl, Or.inl ⟨rfl, rfl⟩⟩ hgrow
  have g3 := g2.trans G2
  have b1 : w.heap.size + 1 + 1 < R := by rw [hR]; exact World.block_lt_of_cell? _ _ q3
  replace q0 := Gr.at G2 q0; replace q1 := Gr.at G2 q1; replace q2 := Gr.at G2 q2; replace q3 := Gr.at G2 q3; replace q4 := Gr.at G2 q4; replace q5 := Gr.at G2 q5
  clear hown hgrow G2
  rw [← hR]
  clear hR g2
  go_wp2_with fail
  go_loopw [32] (fun q wr => ∃ k : Nat, k ≤ dn ∧ q = .int .i64 (k : Int) ∧ Hid (Al.dupB X k = false) ∧ GrX R w3 wr ∧ Hid (Row wr R sn (fun j => .bool (Al.gonB X k j)))) (fun q _ => dn - (intOf q).toNat)
  case atStart => exact ⟨0, Nat.zero_le _, rfl, Lib.hid rfl, GrX.refl _ _, Lib.hid hrow.out⟩
  case round =>
    clear hrow
    obtain ⟨k, hk, rfl, HQ, hg, HRw⟩ := hrel
    have hgr : Gr w wr := GrX.gr g3 (by omega) hg
    by_cases hlt : k < dn
    · obtain rfl := DA.out (by omega)
      have a0 := Gr.at hgr (DX.out k hlt).1
      have ib0 : (0 : Int) ≤ (k : Int) := by omega
      have ib1 : (k : Int) < (dn : Int) := by omega
      have hx := HRg.out k hlt
      have HDk := Lib.hid (fun h => HDup.out k hlt h)
      have HD1 := Lib.hid (show Al.dupB X (k + 1) = Al.gonB X k (X k).toNat from by rw [Al.dupB, HQ.out, Bool.false_or])
      obtain ⟨x, hxx⟩ : ∃ x : Nat, X k = (x : Int) := ⟨(X k).toNat, by omega⟩
      have HG1 := Lib.hid (fun j => show Al.gonB X (k + 1) j = (Al.gonB X k j || (X k == (j : Int))) from rfl)
      rw [hxx] at a0 hx HD1 HG1
      rw [Int.toNat_natCast] at HD1
      clear hxx HAll HLe HRg HA HX DX HDup HQ
      have hxn : x < sn := by omega
      have jb0 : (0 : Int) ≤ (x : Int) := by omega
      have jb1 : (x : Int) < (sn : Int) := by omega
      obtain ⟨r1, r2⟩ := HRw.out x hxn
      simp only [] at r1
      cases hgb : Al.gonB X k x
      · rw [hgb] at r1 HD1
        go_wp2_with fail
        go_roundw
        case rel => exact ⟨k + 1, by omega, by go_num, HD1, GrX.setCell hg rfl _, Lib.hid (Row.set HRw.out (by show Value.bool _ = _; rw [HG1.out]; simp) (fun j _ hj => by show Value.bool _ = Value.bool _; rw [HG1.out, beq_eq_false_iff_ne.2 (show ((x : Int) : Int) ≠ (j : Int) by omega), Bool.or_false]))⟩
        case measure => simp [intOf]; omega
      · rw [hgb] at r1 HD1
        have hdd := HDk.out HD1.out
        have HDD := Lib.hid hdd
        clear HDk HD1 HG1 HRw hgb hdd
        go_wp2_with fail
        go_ret2
        unfold Al.RetCl
        rw [HDD.out, if_pos rfl]
        exact ⟨Al.SlA.nil, rfl, Al.SlA.nil_at _, by simp [Al.SlA.con, Al.SlA.nil], hgr⟩
    · obtain rfl : dn = k := by omega
      replace q0 := GrX.at hg (by omega) q0; replace q1 := GrX.at hg (by omega) q1; replace q2 := GrX.at hg (by omega) q2; replace q3 := GrX.at hg (by omega) q3; replace q4 := GrX.at hg (by omega) q4; replace q5 := GrX.at hg (by omega) q5
      clear HRg DX HDup hg g3 DA
      go_wp2_with fail
      refine name_world ?_
      intro W5 hW5
      obtain rfl : W5 = wr := hW5
      have bR := World.block_lt_of_cell? _ _ q3
      go_loopw [14, 46] (fun v x wr => ∃ i : Nat, i ≤ sn ∧ x = .int .i64 (i : Int) ∧ Hid (wr.ownsRow W5.heap.size 57 5 v (Al.leftL D (Al.gonB X dn) i).length (Al.flat (Al.leftL D (Al.gonB X dn) i))) ∧ Gr W5 wr) (fun _ x _ => sn - (intOf x).toNat)
      case atStart => exact ⟨0, Nat.zero_le _, rfl, Lib.hid (World.ownsRow_nil _ _ _ _), Gr.refl _⟩
      case round =>
        obtain ⟨i, hi, rfl, HO, hg2⟩ := hrel
        have gw := hgr.trans hg2
        by_cases hlt : i < sn
        · obtain rfl := HA.out (by omega)
          obtain ⟨hcl, -⟩ := HX.out i hlt
          obtain ⟨a0, a1, a2, a3, a4⟩ := hcl.gr gw
          have ib0 : (0 : Int) ≤ (i : Int) := by omega
          have ib1 : (i : Int) < (sn : Int) := by omega
          have bN : sb < wr.heap.size := World.block_lt_of_cell? _ _ a0
          obtain ⟨r1, r2⟩ := (HRw.out.gr hg2) i hlt
          simp only [] at r1
          clear r2
          have HN := Lib.hid (show Al.leftL D (Al.gonB X dn) (i + 1) = Al.leftL D (Al.gonB X dn) i ++ (if Al.gonB X dn i = true then [] else [D i]) from rfl)
          have hll : (Al.leftL D (Al.gonB X dn) i).length ≤ i := by have := (Al.leftL_sub D (Al.gonB X dn) i).length_le; simpa using this
          have hz := Gr.size hg2
          clear HX HA hcl HAll HLe HRw q0 q1 q2 q3 q4 q5
          generalize D i = m at *
          generalize Al.leftL D (Al.gonB X dn) i = LO at *
          have bRR : R < wr.heap.size := World.block_lt_of_cell? _ _ r1
          cases hgb : Al.gonB X dn i
          · rw [hgb] at r1 HN
            simp only [Bool.false_eq_true, if_false] at HN
            go_wp2_with (at_builtin; refine wpList_append_own _ rfl _ _ 22 rfl W5.heap.size 57 i1 (.agg #[.string ⟨#[]⟩, .int .i64 0, .int .i64 0, .int .i64 0, .int .i64 0]) 5 48 Tryz.underlying22 KI.out KZ0.out KZ1.out KZ2.out rfl (by decide) _ _ _ rfl (ownsRow_gr HO.out (by exact gr_auto)) ⟨wr.heap.size + 1, 0, none⟩ 1 1 [.string m.nd, .int .i64 m.nu, .int .i64 m.tm, .int .i64 m.ar, .int .i64 m.lv] rfl rfl (by intro p u hp; rcases p with _ | _ | _ | _ | _ | p <;> simp at hp <;> (try subst hp) <;> first | (simp [Addr.add, go_sem]; done) | (simp [Addr.add]; done)) (by intro u hu; simp at hu; rcases hu with rfl | rfl | rfl | rfl | rfl <;> rfl) (by unfold maxLen; omega) (by omega) (by simp; omega) ?_)
            intro v' w9 hown' hgrow hnil
            have HP := Lib.hid (show w9.ownsRow W5.heap.size 57 5 v' (Al.leftL D (Al.gonB X dn) (i + 1)).length (Al.flat (Al.leftL D (Al.gonB X dn) (i + 1))) from by rw [HN.out, List.length_append, Al.flat_snoc]; exact hown')
            have g9 : Gr W5 w9 := Gr.own ((hg2.alloc (Obj.cells #[.string m.nd, .int .i64 m.nu, .int .i64 m.tm, .int .i64 m.ar, .int .i64 m.lv] 57)).alloc (Obj.cells #[.string m.nd, .int .i64 m.nu, .int .i64 m.tm, .int .i64 m.ar, .int .i64 m.lv] 57)) (Nat.le_refl _) (ownsRow_gr HO.out ((Gr.alloc (Gr.alloc (Gr.refl wr) _) _))) hgrow
            clear HO hown' hgrow hnil HN hgb
            go_wp2_with fail
            go_roundw
            case rel => exact ⟨i + 1, by omega, by go_num, HP, g9⟩
            case measure => simp [intOf]; omega
          · rw [hgb] at r1 HN
            simp only [if_true, List.append_nil] at HN
            have HP := Lib.hid (show (wr.alloc (Obj.cells #[.string m.nd, .int .i64 m.nu, .int .i64 m.tm, .int .i64 m.ar, .int .i64 m.lv] 57)).ownsRow W5.heap.size 57 5 _ (Al.leftL D (Al.gonB X dn) (i + 1)).length (Al.flat (Al.leftL D (Al.gonB X dn) (i + 1))) from by rw [HN.out]; exact ownsRow_gr HO.out (Gr.alloc (Gr.refl _) _))
            have g9 : Gr W5 _ := hg2.alloc (Obj.cells #[.string m.nd, .int .i64 m.nu, .int .i64 m.tm, .int .i64 m.ar, .int .i64 m.lv] 57)
            clear HO HN hgb
            go_wp2_with fail
            go_roundw
            case rel => exact ⟨i + 1, by omega, by go_num, HP, g9⟩
            case measure => simp [intOf]; omega
        · obtain rfl : sn = i := by omega
          replace q0 := Gr.at hg2 q0; replace q1 := Gr.at hg2 q1; replace q3 := Gr.at hg2 q3; replace q4 := Gr.at hg2 q4; replace q5 := Gr.at hg2 q5
          obtain ⟨s', rfl, hs1, hs2, -, -⟩ := Al.ownM_sl HO.out (fun m hm => by
            have := (Al.leftL_sub D (Al.gonB X dn) sn).subset hm
            obtain ⟨j, hj, rfl⟩ := List.mem_map.1 this
            exact (HX.out j (List.mem_range.1 hj)).2)
          have HAl' := Lib.hid (HAll.out s' wr gw hs1 (by rw [hs2]; exact HLe.out.symm))
          clear HX HA HAll HLe HRw HO hs1 hs2 q2
          go_wp2_with fail
          refine HAl'.out.mono ?_
          rintro e w6 ⟨r, rfl, hr1, hr2, hr3⟩
          have HR1 := Lib.hid hr1; have HR2 := Lib.hid hr2
          have g6 := gw.trans hr3
          clear HAl' hr1 hr2 hr3
          unfold Al.SlA.val
          go_wp2_with fail
          go_ret2
          unfold Al.RetCl
          rw [HQ.out, if_neg (by decide)]
          exact ⟨r, rfl, HR1.out, HR2.out, g6⟩
end Go.Proofs.YtllkiadedaghoaaGreat
