/-
  Alarms: the reference's Ordered. Typed.
-/
import Derived.Test.YtllkiadedaghoaaGreatDoorEx32
import Derived.Test.YtllkiadedaghoaaGreatDoorEx07
import Derived.Test.YtllkiadedaghoaaGreatDoorEx18
import Derived.Test.YtllkiadedaghoaaGreatDoorEx30
import Derived.Test.YtllkiadedaghoaaGreatDoorEx09
import Derived.Deep.CutBlock
set_option linter.unusedVariables false
set_option linter.unusedSimpArgs false
namespace Go.Proofs.YtllkiadedaghoaaGreatDoor
open Go.RowKit Go.Sort Go.Shelf
attribute [local go_sem ↓] Go.wp_at_zero Go.wp_at_succ
namespace Al
/-- A content put into a list at a place from which on all come later. -/
theorem ins_ok {l : List C} {x : C} {k : Nat} (hk : k ≤ l.length) (h : l.Pairwise fun a b => ccmp a b ≤ 0) (h1 : ∀ i (hi : i < l.length), k ≤ i → bfA x l[i] = true) (h2 : 0 < k → ∀ hk' : k - 1 < l.length, bfA x l[k - 1] = false) : (l.take k ++ x :: l.drop k).Pairwise fun a b => ccmp a b ≤ 0 := by
  have h0 : (l.take k ++ l.drop k).Pairwise fun a b => ccmp a b ≤ 0 := by rw [List.take_append_drop]; exact h
  rw [List.pairwise_append] at h0 ⊢
  obtain ⟨p1, p2, p3⟩ := h0
  have hd : ∀ b ∈ l.drop k, ccmp x b ≤ 0 := fun b hb => by
    obtain ⟨i, hi, rfl⟩ := List.getElem_of_mem hb
    rw [List.getElem_drop]
    rw [List.length_drop] at hi
    have := h1 (k + i) (by omega) (by omega)
    unfold bfA at this
    exact Int.le_of_lt (by simpa using this)
  have ht : ∀ a ∈ l.take k, ccmp a x ≤ 0 := fun a ha => by
    obtain ⟨i, hi, rfl⟩ := List.getElem_of_mem ha
    simp only [List.length_take] at hi
    rw [List.getElem_take]
    have hk1 := h2 (by omega) (by omega)
    have hx : ccmp l[k - 1] x ≤ 0 := by
      unfold bfA at hk1
      have hx' : ¬ ccmp x l[k - 1] < 0 := by simpa using hk1
      rcases Gd.con.tot l[k - 1] x with q | q
      · exact q
      · rcases Int.lt_or_eq_of_le q with z | z
        · exact absurd z hx'
        · rw [Gd.con.zero _ _ z, Gd.con.self]; exact Int.le_refl _
    by_cases e : i = k - 1
    · subst e; exact hx
    · exact Gd.con.tle (List.pairwise_iff_getElem.1 h i (k - 1) (by omega) (by omega) (by omega)) hx
  refine ⟨p1, List.pairwise_cons.2 ⟨hd, p2⟩, fun a ha b hb => ?_⟩
  rcases List.mem_cons.1 hb with rfl | hb
  · exact ht a ha
  · exact p3 a ha b hb
theorem ins_perm (l : List C) (x : C) (k : Nat) : (l.take k ++ x :: l.drop k).Perm (x :: l) := by
  refine List.perm_middle.trans ?_
  rw [List.take_append_drop]
end Al
set_option maxRecDepth 100000 in
set_option maxHeartbeats 4000000 in
theorem rordered_any (s : Al.SlA) (w : World) (h : s.At w) (hn : s.n ≤ 100000) : Calls Tryz.prog 91 #[.slice s.A s.n s.c] w fun e w' => ∃ v d, e = .returned v ∧ Al.OwnA w' w.heap.size v d ∧ d.map Al.A.con = Al.srt s.con ∧ Gr w w' := by
  obtain ⟨i1, k0, k1, k2, k3⟩ := info_parts infoA
  have KI := Lib.hid k0; have KZ0 := Lib.hid k1; have KZ1 := Lib.hid k2; have KZ2 := Lib.hid k3
  clear k0 k1 k2 k3
  have HA := Lib.hid h.hA; have HX := Lib.hid h.hD
  have hnc := h.hc; have hcb := h.hb
  have HLn := Lib.hid (Al.SlA.con_len s)
  have HLg := Lib.hid (fun i (hi : i < s.con.length) => Al.con_get s i hi)
  have HS := Lib.hid (fun (d : List Al.C) (hp : s.con.Perm d) hs => Al.srt_of hp hs)
  clear h
  obtain ⟨R, hR⟩ : ∃ R, Al.srt s.con = R := ⟨_, rfl⟩
  rw [hR] at HS ⊢
  clear hR
  generalize s.con = T at *
  cases s with | mk A n c b o D =>
  simp only [] at *
  go_enter Tryz.func91, Tryz.ntmps91
  go_wp2_with fail
  go_loopw [3, 4] (fun v x wr => ∃ (i : Nat) (d : List Al.A), i ≤ n ∧ x = .int .i64 (i : Int) ∧ Hid (Al.OwnA wr w.heap.size v d) ∧ Hid ((T.take i).Perm (d.map Al.A.con)) ∧ Hid ((d.map Al.A.con).Pairwise fun a b => Al.ccmp a b ≤ 0) ∧ Gr w wr) (fun _ x _ => n - (intOf x).toNat)
  case atStart => exact ⟨0, [], Nat.zero_le _, rfl, Lib.hid (Al.OwnA.nil _ _), Lib.hid .nil, Lib.hid .nil, Gr.refl _⟩
  case round =>
    obtain ⟨i, d, hi, rfl, HO, HP, HSd, hg⟩ := hrel
    by_cases hlt : i < n
    · obtain rfl := HA.out (by omega)
      obtain ⟨hcl, hown⟩ := HX.out i hlt
      obtain ⟨a0, a1, a2, a3⟩ := hcl.gr hg
      have ib0 : (0 : Int) ≤ (i : Int) := by omega
      have ib1 : (i : Int) < (n : Int) := by omega
      have HXo := Lib.hid (hown.gr hg)
      have hTi := HLg.out i (by rw [HLn.out]; exact hlt)
      have HP1 := Lib.hid (show (T.take (i + 1)).Perm ((D i).con :: d.map Al.A.con) from by
        rw [List.take_succ_eq_append_getElem (by rw [HLn.out]; exact hlt), hTi]
        exact List.perm_append_comm.trans (List.Perm.cons _ HP.out))
      have hdl : d.length = i := by have := HP.out.length_eq; rw [List.length_take, HLn.out, List.length_map] at this; omega
      have hz := Gr.size hg
      clear HX HA hcl hTi HS HLg HP hown HLn
      generalize D i = x at *
      -- the row
      have hop := HO.out.open
      rcases hop with ⟨rfl, rfl⟩ | ⟨g, cap, cur, rfl, hgb, hgc, hgn, hgm, hgr⟩
      · obtain rfl : 0 = i := hdl
        go_upto_block 2 with fail
        go_cut [5] (fun q wx => q = .int .i64 0 ∧ Gr wr wx)
        case first =>
          clear HP1 HSd HXo HO
          go_wp2_with fail
          go_loopw [5] (fun q wr3 => q = .int .i64 0 ∧ Gr wr wr3) (fun q _ => (intOf q).toNat)
          case atStart => exact ⟨rfl, Gr.refl _⟩
          case round =>
            obtain ⟨rfl, hg7⟩ := hrel
            have c0 := Gr.at hg7 a0
            have hgw := hg.trans hg7
            go_wp2_with fail
            (first | refine name_world ?_ | refine (show (∀ W, W = _ → Calls _ _ _ W _) → Calls _ _ _ _ _ from fun h => h _ rfl) ?_); intro W3 hW3
            have g3 : Gr w W3 := by rw [hW3]; exact gr_auto
            have gb3_wr : Gr wr W3 := by (try clear g3); rw [hW3]; exact gr_auto
            have k3_0 : W3.cell? ⟨b, o + 0 * 4, none⟩ = some (.int .i64 x.kd) := by rw [hW3]; first | (simp [go_sem, *]; done) | (refine Gr.at ?_ (by assumption); exact gr_auto)
            have b3_0 : b < W3.heap.size := World.block_lt_of_cell? _ _ k3_0
            clear hW3
            have s3_0 : ∀ gw : GW W3, gw.1.cell? ⟨b, o + 0 * 4, none⟩ = some (.int .i64 x.kd) := fun gw => Gr.at gw.2 k3_0
            have hnn := Nat.le_refl 0
            refine wp_region_gr (by kernel_rfl) (by kernel_rfl) ?_
            repeat (go_big_quiet_step (skip))
            refine wpQuiet_nil ?_
            intro w4 hb4
            clear s3_0
            have g4 : Gr w w4 := g3.trans hb4
            have k3_0 := Gr.at hb4 k3_0
            go_wp2_with fail
            go_meet
            exact ⟨rfl, (hg7.trans gb3_wr).trans hb4⟩
        case rest =>
          obtain ⟨rfl, hg2⟩ := hcut
          have gK := hg.trans hg2
          have HX2 := Lib.hid (HXo.out.gr hg2)
          have p0 := Gr.at hg2 a0; have p1 := Gr.at hg2 a1; have p2 := Gr.at hg2 a2; have p3 := Gr.at hg2 a3
          simp only [Nat.zero_mul, Nat.add_zero] at p0 p1 p2 p3
          have hbg : b < wc.heap.size := World.block_lt_of_cell? _ _ p0
          have HX1 := Lib.hid (show ∀ u ∈ ([.int .i64 x.kd, .string x.nd, .int .i64 x.tm, .slice x.p x.n x.c] : List Value), u.oneCell' = true from by intro u hu; simp at hu; rcases hu with rfl | rfl | rfl | rfl <;> rfl)
          have HPn := Lib.hid (show (T.take (0 + 1)).Perm ([x].map Al.A.con) from HP1.out)
          clear HP1 HSd HO HXo a0 a1 a2 a3
          go_upto_region 8 with fail
          go_region_law (first
            | (refine step_append_own _ (by rfl) _ _ 48 (by rfl) wc.heap.size 31 i1 (.agg #[.int .i64 0, .string ⟨#[]⟩, .int .i64 0, .slice none 0 0]) 4 56 Tryz.underlying48 KI.out KZ0.out KZ1.out KZ2.out rfl (by decide) (.slice (some ⟨wc.heap.size, 0, none⟩) 0 0) 0 [] (by rfl) (own_empty (by first | exact World.alloc_heap_new wc _ | exact (heap_alloc_old _ _ (by simp)).trans (World.alloc_heap_new wc _)) (by omega)) ⟨_, 0, none⟩ 1 1 [.int .i64 x.kd, .string x.nd, .int .i64 x.tm, .slice x.p x.n x.c] (by rfl) rfl (World.news_of_block (by rw [show wc.heap.size + 1 = (wc.alloc (.cells #[] 31)).heap.size by simp]; exact World.alloc_heap_new _ _)) HX1.out (by unfold maxLen; omega) (by omega) (by first | (simp; done) | (simp; omega)) ?_; intro v10 w10 hown10 hgrow10; have G10 : Gr wc w10 := Gr.fresh (show Gr wc _ from (by exact gr_auto)) (Nat.le_refl _) (own_empty (k := 4) (by first | exact World.alloc_heap_new wc _ | exact (heap_alloc_old _ _ (by simp)).trans (World.alloc_heap_new wc _)) (show wc.heap.size ≤ wc.heap.size by omega)) hgrow10)
            | (refine step_append_own _ (by rfl) _ _ 48 (by rfl) wc.heap.size 31 i1 (.agg #[.int .i64 0, .string ⟨#[]⟩, .int .i64 0, .slice none 0 0]) 4 56 Tryz.underlying48 KI.out KZ0.out KZ1.out KZ2.out rfl (by decide) (.slice (some ⟨wc.heap.size + 1, 0, none⟩) 0 0) 0 [] (by rfl) (own_empty (by rw [show wc.heap.size + 1 = (wc.alloc (.cells #[.int .i64 x.kd, .string x.nd, .int .i64 x.tm, .slice x.p x.n x.c] 31)).heap.size by simp]; exact World.alloc_heap_new _ _) (by omega)) ⟨_, 0, none⟩ 1 1 [.int .i64 x.kd, .string x.nd, .int .i64 x.tm, .slice x.p x.n x.c] (by rfl) rfl (World.news_of_block ((heap_alloc_old _ _ (by simp)).trans (World.alloc_heap_new wc _))) HX1.out (by unfold maxLen; omega) (by omega) (by first | (simp; done) | (simp; omega)) ?_; intro v10 w10 hown10 hgrow10; have G10 : Gr wc w10 := Gr.fresh (show Gr wc _ from (by exact gr_auto)) (Nat.le_refl _) (own_empty (k := 4) (by rw [show wc.heap.size + 1 = (wc.alloc (.cells #[.int .i64 x.kd, .string x.nd, .int .i64 x.tm, .slice x.p x.n x.c] 31)).heap.size by simp]; exact World.alloc_heap_new _ _) (show wc.heap.size ≤ wc.heap.size + 1 by omega)) hgrow10)
            | (refine step_append_none _ (by rfl) _ _ 48 (by rfl) wc.heap.size 31 i1 4 Tryz.underlying48 KI.out (.slice (some ⟨wc.heap.size, 0, none⟩) 0 0) 0 [] (by rfl) (own_empty (by first | exact World.alloc_heap_new wc _ | exact (heap_alloc_old _ _ (by simp)).trans (World.alloc_heap_new wc _)) (by omega)) (by rfl) ?_)
            | (refine step_append_none _ (by rfl) _ _ 48 (by rfl) wc.heap.size 31 i1 4 Tryz.underlying48 KI.out (.slice (some ⟨wc.heap.size + 1, 0, none⟩) 0 0) 0 [] (by rfl) (own_empty (by rw [show wc.heap.size + 1 = (wc.alloc (.cells #[.int .i64 x.kd, .string x.nd, .int .i64 x.tm, .slice x.p x.n x.c] 31)).heap.size by simp]; exact World.alloc_heap_new _ _) (by omega)) (by rfl) ?_)
            | (refine step_append_none _ (by rfl) _ _ 48 (by rfl) wc.heap.size 31 i1 4 Tryz.underlying48 KI.out v10 (0 + 1) ([] ++ [.int .i64 x.kd, .string x.nd, .int .i64 x.tm, .slice x.p x.n x.c]) (by rfl) hown10 (by rfl) ?_))
          all_goals (
            have HFo := Lib.hid (show Al.OwnA w10 w.heap.size v10 [x] from ⟨ownsRow_base (show w10.ownsRow wc.heap.size 31 4 v10 1 _ from hown10) (Nat.le_trans hz (Gr.size hg2)), fun a ha => by
              simp only [List.mem_singleton] at ha
              subst ha; exact HX2.out.gr G10⟩)
            have g11 := gK.trans G10
            clear hown10 hgrow10 HX2 HX1
            go_wp2_with fail
            go_roundw
            case rel => exact ⟨0 + 1, _, by omega, by go_num, HFo, HPn, Lib.hid (List.pairwise_singleton _ _), g11⟩
            case measure => simp [intOf]; omega)
      · have hgl : g < wr.heap.size := (Array.getElem?_eq_some_iff.1 hgc).1
        rw [hdl] at hgn ⊢
        have hcp : cap ≤ 9223372036854775807 := by unfold maxLen at hgm; exact hgm
        go_upto_block 2 with fail
        go_cut [5] (fun q wx => ∃ k : Nat, k ≤ i ∧ q = .int .i64 (k : Int) ∧ Hid (∀ j (hj : j < d.length), k ≤ j → Al.bfA x.con d[j].con = true) ∧ Hid (0 < k → ∀ hk : k - 1 < d.length, Al.bfA x.con d[k - 1].con = false) ∧ Gr wr wx)
        case first =>
          have HBb := Lib.hid (fun (W : World) (hW : Gr wr W) (j : Nat) (hj : j < d.length) => rbefA_any x d[j] W (HXo.out.at'.gr hW) ((HO.out.own d[j] (List.getElem_mem hj)).at'.gr hW))
          have HDl := Lib.hid hdl
          clear HP1 HSd HXo HO
          go_wp2_with fail
          go_loopw [5] (fun q wr3 => ∃ k : Nat, k ≤ i ∧ q = .int .i64 (k : Int) ∧ Hid (∀ j (hj : j < d.length), k ≤ j → Al.bfA x.con d[j].con = true) ∧ Gr wr wr3) (fun q _ => (intOf q).toNat)
          case atStart => exact ⟨i, Nat.le_refl _, rfl, Lib.hid (fun j hj hk => by omega), Gr.refl _⟩
          case round =>
            obtain ⟨k, hk, rfl, HE, hg7⟩ := hrel
            have hgw := hg.trans hg7
            have c0 := Gr.at hg7 a0; have c1 := Gr.at hg7 a1; have c2 := Gr.at hg7 a2; have c3 := Gr.at hg7 a3
            by_cases hk0 : 0 < k
            · obtain ⟨j, hj⟩ : ∃ j, k = j + 1 := ⟨k - 1, by omega⟩
              have hjd : j < d.length := by rw [HDl.out]; omega
              have z := hgr j hjd
              rw [getElem!_pos d j hjd] at z
              have b0 := Gr.at hg7 (z 0 (by omega)).1; have b1 := Gr.at hg7 (z 1 (by omega)).1; have b2 := Gr.at hg7 (z 2 (by omega)).1; have b3 := Gr.at hg7 (z 3 (by omega)).1
              have HBj := Lib.hid (fun W hW => HBb.out W hW j hjd)
              have HEj := Lib.hid (fun (hb : Al.bfA x.con d[j].con = true) q (hq : q < d.length) (hjq : j ≤ q) => show Al.bfA x.con d[q].con = true from by
                by_cases e : q = j
                · subst e; exact hb
                · exact HE.out q hq (by omega))
              have HFj := Lib.hid (fun (hb : Al.bfA x.con d[j].con = false) (_ : 0 < k) (hk' : k - 1 < d.length) => show Al.bfA x.con d[k - 1].con = false from by
                have e : k - 1 = j := by omega
                have : d[k - 1] = d[j] := by congr 1
                rw [this]; exact hb)
              clear z hgr HBb a0 a1 a2 a3
              generalize d[j] = y at *
              simp only [Al.A.enc, List.getElem!_cons_zero, List.getElem!_cons_succ, Nat.add_zero] at b0 b1 b2 b3
              unfold Al.A.enc at HBj
              have ib2 : (k : Int) - 1 = (j : Int) := by omega
              have ib3 : (0 : Int) ≤ (j : Int) := by omega
              have ib4 : (j : Int) < (i : Int) := by omega
              have ib5 : (0 : Int) < (k : Int) := by omega
              have jb2 : decide ((0 : Int) < (k : Int)) = true := decide_eq_true ib5
              have jb3 : decide (0 < k) = true := decide_eq_true hk0
              have hkb : (k : Int) ≤ 100000 := by omega
              have wj : IntKind.i64.wrap (j : Int) = (j : Int) := IntWalk.i64_in _ (by omega)
              replace hj := Lib.hid hj
              cases hb : Al.bfA x.con y.con
              · rw [hb] at HBj
                have HQ := Lib.hid (HFj.out hb)
                clear HEj HFj hb
                go_wp2_with fail
                (first | refine name_world ?_ | refine (show (∀ W, W = _ → Calls _ _ _ W _) → Calls _ _ _ _ _ from fun h => h _ rfl) ?_); intro W3 hW3
                have g3 : Gr w W3 := by rw [hW3]; exact gr_auto
                have gb3_wr : Gr wr W3 := by (try clear g3); rw [hW3]; exact gr_auto
                have k3_0 : W3.cell? ⟨b, o + i * 4, none⟩ = some (.int .i64 x.kd) := by rw [hW3]; first | (simp [go_sem, *]; done) | (refine Gr.at ?_ (by assumption); exact gr_auto)
                have b3_0 : b < W3.heap.size := World.block_lt_of_cell? _ _ k3_0
                have k3_1 : W3.cell? ⟨b, o + i * 4 + 1, none⟩ = some (.string x.nd) := by rw [hW3]; first | (simp [go_sem, *]; done) | (refine Gr.at ?_ (by assumption); exact gr_auto)
                have k3_2 : W3.cell? ⟨b, o + i * 4 + 2, none⟩ = some (.int .i64 x.tm) := by rw [hW3]; first | (simp [go_sem, *]; done) | (refine Gr.at ?_ (by assumption); exact gr_auto)
                have k3_3 : W3.cell? ⟨b, o + i * 4 + 3, none⟩ = some (.slice x.p x.n x.c) := by rw [hW3]; first | (simp [go_sem, *]; done) | (refine Gr.at ?_ (by assumption); exact gr_auto)
                have k3_4 : W3.cell? ⟨g, j * 4, none⟩ = some (.int .i64 y.kd) := by rw [hW3]; first | (simp [go_sem, *]; done) | (refine Gr.at ?_ (by assumption); exact gr_auto)
                have b3_4 : g < W3.heap.size := World.block_lt_of_cell? _ _ k3_4
                have k3_5 : W3.cell? ⟨g, j * 4 + 1, none⟩ = some (.string y.nd) := by rw [hW3]; first | (simp [go_sem, *]; done) | (refine Gr.at ?_ (by assumption); exact gr_auto)
                have k3_6 : W3.cell? ⟨g, j * 4 + 2, none⟩ = some (.int .i64 y.tm) := by rw [hW3]; first | (simp [go_sem, *]; done) | (refine Gr.at ?_ (by assumption); exact gr_auto)
                have k3_7 : W3.cell? ⟨g, j * 4 + 3, none⟩ = some (.slice y.p y.n y.c) := by rw [hW3]; first | (simp [go_sem, *]; done) | (refine Gr.at ?_ (by assumption); exact gr_auto)
                clear hW3
                have s3_0 : ∀ gw : GW W3, gw.1.cell? ⟨b, o + i * 4, none⟩ = some (.int .i64 x.kd) := fun gw => Gr.at gw.2 k3_0
                have s3_1 : ∀ gw : GW W3, gw.1.cell? ⟨b, o + i * 4 + 1, none⟩ = some (.string x.nd) := fun gw => Gr.at gw.2 k3_1
                have s3_2 : ∀ gw : GW W3, gw.1.cell? ⟨b, o + i * 4 + 2, none⟩ = some (.int .i64 x.tm) := fun gw => Gr.at gw.2 k3_2
                have s3_3 : ∀ gw : GW W3, gw.1.cell? ⟨b, o + i * 4 + 3, none⟩ = some (.slice x.p x.n x.c) := fun gw => Gr.at gw.2 k3_3
                have s3_4 : ∀ gw : GW W3, gw.1.cell? ⟨g, j * 4, none⟩ = some (.int .i64 y.kd) := fun gw => Gr.at gw.2 k3_4
                have s3_5 : ∀ gw : GW W3, gw.1.cell? ⟨g, j * 4 + 1, none⟩ = some (.string y.nd) := fun gw => Gr.at gw.2 k3_5
                have s3_6 : ∀ gw : GW W3, gw.1.cell? ⟨g, j * 4 + 2, none⟩ = some (.int .i64 y.tm) := fun gw => Gr.at gw.2 k3_6
                have s3_7 : ∀ gw : GW W3, gw.1.cell? ⟨g, j * 4 + 3, none⟩ = some (.slice y.p y.n y.c) := fun gw => Gr.at gw.2 k3_7
                have HC1 := Lib.hid (fun gw : GW W3 => gw_call (HBj.out gw.1 ((hg7.trans gb3_wr).trans gw.2)))
                refine wp_region_gr (by kernel_rfl) (by kernel_rfl) ?_
                repeat (go_big_quiet_step ((go_at_call 19; exact HC1.out _)))
                refine wpQuiet_nil ?_
                intro w4 hb4
                clear s3_0 s3_1 s3_2 s3_3 s3_4 s3_5 s3_6 s3_7
                have g4 : Gr w w4 := g3.trans hb4
                have k3_0 := Gr.at hb4 k3_0
                have k3_1 := Gr.at hb4 k3_1
                have k3_2 := Gr.at hb4 k3_2
                have k3_3 := Gr.at hb4 k3_3
                have k3_4 := Gr.at hb4 k3_4
                have k3_5 := Gr.at hb4 k3_5
                have k3_6 := Gr.at hb4 k3_6
                have k3_7 := Gr.at hb4 k3_7
                clear HC1 HBj
                go_wp2_with fail
                go_meet
                exact ⟨k, hk, rfl, HE, HQ, (hg7.trans gb3_wr).trans hb4⟩
              · rw [hb] at HBj
                have HQ := Lib.hid (HEj.out hb)
                clear HEj HFj hb HE
                go_wp2_with fail
                (first | refine name_world ?_ | refine (show (∀ W, W = _ → Calls _ _ _ W _) → Calls _ _ _ _ _ from fun h => h _ rfl) ?_); intro W3 hW3
                have g3 : Gr w W3 := by rw [hW3]; exact gr_auto
                have gb3_wr : Gr wr W3 := by (try clear g3); rw [hW3]; exact gr_auto
                have k3_0 : W3.cell? ⟨b, o + i * 4, none⟩ = some (.int .i64 x.kd) := by rw [hW3]; first | (simp [go_sem, *]; done) | (refine Gr.at ?_ (by assumption); exact gr_auto)
                have b3_0 : b < W3.heap.size := World.block_lt_of_cell? _ _ k3_0
                have k3_1 : W3.cell? ⟨b, o + i * 4 + 1, none⟩ = some (.string x.nd) := by rw [hW3]; first | (simp [go_sem, *]; done) | (refine Gr.at ?_ (by assumption); exact gr_auto)
                have k3_2 : W3.cell? ⟨b, o + i * 4 + 2, none⟩ = some (.int .i64 x.tm) := by rw [hW3]; first | (simp [go_sem, *]; done) | (refine Gr.at ?_ (by assumption); exact gr_auto)
                have k3_3 : W3.cell? ⟨b, o + i * 4 + 3, none⟩ = some (.slice x.p x.n x.c) := by rw [hW3]; first | (simp [go_sem, *]; done) | (refine Gr.at ?_ (by assumption); exact gr_auto)
                have k3_4 : W3.cell? ⟨g, j * 4, none⟩ = some (.int .i64 y.kd) := by rw [hW3]; first | (simp [go_sem, *]; done) | (refine Gr.at ?_ (by assumption); exact gr_auto)
                have b3_4 : g < W3.heap.size := World.block_lt_of_cell? _ _ k3_4
                have k3_5 : W3.cell? ⟨g, j * 4 + 1, none⟩ = some (.string y.nd) := by rw [hW3]; first | (simp [go_sem, *]; done) | (refine Gr.at ?_ (by assumption); exact gr_auto)
                have k3_6 : W3.cell? ⟨g, j * 4 + 2, none⟩ = some (.int .i64 y.tm) := by rw [hW3]; first | (simp [go_sem, *]; done) | (refine Gr.at ?_ (by assumption); exact gr_auto)
                have k3_7 : W3.cell? ⟨g, j * 4 + 3, none⟩ = some (.slice y.p y.n y.c) := by rw [hW3]; first | (simp [go_sem, *]; done) | (refine Gr.at ?_ (by assumption); exact gr_auto)
                clear hW3
                have s3_0 : ∀ gw : GW W3, gw.1.cell? ⟨b, o + i * 4, none⟩ = some (.int .i64 x.kd) := fun gw => Gr.at gw.2 k3_0
                have s3_1 : ∀ gw : GW W3, gw.1.cell? ⟨b, o + i * 4 + 1, none⟩ = some (.string x.nd) := fun gw => Gr.at gw.2 k3_1
                have s3_2 : ∀ gw : GW W3, gw.1.cell? ⟨b, o + i * 4 + 2, none⟩ = some (.int .i64 x.tm) := fun gw => Gr.at gw.2 k3_2
                have s3_3 : ∀ gw : GW W3, gw.1.cell? ⟨b, o + i * 4 + 3, none⟩ = some (.slice x.p x.n x.c) := fun gw => Gr.at gw.2 k3_3
                have s3_4 : ∀ gw : GW W3, gw.1.cell? ⟨g, j * 4, none⟩ = some (.int .i64 y.kd) := fun gw => Gr.at gw.2 k3_4
                have s3_5 : ∀ gw : GW W3, gw.1.cell? ⟨g, j * 4 + 1, none⟩ = some (.string y.nd) := fun gw => Gr.at gw.2 k3_5
                have s3_6 : ∀ gw : GW W3, gw.1.cell? ⟨g, j * 4 + 2, none⟩ = some (.int .i64 y.tm) := fun gw => Gr.at gw.2 k3_6
                have s3_7 : ∀ gw : GW W3, gw.1.cell? ⟨g, j * 4 + 3, none⟩ = some (.slice y.p y.n y.c) := fun gw => Gr.at gw.2 k3_7
                have HC1 := Lib.hid (fun gw : GW W3 => gw_call (HBj.out gw.1 ((hg7.trans gb3_wr).trans gw.2)))
                refine wp_region_gr (by kernel_rfl) (by kernel_rfl) ?_
                repeat (go_big_quiet_step ((go_at_call 19; exact HC1.out _)))
                refine wpQuiet_nil ?_
                intro w4 hb4
                clear s3_0 s3_1 s3_2 s3_3 s3_4 s3_5 s3_6 s3_7
                have g4 : Gr w w4 := g3.trans hb4
                have k3_0 := Gr.at hb4 k3_0
                have k3_1 := Gr.at hb4 k3_1
                have k3_2 := Gr.at hb4 k3_2
                have k3_3 := Gr.at hb4 k3_3
                have k3_4 := Gr.at hb4 k3_4
                have k3_5 := Gr.at hb4 k3_5
                have k3_6 := Gr.at hb4 k3_6
                have k3_7 := Gr.at hb4 k3_7
                clear HC1 HBj
                go_wp2_with fail
                go_roundw
                case rel => exact ⟨j, by omega, by first | rfl | go_num, HQ, (hg7.trans gb3_wr).trans hb4⟩
                case measure => have := hj.out; simp [intOf]; omega
            · obtain rfl : k = 0 := by omega
              have jb2 : decide ((0 : Int) < ((0 : Nat) : Int)) = false := decide_eq_false (by omega)
              clear hgr HBb
              go_wp2_with fail
              (first | refine name_world ?_ | refine (show (∀ W, W = _ → Calls _ _ _ W _) → Calls _ _ _ _ _ from fun h => h _ rfl) ?_); intro W3 hW3
              have g3 : Gr w W3 := by rw [hW3]; exact gr_auto
              have gb3_wr : Gr wr W3 := by (try clear g3); rw [hW3]; exact gr_auto
              have k3_0 : W3.cell? ⟨b, o + i * 4, none⟩ = some (.int .i64 x.kd) := by rw [hW3]; first | (simp [go_sem, *]; done) | (refine Gr.at ?_ (by assumption); exact gr_auto)
              have b3_0 : b < W3.heap.size := World.block_lt_of_cell? _ _ k3_0
              clear hW3
              have s3_0 : ∀ gw : GW W3, gw.1.cell? ⟨b, o + i * 4, none⟩ = some (.int .i64 x.kd) := fun gw => Gr.at gw.2 k3_0
              have hnn := Nat.le_refl 0
              refine wp_region_gr (by kernel_rfl) (by kernel_rfl) ?_
              repeat (go_big_quiet_step (skip))
              refine wpQuiet_nil ?_
              intro w4 hb4
              clear s3_0
              have g4 : Gr w w4 := g3.trans hb4
              have k3_0 := Gr.at hb4 k3_0
              go_wp2_with fail
              go_meet
              exact ⟨0, Nat.zero_le _, rfl, HE, Lib.hid (fun h => absurd h (Nat.lt_irrefl _)), (hg7.trans gb3_wr).trans hb4⟩
        case rest =>
          obtain ⟨k, hk, rfl, HQ1, HQ2, hg2⟩ := hcut
          have HO2 := Lib.hid (HO.out.gr hg2)
          have HX2 := Lib.hid (HXo.out.gr hg2)
          have HPn := Lib.hid (show (T.take (i + 1)).Perm ((d.take k ++ x :: d.drop k).map Al.A.con) from by
            refine HP1.out.trans ?_
            rw [List.map_append, List.map_cons, List.map_take, List.map_drop]
            exact (Al.ins_perm _ _ k).symm)
          have HSn := Lib.hid (show ((d.take k ++ x :: d.drop k).map Al.A.con).Pairwise (fun a b => Al.ccmp a b ≤ 0) from by
            rw [List.map_append, List.map_cons, List.map_take, List.map_drop]
            refine Al.ins_ok (by rw [List.length_map]; omega) HSd.out (fun j hj hkj => ?_) (fun h0 hk' => ?_)
            · rw [List.getElem_map]; exact HQ1.out j (by simpa using hj) hkj
            · rw [List.getElem_map]; exact HQ2.out h0 (by simpa using hk'))
          clear HQ1 HQ2 HP1 HSd HO HXo
          have jb0 : (0 : Int) ≤ (k : Int) := by omega
          have jb1 : (k : Int) ≤ (i : Int) := by omega
          have jb2 : (k : Int) ≤ (cap : Int) := by omega
          have gK := hg.trans hg2
          have p0 := Gr.at hg2 a0; have p1 := Gr.at hg2 a1; have p2 := Gr.at hg2 a2; have p3 := Gr.at hg2 a3
          have HX1 := Lib.hid (show ∀ u ∈ ([.int .i64 x.kd, .string x.nd, .int .i64 x.tm, .slice x.p x.n x.c] : List Value), u.oneCell' = true from by intro u hu; simp at hu; rcases hu with rfl | rfl | rfl | rfl <;> rfl)
          have HRow := Lib.hid (show wc.ownsRow w.heap.size 31 4 (.slice (some ⟨g, 0, none⟩) d.length cap) d.length (d.flatMap Al.A.enc) from HO2.out.row)
          have hfl : d.flatMap Al.A.enc = (d.take k).flatMap Al.A.enc ++ (d.drop k).flatMap Al.A.enc := by rw [← List.flatMap_append, List.take_append_drop]
          have HL1 := Lib.hid (show ((d.take k).flatMap Al.A.enc).length = k * 4 from by rw [Al.enc_len, List.length_take]; congr 1; omega)
          have HL2 := Lib.hid (show ((d.drop k).flatMap Al.A.enc).length = (i - k) * 4 from by rw [Al.enc_len, List.length_drop, hdl])
          have HCe := Lib.hid (fun (W : World) (hW : Gr wc W) (q : Nat) (u : Value) (hq : (d.flatMap Al.A.enc)[q]? = some u) => show W.cell? ⟨g, q, none⟩ = some u from by
            have hlt2 : q < (d.flatMap Al.A.enc).length := (List.getElem?_eq_some_iff.1 hq).1
            have z := (ownsRow_gr HRow.out hW).cellAt q (by rw [Al.enc_len] at hlt2; exact hlt2)
            rw [hq] at z; exact z)
          have HN1 := Lib.hid (fun (W : World) (hW : Gr wc W) (q : Nat) (u : Value) (hq : ((d.take k).flatMap Al.A.enc)[q]? = some u) => show W.cell? ((⟨g, 0, none⟩ : Addr).add q) = some u from by
            have hlt2 : q < ((d.take k).flatMap Al.A.enc).length := (List.getElem?_eq_some_iff.1 hq).1
            have z := HCe.out W hW q u (by rw [hfl, List.getElem?_append_left hlt2]; exact hq)
            have e : ((⟨g, 0, none⟩ : Addr).add q) = ⟨g, q, none⟩ := by unfold Addr.add; split <;> simp_all
            rw [e]; exact z)
          have HN2 := Lib.hid (fun (W : World) (hW : Gr wc W) (q : Nat) (u : Value) (hq : ((d.drop k).flatMap Al.A.enc)[q]? = some u) => show W.cell? ((⟨g, k * 4, none⟩ : Addr).add q) = some u from by
            have z := HCe.out W hW (k * 4 + q) u (by rw [hfl, List.getElem?_append_right (by rw [HL1.out]; omega), HL1.out, Nat.add_sub_cancel_left]; exact hq)
            have e : ((⟨g, k * 4, none⟩ : Addr).add q) = ⟨g, k * 4 + q, none⟩ := by unfold Addr.add; split <;> simp_all
            rw [e]; exact z)
          clear hfl HCe HRow a0 a1 a2 a3 hgr hgc
          have hik : i - k ≤ 100000 := by omega
          by_cases hkc : k = cap
          · have hkc2 : cap = k := hkc.symm
            have hki : i = k := by omega
            have hbg : b < wc.heap.size := World.block_lt_of_cell? _ _ p0
            have HKI := Lib.hid hki
            subst hkc
            clear hki hkc2
            go_upto_region 8 with fail
            go_region_law (first
            | (refine step_append_own _ (by rfl) _ _ 48 (by rfl) wc.heap.size 31 i1 (.agg #[.int .i64 0, .string ⟨#[]⟩, .int .i64 0, .slice none 0 0]) 4 56 Tryz.underlying48 KI.out KZ0.out KZ1.out KZ2.out rfl (by decide) (.slice (some ⟨wc.heap.size, 0, none⟩) 0 0) 0 [] (by rfl) (own_empty (by first | exact World.alloc_heap_new wc _ | exact (heap_alloc_old _ _ (by simp)).trans (World.alloc_heap_new wc _) | (simp; done)) (by omega)) ⟨g, 0, none⟩ k _ ((d.take k).flatMap Al.A.enc) (by rfl) HL1.out (by exact HN1.out _ (by exact gr_auto)) (Al.enc_one _) (by unfold maxLen; omega) (by omega) (by first | (simp; done) | (simp; omega)) ?_; intro v9 w9 hown9 hgrow9; have G9 : Gr wc w9 := Gr.fresh (show Gr wc _ from (by exact gr_auto)) (Nat.le_refl _) (own_empty (k := 4) (by first | exact World.alloc_heap_new wc _ | exact (heap_alloc_old _ _ (by simp)).trans (World.alloc_heap_new wc _) | (simp; done)) (show wc.heap.size ≤ wc.heap.size by omega)) hgrow9; have e0 := Gr.at G9 p0; have e1 := Gr.at G9 p1; have e2 := Gr.at G9 p2; have e3 := Gr.at G9 p3; (try have hL9 : w9.heap[wc.heap.size + 1]? = some (.cells #[.int .i64 x.kd, .string x.nd, .int .i64 x.tm, .slice x.p x.n x.c] 31 (0, 0)) := (hgrow9.block _ (by first | (simp; done) | (simp; omega)) (by first | (simp [Value.ownBlock]; done) | (simp [Value.ownBlock]; omega) | (intro q; simp only [Value.ownBlock, Option.some.injEq] at q; omega))).trans (by first | exact (heap_alloc_old _ _ (by simp)).trans (World.alloc_heap_new wc _) | (rw [show wc.heap.size + 1 = (wc.alloc (.cells #[] 31)).heap.size by simp]; exact World.alloc_heap_new _ _))))
            | (refine step_append_own _ (by rfl) _ _ 48 (by rfl) wc.heap.size 31 i1 (.agg #[.int .i64 0, .string ⟨#[]⟩, .int .i64 0, .slice none 0 0]) 4 56 Tryz.underlying48 KI.out KZ0.out KZ1.out KZ2.out rfl (by decide) (.slice (some ⟨wc.heap.size + 1, 0, none⟩) 0 0) 0 [] (by rfl) (own_empty (by first | (rw [show wc.heap.size + 1 = (wc.alloc (.cells #[.int .i64 x.kd, .string x.nd, .int .i64 x.tm, .slice x.p x.n x.c] 31)).heap.size by simp]; exact World.alloc_heap_new _ _)) (by omega)) ⟨g, 0, none⟩ k _ ((d.take k).flatMap Al.A.enc) (by rfl) HL1.out (by exact HN1.out _ (by exact gr_auto)) (Al.enc_one _) (by unfold maxLen; omega) (by omega) (by first | (simp; done) | (simp; omega)) ?_; intro v9 w9 hown9 hgrow9; have G9 : Gr wc w9 := Gr.fresh (show Gr wc _ from (by exact gr_auto)) (Nat.le_refl _) (own_empty (k := 4) (by first | (rw [show wc.heap.size + 1 = (wc.alloc (.cells #[.int .i64 x.kd, .string x.nd, .int .i64 x.tm, .slice x.p x.n x.c] 31)).heap.size by simp]; exact World.alloc_heap_new _ _)) (show wc.heap.size ≤ wc.heap.size + 1 by omega)) hgrow9; have e0 := Gr.at G9 p0; have e1 := Gr.at G9 p1; have e2 := Gr.at G9 p2; have e3 := Gr.at G9 p3; (try have hL9 : w9.heap[wc.heap.size]? = some (.cells #[.int .i64 x.kd, .string x.nd, .int .i64 x.tm, .slice x.p x.n x.c] 31 (0, 0)) := (hgrow9.block _ (by first | (simp; done) | (simp; omega)) (by first | (simp [Value.ownBlock]; done) | (simp [Value.ownBlock]; omega) | (intro q; simp only [Value.ownBlock, Option.some.injEq] at q; omega))).trans (by first | exact (heap_alloc_old _ _ (by simp)).trans (World.alloc_heap_new wc _) | (rw [show wc.heap.size + 1 = (wc.alloc (.cells #[] 31)).heap.size by simp]; exact World.alloc_heap_new _ _))))
            | (refine step_append_own _ (by rfl) _ _ 48 (by rfl) wc.heap.size 31 i1 (.agg #[.int .i64 0, .string ⟨#[]⟩, .int .i64 0, .slice none 0 0]) 4 56 Tryz.underlying48 KI.out KZ0.out KZ1.out KZ2.out rfl (by decide) v9 (0 + k) ([] ++ (d.take k).flatMap Al.A.enc) (by rfl) (ownsRow_gr hown9 (by exact gr_auto)) ⟨_, 0, none⟩ 1 1 [.int .i64 x.kd, .string x.nd, .int .i64 x.tm, .slice x.p x.n x.c] (by rfl) rfl (cells_new w9 #[.int .i64 x.kd, .string x.nd, .int .i64 x.tm, .slice x.p x.n x.c] 31) HX1.out (by unfold maxLen; omega) (by omega) (by have := Gr.size G9; first | omega | (simp; omega)) ?_; intro v10 w10 hown10 hgrow10; have G10 : Gr wc w10 := Gr.fresh (show Gr wc _ from G9.trans (by exact gr_auto)) (Nat.le_refl _) (ownsRow_gr hown9 (by exact gr_auto)) hgrow10)
            | (refine step_append_own _ (by rfl) _ _ 48 (by rfl) wc.heap.size 31 i1 (.agg #[.int .i64 0, .string ⟨#[]⟩, .int .i64 0, .slice none 0 0]) 4 56 Tryz.underlying48 KI.out KZ0.out KZ1.out KZ2.out rfl (by decide) v9 (0 + k) ([] ++ (d.take k).flatMap Al.A.enc) (by rfl) (ownsRow_gr hown9 (by exact gr_auto)) ⟨_, 0, none⟩ 1 1 [.int .i64 x.kd, .string x.nd, .int .i64 x.tm, .slice x.p x.n x.c] (by rfl) rfl (World.news_of_block hL9) HX1.out (by unfold maxLen; omega) (by omega) (by have := Gr.size G9; first | omega | (simp; omega)) ?_; intro v10 w10 hown10 hgrow10; have G10 : Gr wc w10 := Gr.fresh (show Gr wc _ from G9.trans (by exact gr_auto)) (Nat.le_refl _) (ownsRow_gr hown9 (by exact gr_auto)) hgrow10)
            | (refine step_append_own _ (by rfl) _ _ 48 (by rfl) wc.heap.size 31 i1 (.agg #[.int .i64 0, .string ⟨#[]⟩, .int .i64 0, .slice none 0 0]) 4 56 Tryz.underlying48 KI.out KZ0.out KZ1.out KZ2.out rfl (by decide) v10 (0 + k + 1) ([] ++ (d.take k).flatMap Al.A.enc ++ [.int .i64 x.kd, .string x.nd, .int .i64 x.tm, .slice x.p x.n x.c]) (by rfl) hown10 ⟨g, 0, none⟩ 0 0 [] (by rfl) rfl (fun j u hj => by simp at hj) (fun u hu => by simp at hu) (by unfold maxLen; omega) (by omega) (Gr.size G10) ?_; intro v11 w11 hown11 hgrow11; have G11 : Gr wc w11 := Gr.fresh G10 (Nat.le_refl _) hown10 hgrow11))
            all_goals (
              have HFo := Lib.hid (show Al.OwnA w11 w.heap.size v11 (d.take k ++ x :: d.drop k) from by
                refine ⟨?_, fun a ha => ?_⟩
                · have el : (d.take k ++ x :: d.drop k).length = 0 + k + 1 + (i - k) := by rw [List.length_append, List.length_cons, List.length_take, List.length_drop]; omega
                  have ef : (d.take k ++ x :: d.drop k).flatMap Al.A.enc = [] ++ (d.take k).flatMap Al.A.enc ++ [.int .i64 x.kd, .string x.nd, .int .i64 x.tm, .slice x.p x.n x.c] ++ (d.drop k).flatMap Al.A.enc := by
                    rw [List.flatMap_append, List.flatMap_cons, List.nil_append, List.append_assoc]; rfl
                  rw [el, ef]
                  exact ownsRow_base (by rw [show i - k = 0 by have := HKI.out; omega, show (d.drop k).flatMap Al.A.enc = [] by rw [List.drop_eq_nil_of_le (by have := HKI.out; omega)]; rfl, List.append_nil, Nat.add_zero]; first | exact hown11 | simpa using hown11) (Nat.le_trans hz (Gr.size hg2))
                · rcases List.mem_append.1 ha with q | q
                  · exact (HO2.out.own a (List.take_subset _ _ q)).gr G11
                  · rcases List.mem_cons.1 q with rfl | q
                    · exact HX2.out.gr G11
                    · exact (HO2.out.own a (List.drop_subset _ _ q)).gr G11)
              have g11 := gK.trans G11
              clear hown9 hgrow9 hown10 hgrow10 hown11 hgrow11 HO2 HX2 HN1 HN2 HL1 HL2 HX1 G9 G10
              go_wp2_with fail
              go_roundw
              case rel => exact ⟨i + 1, _, by omega, by go_num, HFo, HPn, HSn, g11⟩
              case measure => simp [intOf]; omega)
          · have hkc2 : ¬ (cap = k) := fun e => hkc e.symm
            have hkc3 : ¬ (cap - k = 0) := by omega
            have hbg : b < wc.heap.size := World.block_lt_of_cell? _ _ p0
            go_upto_region 8 with fail
            go_region_law (first
            | (refine step_append_own _ (by rfl) _ _ 48 (by rfl) wc.heap.size 31 i1 (.agg #[.int .i64 0, .string ⟨#[]⟩, .int .i64 0, .slice none 0 0]) 4 56 Tryz.underlying48 KI.out KZ0.out KZ1.out KZ2.out rfl (by decide) (.slice (some ⟨wc.heap.size, 0, none⟩) 0 0) 0 [] (by rfl) (own_empty (by first | exact World.alloc_heap_new wc _ | exact (heap_alloc_old _ _ (by simp)).trans (World.alloc_heap_new wc _) | (simp; done)) (by omega)) ⟨g, 0, none⟩ k _ ((d.take k).flatMap Al.A.enc) (by rfl) HL1.out (by exact HN1.out _ (by exact gr_auto)) (Al.enc_one _) (by unfold maxLen; omega) (by omega) (by first | (simp; done) | (simp; omega)) ?_; intro v9 w9 hown9 hgrow9; have G9 : Gr wc w9 := Gr.fresh (show Gr wc _ from (by exact gr_auto)) (Nat.le_refl _) (own_empty (k := 4) (by first | exact World.alloc_heap_new wc _ | exact (heap_alloc_old _ _ (by simp)).trans (World.alloc_heap_new wc _) | (simp; done)) (show wc.heap.size ≤ wc.heap.size by omega)) hgrow9; have e0 := Gr.at G9 p0; have e1 := Gr.at G9 p1; have e2 := Gr.at G9 p2; have e3 := Gr.at G9 p3; (try have hL9 : w9.heap[wc.heap.size + 1]? = some (.cells #[.int .i64 x.kd, .string x.nd, .int .i64 x.tm, .slice x.p x.n x.c] 31 (0, 0)) := (hgrow9.block _ (by first | (simp; done) | (simp; omega)) (by first | (simp [Value.ownBlock]; done) | (simp [Value.ownBlock]; omega) | (intro q; simp only [Value.ownBlock, Option.some.injEq] at q; omega))).trans (by first | exact (heap_alloc_old _ _ (by simp)).trans (World.alloc_heap_new wc _) | (rw [show wc.heap.size + 1 = (wc.alloc (.cells #[] 31)).heap.size by simp]; exact World.alloc_heap_new _ _))))
            | (refine step_append_own _ (by rfl) _ _ 48 (by rfl) wc.heap.size 31 i1 (.agg #[.int .i64 0, .string ⟨#[]⟩, .int .i64 0, .slice none 0 0]) 4 56 Tryz.underlying48 KI.out KZ0.out KZ1.out KZ2.out rfl (by decide) (.slice (some ⟨wc.heap.size + 1, 0, none⟩) 0 0) 0 [] (by rfl) (own_empty (by first | (rw [show wc.heap.size + 1 = (wc.alloc (.cells #[.int .i64 x.kd, .string x.nd, .int .i64 x.tm, .slice x.p x.n x.c] 31)).heap.size by simp]; exact World.alloc_heap_new _ _)) (by omega)) ⟨g, 0, none⟩ k _ ((d.take k).flatMap Al.A.enc) (by rfl) HL1.out (by exact HN1.out _ (by exact gr_auto)) (Al.enc_one _) (by unfold maxLen; omega) (by omega) (by first | (simp; done) | (simp; omega)) ?_; intro v9 w9 hown9 hgrow9; have G9 : Gr wc w9 := Gr.fresh (show Gr wc _ from (by exact gr_auto)) (Nat.le_refl _) (own_empty (k := 4) (by first | (rw [show wc.heap.size + 1 = (wc.alloc (.cells #[.int .i64 x.kd, .string x.nd, .int .i64 x.tm, .slice x.p x.n x.c] 31)).heap.size by simp]; exact World.alloc_heap_new _ _)) (show wc.heap.size ≤ wc.heap.size + 1 by omega)) hgrow9; have e0 := Gr.at G9 p0; have e1 := Gr.at G9 p1; have e2 := Gr.at G9 p2; have e3 := Gr.at G9 p3; (try have hL9 : w9.heap[wc.heap.size]? = some (.cells #[.int .i64 x.kd, .string x.nd, .int .i64 x.tm, .slice x.p x.n x.c] 31 (0, 0)) := (hgrow9.block _ (by first | (simp; done) | (simp; omega)) (by first | (simp [Value.ownBlock]; done) | (simp [Value.ownBlock]; omega) | (intro q; simp only [Value.ownBlock, Option.some.injEq] at q; omega))).trans (by first | exact (heap_alloc_old _ _ (by simp)).trans (World.alloc_heap_new wc _) | (rw [show wc.heap.size + 1 = (wc.alloc (.cells #[] 31)).heap.size by simp]; exact World.alloc_heap_new _ _))))
            | (refine step_append_own _ (by rfl) _ _ 48 (by rfl) wc.heap.size 31 i1 (.agg #[.int .i64 0, .string ⟨#[]⟩, .int .i64 0, .slice none 0 0]) 4 56 Tryz.underlying48 KI.out KZ0.out KZ1.out KZ2.out rfl (by decide) v9 (0 + k) ([] ++ (d.take k).flatMap Al.A.enc) (by rfl) (ownsRow_gr hown9 (by exact gr_auto)) ⟨_, 0, none⟩ 1 1 [.int .i64 x.kd, .string x.nd, .int .i64 x.tm, .slice x.p x.n x.c] (by rfl) rfl (cells_new w9 #[.int .i64 x.kd, .string x.nd, .int .i64 x.tm, .slice x.p x.n x.c] 31) HX1.out (by unfold maxLen; omega) (by omega) (by have := Gr.size G9; first | omega | (simp; omega)) ?_; intro v10 w10 hown10 hgrow10; have G10 : Gr wc w10 := Gr.fresh (show Gr wc _ from G9.trans (by exact gr_auto)) (Nat.le_refl _) (ownsRow_gr hown9 (by exact gr_auto)) hgrow10)
            | (refine step_append_own _ (by rfl) _ _ 48 (by rfl) wc.heap.size 31 i1 (.agg #[.int .i64 0, .string ⟨#[]⟩, .int .i64 0, .slice none 0 0]) 4 56 Tryz.underlying48 KI.out KZ0.out KZ1.out KZ2.out rfl (by decide) v9 (0 + k) ([] ++ (d.take k).flatMap Al.A.enc) (by rfl) (ownsRow_gr hown9 (by exact gr_auto)) ⟨_, 0, none⟩ 1 1 [.int .i64 x.kd, .string x.nd, .int .i64 x.tm, .slice x.p x.n x.c] (by rfl) rfl (World.news_of_block hL9) HX1.out (by unfold maxLen; omega) (by omega) (by have := Gr.size G9; first | omega | (simp; omega)) ?_; intro v10 w10 hown10 hgrow10; have G10 : Gr wc w10 := Gr.fresh (show Gr wc _ from G9.trans (by exact gr_auto)) (Nat.le_refl _) (ownsRow_gr hown9 (by exact gr_auto)) hgrow10)
            | (refine step_append_own _ (by rfl) _ _ 48 (by rfl) wc.heap.size 31 i1 (.agg #[.int .i64 0, .string ⟨#[]⟩, .int .i64 0, .slice none 0 0]) 4 56 Tryz.underlying48 KI.out KZ0.out KZ1.out KZ2.out rfl (by decide) v10 (0 + k + 1) ([] ++ (d.take k).flatMap Al.A.enc ++ [.int .i64 x.kd, .string x.nd, .int .i64 x.tm, .slice x.p x.n x.c]) (by rfl) hown10 ⟨g, k * 4, none⟩ (i - k) (cap - k) ((d.drop k).flatMap Al.A.enc) (by rfl) HL2.out (by exact HN2.out _ G10) (Al.enc_one _) (by unfold maxLen; omega) (by omega) (Gr.size G10) ?_; intro v11 w11 hown11 hgrow11; have G11 : Gr wc w11 := Gr.fresh G10 (Nat.le_refl _) hown10 hgrow11))
            all_goals (
              have HFo := Lib.hid (show Al.OwnA w11 w.heap.size v11 (d.take k ++ x :: d.drop k) from by
                refine ⟨?_, fun a ha => ?_⟩
                · have el : (d.take k ++ x :: d.drop k).length = 0 + k + 1 + (i - k) := by rw [List.length_append, List.length_cons, List.length_take, List.length_drop]; omega
                  have ef : (d.take k ++ x :: d.drop k).flatMap Al.A.enc = [] ++ (d.take k).flatMap Al.A.enc ++ [.int .i64 x.kd, .string x.nd, .int .i64 x.tm, .slice x.p x.n x.c] ++ (d.drop k).flatMap Al.A.enc := by
                    rw [List.flatMap_append, List.flatMap_cons, List.nil_append, List.append_assoc]; rfl
                  rw [el, ef]
                  exact ownsRow_base hown11 (Nat.le_trans hz (Gr.size hg2))
                · rcases List.mem_append.1 ha with q | q
                  · exact (HO2.out.own a (List.take_subset _ _ q)).gr G11
                  · rcases List.mem_cons.1 q with rfl | q
                    · exact HX2.out.gr G11
                    · exact (HO2.out.own a (List.drop_subset _ _ q)).gr G11)
              have g11 := gK.trans G11
              clear hown9 hgrow9 hown10 hgrow10 hown11 hgrow11 HO2 HX2 HN1 HN2 HL1 HL2 HX1 G9 G10
              go_wp2_with fail
              go_roundw
              case rel => exact ⟨i + 1, _, by omega, by go_num, HFo, HPn, HSn, g11⟩
              case measure => simp [intOf]; omega)
    · obtain rfl : n = i := by omega
      have hRL := HS.out _ (by have := HP.out; rw [← HLn.out, List.take_length] at this; exact this) HSd.out
      have HF := Lib.hid hRL
      clear HX HA HS HLg HP HSd hRL
      go_wp2_with fail
      go_ret
      exact ⟨_, d, rfl, HO.out, HF.out, hg⟩
end Go.Proofs.YtllkiadedaghoaaGreatDoor
