/-
  Alarms: the reference's Without. (Printed by mkamo.py.)
-/
import Derived.Test.YtllkiadedaghoaaGreatCm37

set_option linter.unusedVariables false
set_option linter.unusedSimpArgs false
namespace Go.Proofs.YtllkiadedaghoaaGreat
open Go.RowKit Go.Shelf Go.Sort
attribute [local go_sem ↓] Go.wp_at_zero Go.wp_at_succ
/-- A row of messages and an error. -/
def Al.RetMe (l : List Al.M) (k : Int) (w : World) (e : Ending) (w' : World) : Prop := ∃ s : Al.SlM, e = .returned (.tuple #[.slice s.A s.n s.c, .int .i64 k]) ∧ s.At w' ∧ s.lst = l ∧ Gr w w'
def Al.RetWi (b : Bool) (X : List Al.M) (w : World) (e : Ending) (w' : World) : Prop := if b = true then Al.RetMe [] 10 w e w' else Al.RetMe X 0 w e w'
def Al.SlM.nil : Al.SlM := ⟨none, 0, 0, 0, 0, fun _ => default⟩
theorem Al.SlM.nil_at (w : World) : Al.SlM.nil.At w := ⟨fun h => absurd h (Nat.lt_irrefl _), Nat.le_refl _, Nat.zero_le _, fun i hi => absurd hi (Nat.not_lt_zero _)⟩
set_option maxRecDepth 100000 in
set_option maxHeartbeats 4000000 in
theorem Without_range (s : Al.SlM) (d : Ba.SlI) (w : World) (h : s.At w) (hd : d.At w) (hsn : s.n ≤ 10000) (hr : Al.rgB d s.n = false) :
    Calls Tryz.prog 24 #[.slice s.A s.n s.c, .slice d.A d.n d.c] w (Al.RetMe [] 2 w) := by
  obtain ⟨i0, k0, k1, k2, k3⟩ := info_parts infoB
  have BI := Lib.hid k0; have BZ0 := Lib.hid k1; have BZ1 := Lib.hid k2; have BZ2 := Lib.hid k3
  clear k0 k1 k2 k3
  have DA := Lib.hid hd.hA; have DX := Lib.hid hd.hX
  have hdc := hd.hc; have hdb := hd.hb
  have hsc := h.hc; have hsb := h.hb
  have HRG := Lib.hid (show ¬ ∀ i, i < d.n → (0 ≤ d.X i ∧ d.X i < s.n) from fun hall => by
    have : Ba.allB (fun i => !(decide (d.X i < 0) || decide ((s.n : Int) ≤ d.X i))) d.n = true := Ba.allB_iff.2 fun i hi => by
      have := hall i hi
      simp; omega
    rw [← Ba.any_not] at this
    unfold Al.rgB at hr
    simp at hr this
    rw [hr] at this; cases this)
  clear h hd hr
  cases s with | mk sA sn sc sb so D =>
  cases d with | mk dA dn dc db do_ X =>
  simp only [] at *
  go_enter Tryz.func24, Tryz.ntmps24
  go_wp2_with (at_make; refine wpList_make_full _ rfl _ _ _ rfl w.heap.size 4 i0 (.bool false) 1 Tryz.underlying89 BI.out BZ0.out BZ1.out .i64 .i64 sn sn sn rfl rfl rfl rfl ?d1 ?d2 ?d3 ?_)
  case d1 => rw [BZ2.out]; omega
  case d2 => unfold maxLen; omega
  case d3 => simp
  intro w3 hown hgrow
  obtain ⟨R, hR⟩ : ∃ R, R = w.heap.size := ⟨_, rfl⟩
  have hrow := Lib.hid (show Row w3 R sn (fun _ => .bool false) from by rw [hR]; exact made_row hown)
  have g3 : Gr w w3 := Gr.own (Gr.refl _) (Nat.le_refl _) (n := 0) (e := 4) (size := 1) (xs := []) (v := .slice none 0 0) ⟨rfl, Or.inl ⟨rfl, rfl⟩⟩ hgrow
  have hR0 : w.heap.size ≤ R := Nat.le_of_eq hR.symm
  clear hown hgrow
  rw [← hR]
  clear hR
  go_wp2_with fail
  go_loop [7] (fun q => ∃ k : Nat, k ≤ dn ∧ q = .int .i64 (k : Int) ∧ Hid (∀ i, i < k → (0 ≤ X i ∧ X i < sn))) (fun q => dn - (intOf q).toNat)
  case atStart => exact ⟨0, Nat.zero_le _, rfl, Lib.hid fun i hi => absurd hi (Nat.not_lt_zero _)⟩
  case round =>
    obtain ⟨k, hk, rfl, HQ⟩ := hrel
    by_cases hlt : k < dn
    · obtain rfl := DA.out (by omega)
      have a0 := Gr.at g3 (DX.out k hlt).1
      have ib0 : (0 : Int) ≤ (k : Int) := by omega
      have ib1 : (k : Int) < (dn : Int) := by omega
      have HS := Lib.hid (fun (h : 0 ≤ X k ∧ X k < sn) i (hi : i < k + 1) => show 0 ≤ X i ∧ X i < sn from by
        by_cases e : i = k
        · subst e; exact h
        · exact HQ.out i (by omega))
      clear HQ HRG DX DA
      generalize X k = x at *
      cases t0 : decide (x < 0)
      · cases t1 : decide ((sn : Int) ≤ x)
        · simp only [decide_eq_false_iff_not] at t0 t1
          have HP := Lib.hid (HS.out (by omega))
          clear HS
          go_wp2_with fail
          go_round
          case rel => exact ⟨k + 1, by omega, by go_num, HP⟩
          case measure => simp [intOf]; omega
        · simp only [decide_eq_false_iff_not, decide_eq_true_eq] at t0 t1
          clear HS
          go_wp2_with fail
          go_ret2
          exact ⟨Al.SlM.nil, rfl, Al.SlM.nil_at _, by simp [Al.SlM.lst, Al.SlM.nil], g3⟩
      · simp only [decide_eq_true_eq] at t0
        clear HS
        go_wp2_with fail
        go_ret2
        exact ⟨Al.SlM.nil, rfl, Al.SlM.nil_at _, by simp [Al.SlM.lst, Al.SlM.nil], g3⟩
    · obtain rfl : dn = k := by omega
      exact absurd HQ.out HRG.out
set_option maxRecDepth 100000 in
set_option maxHeartbeats 4000000 in
theorem Without_at (s : Al.SlM) (d : Ba.SlI) (w : World) (h : s.At w) (hd : d.At w) (hsn : s.n ≤ 10000) (hr : Al.rgB d s.n = true) :
    Calls Tryz.prog 24 #[.slice s.A s.n s.c, .slice d.A d.n d.c] w (Al.RetWi (Al.dupB d.X d.n) (s.left d) w) := by
  obtain ⟨i0, k0, k1, k2, k3⟩ := info_parts infoB
  have BI := Lib.hid k0; have BZ0 := Lib.hid k1; have BZ1 := Lib.hid k2; have BZ2 := Lib.hid k3
  clear k0 k1 k2 k3
  have DA := Lib.hid hd.hA; have DX := Lib.hid hd.hX
  have hdc := hd.hc; have hdb := hd.hb
  have hsc := h.hc; have hsb := h.hb
  have HLe := Lib.hid (show s.left d = Al.leftL s.D (Al.gonB d.X d.n) s.n from rfl)
  have HRg := Lib.hid (fun i (hi : i < d.n) => Al.rg_at hr hi)
  have HA := Lib.hid h.hA; have HX := Lib.hid h.hD
  have HDup := Lib.hid (fun k (hk : k < d.n) (h : Al.dupB d.X (k + 1) = true) => Al.dupB_stop h hk)
  clear h hd hr
  generalize s.left d = LF at *
  cases s with | mk sA sn sc sb so D =>
  cases d with | mk dA dn dc db do_ X =>
  simp only [] at *
  obtain ⟨i1, k0, k1, k2, k3⟩ := info_parts infoM
  have KI := Lib.hid k0; have KZ0 := Lib.hid k1; have KZ1 := Lib.hid k2; have KZ2 := Lib.hid k3
  clear k0 k1 k2 k3
  go_enter Tryz.func24, Tryz.ntmps24
  go_wp2_with (at_make; refine wpList_make_full _ rfl _ _ _ rfl w.heap.size 4 i0 (.bool false) 1 Tryz.underlying89 BI.out BZ0.out BZ1.out .i64 .i64 sn sn sn rfl rfl rfl rfl ?d1 ?d2 ?d3 ?_)
  case d1 => rw [BZ2.out]; omega
  case d2 => unfold maxLen; omega
  case d3 => simp
  intro w3 hown hgrow
  obtain ⟨R, hR⟩ : ∃ R, R = w.heap.size := ⟨_, rfl⟩
  have hrow := Lib.hid (show Row w3 R sn (fun _ => .bool false) from by rw [hR]; exact made_row hown)
  have g3 : Gr w w3 := Gr.own (Gr.refl _) (Nat.le_refl _) (n := 0) (e := 4) (size := 1) (xs := []) (v := .slice none 0 0) ⟨rfl, Or.inl ⟨rfl, rfl⟩⟩ hgrow
  have hR0 : w.heap.size ≤ R := Nat.le_of_eq hR.symm
  clear hown hgrow
  rw [← hR]
  clear hR
  go_wp2_with fail
  go_loop [7] (fun q => ∃ k : Nat, k ≤ dn ∧ q = .int .i64 (k : Int)) (fun q => dn - (intOf q).toNat)
  case atStart => exact ⟨0, Nat.zero_le _, rfl⟩
  case round =>
    obtain ⟨k, hk, rfl⟩ := hrel
    by_cases hlt : k < dn
    · obtain rfl := DA.out (by omega)
      have a0 := Gr.at g3 (DX.out k hlt).1
      have ib0 : (0 : Int) ≤ (k : Int) := by omega
      have ib1 : (k : Int) < (dn : Int) := by omega
      obtain ⟨x0, x1⟩ := HRg.out k hlt
      clear DX DA HRg HLe HA HX HDup
      generalize X k = x at *
      go_wp2_with fail
      go_round
      case rel => exact ⟨k + 1, by omega, by go_num⟩
      case measure => simp [intOf]; omega
    · obtain rfl : dn = k := by omega
      go_wp2_with fail
      go_loopw [8] (fun q wr => ∃ k : Nat, k ≤ dn ∧ q = .int .i64 (k : Int) ∧ Hid (Al.dupB X k = false) ∧ GrX R w3 wr ∧ Hid (Row wr R sn (fun j => .bool (Al.gonB X k j)))) (fun q _ => dn - (intOf q).toNat)
      case atStart => exact ⟨0, Nat.zero_le _, rfl, Lib.hid rfl, GrX.refl _ _, Lib.hid hrow.out⟩
      case round =>
        clear hrow
        obtain ⟨k, hk, rfl, HQ, hg, HRw⟩ := hrel
        have hgr : Gr w wr := GrX.gr g3 (by omega) hg
        by_cases hlt : k < dn
        · obtain rfl := DA.out (by omega)
          have a0 := Gr.at hgr (DX.out k hlt).1
          have ib0 : (0 : Int) ≤ (k : Int) := by omega
          have ib1 : (k : Int) < (dn : Int) := by omega
          have hx := HRg.out k hlt
          have HDk := Lib.hid (fun h => HDup.out k hlt h)
          have HD1 := Lib.hid (show Al.dupB X (k + 1) = Al.gonB X k (X k).toNat from by rw [Al.dupB, HQ.out, Bool.false_or])
          obtain ⟨x, hxx⟩ : ∃ x : Nat, X k = (x : Int) := ⟨(X k).toNat, by omega⟩
          have HG1 := Lib.hid (fun j => show Al.gonB X (k + 1) j = (Al.gonB X k j || (X k == (j : Int))) from rfl)
          rw [hxx] at a0 hx HD1 HG1
          rw [Int.toNat_natCast] at HD1
          clear hxx HLe HRg HA HX DX HDup HQ
          have hxn : x < sn := by omega
          have jb0 : (0 : Int) ≤ (x : Int) := by omega
          have jb1 : (x : Int) < (sn : Int) := by omega
          obtain ⟨r1, r2⟩ := HRw.out x hxn
          simp only [] at r1
          cases hgb : Al.gonB X k x
          · rw [hgb] at r1 HD1
            go_wp2_with fail
            go_roundw
            case rel => exact ⟨k + 1, by omega, by go_num, HD1, GrX.setCell hg rfl _, Lib.hid (Row.set HRw.out (by show Value.bool _ = _; rw [HG1.out]; simp) (fun j _ hj => by show Value.bool _ = Value.bool _; rw [HG1.out, beq_eq_false_iff_ne.2 (show ((x : Int) : Int) ≠ (j : Int) by omega), Bool.or_false]))⟩
            case measure => simp [intOf]; omega
          · rw [hgb] at r1 HD1
            have hdd := HDk.out HD1.out
            have HDD := Lib.hid hdd
            clear HDk HD1 HG1 HRw hgb hdd
            go_wp2_with fail
            go_ret2
            unfold Al.RetWi
            rw [HDD.out, if_pos rfl]
            exact ⟨Al.SlM.nil, rfl, Al.SlM.nil_at _, by simp [Al.SlM.lst, Al.SlM.nil], hgr⟩
        · obtain rfl : dn = k := by omega
          clear HRg DX HDup hg g3 DA
          go_wp2_with fail
          refine name_world ?_
          intro W5 hW5
          obtain rfl : W5 = wr := hW5
          go_loopw [9, 10] (fun v x wr => ∃ i : Nat, i ≤ sn ∧ x = .int .i64 (i : Int) ∧ Hid (wr.ownsRow W5.heap.size 57 5 v (Al.leftL D (Al.gonB X dn) i).length (Al.flat (Al.leftL D (Al.gonB X dn) i))) ∧ Gr W5 wr) (fun _ x _ => sn - (intOf x).toNat)
          case atStart => exact ⟨0, Nat.zero_le _, rfl, Lib.hid (World.ownsRow_nil _ _ _ _), Gr.refl _⟩
          case round =>
            obtain ⟨i, hi, rfl, HO, hg2⟩ := hrel
            have gw := hgr.trans hg2
            by_cases hlt : i < sn
            · obtain rfl := HA.out (by omega)
              obtain ⟨hcl, -⟩ := HX.out i hlt
              obtain ⟨a0, a1, a2, a3, a4⟩ := hcl.gr gw
              have ib0 : (0 : Int) ≤ (i : Int) := by omega
              have ib1 : (i : Int) < (sn : Int) := by omega
              have bN : sb < wr.heap.size := World.block_lt_of_cell? _ _ a0
              obtain ⟨r1, r2⟩ := (HRw.out.gr hg2) i hlt
              simp only [] at r1
              clear r2
              have HN := Lib.hid (show Al.leftL D (Al.gonB X dn) (i + 1) = Al.leftL D (Al.gonB X dn) i ++ (if Al.gonB X dn i = true then [] else [D i]) from rfl)
              have hll : (Al.leftL D (Al.gonB X dn) i).length ≤ i := by have := (Al.leftL_sub D (Al.gonB X dn) i).length_le; simpa using this
              have hz := Gr.size hg2
              clear HX HA hcl HLe HRw
              generalize D i = m at *
              generalize Al.leftL D (Al.gonB X dn) i = LO at *
              have bRR : R < wr.heap.size := World.block_lt_of_cell? _ _ r1
              cases hgb : Al.gonB X dn i
              · rw [hgb] at r1 HN
                simp only [Bool.false_eq_true, if_false] at HN
                go_wp2_with (at_builtin; refine wpList_append_own _ rfl _ _ 22 rfl W5.heap.size 57 i1 (.agg #[.string ⟨#[]⟩, .int .i64 0, .int .i64 0, .int .i64 0, .int .i64 0]) 5 48 Tryz.underlying22 KI.out KZ0.out KZ1.out KZ2.out rfl (by decide) _ _ _ rfl (ownsRow_gr HO.out (by exact gr_auto)) ⟨wr.heap.size, 0, none⟩ 1 1 [.string m.nd, .int .i64 m.nu, .int .i64 m.tm, .int .i64 m.ar, .int .i64 m.lv] rfl rfl (by intro p u hp; rcases p with _ | _ | _ | _ | _ | p <;> simp at hp <;> (try subst hp) <;> first | (simp [Addr.add, go_sem]; done) | (simp [Addr.add]; done)) (by intro u hu; simp at hu; rcases hu with rfl | rfl | rfl | rfl | rfl <;> rfl) (by unfold maxLen; omega) (by omega) (by simp; omega) ?_)
                intro v' w9 hown' hgrow hnil
                have HP := Lib.hid (show w9.ownsRow W5.heap.size 57 5 v' (Al.leftL D (Al.gonB X dn) (i + 1)).length (Al.flat (Al.leftL D (Al.gonB X dn) (i + 1))) from by rw [HN.out, List.length_append, Al.flat_snoc]; exact hown')
                have g9 : Gr W5 w9 := Gr.own (hg2.alloc (Obj.cells #[.string m.nd, .int .i64 m.nu, .int .i64 m.tm, .int .i64 m.ar, .int .i64 m.lv] 57)) (Nat.le_refl _) (ownsRow_gr HO.out (Gr.alloc (Gr.refl wr) _)) hgrow
                clear HO hown' hgrow hnil HN hgb
                go_wp2_with fail
                go_roundw
                case rel => exact ⟨i + 1, by omega, by go_num, HP, g9⟩
                case measure => simp [intOf]; omega
              · rw [hgb] at r1 HN
                simp only [if_true, List.append_nil] at HN
                have HP := Lib.hid (show wr.ownsRow W5.heap.size 57 5 _ (Al.leftL D (Al.gonB X dn) (i + 1)).length (Al.flat (Al.leftL D (Al.gonB X dn) (i + 1))) from by rw [HN.out]; exact HO.out)
                have g9 : Gr W5 wr := hg2
                clear HO HN hgb
                go_wp2_with fail
                go_roundw
                case rel => exact ⟨i + 1, by omega, by go_num, HP, g9⟩
                case measure => simp [intOf]; omega
            · obtain rfl : sn = i := by omega
              obtain ⟨s', rfl, hs1, hs2, -, -⟩ := Al.ownM_sl HO.out (fun m hm => by
                have := (Al.leftL_sub D (Al.gonB X dn) sn).subset hm
                obtain ⟨j, hj, rfl⟩ := List.mem_map.1 this
                exact (HX.out j (List.mem_range.1 hj)).2)
              have HS1 := Lib.hid hs1; have HS2 := Lib.hid (hs2.trans HLe.out.symm)
              clear HX HA HLe HRw HO hs1 hs2
              go_wp2_with fail
              go_ret2
              unfold Al.RetWi
              rw [HQ.out, if_neg (by decide)]
              exact ⟨s', rfl, HS1.out, HS2.out, gw⟩
end Go.Proofs.YtllkiadedaghoaaGreat
