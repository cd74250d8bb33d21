import Derived.Test.YtbaahlofabmljaaDoorWdTextA
set_option linter.unusedVariables false
set_option linter.unusedSimpArgs false
namespace Go.Proofs.YtbaahlofabmljaaDoor
open Go.RowKit
theorem Wd.pos_word {q : Nat} (h : q ≠ 0) : (decide (0 < Wd.hi (q : Int)) = true) ∨ (decide (0 < Wd.hi (q : Int)) = false ∧ decide (0 < Wd.lo (q : Int)) = true) := by
  obtain ⟨a, b⟩ := Wd.words (n := (q : Int)) (by omega)
  by_cases hh : 0 < Wd.hi (q : Int)
  · left; exact decide_eq_true hh
  · right; exact ⟨decide_eq_false hh, decide_eq_true (by omega)⟩
/-- How many groups. -/
def Wd.cnt (N : Nat) : Nat := if N = 0 then 0 else if N < Dg.grp then 1 else if N < Dg.grp * Dg.grp then 2 else 3
theorem Wd.cnt_lt {N k : Nat} (hN : N ≤ 1329227995784915872903807060280344576) (h : N / Dg.grp ^ k ≠ 0) : k < Wd.cnt N := by
  have hp : 0 < Dg.grp := by decide
  have h1 : Dg.grp ^ k ≤ N := by
    rcases Nat.lt_or_ge N (Dg.grp ^ k) with q | q
    · exact absurd (Nat.div_eq_of_lt q) h
    · exact q
  unfold Wd.cnt
  have hg : Dg.grp = 1000000000000000000 := rfl
  have hgg : Dg.grp * Dg.grp = 1000000000000000000000000000000000000 := by decide
  match k, h1 with
  | 0, h1 => simp at h1; repeat' split
             all_goals omega
  | 1, h1 => rw [Nat.pow_one] at h1; repeat' split
             all_goals omega
  | 2, h1 => rw [Nat.pow_two] at h1; repeat' split
             all_goals omega
  | k + 3, h1 =>
    exfalso
    have : Dg.grp ^ 3 ≤ Dg.grp ^ (k + 3) := Nat.pow_le_pow_right hp (by omega)
    have e3 : Dg.grp ^ 3 = 1000000000000000000000000000000000000000000000000000000 := by decide
    omega
theorem Wd.cnt_ge {N k : Nat} (h : N / Dg.grp ^ k = 0) : Wd.cnt N ≤ k := by
  have hp : 0 < Dg.grp := by decide
  have h1 : N < Dg.grp ^ k := by
    rcases Nat.lt_or_ge N (Dg.grp ^ k) with q | q
    · exact q
    · have := Nat.div_pos q (Nat.pow_pos hp); omega
  have hg : Dg.grp = 1000000000000000000 := rfl
  unfold Wd.cnt
  have hgg : Dg.grp * Dg.grp = 1000000000000000000000000000000000000 := by decide
  match k, h1 with
  | 0, h1 => simp at h1; subst h1; simp
  | 1, h1 => rw [Nat.pow_one] at h1; repeat' split
             all_goals omega
  | 2, h1 => rw [Nat.pow_two] at h1; repeat' split
             all_goals omega
  | k + 3, h1 => repeat' split
                 all_goals omega
theorem Dg.tx_len (n k j : Nat) (h : n ≤ 1329227995784915872903807060280344576) : (Dg.tx n k j).length ≤ 37 := by
  unfold Dg.tx
  split
  · simp
  · rw [Lib.decDigits_length]
    refine Dg.nDigits_le (by omega) ?_
    have : (10 : Nat) ^ 37 = 10000000000000000000000000000000000000 := by decide
    have := Nat.div_le_self n (Dg.grp ^ j)
    omega
/-- The minus sign, written first. -/
theorem wbyte45 (wr : World) : Calls Tryd.prog 21 #[.pointer (some ⟨wr.heap.size, 0, none⟩), .int .u8 45] (wr.alloc (.cells #[.pointer none, .slice none 0 0] 54)) fun e w' => e = .returned .nilIface ∧ Hid (Lib.IsBuilder 54 5 wr.heap.size wr.heap.size (Lib.byteCells [45]) w') ∧ Below wr.heap.size (wr.alloc (.cells #[.pointer none, .slice none 0 0] 54)) w' :=
  wbyte_any wr.heap.size [] 45 _ (builder_new wr) (by simp) (by simp)
set_option maxRecDepth 100000 in
set_option maxHeartbeats 16000000 in
theorem text_any (h l : Int) (w : World) (hv : Wd.vld h l = true) (ht : Tab w) :
    Calls Tryd.prog 7 #[.agg #[.int .i64 h, .int .i64 l]] w fun e w' => e = .returned (.tuple #[.string ⟨(Wd.txt (Wd.val h l)).toArray⟩, .int .i64 0]) ∧ Gr w w' := by
  obtain ⟨x0, x1⟩ := Wd.val_bounds hv
  have HVT := Lib.hid (fun W => valid_true h l W hv)
  have HO := Lib.hid (fun W => value_v h l W hv)
  obtain ⟨z0, z1, -, -⟩ := Wd.wz
  obtain ⟨N, hN⟩ : ∃ N : Nat, Wd.mag (Wd.val h l) = (N : Int) := ⟨(Wd.mag (Wd.val h l)).toNat, by have := Wd.mag_nonneg (Wd.val h l); omega⟩
  have hNb : N ≤ 1329227995784915872903807060280344576 := by
    have : Wd.mag (Wd.val h l) ≤ 1329227995784915872903807060280344576 := by unfold Wd.mag; split <;> omega
    omega
  have e1 : Wd.hi (Wd.val h l) = Wd.hi (N : Int) := by rw [← hN, Wd.hi_mag]
  have e2 : Wd.lo (Wd.val h l) = Wd.lo (N : Int) := by rw [← hN, Wd.lo_mag]
  have hneg : Wd.neg (Wd.val h l) = decide (Wd.val h l < 0) := rfl
  rw [e1, e2, hneg] at HO
  have HT : Hid (Wd.txt (Wd.val h l) = (if Wd.val h l < 0 then [45] else []) ++ Lib.decDigits N) := Lib.hid (by unfold Wd.txt; rw [hN, Int.toNat_natCast])
  have HN0 : Hid (N = 0 → Wd.val h l = 0) := Lib.hid (fun e => Wd.mag_zero.1 (by rw [hN, e]; rfl))
  have HTAB := Lib.hid ht
  clear hv x0 x1 e1 e2 hneg hN ht
  generalize Wd.val h l = v at *
  obtain ⟨i0, hi, hz0, hz1, hz2⟩ := info_parts Tryd.infoU64
  have HI := Lib.hid hi; have HZ0 := Lib.hid hz0; have HZ1 := Lib.hid hz1; have HZ2 := Lib.hid hz2
  clear hi hz0 hz1 hz2
  have hK3 : Wd.cnt N ≤ 3 := by unfold Wd.cnt; split <;> (try omega); split <;> (try omega); split <;> omega
  have HKL := Lib.hid (fun k => Wd.cnt_lt (N := N) (k := k) hNb)
  have HKG := Lib.hid (fun k => Wd.cnt_ge (N := N) (k := k))
  generalize Wd.cnt N = K at *
  go_enter Tryd.func7, Tryd.ntmps7
  go_wp2_with (first | (go_at_call 11; refine (HVT.out _).mono ?_; rintro e w1 ⟨rfl, hb1⟩; obtain ⟨hc1, hf1⟩ := Gr.cells hb1; have hz1 := Gr.size hb1; (try simp at hz1); (try have hy1_0 : w.heap.size < w1.heap.size := by omega); (try have hy1_1 : w.heap.size + 1 < w1.heap.size := by omega); (try have hy1_2 : w.heap.size + 1 + 1 < w1.heap.size := by omega); (try have hy1_3 : w.heap.size + 1 + 1 + 1 < w1.heap.size := by omega); (try have hy1_4 : w.heap.size + 1 + 1 + 1 + 1 < w1.heap.size := by omega); (try have hy1_5 : w.heap.size + 1 + 1 + 1 + 1 + 1 < w1.heap.size := by omega)) | (go_at_call 18; refine (HO.out _).mono ?_; rintro e w2 ⟨rfl, hb2⟩; obtain ⟨hc2, hf2⟩ := Gr.cells hb2; have hz2 := Gr.size hb2; (try simp at hz2); (try have hy2_0 : w.heap.size < w2.heap.size := by omega); (try have hy2_1 : w.heap.size + 1 < w2.heap.size := by omega); (try have hy2_2 : w.heap.size + 1 + 1 < w2.heap.size := by omega); (try have hy2_3 : w.heap.size + 1 + 1 + 1 < w2.heap.size := by omega); (try have hy2_4 : w.heap.size + 1 + 1 + 1 + 1 < w2.heap.size := by omega); (try have hy2_5 : w.heap.size + 1 + 1 + 1 + 1 + 1 < w2.heap.size := by omega); (try have hy2_1_0 : w1.heap.size < w2.heap.size := by omega); (try have hy2_1_1 : w1.heap.size + 1 < w2.heap.size := by omega)))
  go_loopw [5] (fun s5 wr => ∃ k q : Nat, k ≤ K ∧ Hid (q = N / Dg.grp ^ k) ∧ q ≤ N ∧ Gr w wr ∧ w2.heap.size < wr.heap.size ∧ wr.cell? ⟨w2.heap.size, 0, none⟩ = some (.int .u64 (Wd.hi (q : Int))) ∧ wr.cell? ⟨w2.heap.size, 1, none⟩ = some (.int .u64 (Wd.lo (q : Int))) ∧ wr.cell? ⟨w2.heap.size, 2, none⟩ = some (.bool (decide (v < 0))) ∧ wr.frozen? ⟨w2.heap.size, 0, none⟩ = false ∧ wr.frozen? ⟨w2.heap.size, 1, none⟩ = false ∧ wr.ownsRow (w2.heap.size + 1) 42 1 s5 k (Wd.gs N k)) (fun s5 _ => 3 - lenOf s5)
  case atStart => exact ⟨0, N, by omega, Lib.hid (by simp), Nat.le_refl _, (by repeat' (first | (with_reducible exact Gr.refl _) | (with_reducible assumption) | (with_reducible refine Gr.alloc ?_ _) | (with_reducible refine Gr.drew ?_) | (with_reducible refine Gr.drewN ?_ _) | (with_reducible refine Gr.setCell ?_ ?_ _) | (with_reducible refine Gr.trans ?_ (by with_reducible assumption)) | go_size)), by simp, (by first | (simp [go_sem, *]; done) | ((try simp [go_sem, *]); refine World.cell?_setCell_same' _ _ _ ?_; simp [go_sem, *]; done)), (by first | (simp [go_sem, *]; done) | ((try simp [go_sem, *]); refine World.cell?_setCell_same' _ _ _ ?_; simp [go_sem, *]; done)), (by first | (simp [go_sem, *]; done) | ((try simp [go_sem, *]); refine World.cell?_setCell_same' _ _ _ ?_; simp [go_sem, *]; done)), (by first | (simp [go_sem, *]; done) | ((try simp [go_sem, *]); refine World.cell?_setCell_same' _ _ _ ?_; simp [go_sem, *]; done)), (by first | (simp [go_sem, *]; done) | ((try simp [go_sem, *]); refine World.cell?_setCell_same' _ _ _ ?_; simp [go_sem, *]; done)), ⟨rfl, Or.inl ⟨rfl, rfl⟩⟩⟩
  case round =>
    obtain ⟨k, q, hk, hq, hqN, hg, hsz, c0, c1, c2, f0, f1, hown⟩ := hrel
    have HOWN := Lib.hid hown
    have hlen := lenOf_own hown
    have HLEN := Lib.hid hlen
    clear hown hlen
    by_cases hq0 : q = 0
    · have hkK : k = K := by have := HKG.out k (by rw [← hq.out]; exact hq0); omega
      subst hkK hq0
      rw [show Wd.hi ((0 : Nat) : Int) = 0 from z0] at c0
      rw [show Wd.lo ((0 : Nat) : Int) = 0 from z1] at c1
      have HZ : Hid (N / Dg.grp ^ k = 0) := Lib.hid hq.out.symm
      by_cases hN1 : N = 0
      · have hk0 : k = 0 := by have := HKG.out 0 (by rw [hN1]; rfl); omega
        obtain ⟨A, cap, hu⟩ := own_form HOWN.out
        have hv0 := HN0.out hN1
        subst hk0 hu hv0 hN1
        have htx : Wd.txt 0 = [48] := by rw [HT.out]; rw [Lib.decDigits]; rfl
        have HTX := Lib.hid htx
        clear htx HT HN0
        go_wp2_with fail
        go_ret2
        exact ⟨by rw [HTX.out]; first | rfl | (simp; done), hg⟩
      · obtain ⟨M, hM⟩ : ∃ M, k = M + 1 := ⟨k - 1, by have := HKL.out 0 (by simpa using hN1); omega⟩
        subst hM
        have hM1 : ((M : Int) + 1 == 0) = false := by rw [beq_eq_false_iff_ne]; omega
        have HP1 : Hid (1 ≤ N / Dg.grp ^ (M + 1 - 1)) := by
          rw [Nat.add_sub_cancel]
          rcases Nat.eq_zero_or_pos (N / Dg.grp ^ M) with e | e
          · have := HKG.out M e; omega
          · exact e
        obtain ⟨g, cap, hu, hcap, hcells⟩ := row_of HOWN.out (by omega)
        have HC := Lib.hid hcells
        subst hu
        have HTX1 := Lib.hid (Dg.tx_all (n := N) (k := M + 1) (by omega))
        clear hcells HKG HKL HN0 hN1 HOWN HLEN f0 f1
        by_cases hv : v < 0
        · have tv : decide (v < 0) = true := decide_eq_true hv
          obtain ⟨sg, hsg⟩ : ∃ sg : List UInt8, sg = [45] := ⟨_, rfl⟩
          have hsl : sg.length ≤ 1 := by rw [hsg]; decide
          have HTX0 : Hid (Wd.txt v = sg ++ Dg.tx N (M + 1) 0) := Lib.hid (by rw [HTX1.out, HT.out, if_pos hv, hsg])
          rw [tv] at c2
          clear hv tv HT
          have HWB := Lib.hid (wbyte45 wr)
          go_wp2_with fail
          refine HWB.out.mono ?_
          rintro e w5 ⟨rfl, hB5', hb5⟩
          have HB0 : Hid (Lib.IsBuilder 54 5 wr.heap.size wr.heap.size (Lib.byteCells sg) w5) := Lib.hid (by rw [hsg]; exact hB5'.out)
          clear hsg
          have HG0 : Hid (Gr wr w5) := Below.trans (show Below wr.heap.size wr (wr.alloc (.cells #[.pointer none, .slice none 0 0] 54)) from Gr.alloc (Gr.refl _) _) hb5
          clear hB5' hb5
          go_wp2_with fail
          obtain ⟨wo, rfl⟩ : ∃ wo : World, wo = wr := ⟨_, rfl⟩
          refine name_world ?_
          intro W5 hW5
          have hB5 : Lib.IsBuilder 54 5 wo.heap.size wo.heap.size (Lib.byteCells sg) W5 := by rw [hW5]; exact HB0.out
          have hG5 : Gr wo W5 := by rw [hW5]; exact HG0.out
          have HB5 := Lib.hid hB5
          have hz5 : wo.heap.size < W5.heap.size := by rcases hB5 with ⟨-, u, hb, -⟩ | ⟨-, u, hb, -⟩ <;> exact (Array.getElem?_eq_some_iff.1 hb).1
          clear hW5 hB5 HB0 HG0
          go_loopw [10] (fun s10 wq => ((∃ i : Nat, i < M + 1 ∧ s10 = .int .i64 (i : Int) ∧ Hid (Lib.IsBuilder 54 5 wo.heap.size wo.heap.size (Lib.byteCells (sg ++ Dg.tx N (M + 1) (i + 1))) wq)) ∨ (s10 = .int .i64 (-1) ∧ Hid (Lib.IsBuilder 54 5 wo.heap.size wo.heap.size (Lib.byteCells (sg ++ Dg.tx N (M + 1) 0)) wq))) ∧ Gr wo wq) (fun s10 _ => (intOf s10 + 1).toNat)
          case atStart =>
            refine ⟨Or.inl ⟨M, by omega, rfl, ?_⟩, hG5⟩
            have e : Dg.tx N (M + 1) (M + 1) = [] := if_pos rfl
            rw [e, List.append_nil]; exact HB5
          case round =>
            obtain ⟨hrel, hgq⟩ := hrel
            have hzq := Gr.size hgq
            rcases hrel with ⟨i, hi, rfl, hB⟩ | ⟨rfl, hB⟩
            · have a0 := Gr.at hgq (HC.out i _ (Wd.gs_at hi))
              have hlt := Dg.gAt_lt N i
              have HTX := Lib.hid (Dg.tx_len N (M + 1) (i + 1) hNb)
              have hDl : (Lib.decDigits (Dg.gAt N i)).length ≤ 18 := by rw [Lib.decDigits_length]; exact Dg.nDigits_le (by omega) (by have h10 : (10 : Nat) ^ 18 = 1000000000000000000 := (by decide); omega)
              obtain ⟨S, hS, hSl⟩ : ∃ S : ByteArray, S = ⟨(Lib.decDigits (Dg.gAt N i)).toArray⟩ ∧ S.size = (Lib.decDigits (Dg.gAt N i)).length := ⟨_, rfl, by show (Lib.decDigits (Dg.gAt N i)).toArray.size = _; simp⟩
              have hSd : S.data.toList = Lib.decDigits (Dg.gAt N i) := by rw [hS]
              have hS18 : S.size ≤ 18 := by omega
              have HF : Hid (∀ W : World, Gr wo W → Calls Tryd.prog 22 #[.int .u64 (Dg.gAt N i : Int), .int .i64 10] W fun e w' => e = .returned (.string S) ∧ Gr W w') := fun W hW => by
                rw [hS]; exact fmtu_any (Dg.gAt N i) W (by omega) (HTAB.out.gr (Gr.trans hg hW))
              have HTOP : Hid (i + 1 = M + 1 → Dg.tx N (M + 1) i = S.data.toList) := fun e => by rw [hSd]; exact Dg.tx_top e HZ.out
              have HSTEP : Hid (i + 1 < M + 1 → Dg.tx N (M + 1) i = Dg.tx N (M + 1) (i + 1) ++ (List.replicate (18 - S.size) 48 ++ S.data.toList)) := fun e => by rw [hSd, hSl]; exact Dg.tx_step e HP1.out
              clear hS hSl hSd hDl hlt
              go_wp2_with fail
              refine (HF.out _ hgq).mono ?_
              rintro e w6 ⟨rfl, hb6⟩
              have HB6 := Lib.hid (builder_gr hB.out hb6)
              have hg6 : Gr wo w6 := Gr.trans hgq hb6
              have hz6 := Gr.size hg6
              clear hb6 a0
              by_cases hiM : i < M
              · have u1 : decide ((i : Int) < (M : Int)) = true := decide_eq_true (by omega)
                have u1' : decide (i < M) = true := decide_eq_true hiM
                have hst := HSTEP.out (by omega)
                have HST := Lib.hid hst
                obtain ⟨Z, hZ⟩ : ∃ Z : ByteArray, Z = ⟨(List.replicate (18 - S.size) 48).toArray⟩ := ⟨_, rfl⟩
                have hZl : Z.size ≤ 18 := by rw [hZ]; show (List.replicate (18 - S.size) (48 : UInt8)).toArray.size ≤ _; simp
                have HZD : Hid (Z.data.toList = List.replicate (18 - S.size) 48) := Lib.hid (by rw [hZ])
                have HR : Hid (∀ W : World, Calls Tryd.prog 24 #[.string ⟨#[48]⟩, .int .i64 (18 - (S.size : Int))] W fun e w' => e = .returned (.string Z) ∧ Gr W w') := fun W => by
                  have := repeat0_any (18 - (S.size : Int)) W (by omega) (by omega)
                  rw [show (18 - (S.size : Int)).toNat = 18 - S.size by omega, ← hZ] at this
                  exact this
                clear hst hZ
                go_wp2_with fail
                refine (HR.out _).mono ?_
                rintro e w7 ⟨rfl, hb7⟩
                have HB7 := Lib.hid (builder_gr HB6.out hb7)
                have hg7 : Gr wo w7 := Gr.trans hg6 hb7
                have hz7 := Gr.size hg7
                clear hb7
                go_wp2_with fail
                refine (wstr_any wo.heap.size _ Z _ HB7.out (by rw [List.length_append]; have := HTX.out; omega) (by omega) hz7).mono ?_
                rintro e w8 ⟨rfl, hB8, hb8⟩
                have hg8 : Gr wo w8 := Below.trans hg7 hb8
                have hz8 := Gr.size hg8
                clear hb8
                go_wp2_with fail
                refine (wstr_any wo.heap.size _ S _ hB8.out (by rw [List.length_append, List.length_append]; have := HTX.out; have hzz : Z.data.toList.length = Z.size := (by simp); omega) (by omega) hz8).mono ?_
                rintro e w9 ⟨rfl, hB9, hb9⟩
                have hg9 : Gr wo w9 := Below.trans hg8 hb9
                have HB9 : Hid (Lib.IsBuilder 54 5 wo.heap.size wo.heap.size (Lib.byteCells (sg ++ Dg.tx N (M + 1) i)) w9) := Lib.hid (by
                  have := hB9.out
                  rw [HZD.out] at this
                  rw [HST.out]
                  simpa [List.append_assoc] using this)
                clear hb9 hB9
                go_wp2_with fail
                go_roundw
                case rel =>
                  refine ⟨?_, hg9⟩
                  rcases Nat.eq_zero_or_pos i with e | e
                  · subst e; exact Or.inr ⟨by first | rfl | go_num, HB9⟩
                  · exact Or.inl ⟨i - 1, by omega, by rw [show ((i - 1 : Nat) : Int) = (i : Int) - 1 by omega], by rw [show i - 1 + 1 = i by omega]; exact HB9⟩
                case measure => first | (simp [intOf]; done) | (simp [intOf]; omega)
              · obtain rfl : i = M := by omega
                have hst := HTOP.out rfl
                have HST := Lib.hid hst
                clear hst
                go_wp2_with fail
                refine (wstr_any wo.heap.size _ S _ HB6.out (by rw [List.length_append]; have := HTX.out; omega) (by omega) hz6).mono ?_
                rintro e w9 ⟨rfl, hB9, hb9⟩
                have hg9 : Gr wo w9 := Below.trans hg6 hb9
                have HB9 : Hid (Lib.IsBuilder 54 5 wo.heap.size wo.heap.size (Lib.byteCells (sg ++ Dg.tx N (i + 1) i)) w9) := Lib.hid (by
                  have := hB9.out
                  have e : Dg.tx N (i + 1) (i + 1) = [] := if_pos rfl
                  rw [e, List.append_nil] at this
                  rw [HST.out]
                  exact this)
                clear hb9 hB9
                go_wp2_with fail
                go_roundw
                case rel =>
                  refine ⟨?_, hg9⟩
                  rcases Nat.eq_zero_or_pos i with e | e
                  · subst e; exact Or.inr ⟨by first | rfl | go_num, HB9⟩
                  · exact Or.inl ⟨i - 1, by omega, by rw [show ((i - 1 : Nat) : Int) = (i : Int) - 1 by omega], by rw [show i - 1 + 1 = i by omega]; exact HB9⟩
                case measure => first | (simp [intOf]; done) | (simp [intOf]; omega)
            · have HS := Lib.hid (Tryd.Builder_String_any wo.heap.size wo.heap.size _ _ hB.out hzq)
              clear hB
              go_wp2_with fail
              refine HS.out.mono ?_
              rintro e w6 ⟨rfl, hb6⟩
              have hg6 : Gr wo w6 := Below.trans hgq hb6
              go_wp2
              go_ret2
              exact ⟨by rw [HTX0.out]; rfl, Gr.trans hg hg6⟩
        · have tv : decide (v < 0) = false := decide_eq_false hv
          obtain ⟨sg, hsg⟩ : ∃ sg : List UInt8, sg = [] := ⟨_, rfl⟩
          have hsl : sg.length ≤ 1 := by rw [hsg]; decide
          have HTX0 : Hid (Wd.txt v = sg ++ Dg.tx N (M + 1) 0) := Lib.hid (by rw [HTX1.out, HT.out, if_neg hv, hsg])
          rw [tv] at c2
          clear hv tv HT
          have HB0 : Hid (Lib.IsBuilder 54 5 wr.heap.size wr.heap.size (Lib.byteCells sg) (wr.alloc (.cells #[.pointer none, .slice none 0 0] 54))) := Lib.hid (by rw [hsg]; exact builder_new wr)
          clear hsg
          have HG0 : Hid (Gr wr (wr.alloc (.cells #[.pointer none, .slice none 0 0] 54))) := Gr.alloc (Gr.refl _) _
          go_wp2_with fail
          obtain ⟨wo, rfl⟩ : ∃ wo : World, wo = wr := ⟨_, rfl⟩
          refine name_world ?_
          intro W5 hW5
          have hB5 : Lib.IsBuilder 54 5 wo.heap.size wo.heap.size (Lib.byteCells sg) W5 := by rw [hW5]; exact HB0.out
          have hG5 : Gr wo W5 := by rw [hW5]; exact HG0.out
          have HB5 := Lib.hid hB5
          have hz5 : wo.heap.size < W5.heap.size := by rcases hB5 with ⟨-, u, hb, -⟩ | ⟨-, u, hb, -⟩ <;> exact (Array.getElem?_eq_some_iff.1 hb).1
          clear hW5 hB5 HB0 HG0
          go_loopw [10] (fun s10 wq => ((∃ i : Nat, i < M + 1 ∧ s10 = .int .i64 (i : Int) ∧ Hid (Lib.IsBuilder 54 5 wo.heap.size wo.heap.size (Lib.byteCells (sg ++ Dg.tx N (M + 1) (i + 1))) wq)) ∨ (s10 = .int .i64 (-1) ∧ Hid (Lib.IsBuilder 54 5 wo.heap.size wo.heap.size (Lib.byteCells (sg ++ Dg.tx N (M + 1) 0)) wq))) ∧ Gr wo wq) (fun s10 _ => (intOf s10 + 1).toNat)
          case atStart =>
            refine ⟨Or.inl ⟨M, by omega, rfl, ?_⟩, hG5⟩
            have e : Dg.tx N (M + 1) (M + 1) = [] := if_pos rfl
            rw [e, List.append_nil]; exact HB5
          case round =>
            obtain ⟨hrel, hgq⟩ := hrel
            have hzq := Gr.size hgq
            rcases hrel with ⟨i, hi, rfl, hB⟩ | ⟨rfl, hB⟩
            · have a0 := Gr.at hgq (HC.out i _ (Wd.gs_at hi))
              have hlt := Dg.gAt_lt N i
              have HTX := Lib.hid (Dg.tx_len N (M + 1) (i + 1) hNb)
              have hDl : (Lib.decDigits (Dg.gAt N i)).length ≤ 18 := by rw [Lib.decDigits_length]; exact Dg.nDigits_le (by omega) (by have h10 : (10 : Nat) ^ 18 = 1000000000000000000 := (by decide); omega)
              obtain ⟨S, hS, hSl⟩ : ∃ S : ByteArray, S = ⟨(Lib.decDigits (Dg.gAt N i)).toArray⟩ ∧ S.size = (Lib.decDigits (Dg.gAt N i)).length := ⟨_, rfl, by show (Lib.decDigits (Dg.gAt N i)).toArray.size = _; simp⟩
              have hSd : S.data.toList = Lib.decDigits (Dg.gAt N i) := by rw [hS]
              have hS18 : S.size ≤ 18 := by omega
              have HF : Hid (∀ W : World, Gr wo W → Calls Tryd.prog 22 #[.int .u64 (Dg.gAt N i : Int), .int .i64 10] W fun e w' => e = .returned (.string S) ∧ Gr W w') := fun W hW => by
                rw [hS]; exact fmtu_any (Dg.gAt N i) W (by omega) (HTAB.out.gr (Gr.trans hg hW))
              have HTOP : Hid (i + 1 = M + 1 → Dg.tx N (M + 1) i = S.data.toList) := fun e => by rw [hSd]; exact Dg.tx_top e HZ.out
              have HSTEP : Hid (i + 1 < M + 1 → Dg.tx N (M + 1) i = Dg.tx N (M + 1) (i + 1) ++ (List.replicate (18 - S.size) 48 ++ S.data.toList)) := fun e => by rw [hSd, hSl]; exact Dg.tx_step e HP1.out
              clear hS hSl hSd hDl hlt
              go_wp2_with fail
              refine (HF.out _ hgq).mono ?_
              rintro e w6 ⟨rfl, hb6⟩
              have HB6 := Lib.hid (builder_gr hB.out hb6)
              have hg6 : Gr wo w6 := Gr.trans hgq hb6
              have hz6 := Gr.size hg6
              clear hb6 a0
              by_cases hiM : i < M
              · have u1 : decide ((i : Int) < (M : Int)) = true := decide_eq_true (by omega)
                have u1' : decide (i < M) = true := decide_eq_true hiM
                have hst := HSTEP.out (by omega)
                have HST := Lib.hid hst
                obtain ⟨Z, hZ⟩ : ∃ Z : ByteArray, Z = ⟨(List.replicate (18 - S.size) 48).toArray⟩ := ⟨_, rfl⟩
                have hZl : Z.size ≤ 18 := by rw [hZ]; show (List.replicate (18 - S.size) (48 : UInt8)).toArray.size ≤ _; simp
                have HZD : Hid (Z.data.toList = List.replicate (18 - S.size) 48) := Lib.hid (by rw [hZ])
                have HR : Hid (∀ W : World, Calls Tryd.prog 24 #[.string ⟨#[48]⟩, .int .i64 (18 - (S.size : Int))] W fun e w' => e = .returned (.string Z) ∧ Gr W w') := fun W => by
                  have := repeat0_any (18 - (S.size : Int)) W (by omega) (by omega)
                  rw [show (18 - (S.size : Int)).toNat = 18 - S.size by omega, ← hZ] at this
                  exact this
                clear hst hZ
                go_wp2_with fail
                refine (HR.out _).mono ?_
                rintro e w7 ⟨rfl, hb7⟩
                have HB7 := Lib.hid (builder_gr HB6.out hb7)
                have hg7 : Gr wo w7 := Gr.trans hg6 hb7
                have hz7 := Gr.size hg7
                clear hb7
                go_wp2_with fail
                refine (wstr_any wo.heap.size _ Z _ HB7.out (by rw [List.length_append]; have := HTX.out; omega) (by omega) hz7).mono ?_
                rintro e w8 ⟨rfl, hB8, hb8⟩
                have hg8 : Gr wo w8 := Below.trans hg7 hb8
                have hz8 := Gr.size hg8
                clear hb8
                go_wp2_with fail
                refine (wstr_any wo.heap.size _ S _ hB8.out (by rw [List.length_append, List.length_append]; have := HTX.out; have hzz : Z.data.toList.length = Z.size := (by simp); omega) (by omega) hz8).mono ?_
                rintro e w9 ⟨rfl, hB9, hb9⟩
                have hg9 : Gr wo w9 := Below.trans hg8 hb9
                have HB9 : Hid (Lib.IsBuilder 54 5 wo.heap.size wo.heap.size (Lib.byteCells (sg ++ Dg.tx N (M + 1) i)) w9) := Lib.hid (by
                  have := hB9.out
                  rw [HZD.out] at this
                  rw [HST.out]
                  simpa [List.append_assoc] using this)
                clear hb9 hB9
                go_wp2_with fail
                go_roundw
                case rel =>
                  refine ⟨?_, hg9⟩
                  rcases Nat.eq_zero_or_pos i with e | e
                  · subst e; exact Or.inr ⟨by first | rfl | go_num, HB9⟩
                  · exact Or.inl ⟨i - 1, by omega, by rw [show ((i - 1 : Nat) : Int) = (i : Int) - 1 by omega], by rw [show i - 1 + 1 = i by omega]; exact HB9⟩
                case measure => first | (simp [intOf]; done) | (simp [intOf]; omega)
              · obtain rfl : i = M := by omega
                have hst := HTOP.out rfl
                have HST := Lib.hid hst
                clear hst
                go_wp2_with fail
                refine (wstr_any wo.heap.size _ S _ HB6.out (by rw [List.length_append]; have := HTX.out; omega) (by omega) hz6).mono ?_
                rintro e w9 ⟨rfl, hB9, hb9⟩
                have hg9 : Gr wo w9 := Below.trans hg6 hb9
                have HB9 : Hid (Lib.IsBuilder 54 5 wo.heap.size wo.heap.size (Lib.byteCells (sg ++ Dg.tx N (i + 1) i)) w9) := Lib.hid (by
                  have := hB9.out
                  have e : Dg.tx N (i + 1) (i + 1) = [] := if_pos rfl
                  rw [e, List.append_nil] at this
                  rw [HST.out]
                  exact this)
                clear hb9 hB9
                go_wp2_with fail
                go_roundw
                case rel =>
                  refine ⟨?_, hg9⟩
                  rcases Nat.eq_zero_or_pos i with e | e
                  · subst e; exact Or.inr ⟨by first | rfl | go_num, HB9⟩
                  · exact Or.inl ⟨i - 1, by omega, by rw [show ((i - 1 : Nat) : Int) = (i : Int) - 1 by omega], by rw [show i - 1 + 1 = i by omega]; exact HB9⟩
                case measure => first | (simp [intOf]; done) | (simp [intOf]; omega)
            · have HS := Lib.hid (Tryd.Builder_String_any wo.heap.size wo.heap.size _ _ hB.out hzq)
              clear hB
              go_wp2_with fail
              refine HS.out.mono ?_
              rintro e w6 ⟨rfl, hb6⟩
              have hg6 : Gr wo w6 := Below.trans hgq hb6
              go_wp2
              go_ret2
              exact ⟨by rw [HTX0.out]; rfl, Gr.trans hg hg6⟩
    · have hkK : k < K := HKL.out k (by rw [← hq.out]; exact hq0)
      obtain ⟨r1, r2, r3, r4, r5, r6, r7, r8⟩ := Wd.grp_round (q := q) (by omega)
      have hgat : ((q % Dg.grp : Nat) : Int) = (Dg.gAt N k : Int) := by unfold Dg.gAt; rw [← hq.out]
      rw [hgat] at r4
      have hqq : Hid (q / Dg.grp = N / Dg.grp ^ (k + 1)) := Lib.hid (by rw [hq.out, Nat.div_div_eq_div_mul, Nat.pow_succ])
      have hq10 : q / Dg.grp ≤ N := Nat.le_trans (Nat.div_le_self _ _) hqN
      have HD : Hid (∀ W : World, Calls Tryd.prog 20 #[.int .u64 (Wd.hi (q : Int)), .int .u64 (Wd.lo (q : Int)), .int .u64 1000000000000000000] W fun e w' => e = .returned (.tuple #[.int .u64 (Wd.lo ((q / Dg.grp : Nat) : Int)), .int .u64 (Dg.gAt N k : Int)]) ∧ Gr W w') := fun W => by
        have := div64_all (Wd.hi (q : Int)) (Wd.lo (q : Int)) 1000000000000000000 W r5 r7 r8 r6 (by omega)
        rw [r3, r4] at this
        exact this
      clear r3 r4 hgat
      rcases Wd.pos_word hq0 with u1 | ⟨u1, u2⟩
      all_goals
        clear hq0
        go_wp2_with fail
        refine (HD.out _).mono ?_
        rintro e w3 ⟨rfl, hb3⟩
        have d0 := Gr.at hb3 c0
        have d1 := Gr.at hb3 c1
        have d2 := Gr.at hb3 c2
        have e0 := Gr.free hb3 c0 f0
        have e1 := Gr.free hb3 c1 f1
        have hz2 := Gr.size hb3
        have hz3 : w2.heap.size < w3.heap.size := by omega
        have HO3 := Lib.hid (ownsRow_gr HOWN.out hb3)
        have hg3 : Gr w w3 := Gr.trans hg hb3
        clear hb3 c0 c1 c2 f0 f1
        go_wp2_with (at_builtin; refine wpList_append_own _ rfl _ _ 49 rfl (w2.heap.size + 1) 42 i0 (.int .u64 0) 1 8 Tryd.underlying49 HI.out HZ0.out HZ1.out HZ2.out rfl (by decide) _ k (Wd.gs N k) rfl (ownsRow_gr HO3.out (by exact (by repeat' (first | (with_reducible exact Gr.refl _) | (with_reducible assumption) | (with_reducible refine Gr.alloc ?_ _) | (with_reducible refine Gr.drew ?_) | (with_reducible refine Gr.drewN ?_ _) | (with_reducible refine Gr.setCell ?_ ?_ _) | (with_reducible refine Gr.trans ?_ (by with_reducible assumption)) | go_size)))) ⟨w3.heap.size, 0, none⟩ 1 1 [.int .u64 (Dg.gAt N k : Int)] rfl rfl ?c1 ?c2 ?c3 ?c4 ?c5 ?_)
        case c1 =>
          intro j u hj
          match j, hj with
          | 0, hj => simp at hj; subst hj; first | (simp [Addr.add, go_sem]; done) | (simp only [Addr.add]; rw [World.cell?_alloc_at _ _ _ _ (by simp)]; rfl)
        case c2 => simp [Value.oneCell']
        case c3 => unfold maxLen; omega
        case c4 => omega
        case c5 => simp; omega
        intro v' w4 hown' hgrow _
        have nb : ∀ o, some (⟨w2.heap.size, o, none⟩ : Addr).block ≠ u5.ownBlock := fun o e => absurd (HOWN.out.lt _ e.symm).1 (by show ¬ (w2.heap.size + 1 ≤ w2.heap.size); omega)
        have hg4 : Gr w w4 := Gr.own (by exact (by repeat' (first | (with_reducible exact Gr.refl _) | (with_reducible assumption) | (with_reducible refine Gr.alloc ?_ _) | (with_reducible refine Gr.drew ?_) | (with_reducible refine Gr.drewN ?_ _) | (with_reducible refine Gr.setCell ?_ ?_ _) | (with_reducible refine Gr.trans ?_ (by with_reducible assumption)) | go_size))) (by omega) (ownsRow_gr HO3.out (by exact (by repeat' (first | (with_reducible exact Gr.refl _) | (with_reducible assumption) | (with_reducible refine Gr.alloc ?_ _) | (with_reducible refine Gr.drew ?_) | (with_reducible refine Gr.drewN ?_ _) | (with_reducible refine Gr.setCell ?_ ?_ _) | (with_reducible refine Gr.trans ?_ (by with_reducible assumption)) | go_size)))) hgrow
        have gW := fun {o : Nat} {u : Value} (h : w3.cell? ⟨w2.heap.size, o, none⟩ = some u) => Gr.at (show Gr w3 (w3.alloc (.cells #[.int .u64 (Dg.gAt N k : Int)] 42)) by exact (by repeat' (first | (with_reducible exact Gr.refl _) | (with_reducible assumption) | (with_reducible refine Gr.alloc ?_ _) | (with_reducible refine Gr.drew ?_) | (with_reducible refine Gr.drewN ?_ _) | (with_reducible refine Gr.setCell ?_ ?_ _) | (with_reducible refine Gr.trans ?_ (by with_reducible assumption)) | go_size))) h
        have gF := fun {o : Nat} {u : Value} (h : w3.cell? ⟨w2.heap.size, o, none⟩ = some u) (h' : w3.frozen? ⟨w2.heap.size, o, none⟩ = false) => Gr.free (show Gr w3 (w3.alloc (.cells #[.int .u64 (Dg.gAt N k : Int)] 42)) by exact (by repeat' (first | (with_reducible exact Gr.refl _) | (with_reducible assumption) | (with_reducible refine Gr.alloc ?_ _) | (with_reducible refine Gr.drew ?_) | (with_reducible refine Gr.drewN ?_ _) | (with_reducible refine Gr.setCell ?_ ?_ _) | (with_reducible refine Gr.trans ?_ (by with_reducible assumption)) | go_size))) h h'
        have p0 := hgrow.cell (gW d0) (nb 0)
        have p1 := hgrow.cell (gW d1) (nb 1)
        have p2 := hgrow.cell (gW d2) (nb 2)
        have q0 := (hgrow.frozen_far ⟨w2.heap.size, 0, none⟩ (by simp; omega) (nb 0)).trans (gF d0 e0)
        have q1 := (hgrow.frozen_far ⟨w2.heap.size, 1, none⟩ (by simp; omega) (nb 1)).trans (gF d1 e1)
        have hz5 : w2.heap.size < w4.heap.size := World.block_lt_of_cell? w4 _ p0
        have HO4 := Lib.hid hown'
        clear gW gF hown' hgrow d0 d1 d2 e0 e1 nb hg3
        go_wp2_with fail
        go_roundw
        case rel => exact ⟨k + 1, q / Dg.grp, by omega, hqq, hq10, (by repeat' (first | (with_reducible exact Gr.refl _) | (with_reducible assumption) | (with_reducible refine Gr.alloc ?_ _) | (with_reducible refine Gr.drew ?_) | (with_reducible refine Gr.drewN ?_ _) | (with_reducible refine Gr.setCell ?_ ?_ _) | (with_reducible refine Gr.trans ?_ (by with_reducible assumption)) | go_size)), by simp; omega, (by first | (simp [go_sem, *]; done) | ((try simp [go_sem, *]); refine World.cell?_setCell_same' _ _ _ ?_; simp [go_sem, *]; done)), (by first | (simp [go_sem, *]; done) | ((try simp [go_sem, *]); refine World.cell?_setCell_same' _ _ _ ?_; simp [go_sem, *]; done)), (by first | (simp [go_sem, *]; done) | ((try simp [go_sem, *]); refine World.cell?_setCell_same' _ _ _ ?_; simp [go_sem, *]; done)), (by first | (simp [go_sem, *]; done) | ((try simp [go_sem, *]); refine World.cell?_setCell_same' _ _ _ ?_; simp [go_sem, *]; done)), (by first | (simp [go_sem, *]; done) | ((try simp [go_sem, *]); refine World.cell?_setCell_same' _ _ _ ?_; simp [go_sem, *]; done)), by rw [Wd.gs_succ]; exact ownsRow_set (ownsRow_set HO4.out (by simp) _) (by simp) _⟩
        case measure => rw [HLEN.out]; simp [lenOf_own HO4.out]; omega
end Go.Proofs.YtbaahlofabmljaaDoor
