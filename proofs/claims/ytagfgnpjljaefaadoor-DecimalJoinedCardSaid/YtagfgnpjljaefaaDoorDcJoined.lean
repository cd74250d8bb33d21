import Derived.Test.YtagfgnpjljaefaaDoorDcJoinB
set_option linter.unusedVariables false
set_option linter.unusedSimpArgs false
namespace Go.Proofs.YtagfgnpjljaefaaDoor
open Go.RowKit
theorem Tryd.infoStr : (Tryd.prog.info? 9).map (fun i => (i.zero, i.size, i.bytes)) = some (some (.string ⟨#[]⟩), 1, 16) := by kernel_rfl
/-- The texts that are written for the first tokens. -/
def jTexts (ts : List (Int × List UInt8 × Int × Int)) (i : Nat) : List Value := (ts.take i).map fun x => Value.string ⟨(Dc.wr x.1 x.2.1).toArray⟩
theorem jTexts_succ {ts : List (Int × List UInt8 × Int × Int)} {i : Nat} {x : Int × List UInt8 × Int × Int} (h : ts[i]? = some x) : jTexts ts (i + 1) = jTexts ts i ++ [Value.string ⟨(Dc.wr x.1 x.2.1).toArray⟩] := by
  obtain ⟨hl, e⟩ := List.getElem?_eq_some_iff.1 h
  unfold jTexts
  rw [List.take_succ_eq_append_getElem hl, List.map_append, e]; rfl
theorem join_len (ts : List (Int × List UInt8 × Int × Int)) : (Dc.jn (ts.map fun x => (x.1, x.2.1))).length ≤ Dc.sumT ts + 2 * ts.length := by
  have := Dc.jn_len (ts.map fun x => (x.1, x.2.1))
  rw [List.length_map, List.map_map] at this
  exact this
/-- strings.Join of the texts. -/
theorem join_any (g cap n : Nat) (ts : List (Int × List UInt8 × Int × Int)) (w : World) (hn : ts.length = n) (h0 : 0 < n) (hcap : n ≤ cap) (hc : ∀ j u, (jTexts ts n)[j]? = some u → w.cell? ⟨g, j, none⟩ = some u) (hs : Dc.sumT ts ≤ 1000) (hb : n ≤ 1001) :
    Calls Tryd.prog 24 #[.slice (some ⟨g, 0, none⟩) n cap, .string ⟨#[32]⟩] w fun e w' => e = .returned (.string ⟨(Dc.jn (ts.map fun x => (x.1, x.2.1))).toArray⟩) ∧ Gr w w' := by
  subst hn
  have hl := join_len ts
  have hj := Dc.jn_join (ts.map fun x => (x.1, x.2.1))
  obtain ⟨xs, hxs⟩ : ∃ xs : List ByteArray, xs = ts.map fun x => (⟨(Dc.wr x.1 x.2.1).toArray⟩ : ByteArray) := ⟨_, rfl⟩
  have hd : xs.map (·.data.toList) = (ts.map fun x => (x.1, x.2.1)).map fun x => Dc.wr x.1 x.2 := by
    rw [hxs, List.map_map, List.map_map]; rfl
  have hx : xs.length = ts.length := by rw [hxs, List.length_map]
  have hcells : ∀ (j : Nat) x, xs[j]? = some x → w.cell? ⟨g, 0 + j, none⟩ = some (.string x) := by
    intro j x hj
    rw [Nat.zero_add]
    refine hc j _ ?_
    unfold jTexts
    rw [List.take_length]
    rw [hxs, List.getElem?_map] at hj
    obtain ⟨y, hy, e⟩ := Option.map_eq_some_iff.1 hj
    rw [List.getElem?_map, hy, ← e]; rfl
  obtain ⟨u, hu⟩ : ∃ u, xs[0]? = some u := ⟨_, List.getElem?_eq_getElem (by omega)⟩
  have hlt := World.block_lt_of_cell? w _ (hcells 0 u hu)
  have := Tryd.strings_Join g 0 cap xs ⟨#[32]⟩ w hcells hlt (by omega) (by omega) (by rw [hd]; show (Lib.join _ [32]).length ≤ _; rw [← hj]; omega)
  rw [hx, hd] at this
  have e2 : (⟨#[32]⟩ : ByteArray).data.toList = [32] := rfl
  rw [e2, ← hj] at this
  exact this
set_option maxRecDepth 100000 in
set_option maxHeartbeats 4000000 in
theorem djoined_yes (s : ByteArray) (w : World) (hs : s.size ≤ 1000) (ht : Tab w) (hmx : ∃ m, w.cell? ⟨0, 0, none⟩ = some (.int .i64 m)) (cs : List Value) (ts : List (Int × List UInt8 × Int × Int)) (N : Nat) (hR : Dc.tokens s.data.toList = .inl cs) (hL : Dc.TokL cs ts) (hN : ts.length = N + 1) (hN2 : N ≤ 1000) (hsum : Dc.sumT ts ≤ 1000)
    (hlast : ∃ t a b, ts[N]? = some (5, t, a, b)) (hgood : Dc.GoodL (ts.map fun x => (x.1, x.2.1))) (hst : ∀ (i : Nat) (x : Int × List UInt8 × Int × Int), ts[i]? = some x → Dc.Stands (Dc.sp [] s.data.toList) x) (hah : ∀ (i : Nat) (x y : Int × List UInt8 × Int × Int), ts[i]? = some x → ts[i + 1]? = some y → Dc.Ahead x y) :
    Calls Tryd.prog 8 #[.string s] w fun e w' => e = .returned (.bool true) ∧ Gr w w' := by
  have HW := Lib.hid (fun W (hg : Gr w W) => awake_any W (ht.gr hg))
  have t0 : decide ((1000 : Int) < (s.size : Int)) = false := decide_eq_false (by omega)
  have HT := Lib.hid (tok_yes s (by omega) hR (hN ▸ hL.row) (by omega))
  have HSP := Lib.hid (fun W (hg : Gr w W) => split_any s W hs (by obtain ⟨m, hm⟩ := hmx; exact ⟨m, Gr.at hg hm⟩))
  have HL := Lib.hid hL
  have HST := Lib.hid hst; have HAH := Lib.hid hah
  have HLA := Lib.hid hlast
  have HLN := Lib.hid hN
  obtain ⟨L, hLL⟩ : ∃ L, (Dc.sp [] s.data.toList).length = L := ⟨_, rfl⟩
  have hLb : L ≤ 1001 := by have := (Dc.sp_len s.data.toList []).1; have hl : s.data.toList.length = s.size := by simp
                            omega
  have HLL := Lib.hid hLL
  -- what is joined
  obtain ⟨cs', ts', hR', hL', hkt⟩ := Dc.go_jn hgood (Dc.jn (ts.map fun x => (x.1, x.2.1))).length 1 1 [] [] (Nat.le_refl _) .nil
  rw [List.nil_append] at hL'
  have hlen' : ts'.length = N + 1 := by have := congrArg List.length hkt; rw [List.length_map, List.length_map] at this; omega
  have hjl := join_len ts
  obtain ⟨J, hJ⟩ : ∃ J : ByteArray, J = ⟨(Dc.jn (ts.map fun x => (x.1, x.2.1))).toArray⟩ := ⟨_, rfl⟩
  have hJs : J.size ≤ 262144 := by rw [hJ]; show (Dc.jn (ts.map fun x => (x.1, x.2.1))).toArray.size ≤ _; simp only [List.size_toArray]; omega
  have HU := Lib.hid (tok_yes J hJs (cs := cs') (n := N + 1) (by rw [hJ]; exact hR') (hlen' ▸ hL'.row) (by omega))
  have HJ := Lib.hid (fun g cap W hcap hc => join_any g cap (N + 1) ts W hN (by omega) hcap hc hsum (by omega))
  rw [← hJ] at HJ
  have HE := Lib.hid (fun g g' cap cap' W => eqfunc_any g g' cap cap' (N + 1) cs cs' ts ts' W hL hL' hN hkt.symm (by omega))
  obtain ⟨i0, hi, hz0, hz1, hz2⟩ := info_parts Tryd.infoStr
  have HI := Lib.hid hi; have HZ0 := Lib.hid hz0; have HZ1 := Lib.hid hz1; have HZ2 := Lib.hid hz2
  clear hi hz0 hz1 hz2 ht hmx hR hL hN hsum hlast hgood hst hah hR' hL' hkt hlen' hjl hJ hJs hLL
  go_enter Tryd.func8, Tryd.ntmps8
  go_wp2_with fail; refine (HW.out _ (by repeat' (first | (with_reducible exact Gr.refl _) | (with_reducible assumption) | (with_reducible refine Gr.alloc ?_ _) | (with_reducible refine Gr.drew ?_) | (with_reducible refine Gr.drewN ?_ _) | (with_reducible refine Gr.setCell ?_ ?_ _) | (with_reducible refine Gr.trans ?_ (by with_reducible assumption)) | go_size))).mono ?_; rintro e w1 ⟨rfl, hb1⟩; obtain ⟨hc1, hf1⟩ := Gr.cells hb1; have hz1 := Gr.size hb1; (try simp at hz1); (try have hy1_0 : w.heap.size < w1.heap.size := by omega); (try have hy1_1 : w.heap.size + 1 < w1.heap.size := by omega); (try have hy1_2 : w.heap.size + 1 + 1 < w1.heap.size := by omega); (try have hy1_3 : w.heap.size + 1 + 1 + 1 < w1.heap.size := by omega); (try have hy1_4 : w.heap.size + 1 + 1 + 1 + 1 < w1.heap.size := by omega); (try have hy1_5 : w.heap.size + 1 + 1 + 1 + 1 + 1 < w1.heap.size := by omega)
  go_wp2_with fail
  refine (HT.out _).mono ?_
  rintro e w2 ⟨g, cap, rfl, hr2, hb2⟩
  obtain ⟨hc2, hf2⟩ := Gr.cells hb2; have hz2 := Gr.size hb2; (try simp at hz2); (try have hy2_0 : w.heap.size < w2.heap.size := by omega); (try have hy2_1 : w.heap.size + 1 < w2.heap.size := by omega); (try have hy2_2 : w.heap.size + 1 + 1 < w2.heap.size := by omega); (try have hy2_3 : w.heap.size + 1 + 1 + 1 < w2.heap.size := by omega); (try have hy2_4 : w.heap.size + 1 + 1 + 1 + 1 < w2.heap.size := by omega); (try have hy2_5 : w.heap.size + 1 + 1 + 1 + 1 + 1 < w2.heap.size := by omega); (try have hy2_1_0 : w1.heap.size < w2.heap.size := by omega); (try have hy2_1_1 : w1.heap.size + 1 < w2.heap.size := by omega)
  have hlast : w2.cell? ⟨g, N * 4, none⟩ = some (.int .i64 5) := by
    obtain ⟨t, a, b, hx⟩ := HLA.out
    exact hr2.out _ _ (HL.out.get N _ hx).1
  have hgl : g < w2.heap.size := World.block_lt_of_cell? w2 _ hlast
  have hgne : g ≠ w2.heap.size := by omega
  have hgne' : w2.heap.size ≠ g := by omega
  go_wp2_with fail
  refine (HSP.out _ (by repeat' (first | (with_reducible exact Gr.refl _) | (with_reducible assumption) | (with_reducible refine Gr.alloc ?_ _) | (with_reducible refine Gr.drew ?_) | (with_reducible refine Gr.drewN ?_ _) | (with_reducible refine Gr.setCell ?_ ?_ _) | (with_reducible refine Gr.trans ?_ (by with_reducible assumption)) | go_size))).mono ?_
  rintro e w3 ⟨rfl, hr3, hb3⟩
  rw [HLL.out]
  have HTK : Hid (∀ i, i < N + 1 → ∃ (k : Int) (t line : ByteArray) (p q : Nat), JTok w3 g (w2.heap.size + 1) i L k t line p q ∧ (∀ j, i = j + 1 → JPrev w3 g j p q) ∧ jTexts ts (i + 1) = jTexts ts i ++ [Value.string (if k = 4 then ⟨#[10]⟩ else t)]) := by
    intro i hi
    obtain ⟨x, hx⟩ : ∃ x, ts[i]? = some x := ⟨_, List.getElem?_eq_getElem (by have := HLN.out; omega)⟩
    have hc := fun j u (h : cs[j]? = some u) => Gr.at (w1 := w3) (by exact (by repeat' (first | (with_reducible exact Gr.refl _) | (with_reducible assumption) | (with_reducible refine Gr.alloc ?_ _) | (with_reducible refine Gr.drew ?_) | (with_reducible refine Gr.drewN ?_ _) | (with_reducible refine Gr.setCell ?_ ?_ _) | (with_reducible refine Gr.trans ?_ (by with_reducible assumption)) | go_size))) (hr2.out j u h)
    have hl := fun i line (h : (Dc.sp [] s.data.toList)[i]? = some line) => hr3.out i line h
    obtain ⟨line, p, q, hp, hq, hj⟩ := jtok_of hs HL.out HST.out hc (G := w2.heap.size + 1) (by simpa using hl) i x hx
    rw [HLL.out] at hj
    refine ⟨_, _, line, p, q, hj, fun j e => ?_, ?_⟩
    · subst e; exact jprev_of hs HL.out HST.out HAH.out hc j x hx p q hp hq
    · rw [jTexts_succ hx]
      congr 2
      unfold Dc.wr
      split <;> rfl
  obtain ⟨hc3, hf3⟩ := Gr.cells hb3; have hz3 := Gr.size hb3; (try simp at hz3); (try have hy3_0 : w.heap.size < w3.heap.size := by omega); (try have hy3_1 : w.heap.size + 1 < w3.heap.size := by omega); (try have hy3_2 : w.heap.size + 1 + 1 < w3.heap.size := by omega); (try have hy3_3 : w.heap.size + 1 + 1 + 1 < w3.heap.size := by omega); (try have hy3_4 : w.heap.size + 1 + 1 + 1 + 1 < w3.heap.size := by omega); (try have hy3_5 : w.heap.size + 1 + 1 + 1 + 1 + 1 < w3.heap.size := by omega); (try have hy3_1_0 : w1.heap.size < w3.heap.size := by omega); (try have hy3_1_1 : w1.heap.size + 1 < w3.heap.size := by omega); (try have hy3_2_0 : w2.heap.size < w3.heap.size := by omega); (try have hy3_2_1 : w2.heap.size + 1 < w3.heap.size := by omega)
  clear hlast
  go_wp2_with fail
  go_loopw [7, 47] (fun s7 s47 wr => ∃ (i : Nat), i ≤ N + 1 ∧ s47 = .int .i64 (i : Int) ∧ Gr w3 wr ∧ wr.ownsRow w3.heap.size 9 1 s7 i (jTexts ts i)) (fun _ s47 _ => N + 1 - (intOf s47).toNat)
  case atStart => exact ⟨0, by omega, rfl, Gr.refl _, ⟨rfl, Or.inl ⟨rfl, rfl⟩⟩⟩
  case round =>
    obtain ⟨i, hi, rfl, hg, hown⟩ := hrel
    have HOWN := Lib.hid hown
    clear hown
    by_cases hlt : i < N + 1
    · obtain ⟨k, t, line, p, q, ⟨⟨a0, a1, a2, a3⟩, b0, hpL, hql, hl1, hpre⟩, hprev, hnext⟩ := HTK.out i hlt
      have HNX := Lib.hid hnext
      have HPV := Lib.hid hprev
      have gz0 := Gr.size hg
      have gz : g < wr.heap.size := by omega
      have gz2 : w2.heap.size + 1 < w3.heap.size := World.block_lt_of_cell? w3 ⟨w2.heap.size + 1, p, none⟩ b0
      have gz1 : w2.heap.size + 1 < wr.heap.size := by omega
      have ne0 : g ≠ wr.heap.size := by omega
      have ne1 : w2.heap.size + 1 ≠ wr.heap.size := by omega
      have a0 := Gr.at hg a0; have a1 := Gr.at hg a1; have a2 := Gr.at hg a2; have a3 := Gr.at hg a3; have b0 := Gr.at hg b0
      have HP : Hid (∀ W, Calls Tryd.prog 23 #[.string (line.extract q line.size), .string t] W fun e w' => e = .returned (.bool true) ∧ W = w') := fun W => by
        refine (Tryd.strings_HasPrefix (line.extract q line.size) t W).mono fun e w' ⟨he, hw⟩ => ⟨?_, by first | exact hw | exact hw.symm⟩
        rw [he, data_cut, hpre]
      have f1 : decide ((p : Int) + 1 < 1) = false := decide_eq_false (by omega)
      have f2 : decide ((L : Int) < (p : Int) + 1) = false := decide_eq_false (by omega)
      have f3 : decide ((q : Int) + 1 < 1) = false := decide_eq_false (by omega)
      have f4 : decide ((line.size : Int) + 1 < (q : Int) + 1) = false := decide_eq_false (by omega)
      clear hprev hnext hpre
      rcases Nat.eq_zero_or_pos i with i0' | i0'
      · subst i0'
        have f0 : decide ((0 : Int) < ((0 : Nat) : Int)) = false := by decide
        go_wp2_with fail
        go_quiet (fail)
        go_wp2_with fail
        have wb0 : (0 : Int) ≤ (q : Int) := by omega
        have wb1 : (q : Int) ≤ (line.size : Int) := by omega
        have wb2 : ((q : Int)).toNat = q := by omega
        have wv1 : IntKind.i64.wrap ((line.size : Int) + 1) = (line.size : Int) + 1 := IntWalk.i64_in _ (by omega)
        have wv2 : IntKind.i64.wrap ((q : Int) + 1 - 1) = (q : Int) := by rw [Int.add_sub_cancel]; exact IntWalk.i64_in _ (by omega)
        have wv3 : IntKind.i64.wrap (q : Int) = (q : Int) := IntWalk.i64_in _ (by omega)
        go_quiet ((go_at_call 23; first | exact quiet_eq (HP.out _) | exact quiet_add_left (HP.out _)))
        clear wv1 wv2 wv3 wb0 wb1 wb2
        by_cases k4 : k = 4
        · have t4 : (k == 4) = true := by rw [beq_iff_eq]; exact k4
          rw [if_pos k4] at HNX
          clear k4
          go_wp2_with (at_builtin; refine wpList_append_own _ rfl _ _ 47 rfl w3.heap.size 9 i0 _ 1 16 Tryd.underlying47 HI.out HZ0.out HZ1.out HZ2.out rfl (by decide) _ (0) (jTexts ts (0)) rfl (ownsRow_gr HOWN.out (by exact (by repeat' (first | (with_reducible exact Gr.refl _) | (with_reducible assumption) | (with_reducible refine Gr.alloc ?_ _) | (with_reducible refine Gr.drew ?_) | (with_reducible refine Gr.drewN ?_ _) | (with_reducible refine Gr.setCell ?_ ?_ _) | (with_reducible refine Gr.trans ?_ (by with_reducible assumption)) | go_size)))) ⟨wr.heap.size + 1, 0, none⟩ 1 1 [.string ⟨#[10]⟩] rfl rfl ?c1 ?c2 ?c3 ?c4 ?c5 ?_)
          case c1 =>
            intro j' u hj
            match j', hj with
            | 0, hj => simp at hj; subst hj; first | (simp [Addr.add, go_sem]; done) | (simp only [Addr.add]; rw [World.cell?_alloc_at _ _ _ _ (by simp)]; rfl)
          case c2 => simp [Value.oneCell']
          case c3 => unfold maxLen; omega
          case c4 => omega
          case c5 => have := Gr.size hg; simp; omega
          intro v' w4 hown' hgrow _
          have hg4 : Gr w3 w4 := Gr.own (by exact (by repeat' (first | (with_reducible exact Gr.refl _) | (with_reducible assumption) | (with_reducible refine Gr.alloc ?_ _) | (with_reducible refine Gr.drew ?_) | (with_reducible refine Gr.drewN ?_ _) | (with_reducible refine Gr.setCell ?_ ?_ _) | (with_reducible refine Gr.trans ?_ (by with_reducible assumption)) | go_size))) (Nat.le_refl _) (ownsRow_gr HOWN.out (by exact (by repeat' (first | (with_reducible exact Gr.refl _) | (with_reducible assumption) | (with_reducible refine Gr.alloc ?_ _) | (with_reducible refine Gr.drew ?_) | (with_reducible refine Gr.drewN ?_ _) | (with_reducible refine Gr.setCell ?_ ?_ _) | (with_reducible refine Gr.trans ?_ (by with_reducible assumption)) | go_size)))) hgrow
          have HO := Lib.hid hown'
          clear hown' hgrow
          go_wp2_with fail
          go_roundw
          case rel => exact ⟨0 + 1, by omega, by go_num, hg4, by rw [HNX.out]; exact HO.out⟩
          case measure => first | (simp [intOf]; done) | (simp [intOf]; omega)
        · have t4 : (k == 4) = false := by rw [beq_eq_false_iff_ne]; exact k4
          rw [if_neg k4] at HNX
          clear k4
          go_wp2_with (at_builtin; refine wpList_append_own _ rfl _ _ 47 rfl w3.heap.size 9 i0 _ 1 16 Tryd.underlying47 HI.out HZ0.out HZ1.out HZ2.out rfl (by decide) _ (0) (jTexts ts (0)) rfl (ownsRow_gr HOWN.out (by exact (by repeat' (first | (with_reducible exact Gr.refl _) | (with_reducible assumption) | (with_reducible refine Gr.alloc ?_ _) | (with_reducible refine Gr.drew ?_) | (with_reducible refine Gr.drewN ?_ _) | (with_reducible refine Gr.setCell ?_ ?_ _) | (with_reducible refine Gr.trans ?_ (by with_reducible assumption)) | go_size)))) ⟨wr.heap.size + 1, 0, none⟩ 1 1 [.string t] rfl rfl ?c1 ?c2 ?c3 ?c4 ?c5 ?_)
          case c1 =>
            intro j' u hj
            match j', hj with
            | 0, hj => simp at hj; subst hj; first | (simp [Addr.add, go_sem]; done) | (simp only [Addr.add]; rw [World.cell?_alloc_at _ _ _ _ (by simp)]; rfl)
          case c2 => simp [Value.oneCell']
          case c3 => unfold maxLen; omega
          case c4 => omega
          case c5 => have := Gr.size hg; simp; omega
          intro v' w4 hown' hgrow _
          have hg4 : Gr w3 w4 := Gr.own (by exact (by repeat' (first | (with_reducible exact Gr.refl _) | (with_reducible assumption) | (with_reducible refine Gr.alloc ?_ _) | (with_reducible refine Gr.drew ?_) | (with_reducible refine Gr.drewN ?_ _) | (with_reducible refine Gr.setCell ?_ ?_ _) | (with_reducible refine Gr.trans ?_ (by with_reducible assumption)) | go_size))) (Nat.le_refl _) (ownsRow_gr HOWN.out (by exact (by repeat' (first | (with_reducible exact Gr.refl _) | (with_reducible assumption) | (with_reducible refine Gr.alloc ?_ _) | (with_reducible refine Gr.drew ?_) | (with_reducible refine Gr.drewN ?_ _) | (with_reducible refine Gr.setCell ?_ ?_ _) | (with_reducible refine Gr.trans ?_ (by with_reducible assumption)) | go_size)))) hgrow
          have HO := Lib.hid hown'
          clear hown' hgrow
          go_wp2_with fail
          go_roundw
          case rel => exact ⟨0 + 1, by omega, by go_num, hg4, by rw [HNX.out]; exact HO.out⟩
          case measure => first | (simp [intOf]; done) | (simp [intOf]; omega)
      · obtain ⟨j, rfl⟩ : ∃ j, i = j + 1 := ⟨i - 1, by omega⟩
        obtain ⟨p', q', c2, c3, hlt', hp', hq'⟩ := HPV.out j rfl
        have c2 := Gr.at hg c2; have c3 := Gr.at hg c3
        have f0 : decide ((0 : Int) < (j : Int) + 1) = true := decide_eq_true (by omega)
        have f5 : decide ((p : Int) + 1 < (p' : Int) + 1) = false := decide_eq_false (by omega)
        have f5' : decide (p < p') = false := decide_eq_false (by omega)
        rcases Nat.lt_or_ge p' p with hlt2 | hlt2
        · have f6 : ((p : Int) + 1 == (p' : Int) + 1) = false := by rw [beq_eq_false_iff_ne]; omega
          have f6' : (p == p') = false := by rw [beq_eq_false_iff_ne]; omega
          have f6'' : ((p : Int) == (p' : Int)) = false := by rw [beq_eq_false_iff_ne]; omega
          clear hlt'
          go_wp2_with fail
          have wj0 : (0 : Int) ≤ (j : Int) := by omega
          have wj1 : (j : Int) < (N : Int) + 1 := by omega
          have wj2 : IntKind.i64.wrap ((j : Int) + 1 - 1) = (j : Int) := by rw [Int.add_sub_cancel]; exact IntWalk.i64_in _ (by omega)
          have wj3 : IntKind.i64.wrap (j : Int) = (j : Int) := IntWalk.i64_in _ (by omega)
          go_quiet (fail)
          clear wj0 wj1 wj2 wj3
          go_wp2_with fail
          have wb0 : (0 : Int) ≤ (q : Int) := by omega
          have wb1 : (q : Int) ≤ (line.size : Int) := by omega
          have wb2 : ((q : Int)).toNat = q := by omega
          have wv1 : IntKind.i64.wrap ((line.size : Int) + 1) = (line.size : Int) + 1 := IntWalk.i64_in _ (by omega)
          have wv2 : IntKind.i64.wrap ((q : Int) + 1 - 1) = (q : Int) := by rw [Int.add_sub_cancel]; exact IntWalk.i64_in _ (by omega)
          have wv3 : IntKind.i64.wrap (q : Int) = (q : Int) := IntWalk.i64_in _ (by omega)
          go_quiet ((go_at_call 23; first | exact quiet_eq (HP.out _) | exact quiet_add_left (HP.out _)))
          clear wv1 wv2 wv3 wb0 wb1 wb2
          by_cases k4 : k = 4
          · have t4 : (k == 4) = true := by rw [beq_iff_eq]; exact k4
            rw [if_pos k4] at HNX
            clear k4
            go_wp2_with (at_builtin; refine wpList_append_own _ rfl _ _ 47 rfl w3.heap.size 9 i0 _ 1 16 Tryd.underlying47 HI.out HZ0.out HZ1.out HZ2.out rfl (by decide) _ (j + 1) (jTexts ts (j + 1)) rfl (ownsRow_gr HOWN.out (by exact (by repeat' (first | (with_reducible exact Gr.refl _) | (with_reducible assumption) | (with_reducible refine Gr.alloc ?_ _) | (with_reducible refine Gr.drew ?_) | (with_reducible refine Gr.drewN ?_ _) | (with_reducible refine Gr.setCell ?_ ?_ _) | (with_reducible refine Gr.trans ?_ (by with_reducible assumption)) | go_size)))) ⟨wr.heap.size + 1, 0, none⟩ 1 1 [.string ⟨#[10]⟩] rfl rfl ?c1 ?c2 ?c3 ?c4 ?c5 ?_)
            case c1 =>
              intro j' u hj
              match j', hj with
              | 0, hj => simp at hj; subst hj; first | (simp [Addr.add, go_sem]; done) | (simp only [Addr.add]; rw [World.cell?_alloc_at _ _ _ _ (by simp)]; rfl)
            case c2 => simp [Value.oneCell']
            case c3 => unfold maxLen; omega
            case c4 => omega
            case c5 => have := Gr.size hg; simp; omega
            intro v' w4 hown' hgrow _
            have hg4 : Gr w3 w4 := Gr.own (by exact (by repeat' (first | (with_reducible exact Gr.refl _) | (with_reducible assumption) | (with_reducible refine Gr.alloc ?_ _) | (with_reducible refine Gr.drew ?_) | (with_reducible refine Gr.drewN ?_ _) | (with_reducible refine Gr.setCell ?_ ?_ _) | (with_reducible refine Gr.trans ?_ (by with_reducible assumption)) | go_size))) (Nat.le_refl _) (ownsRow_gr HOWN.out (by exact (by repeat' (first | (with_reducible exact Gr.refl _) | (with_reducible assumption) | (with_reducible refine Gr.alloc ?_ _) | (with_reducible refine Gr.drew ?_) | (with_reducible refine Gr.drewN ?_ _) | (with_reducible refine Gr.setCell ?_ ?_ _) | (with_reducible refine Gr.trans ?_ (by with_reducible assumption)) | go_size)))) hgrow
            have HO := Lib.hid hown'
            clear hown' hgrow
            go_wp2_with fail
            go_roundw
            case rel => exact ⟨j + 1 + 1, by omega, by go_num, hg4, by rw [HNX.out]; exact HO.out⟩
            case measure => first | (simp [intOf]; done) | (simp [intOf]; omega)
          · have t4 : (k == 4) = false := by rw [beq_eq_false_iff_ne]; exact k4
            rw [if_neg k4] at HNX
            clear k4
            go_wp2_with (at_builtin; refine wpList_append_own _ rfl _ _ 47 rfl w3.heap.size 9 i0 _ 1 16 Tryd.underlying47 HI.out HZ0.out HZ1.out HZ2.out rfl (by decide) _ (j + 1) (jTexts ts (j + 1)) rfl (ownsRow_gr HOWN.out (by exact (by repeat' (first | (with_reducible exact Gr.refl _) | (with_reducible assumption) | (with_reducible refine Gr.alloc ?_ _) | (with_reducible refine Gr.drew ?_) | (with_reducible refine Gr.drewN ?_ _) | (with_reducible refine Gr.setCell ?_ ?_ _) | (with_reducible refine Gr.trans ?_ (by with_reducible assumption)) | go_size)))) ⟨wr.heap.size + 1, 0, none⟩ 1 1 [.string t] rfl rfl ?c1 ?c2 ?c3 ?c4 ?c5 ?_)
            case c1 =>
              intro j' u hj
              match j', hj with
              | 0, hj => simp at hj; subst hj; first | (simp [Addr.add, go_sem]; done) | (simp only [Addr.add]; rw [World.cell?_alloc_at _ _ _ _ (by simp)]; rfl)
            case c2 => simp [Value.oneCell']
            case c3 => unfold maxLen; omega
            case c4 => omega
            case c5 => have := Gr.size hg; simp; omega
            intro v' w4 hown' hgrow _
            have hg4 : Gr w3 w4 := Gr.own (by exact (by repeat' (first | (with_reducible exact Gr.refl _) | (with_reducible assumption) | (with_reducible refine Gr.alloc ?_ _) | (with_reducible refine Gr.drew ?_) | (with_reducible refine Gr.drewN ?_ _) | (with_reducible refine Gr.setCell ?_ ?_ _) | (with_reducible refine Gr.trans ?_ (by with_reducible assumption)) | go_size))) (Nat.le_refl _) (ownsRow_gr HOWN.out (by exact (by repeat' (first | (with_reducible exact Gr.refl _) | (with_reducible assumption) | (with_reducible refine Gr.alloc ?_ _) | (with_reducible refine Gr.drew ?_) | (with_reducible refine Gr.drewN ?_ _) | (with_reducible refine Gr.setCell ?_ ?_ _) | (with_reducible refine Gr.trans ?_ (by with_reducible assumption)) | go_size)))) hgrow
            have HO := Lib.hid hown'
            clear hown' hgrow
            go_wp2_with fail
            go_roundw
            case rel => exact ⟨j + 1 + 1, by omega, by go_num, hg4, by rw [HNX.out]; exact HO.out⟩
            case measure => first | (simp [intOf]; done) | (simp [intOf]; omega)
        · obtain rfl : p' = p := by omega
          have f6 : ((p' : Int) + 1 == (p' : Int) + 1) = true := by rw [beq_iff_eq]
          have f7 : decide ((q : Int) + 1 ≤ (q' : Int) + 1) = false := decide_eq_false (by omega)
          have f7' : decide (q ≤ q') = false := decide_eq_false (by omega)
          clear hlt'
          go_wp2_with fail
          have wj0 : (0 : Int) ≤ (j : Int) := by omega
          have wj1 : (j : Int) < (N : Int) + 1 := by omega
          have wj2 : IntKind.i64.wrap ((j : Int) + 1 - 1) = (j : Int) := by rw [Int.add_sub_cancel]; exact IntWalk.i64_in _ (by omega)
          have wj3 : IntKind.i64.wrap (j : Int) = (j : Int) := IntWalk.i64_in _ (by omega)
          go_quiet (fail)
          clear wj0 wj1 wj2 wj3
          go_wp2_with fail
          have wb0 : (0 : Int) ≤ (q : Int) := by omega
          have wb1 : (q : Int) ≤ (line.size : Int) := by omega
          have wb2 : ((q : Int)).toNat = q := by omega
          have wv1 : IntKind.i64.wrap ((line.size : Int) + 1) = (line.size : Int) + 1 := IntWalk.i64_in _ (by omega)
          have wv2 : IntKind.i64.wrap ((q : Int) + 1 - 1) = (q : Int) := by rw [Int.add_sub_cancel]; exact IntWalk.i64_in _ (by omega)
          have wv3 : IntKind.i64.wrap (q : Int) = (q : Int) := IntWalk.i64_in _ (by omega)
          go_quiet ((go_at_call 23; first | exact quiet_eq (HP.out _) | exact quiet_add_left (HP.out _)))
          clear wv1 wv2 wv3 wb0 wb1 wb2
          by_cases k4 : k = 4
          · have t4 : (k == 4) = true := by rw [beq_iff_eq]; exact k4
            rw [if_pos k4] at HNX
            clear k4
            go_wp2_with (at_builtin; refine wpList_append_own _ rfl _ _ 47 rfl w3.heap.size 9 i0 _ 1 16 Tryd.underlying47 HI.out HZ0.out HZ1.out HZ2.out rfl (by decide) _ (j + 1) (jTexts ts (j + 1)) rfl (ownsRow_gr HOWN.out (by exact (by repeat' (first | (with_reducible exact Gr.refl _) | (with_reducible assumption) | (with_reducible refine Gr.alloc ?_ _) | (with_reducible refine Gr.drew ?_) | (with_reducible refine Gr.drewN ?_ _) | (with_reducible refine Gr.setCell ?_ ?_ _) | (with_reducible refine Gr.trans ?_ (by with_reducible assumption)) | go_size)))) ⟨wr.heap.size + 1, 0, none⟩ 1 1 [.string ⟨#[10]⟩] rfl rfl ?c1 ?c2 ?c3 ?c4 ?c5 ?_)
            case c1 =>
              intro j' u hj
              match j', hj with
              | 0, hj => simp at hj; subst hj; first | (simp [Addr.add, go_sem]; done) | (simp only [Addr.add]; rw [World.cell?_alloc_at _ _ _ _ (by simp)]; rfl)
            case c2 => simp [Value.oneCell']
            case c3 => unfold maxLen; omega
            case c4 => omega
            case c5 => have := Gr.size hg; simp; omega
            intro v' w4 hown' hgrow _
            have hg4 : Gr w3 w4 := Gr.own (by exact (by repeat' (first | (with_reducible exact Gr.refl _) | (with_reducible assumption) | (with_reducible refine Gr.alloc ?_ _) | (with_reducible refine Gr.drew ?_) | (with_reducible refine Gr.drewN ?_ _) | (with_reducible refine Gr.setCell ?_ ?_ _) | (with_reducible refine Gr.trans ?_ (by with_reducible assumption)) | go_size))) (Nat.le_refl _) (ownsRow_gr HOWN.out (by exact (by repeat' (first | (with_reducible exact Gr.refl _) | (with_reducible assumption) | (with_reducible refine Gr.alloc ?_ _) | (with_reducible refine Gr.drew ?_) | (with_reducible refine Gr.drewN ?_ _) | (with_reducible refine Gr.setCell ?_ ?_ _) | (with_reducible refine Gr.trans ?_ (by with_reducible assumption)) | go_size)))) hgrow
            have HO := Lib.hid hown'
            clear hown' hgrow
            go_wp2_with fail
            go_roundw
            case rel => exact ⟨j + 1 + 1, by omega, by go_num, hg4, by rw [HNX.out]; exact HO.out⟩
            case measure => first | (simp [intOf]; done) | (simp [intOf]; omega)
          · have t4 : (k == 4) = false := by rw [beq_eq_false_iff_ne]; exact k4
            rw [if_neg k4] at HNX
            clear k4
            go_wp2_with (at_builtin; refine wpList_append_own _ rfl _ _ 47 rfl w3.heap.size 9 i0 _ 1 16 Tryd.underlying47 HI.out HZ0.out HZ1.out HZ2.out rfl (by decide) _ (j + 1) (jTexts ts (j + 1)) rfl (ownsRow_gr HOWN.out (by exact (by repeat' (first | (with_reducible exact Gr.refl _) | (with_reducible assumption) | (with_reducible refine Gr.alloc ?_ _) | (with_reducible refine Gr.drew ?_) | (with_reducible refine Gr.drewN ?_ _) | (with_reducible refine Gr.setCell ?_ ?_ _) | (with_reducible refine Gr.trans ?_ (by with_reducible assumption)) | go_size)))) ⟨wr.heap.size + 1, 0, none⟩ 1 1 [.string t] rfl rfl ?c1 ?c2 ?c3 ?c4 ?c5 ?_)
            case c1 =>
              intro j' u hj
              match j', hj with
              | 0, hj => simp at hj; subst hj; first | (simp [Addr.add, go_sem]; done) | (simp only [Addr.add]; rw [World.cell?_alloc_at _ _ _ _ (by simp)]; rfl)
            case c2 => simp [Value.oneCell']
            case c3 => unfold maxLen; omega
            case c4 => omega
            case c5 => have := Gr.size hg; simp; omega
            intro v' w4 hown' hgrow _
            have hg4 : Gr w3 w4 := Gr.own (by exact (by repeat' (first | (with_reducible exact Gr.refl _) | (with_reducible assumption) | (with_reducible refine Gr.alloc ?_ _) | (with_reducible refine Gr.drew ?_) | (with_reducible refine Gr.drewN ?_ _) | (with_reducible refine Gr.setCell ?_ ?_ _) | (with_reducible refine Gr.trans ?_ (by with_reducible assumption)) | go_size))) (Nat.le_refl _) (ownsRow_gr HOWN.out (by exact (by repeat' (first | (with_reducible exact Gr.refl _) | (with_reducible assumption) | (with_reducible refine Gr.alloc ?_ _) | (with_reducible refine Gr.drew ?_) | (with_reducible refine Gr.drewN ?_ _) | (with_reducible refine Gr.setCell ?_ ?_ _) | (with_reducible refine Gr.trans ?_ (by with_reducible assumption)) | go_size)))) hgrow
            have HO := Lib.hid hown'
            clear hown' hgrow
            go_wp2_with fail
            go_roundw
            case rel => exact ⟨j + 1 + 1, by omega, by go_num, hg4, by rw [HNX.out]; exact HO.out⟩
            case measure => first | (simp [intOf]; done) | (simp [intOf]; omega)
    · obtain rfl : i = N + 1 := by omega
      obtain ⟨g5, cap5, hu, hcap5, hcells⟩ := row_of HOWN.out (by omega)
      have HC5 := Lib.hid hcells
      subst hu
      clear hcells
      go_wp2_with fail
      refine (HJ.out g5 cap5 _ hcap5 (fun j u h => Gr.at (by exact (by repeat' (first | (with_reducible exact Gr.refl _) | (with_reducible assumption) | (with_reducible refine Gr.alloc ?_ _) | (with_reducible refine Gr.drew ?_) | (with_reducible refine Gr.drewN ?_ _) | (with_reducible refine Gr.setCell ?_ ?_ _) | (with_reducible refine Gr.trans ?_ (by with_reducible assumption)) | go_size))) (HC5.out j u h))).mono ?_
      rintro e w5 ⟨rfl, hb5⟩
      go_wp2_with fail
      refine (HU.out _).mono ?_
      rintro e w6 ⟨g6, cap6, rfl, hr6, hb6⟩
      have gw6 : Gr w2 w6 := by exact (by repeat' (first | (with_reducible exact Gr.refl _) | (with_reducible assumption) | (with_reducible refine Gr.alloc ?_ _) | (with_reducible refine Gr.drew ?_) | (with_reducible refine Gr.drewN ?_ _) | (with_reducible refine Gr.setCell ?_ ?_ _) | (with_reducible refine Gr.trans ?_ (by with_reducible assumption)) | go_size))
      go_wp2_with fail
      refine (HE.out g g6 cap cap6 _ (fun j u h => Gr.at (by exact (by repeat' (first | (with_reducible exact Gr.refl _) | (with_reducible assumption) | (with_reducible refine Gr.alloc ?_ _) | (with_reducible refine Gr.drew ?_) | (with_reducible refine Gr.drewN ?_ _) | (with_reducible refine Gr.setCell ?_ ?_ _) | (with_reducible refine Gr.trans ?_ (by with_reducible assumption)) | go_size))) (hr2.out j u h)) (fun j u h => Gr.at (by exact (by repeat' (first | (with_reducible exact Gr.refl _) | (with_reducible assumption) | (with_reducible refine Gr.alloc ?_ _) | (with_reducible refine Gr.drew ?_) | (with_reducible refine Gr.drewN ?_ _) | (with_reducible refine Gr.setCell ?_ ?_ _) | (with_reducible refine Gr.trans ?_ (by with_reducible assumption)) | go_size))) (hr6.out j u h))).mono ?_
      rintro e w7 ⟨rfl, hb7⟩
      go_wp2
      go_ret
      exact ⟨rfl, (by repeat' (first | (with_reducible exact Gr.refl _) | (with_reducible assumption) | (with_reducible refine Gr.alloc ?_ _) | (with_reducible refine Gr.drew ?_) | (with_reducible refine Gr.drewN ?_ _) | (with_reducible refine Gr.setCell ?_ ?_ _) | (with_reducible refine Gr.trans ?_ (by with_reducible assumption)) | go_size))⟩
end Go.Proofs.YtagfgnpjljaefaaDoor
