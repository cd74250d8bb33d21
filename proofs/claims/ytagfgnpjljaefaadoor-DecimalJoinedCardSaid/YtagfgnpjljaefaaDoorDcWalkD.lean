import Derived.Test.YtagfgnpjljaefaaDoorDcWalkC
import Derived.Deep.RegionHeld3
set_option linter.unusedVariables false
set_option linter.unusedSimpArgs false
namespace Go.Proofs.YtagfgnpjljaefaaDoor
open Go.RowKit
theorem empty_no (x : ByteArray) (h : 0 < x.size) : x.toList.isEmpty = false := by
  rw [Lib.toList_data]
  have : x.data.toList.length = x.size := by simp
  cases e : x.data.toList with
  | nil => rw [e] at this; simp at this; omega
  | cons a l => rfl
theorem empty_yes (x : ByteArray) (h : x.size = 0) : x.toList.isEmpty = true := by
  rw [Lib.toList_data]
  have : x.data.toList.length = x.size := by simp
  cases e : x.data.toList with
  | nil => rfl
  | cons a l => rw [e] at this; simp at this; omega
theorem tk_ret {a b c a' b' c' d d' : Value} (h1 : a = a') (h2 : b = b') (h3 : c = c') (h4 : d = d') : Ending.returned (.tuple #[a, .agg #[b, c], d]) = .returned (.tuple #[a', .agg #[b', c'], d']) := by rw [h1, h2, h3, h4]
theorem Dc.nx_blank {l : List UInt8} (h : (l.getD 0 0).toNat = 32 ∨ (l.getD 0 0).toNat = 9) : Dc.nx l = (0, 1) := by unfold Dc.nx; simp only; rw [if_pos h]
theorem Dc.nx_line {l : List UInt8} (h : (l.getD 0 0).toNat = 10) : Dc.nx l = (4, 1) := by unfold Dc.nx; simp only; rw [if_neg (by omega), if_pos h]
theorem Dc.nx_hash {l : List UInt8} (h : (l.getD 0 0).toNat = 35) : Dc.nx l = (0, Dc.rest l) := by unfold Dc.nx; simp only; rw [if_neg (by omega), if_neg (by omega), if_pos h]
theorem Dc.nx_name {l : List UInt8} (h : Dc.isL (l.getD 0 0) = true) : Dc.nx l = if 20 < Dc.word l then (-1, Dc.word l) else (1, Dc.word l) := by
  have := (Dc.isL_iff _).1 h
  unfold Dc.nx; simp only; rw [if_neg (by omega), if_neg (by omega), if_neg (by omega), if_pos h]
theorem Dc.nx_num {l : List UInt8} (h : Dc.isD (l.getD 0 0) = true) : Dc.nx l = (2, Dc.numeral l) := by
  have := (Dc.isD_iff _).1 h
  have hL : ¬ Dc.isL (l.getD 0 0) = true := fun e => by have := (Dc.isL_iff _).1 e; omega
  unfold Dc.nx; simp only; rw [if_neg (by omega), if_neg (by omega), if_neg (by omega), if_neg hL, if_pos h]
theorem Dc.nx_sym {l : List UInt8} (h0 : ¬ ((l.getD 0 0).toNat = 32 ∨ (l.getD 0 0).toNat = 9)) (h1 : (l.getD 0 0).toNat ≠ 10) (h2 : (l.getD 0 0).toNat ≠ 35) (h3 : Dc.isL (l.getD 0 0) = false) (h4 : Dc.isD (l.getD 0 0) = false) : Dc.nx l = if Dc.symbol l = 0 then (-1, 1) else (3, Dc.symbol l) := by
  unfold Dc.nx; simp only; rw [if_neg h0, if_neg h1, if_neg h2, if_neg (by rw [h3]; decide), if_neg (by rw [h4]; decide)]
theorem Dc.symbol_le (l : List UInt8) : Dc.symbol l ≤ 2 := by
  unfold Dc.symbol; split
  · omega
  · split <;> omega
theorem extract_head (x : ByteArray) (m : Nat) : x.extract 0 m = ⟨(x.data.toList.take m).toArray⟩ := Go.WideShapes.bytes_inj (by rw [data_head])
/-- What the switch leaves. -/
def TkCut (w : World) (x : ByteArray) (ln col : Int) (acc : List Value) (n : Nat) (v5 s7 s8 : Value) (wx : World) : Prop :=
  ∃ (k : Int) (m : Nat), s7 = .int .i64 k ∧ s8 = .int .i64 m ∧ Dc.nx x.data.toList = (k, m) ∧ 0 ≤ k ∧ k ≤ 3 ∧ TkSt w wx ln col ∧ wx.ownsRow (w.heap.size + 2) 45 4 v5 n acc
set_option maxRecDepth 100000 in
set_option maxHeartbeats 4000000 in
theorem tok_walk (R : Sum (List Value) (Int × Int)) (s : ByteArray) (w : World) (hs : s.size ≤ 262144) (hR : TkAt R s 1 1 [] 0) :
    Calls Tryd.prog 15 #[.string s] w (TkPost w R) := by
  have t0 : decide ((262144 : Int) < (s.size : Int)) = false := decide_eq_false (by omega)
  obtain ⟨i0, hi, hz0, hz1, hz2⟩ := info_parts Tryd.info45
  have HI := Lib.hid hi; have HZ0 := Lib.hid hz0; have HZ1 := Lib.hid hz1; have HZ2 := Lib.hid hz2
  clear hi hz0 hz1 hz2
  go_enter Tryd.func15, Tryd.ntmps15
  go_wp2_with fail
  go_loopw [0, 5] (fun s0 s5 wr => ∃ (x : ByteArray) (ln col : Int) (acc : List Value) (n : Nat), s0 = .string x ∧ TkAt R x ln col acc n ∧ TkSt w wr ln col ∧ wr.ownsRow (w.heap.size + 2) 45 4 s5 n acc) (fun s0 _ _ => match s0 with | .string x => x.size | _ => 0)
  case atStart => exact ⟨s, 1, 1, [], 0, rfl, hR, ⟨(by repeat' (first | (with_reducible exact Gr.refl _) | (with_reducible assumption) | (with_reducible refine Gr.alloc ?_ _) | (with_reducible refine Gr.drew ?_) | (with_reducible refine Gr.drewN ?_ _) | (with_reducible refine Gr.setCell ?_ ?_ _) | (with_reducible refine Gr.trans ?_ (by with_reducible assumption)) | go_size)), by simp, ⟨(by first | (simp [go_sem, *]; done) | ((try simp [go_sem, *]); refine World.cell?_setCell_same' _ _ _ ?_; simp [go_sem, *]; done)), (by first | (simp [go_sem, *]; done) | ((try simp [go_sem, *]); refine World.cell?_setCell_same' _ _ _ ?_; simp [go_sem, *]; done)), (by first | (simp [go_sem, *]; done) | ((try simp [go_sem, *]); refine World.cell?_setCell_same' _ _ _ ?_; simp [go_sem, *]; done)), (by first | (simp [go_sem, *]; done) | ((try simp [go_sem, *]); refine World.cell?_setCell_same' _ _ _ ?_; simp [go_sem, *]; done))⟩, (by first | (simp [go_sem, *]; done) | ((try simp [go_sem, *]); refine World.cell?_setCell_same' _ _ _ ?_; simp [go_sem, *]; done)), (by first | (simp [go_sem, *]; done) | ((try simp [go_sem, *]); refine World.cell?_setCell_same' _ _ _ ?_; simp [go_sem, *]; done)), (by first | (simp [go_sem, *]; done) | ((try simp [go_sem, *]); refine World.cell?_setCell_same' _ _ _ ?_; simp [go_sem, *]; done)), (by first | (simp [go_sem, *]; done) | ((try simp [go_sem, *]); refine World.cell?_setCell_same' _ _ _ ?_; simp [go_sem, *]; done))⟩, ⟨rfl, Or.inl ⟨rfl, rfl⟩⟩⟩
  case round =>
    obtain ⟨x, ln, col, acc, n, rfl, hat, hst, hown⟩ := hrel
    have HOWN := Lib.hid hown
    have HAT := Lib.hid hat
    have hn := hat.2.1
    have l0 := hat.2.2.1; have l1 := hat.2.2.2.1; have c0 := hat.2.2.2.2.1; have c1 := hat.2.2.2.2.2
    have hg : Gr w wr := hst.1
    obtain ⟨-, hsz, ⟨a1, a2, a3, a4⟩, b1, b2, b3, b4⟩ := id hst
    clear hown hat hR
    by_cases h0 : 0 < x.size
    · have hE := empty_no x h0
      have HS := Lib.hid (HAT.out.step h0)
      have gx := getD_byte x 0 h0
      have b0 : (x[0].toNat : Int) < 256 := by have := x[0].toNat_lt; omega
      by_cases hl : x[0].toNat = 10
      · have HN := Lib.hid (HS.out.2.1 (by rw [Dc.nx_line (by rw [gx]; exact hl)]))
        have t1 : ((x[0].toNat : Int) == 32) = false := by rw [beq_eq_false_iff_ne]; omega
        have t2 : ((x[0].toNat : Int) == 9) = false := by rw [beq_eq_false_iff_ne]; omega
        have t3 : ((x[0].toNat : Int) == 10) = true := by rw [beq_iff_eq]; omega
        clear hl gx HS
        go_wp2_with (at_builtin; refine wpList_append_own _ rfl _ _ 32 rfl (w.heap.size + 2) 45 i0 _ 4 40 Tryd.underlying32 HI.out HZ0.out HZ1.out HZ2.out rfl (by decide) _ n acc rfl (ownsRow_gr HOWN.out (by exact (by repeat' (first | (with_reducible exact Gr.refl _) | (with_reducible assumption) | (with_reducible refine Gr.alloc ?_ _) | (with_reducible refine Gr.drew ?_) | (with_reducible refine Gr.drewN ?_ _) | (with_reducible refine Gr.setCell ?_ ?_ _) | (with_reducible refine Gr.trans ?_ (by with_reducible assumption)) | go_size)))) ⟨wr.heap.size, 0, none⟩ 1 1 [.int .i64 4, .string ⟨#[]⟩, .int .i64 ln, .int .i64 col] rfl rfl ?c1 ?c2 ?c3 ?c4 ?c5 ?_)
        case c1 => exact World.news_of_block (cs := #[.int .i64 4, .string ⟨#[]⟩, .int .i64 ln, .int .i64 col]) (heap_alloc_new wr _)
        case c2 => simp [Value.oneCell']
        case c3 => unfold maxLen; omega
        case c4 => omega
        case c5 => have := hst.2.1; simp; omega
        intro v' w1 hown' hgrow _
        have hst1 : TkSt w w1 ln col := TkSt.app (TkSt.alloc hst _) (ownsRow_gr HOWN.out (by exact (by repeat' (first | (with_reducible exact Gr.refl _) | (with_reducible assumption) | (with_reducible refine Gr.alloc ?_ _) | (with_reducible refine Gr.drew ?_) | (with_reducible refine Gr.drewN ?_ _) | (with_reducible refine Gr.setCell ?_ ?_ _) | (with_reducible refine Gr.trans ?_ (by with_reducible assumption)) | go_size)))) hgrow
        have HO := Lib.hid hown'
        clear hown' hgrow
        go_wp2_with fail
        obtain ⟨hg1, hsz1, ⟨d1, d2, d3, d4⟩, e1, e2, e3, e4⟩ := id hst1
        clear a1 a2 a3 a4 b1 b2 b3 b4 hst hg
        go_region
        all_goals
          go_wp2_with fail
          go_roundw
          case rel => exact ⟨_, ln + 1, 1, _, n + 1, rfl, HN.out, ⟨(by repeat' (first | (with_reducible exact Gr.refl _) | (with_reducible assumption) | (with_reducible refine Gr.alloc ?_ _) | (with_reducible refine Gr.drew ?_) | (with_reducible refine Gr.drewN ?_ _) | (with_reducible refine Gr.setCell ?_ ?_ _) | (with_reducible refine Gr.trans ?_ (by with_reducible assumption)) | go_size)), (by first | (simp; done) | (simp; omega)), ⟨(by first | (simp [go_sem, *]; done) | ((try simp [go_sem, *]); refine World.cell?_setCell_same' _ _ _ ?_; simp [go_sem, *]; done)), (by first | (simp [go_sem, *]; done) | ((try simp [go_sem, *]); refine World.cell?_setCell_same' _ _ _ ?_; simp [go_sem, *]; done)), (by first | (simp [go_sem, *]; done) | ((try simp [go_sem, *]); refine World.cell?_setCell_same' _ _ _ ?_; simp [go_sem, *]; done)), (by first | (simp [go_sem, *]; done) | ((try simp [go_sem, *]); refine World.cell?_setCell_same' _ _ _ ?_; simp [go_sem, *]; done))⟩, (by first | (simp [go_sem, *]; done) | ((try simp [go_sem, *]); refine World.cell?_setCell_same' _ _ _ ?_; simp [go_sem, *]; done)), (by first | (simp [go_sem, *]; done) | ((try simp [go_sem, *]); refine World.cell?_setCell_same' _ _ _ ?_; simp [go_sem, *]; done)), (by first | (simp [go_sem, *]; done) | ((try simp [go_sem, *]); refine World.cell?_setCell_same' _ _ _ ?_; simp [go_sem, *]; done)), (by first | (simp [go_sem, *]; done) | ((try simp [go_sem, *]); refine World.cell?_setCell_same' _ _ _ ?_; simp [go_sem, *]; done))⟩, by repeat' (first | exact HO.out | refine ownsRow_drew ?_ | refine ownsRow_set ?_ (by simp) _)⟩
          case measure => simp; omega
      · have t3 : ((x[0].toNat : Int) == 10) = false := by rw [beq_eq_false_iff_ne]; omega
        go_upto_block 2 with fail
        go_cut [0, 5, 7, 8] (fun c0 c5 c7 c8 wx => c0 = .string x ∧ c5 = u5 ∧ TkCut w x ln col acc n u5 c7 c8 wx)
        case first =>
          by_cases q1 : x[0].toNat = 32
          · have HN := Lib.hid (Dc.nx_blank (l := x.data.toList) (by rw [gx]; exact Or.inl q1))
            have t1 : ((x[0].toNat : Int) == 32) = true := by rw [beq_iff_eq]; omega
            clear q1 gx HS hl
            go_wp2_with fail
            go_meet
            exact ⟨rfl, rfl, 0, 1, rfl, rfl, HN.out, by omega, by omega, hst, HOWN.out⟩
          have t1 : ((x[0].toNat : Int) == 32) = false := by rw [beq_eq_false_iff_ne]; omega
          by_cases q2 : x[0].toNat = 9
          · have HN := Lib.hid (Dc.nx_blank (l := x.data.toList) (by rw [gx]; exact Or.inr q2))
            have t2 : ((x[0].toNat : Int) == 9) = true := by rw [beq_iff_eq]; omega
            clear q1 q2 gx HS hl
            go_wp2_with fail
            go_meet
            exact ⟨rfl, rfl, 0, 1, rfl, rfl, HN.out, by omega, by omega, hst, HOWN.out⟩
          have t2 : ((x[0].toNat : Int) == 9) = false := by rw [beq_eq_false_iff_ne]; omega
          by_cases q3 : x[0].toNat = 35
          · have HN := Lib.hid (Dc.nx_hash (l := x.data.toList) (by rw [gx]; exact q3))
            have t4 : ((x[0].toNat : Int) == 35) = true := by rw [beq_iff_eq]; omega
            have HX := Lib.hid (fun W => Tryd.strings_IndexByte x 10 W)
            rw [show ((10 : Int).toNat.toUInt8) = 10 by rfl] at HX
            have hlen : x.data.toList.length = x.size := by simp
            have hle := Dc.spn_le (fun c => decide (c.toNat ≠ 10)) x.data.toList
            rcases Dc.index_rest x.data.toList with ⟨hr, hr2⟩ | hr
            · rw [hr] at HX
              rw [hr2, hlen] at HN
              clear q1 q2 q3 gx HS hl hr hr2 hlen hle
              go_wp2_with (first | (go_at_call 32; with_reducible refine (HX.out _).mono ?_; rintro e w' ⟨rfl, rfl⟩))
              go_meet
              exact ⟨rfl, rfl, 0, x.size, rfl, rfl, HN.out, by omega, by omega, hst, HOWN.out⟩
            · rw [hr] at HX
              have hle2 : Dc.rest x.data.toList ≤ x.size := by rw [← hlen]; exact hle
              clear q1 q2 q3 gx HS hl hr hlen hle
              generalize Dc.rest x.data.toList = m at *
              have t5 : decide ((m : Int) < 0) = false := decide_eq_false (by omega)
              go_wp2_with (first | (go_at_call 32; with_reducible refine (HX.out _).mono ?_; rintro e w' ⟨rfl, rfl⟩))
              go_meet
              exact ⟨rfl, rfl, 0, m, rfl, rfl, HN.out, by omega, by omega, hst, HOWN.out⟩
          have t4 : ((x[0].toNat : Int) == 35) = false := by rw [beq_eq_false_iff_ne]; omega
          have HA := Lib.hid (letter_any x[0])
          cases hL : Dc.isL x[0]
          · rw [hL] at HA
            have HB := Lib.hid (digit_any x[0])
            cases hD : Dc.isD x[0]
            · rw [hD] at HB
              have HN := Lib.hid (Dc.nx_sym (l := x.data.toList) (by rw [gx]; omega) (by rw [gx]; exact hl) (by rw [gx]; exact q3) (by rw [gx]; exact hL) (by rw [gx]; exact hD))
              have HC := Lib.hid (fun W => symbol_any x W h0)
              have hs2 := Dc.symbol_le x.data.toList
              clear q1 q2 q3 gx hl hL hD
              generalize hsy : Dc.symbol x.data.toList = m at *
              by_cases hm : m = 0
              · have HR := Lib.hid (HS.out.1 (by rw [HN.out, if_pos hm]; show (-1 : Int) < 0; decide))
                have t6 : ((m : Int) == 0) = true := by rw [beq_iff_eq]; omega
                clear hsy HS HN hm
                go_wp2_with (first | (go_at_call 33; with_reducible refine (HA.out _).mono ?_; rintro e w' ⟨rfl, rfl⟩) | (go_at_call 35; with_reducible refine (HB.out _).mono ?_; rintro e w' ⟨rfl, rfl⟩) | (go_at_call 37; with_reducible refine (HC.out _).mono ?_; rintro e w2 ⟨rfl, hb2⟩))
                have hst2 := hst.gr hb2
                obtain ⟨hg2, hsz2, ⟨d1, d2, d3, d4⟩, e1, e2, e3, e4⟩ := id hst2
                clear a1 a2 a3 a4 b1 b2 b3 b4
                go_region
                all_goals
                  go_wp2_with fail
                  refine bodyPost_ret (by simp [results, Tryd.results15, go_sem, d1, d2]; try rfl) rfl ?_
                  rw [HR.out]
                  exact ⟨by first | rfl | (simp; done), (by repeat' (first | (with_reducible exact Gr.refl _) | (with_reducible assumption) | (with_reducible refine Gr.alloc ?_ _) | (with_reducible refine Gr.drew ?_) | (with_reducible refine Gr.drewN ?_ _) | (with_reducible refine Gr.setCell ?_ ?_ _) | (with_reducible refine Gr.trans ?_ (by with_reducible assumption)) | go_size))⟩
              · rw [if_neg hm] at HN
                have t6 : ((m : Int) == 0) = false := by rw [beq_eq_false_iff_ne]; omega
                clear hsy HS hm
                go_wp2_with (first | (go_at_call 33; with_reducible refine (HA.out _).mono ?_; rintro e w' ⟨rfl, rfl⟩) | (go_at_call 35; with_reducible refine (HB.out _).mono ?_; rintro e w' ⟨rfl, rfl⟩) | (go_at_call 37; with_reducible refine (HC.out _).mono ?_; rintro e w2 ⟨rfl, hb2⟩))
                go_meet
                exact ⟨rfl, rfl, 3, m, rfl, rfl, HN.out, by omega, by omega, hst.gr hb2, ownsRow_gr HOWN.out hb2⟩
            · rw [hD] at HB
              have HN := Lib.hid (Dc.nx_num (l := x.data.toList) (by rw [gx]; exact hD))
              have HC := Lib.hid (fun W => numeral_any x W (by omega))
              clear q1 q2 q3 gx HS hl hL hD
              generalize Dc.numeral x.data.toList = m at *
              go_wp2_with (first | (go_at_call 33; with_reducible refine (HA.out _).mono ?_; rintro e w' ⟨rfl, rfl⟩) | (go_at_call 35; with_reducible refine (HB.out _).mono ?_; rintro e w' ⟨rfl, rfl⟩) | (go_at_call 36; with_reducible refine (HC.out _).mono ?_; rintro e w' ⟨rfl, rfl⟩))
              go_meet
              exact ⟨rfl, rfl, 2, m, rfl, rfl, HN.out, by omega, by omega, hst, HOWN.out⟩
          · rw [hL] at HA
            have HN := Lib.hid (Dc.nx_name (l := x.data.toList) (by rw [gx]; exact hL))
            have HC := Lib.hid (fun W => word_any x W (by omega))
            clear q1 q2 q3 gx hl hL
            generalize hwd : Dc.word x.data.toList = m at *
            by_cases hm : 20 < m
            · have HR := Lib.hid (HS.out.1 (by rw [HN.out, if_pos hm]; show (-1 : Int) < 0; decide))
              have t6 : decide ((20 : Int) < (m : Int)) = true := decide_eq_true (by omega)
              clear hwd HS HN hm
              go_wp2_with (first | (go_at_call 33; with_reducible refine (HA.out _).mono ?_; rintro e w' ⟨rfl, rfl⟩) | (go_at_call 34; with_reducible refine (HC.out _).mono ?_; rintro e w' ⟨rfl, rfl⟩))
              go_region
              all_goals
                go_wp2_with fail
                refine bodyPost_ret (by simp [results, Tryd.results15, go_sem, a1, a2]; try rfl) rfl ?_
                rw [HR.out]
                exact ⟨by first | rfl | (simp; done), (by repeat' (first | (with_reducible exact Gr.refl _) | (with_reducible assumption) | (with_reducible refine Gr.alloc ?_ _) | (with_reducible refine Gr.drew ?_) | (with_reducible refine Gr.drewN ?_ _) | (with_reducible refine Gr.setCell ?_ ?_ _) | (with_reducible refine Gr.trans ?_ (by with_reducible assumption)) | go_size))⟩
            · rw [if_neg hm] at HN
              have t6 : decide ((20 : Int) < (m : Int)) = false := decide_eq_false (by omega)
              clear hwd HS hm
              go_wp2_with (first | (go_at_call 33; with_reducible refine (HA.out _).mono ?_; rintro e w' ⟨rfl, rfl⟩) | (go_at_call 34; with_reducible refine (HC.out _).mono ?_; rintro e w' ⟨rfl, rfl⟩))
              go_meet
              exact ⟨rfl, rfl, 1, m, rfl, rfl, HN.out, by omega, by omega, hst, HOWN.out⟩
        case rest =>
          obtain ⟨rfl, rfl, k, m, rfl, rfl, hnx, k0, k3, hst2, hown2⟩ := hcut
          have hlen : x.data.toList.length = x.size := by simp
          have hne : x.data.toList ≠ [] := by intro e; rw [e] at hlen; simp at hlen; omega
          have hp := Dc.nx_pos hne
          have hle := Dc.nx_len hne (by rw [hnx]; exact k0)
          rw [hnx] at hp hle
          simp only at hp hle
          rw [hlen] at hle
          have hs3 := HS.out.2.2
          rw [hnx] at hs3
          simp only at hs3
          have HS3 := Lib.hid hs3
          have HOWN2 := Lib.hid hown2
          have hg2 : Gr w wc := hst2.1
          obtain ⟨-, hsz2, ⟨d1, d2, d3, d4⟩, e1, e2, e3, e4⟩ := id hst2
          clear hs3 HS hnx hne hlen gx hl t3 a1 a2 a3 a4 b1 b2 b3 b4 hst hg hown2
          by_cases kz : k = 0
          · subst kz
            have HN := Lib.hid (HS3.out.1 (by omega) (by omega) rfl)
            clear HS3
            go_wp2_with fail
            go_roundw
            case rel => exact ⟨_, ln, col + (m : Int), acc, n, rfl, HN.out, ⟨(by repeat' (first | (with_reducible exact Gr.refl _) | (with_reducible assumption) | (with_reducible refine Gr.alloc ?_ _) | (with_reducible refine Gr.drew ?_) | (with_reducible refine Gr.drewN ?_ _) | (with_reducible refine Gr.setCell ?_ ?_ _) | (with_reducible refine Gr.trans ?_ (by with_reducible assumption)) | go_size)), (by first | (simp; done) | (simp; omega)), ⟨(by first | (simp [go_sem, *]; done) | ((try simp [go_sem, *]); refine World.cell?_setCell_same' _ _ _ ?_; simp [go_sem, *]; done)), (by first | (simp [go_sem, *]; done) | ((try simp [go_sem, *]); refine World.cell?_setCell_same' _ _ _ ?_; simp [go_sem, *]; done)), (by first | (simp [go_sem, *]; done) | ((try simp [go_sem, *]); refine World.cell?_setCell_same' _ _ _ ?_; simp [go_sem, *]; done)), (by first | (simp [go_sem, *]; done) | ((try simp [go_sem, *]); refine World.cell?_setCell_same' _ _ _ ?_; simp [go_sem, *]; done))⟩, (by first | (simp [go_sem, *]; done) | ((try simp [go_sem, *]); refine World.cell?_setCell_same' _ _ _ ?_; simp [go_sem, *]; done)), (by first | (simp [go_sem, *]; done) | ((try simp [go_sem, *]); refine World.cell?_setCell_same' _ _ _ ?_; simp [go_sem, *]; done)), (by first | (simp [go_sem, *]; done) | ((try simp [go_sem, *]); refine World.cell?_setCell_same' _ _ _ ?_; simp [go_sem, *]; done)), (by first | (simp [go_sem, *]; done) | ((try simp [go_sem, *]); refine World.cell?_setCell_same' _ _ _ ?_; simp [go_sem, *]; done))⟩, by repeat' (first | exact HOWN2.out | refine ownsRow_drew ?_ | refine ownsRow_set ?_ (by simp) _)⟩
            case measure => simp; omega
          · have HN := Lib.hid (HS3.out.2 (by omega) (by omega) kz)
            have t7 : (k != 0) = true := by rw [bne_iff_ne]; exact kz
            clear HS3 kz
            go_wp2_with fail
            have r0 : ∀ w', TkSt w w' ln col → w'.cell? ⟨w.heap.size + 1, 0, none⟩ = some (.int .i64 ln) := fun w' h => h.2.2.2.1
            have r1 : ∀ w', TkSt w w' ln col → w'.cell? ⟨w.heap.size + 1, 1, none⟩ = some (.int .i64 col) := fun w' h => h.2.2.2.2.1
            go_region_held3 (fun w' => TkSt w w' ln col) (repeat' (first | (with_reducible assumption) | (with_reducible refine TkSt.drew ?_) | (with_reducible refine TkSt.drewN ?_ _) | (with_reducible refine TkSt.alloc ?_ _))) ((refine step_append_lies _ (by rfl) _ _ _ (by rfl) (w.heap.size + 2) 45 i0 _ 4 40 Tryd.underlying32 HI.out HZ0.out HZ1.out HZ2.out rfl (by decide) u5 n acc (by rfl) (ownsRow_gr HOWN2.out (by exact (by repeat' (first | (with_reducible exact Gr.refl _) | (with_reducible assumption) | (with_reducible refine Gr.alloc ?_ _) | (with_reducible refine Gr.drew ?_) | (with_reducible refine Gr.drewN ?_ _) | (with_reducible refine Gr.setCell ?_ ?_ _) | (with_reducible refine Gr.trans ?_ (by with_reducible assumption)) | go_size)))) ⟨wc.heap.size, 0, none⟩ 1 1 [.int .i64 k, .string (x.extract 0 m), .int .i64 ln, .int .i64 col] (by rfl) (by rfl) (World.news_of_block (cs := #[.int .i64 k, .string (x.extract 0 m), .int .i64 ln, .int .i64 col]) (heap_alloc_new wc _)) (by simp [Value.oneCell']) (by omega) (by unfold maxLen; omega) (by omega) (by simp; omega) (wc.heap.size + 1) (by simp) ?_; intro g cap w1 hown1 hgrow hat1 hlt1; have hst3 : TkSt w w1 ln col := TkSt.app (by repeat' (first | (with_reducible assumption) | (with_reducible refine TkSt.drew ?_) | (with_reducible refine TkSt.drewN ?_ _) | (with_reducible refine TkSt.alloc ?_ _))) (ownsRow_gr HOWN2.out (by exact (by repeat' (first | (with_reducible exact Gr.refl _) | (with_reducible assumption) | (with_reducible refine Gr.alloc ?_ _) | (with_reducible refine Gr.drew ?_) | (with_reducible refine Gr.drewN ?_ _) | (with_reducible refine Gr.setCell ?_ ?_ _) | (with_reducible refine Gr.trans ?_ (by with_reducible assumption)) | go_size)))) hgrow))
            all_goals
              have HO := Lib.hid hown1
              clear hown1 hgrow hat1 d1 d2 d3 d4 e1 e2 e3 e4 hst2 hg2 r0 r1
              obtain ⟨hg1, hsz1, ⟨d1, d2, d3, d4⟩, e1, e2, e3, e4⟩ := id hst3
              rw [extract_head] at HO
              go_wp2_with fail
              go_roundw
              case rel => exact ⟨_, ln, col + (m : Int), _, n + 1, rfl, HN.out, ⟨(by repeat' (first | (with_reducible exact Gr.refl _) | (with_reducible assumption) | (with_reducible refine Gr.alloc ?_ _) | (with_reducible refine Gr.drew ?_) | (with_reducible refine Gr.drewN ?_ _) | (with_reducible refine Gr.setCell ?_ ?_ _) | (with_reducible refine Gr.trans ?_ (by with_reducible assumption)) | go_size)), (by first | (simp; done) | (simp; omega)), ⟨(by first | (simp [go_sem, *]; done) | ((try simp [go_sem, *]); refine World.cell?_setCell_same' _ _ _ ?_; simp [go_sem, *]; done)), (by first | (simp [go_sem, *]; done) | ((try simp [go_sem, *]); refine World.cell?_setCell_same' _ _ _ ?_; simp [go_sem, *]; done)), (by first | (simp [go_sem, *]; done) | ((try simp [go_sem, *]); refine World.cell?_setCell_same' _ _ _ ?_; simp [go_sem, *]; done)), (by first | (simp [go_sem, *]; done) | ((try simp [go_sem, *]); refine World.cell?_setCell_same' _ _ _ ?_; simp [go_sem, *]; done))⟩, (by first | (simp [go_sem, *]; done) | ((try simp [go_sem, *]); refine World.cell?_setCell_same' _ _ _ ?_; simp [go_sem, *]; done)), (by first | (simp [go_sem, *]; done) | ((try simp [go_sem, *]); refine World.cell?_setCell_same' _ _ _ ?_; simp [go_sem, *]; done)), (by first | (simp [go_sem, *]; done) | ((try simp [go_sem, *]); refine World.cell?_setCell_same' _ _ _ ?_; simp [go_sem, *]; done)), (by first | (simp [go_sem, *]; done) | ((try simp [go_sem, *]); refine World.cell?_setCell_same' _ _ _ ?_; simp [go_sem, *]; done))⟩, by repeat' (first | exact HO.out | refine ownsRow_drew ?_ | refine ownsRow_set ?_ (by simp) _)⟩
              case measure => simp; omega
    · have hE := empty_yes x (by omega)
      have hF := HAT.out.nil (by omega)
      go_wp2_with (at_builtin; refine wpList_append_own _ rfl _ _ 32 rfl (w.heap.size + 2) 45 i0 _ 4 40 Tryd.underlying32 HI.out HZ0.out HZ1.out HZ2.out rfl (by decide) _ n acc rfl (ownsRow_gr HOWN.out (by exact (by repeat' (first | (with_reducible exact Gr.refl _) | (with_reducible assumption) | (with_reducible refine Gr.alloc ?_ _) | (with_reducible refine Gr.drew ?_) | (with_reducible refine Gr.drewN ?_ _) | (with_reducible refine Gr.setCell ?_ ?_ _) | (with_reducible refine Gr.trans ?_ (by with_reducible assumption)) | go_size)))) ⟨wr.heap.size, 0, none⟩ 1 1 [.int .i64 5, .string ⟨#[]⟩, .int .i64 ln, .int .i64 col] rfl rfl ?c1 ?c2 ?c3 ?c4 ?c5 ?_)
      case c1 => exact World.news_of_block (cs := #[.int .i64 5, .string ⟨#[]⟩, .int .i64 ln, .int .i64 col]) (heap_alloc_new wr _)
      case c2 => simp [Value.oneCell']
      case c3 => unfold maxLen; omega
      case c4 => omega
      case c5 => have := hst.2.1; simp; omega
      intro v' w1 hown' hgrow _
      have hst1 : TkSt w w1 ln col := TkSt.app (TkSt.alloc hst _) (ownsRow_gr HOWN.out (by exact (by repeat' (first | (with_reducible exact Gr.refl _) | (with_reducible assumption) | (with_reducible refine Gr.alloc ?_ _) | (with_reducible refine Gr.drew ?_) | (with_reducible refine Gr.drewN ?_ _) | (with_reducible refine Gr.setCell ?_ ?_ _) | (with_reducible refine Gr.trans ?_ (by with_reducible assumption)) | go_size)))) hgrow
      have HO := Lib.hid hown'
      clear hown' hgrow
      obtain ⟨hg1, hsz1, ⟨d1, d2, d3, d4⟩, e1, e2, e3, e4⟩ := id hst1
      clear a1 a2 a3 a4 b1 b2 b3 b4 hst hg
      go_wp2_with fail
      refine bodyPost_ret (by simp [results, Tryd.results15, go_sem, d1, d2]; try rfl) rfl ?_
      rw [hF]
      exact ⟨_, n + 1, by first | rfl | (simp; done), ownsRow_base (base := w.heap.size + 2) (by repeat' (first | exact HO.out | refine ownsRow_drew ?_ | refine ownsRow_set ?_ (by simp) _)) (by omega), by omega, (by repeat' (first | (with_reducible exact Gr.refl _) | (with_reducible assumption) | (with_reducible refine Gr.alloc ?_ _) | (with_reducible refine Gr.drew ?_) | (with_reducible refine Gr.drewN ?_ _) | (with_reducible refine Gr.setCell ?_ ?_ _) | (with_reducible refine Gr.trans ?_ (by with_reducible assumption)) | go_size))⟩
end Go.Proofs.YtagfgnpjljaefaaDoor
