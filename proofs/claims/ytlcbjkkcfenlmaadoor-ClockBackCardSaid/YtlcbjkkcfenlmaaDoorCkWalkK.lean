import Derived.Test.YtlcbjkkcfenlmaaDoorCkTextC
import Derived.Test.YtlcbjkkcfenlmaaDoorCkPlainD
set_option linter.unusedVariables false
set_option linter.unusedSimpArgs false
namespace Go.Proofs.YtlcbjkkcfenlmaaDoor
open Go.RowKit
set_option maxRecDepth 100000 in
set_option maxHeartbeats 1000000 in
theorem rnum_any (s : ByteArray) (w : World) (hs : s.size ≤ 4) :
    Calls Tryd.prog 51 #[.string s] w fun e w' => e = .returned (.int .i64 (Ck.rnum s.data.toList)) ∧ w = w' := by
  have hlen : s.data.toList.length = s.size := by simp
  have HL := Lib.hid hlen
  clear hlen
  go_enter Tryd.func51, Tryd.ntmps51
  go_wp2_with fail
  go_loop [3, 4] (fun p q => ∃ (k : Nat) (n : Int), k ≤ s.size ∧ q = .int .i64 k ∧ p = .int .i64 n ∧ Hid (Ck.seg s.data.toList 0 k = some n) ∧ 0 ≤ n ∧ n ≤ 9999) (fun _ q => s.size - (intOf q).toNat)
  case atStart => exact ⟨0, 0, by omega, rfl, rfl, Lib.hid rfl, by omega, by omega⟩
  case round =>
    obtain ⟨k, n, hk, rfl, rfl, hr, n0, n1⟩ := hrel
    by_cases hlt : k < s.size
    · have gs := Lib.hid (getD_byte s k hlt)
      have b0 : (s[k].toNat : Int) < 256 := by have := s[k].toNat_lt; omega
      by_cases hd : 48 ≤ s[k].toNat ∧ s[k].toNat ≤ 57
      · obtain ⟨d0, d1⟩ := hd
        have hn := Ck.seg_yes hr.out (by rw [Nat.zero_add, gs.out]; exact d0) (by rw [Nat.zero_add, gs.out]; exact d1)
        rw [Nat.zero_add, gs.out] at hn
        have hb := Ck.seg_bd _ _ hn
        have hp : (10 : Int) ^ (k + 1) ≤ 10 ^ 4 := by
          have : (10 : Nat) ^ (k + 1) ≤ 10 ^ 4 := Nat.pow_le_pow_right (by omega) (by omega)
          exact_mod_cast this
        have hb1 : 10 * n + ((s[k].toNat : Int) - 48) ≤ 9999 := by
          have : (10 : Int) ^ 4 = 10000 := by decide
          omega
        have hb0 : 0 ≤ 10 * n + ((s[k].toNat : Int) - 48) := hb.1
        have HN := Lib.hid hn
        have t1 : decide ((s[k].toNat : Int) < 48) = false := decide_eq_false (by omega)
        have t2 : decide (57 < (s[k].toNat : Int)) = false := decide_eq_false (by omega)
        have e0 : (48 : Int) ≤ (s[k].toNat : Int) := by omega
        have e1 : (s[k].toNat : Int) ≤ 57 := by omega
        clear d0 d1 hn hb hp
        go_wp2
        go_round
        case rel => exact ⟨k + 1, _, by omega, by go_num, rfl, HN, hb0, hb1⟩
        case measure => simp [intOf]; omega
      · have hn := Ck.seg_none (Ck.seg_no hr.out (by rw [Nat.zero_add, gs.out]; omega)) s.data.toList.length (by rw [HL.out]; omega)
        have HZ := Lib.hid (show Ck.rnum s.data.toList = -1 by unfold Ck.rnum; rw [hn]; rfl)
        clear hn
        by_cases hd0 : s[k].toNat < 48
        · have t1 : decide ((s[k].toNat : Int) < 48) = true := decide_eq_true (by omega)
          clear hd hd0
          go_wp2
          go_ret
          exact ⟨ret_int HZ.out.symm, rfl⟩
        · have t1 : decide ((s[k].toNat : Int) < 48) = false := decide_eq_false (by omega)
          have t2 : decide (57 < (s[k].toNat : Int)) = true := decide_eq_true (by omega)
          clear hd hd0
          go_wp2
          go_ret
          exact ⟨ret_int HZ.out.symm, rfl⟩
    · obtain rfl : k = s.size := by omega
      have HZ := Lib.hid (show Ck.rnum s.data.toList = n by unfold Ck.rnum; rw [HL.out, hr.out]; rfl)
      go_wp2
      go_ret
      exact ⟨ret_int HZ.out.symm, rfl⟩
theorem piece_list (s : ByteArray) (a b : Nat) : (s.extract a b).data.toList = (s.data.toList.drop a).take (b - a) := Lib.extract_data s a b
theorem rnum_piece_any (s : ByteArray) (a b : Nat) (w : World) (hab : a ≤ b) (h4 : b - a ≤ 4) (hb : b ≤ s.size) :
    Calls Tryd.prog 51 #[.string (s.extract a b)] w fun e w' => e = .returned (.int .i64 ((Ck.seg s.data.toList a (b - a)).getD (-1))) ∧ w = w' := by
  have h := rnum_any (s.extract a b) w (by rw [ByteArray.size_extract]; omega)
  rw [piece_list, Ck.rnum_piece _ _ _ (by simp; omega)] at h
  exact h
set_option maxHeartbeats 1000000 in
theorem rparse_size (s : ByteArray) (w : World) (hm : s.size ≤ 9223372036854775807) (hs : s.size ≠ 19) :
    Calls Tryd.prog 33 #[.string s] w fun e w' => e = .returned (.tuple #[.int .i64 0, .int .i64 7]) ∧ Gr w w' := by
  have t0 : ((s.size : Int) != 19) = true := by rw [bne_iff_ne]; omega
  clear hs
  go_enter Tryd.func33, Tryd.ntmps33
  go_wp2
  go_ret2
  exact ⟨rfl, (by repeat' (first | (with_reducible exact Gr.refl _) | (with_reducible assumption) | (with_reducible refine Gr.alloc ?_ _) | (with_reducible refine Gr.drew ?_) | (with_reducible refine Gr.drewN ?_ _) | (with_reducible refine Gr.setCell ?_ ?_ _) | (with_reducible refine Gr.trans ?_ (by with_reducible assumption)) | go_size))⟩
set_option maxRecDepth 100000 in
set_option maxHeartbeats 2000000 in
theorem rparse_sep (s : ByteArray) (w : World) (hs : s.size = 19) (hsep : ¬ Ck.seps s.data.toList) :
    Calls Tryd.prog 33 #[.string s] w fun e w' => e = .returned (.tuple #[.int .i64 0, .int .i64 7]) ∧ Gr w w' := by
  have t0 : ((s.size : Int) != 19) = false := by simp [hs]
  have l0 : 19 ≤ s.size := by omega
  have l1 : s.size ≤ 19 := by omega
  unfold Ck.seps at hsep
  rw [getD_byte s 4 (by omega), getD_byte s 7 (by omega), getD_byte s 10 (by omega), getD_byte s 13 (by omega), getD_byte s 16 (by omega)] at hsep
  by_cases c4 : s[4].toNat = 45
  case neg =>
    have t4 : ((s[4].toNat : Int) != 45) = true := by rw [bne_iff_ne]; omega
    clear hsep c4
    go_enter Tryd.func33, Tryd.ntmps33
    go_wp2
    go_ret2
    exact ⟨rfl, (by repeat' (first | (with_reducible exact Gr.refl _) | (with_reducible assumption) | (with_reducible refine Gr.alloc ?_ _) | (with_reducible refine Gr.drew ?_) | (with_reducible refine Gr.drewN ?_ _) | (with_reducible refine Gr.setCell ?_ ?_ _) | (with_reducible refine Gr.trans ?_ (by with_reducible assumption)) | go_size))⟩
  have t4 : ((s[4].toNat : Int) != 45) = false := by simp [c4]
  by_cases c7 : s[7].toNat = 45
  case neg =>
    have t7 : ((s[7].toNat : Int) != 45) = true := by rw [bne_iff_ne]; omega
    clear hsep c7 c4
    go_enter Tryd.func33, Tryd.ntmps33
    go_wp2
    go_ret2
    exact ⟨rfl, (by repeat' (first | (with_reducible exact Gr.refl _) | (with_reducible assumption) | (with_reducible refine Gr.alloc ?_ _) | (with_reducible refine Gr.drew ?_) | (with_reducible refine Gr.drewN ?_ _) | (with_reducible refine Gr.setCell ?_ ?_ _) | (with_reducible refine Gr.trans ?_ (by with_reducible assumption)) | go_size))⟩
  have t7 : ((s[7].toNat : Int) != 45) = false := by simp [c7]
  by_cases c10 : s[10].toNat = 32
  case neg =>
    have t10 : ((s[10].toNat : Int) != 32) = true := by rw [bne_iff_ne]; omega
    clear hsep c10 c4 c7
    go_enter Tryd.func33, Tryd.ntmps33
    go_wp2
    go_ret2
    exact ⟨rfl, (by repeat' (first | (with_reducible exact Gr.refl _) | (with_reducible assumption) | (with_reducible refine Gr.alloc ?_ _) | (with_reducible refine Gr.drew ?_) | (with_reducible refine Gr.drewN ?_ _) | (with_reducible refine Gr.setCell ?_ ?_ _) | (with_reducible refine Gr.trans ?_ (by with_reducible assumption)) | go_size))⟩
  have t10 : ((s[10].toNat : Int) != 32) = false := by simp [c10]
  by_cases c13 : s[13].toNat = 58
  case neg =>
    have t13 : ((s[13].toNat : Int) != 58) = true := by rw [bne_iff_ne]; omega
    clear hsep c13 c4 c7 c10
    go_enter Tryd.func33, Tryd.ntmps33
    go_wp2
    go_ret2
    exact ⟨rfl, (by repeat' (first | (with_reducible exact Gr.refl _) | (with_reducible assumption) | (with_reducible refine Gr.alloc ?_ _) | (with_reducible refine Gr.drew ?_) | (with_reducible refine Gr.drewN ?_ _) | (with_reducible refine Gr.setCell ?_ ?_ _) | (with_reducible refine Gr.trans ?_ (by with_reducible assumption)) | go_size))⟩
  have t13 : ((s[13].toNat : Int) != 58) = false := by simp [c13]
  have c16 : s[16].toNat ≠ 58 := fun h => hsep ⟨c4, c7, c10, c13, h⟩
  have t16 : ((s[16].toNat : Int) != 58) = true := by rw [bne_iff_ne]; omega
  clear hsep c4 c7 c10 c13 c16
  go_enter Tryd.func33, Tryd.ntmps33
  go_wp2
  go_ret2
  exact ⟨rfl, (by repeat' (first | (with_reducible exact Gr.refl _) | (with_reducible assumption) | (with_reducible refine Gr.alloc ?_ _) | (with_reducible refine Gr.drew ?_) | (with_reducible refine Gr.drewN ?_ _) | (with_reducible refine Gr.setCell ?_ ?_ _) | (with_reducible refine Gr.trans ?_ (by with_reducible assumption)) | go_size))⟩
theorem Ck.seg_getD (sl : List UInt8) (a j : Nat) (hj : j ≤ 4) : -1 ≤ (Ck.seg sl a j).getD (-1) ∧ (Ck.seg sl a j).getD (-1) ≤ 9999 := by
  cases h : Ck.seg sl a j with
  | none => simp
  | some n =>
    have := Ck.seg_bd _ _ h
    have hp : (10 : Int) ^ j ≤ 10000 := by
      rcases (show j = 0 ∨ j = 1 ∨ j = 2 ∨ j = 3 ∨ j = 4 by omega) with r | r | r | r | r <;> rw [r] <;> decide
    simp only [Option.getD_some]
    omega
/-- What Parse returns for six numbers. -/
def Ck.pres (y m d h i c : Int) (e : Ending) : Prop :=
  if Ck.vld y m d = true ∧ 0 ≤ h ∧ h ≤ 23 ∧ 0 ≤ i ∧ i ≤ 59 ∧ 0 ≤ c ∧ c ≤ 59 then e = .returned (.tuple #[.int .i64 (Ck.atQ (Ck.num y m d * 86400 + (h * 3600 + i * 60 + c))), .int .i64 (Ck.atE (Ck.num y m d * 86400 + (h * 3600 + i * 60 + c)))]) else e = .returned (.tuple #[.int .i64 0, .int .i64 7])
theorem Ck.pres_ok {y m d h i c : Int} {e : Ending} (hall : Ck.vld y m d = true ∧ 0 ≤ h ∧ h ≤ 23 ∧ 0 ≤ i ∧ i ≤ 59 ∧ 0 ≤ c ∧ c ≤ 59) (he : e = .returned (.tuple #[.int .i64 (Ck.atQ (Ck.num y m d * 86400 + (h * 3600 + i * 60 + c))), .int .i64 (Ck.atE (Ck.num y m d * 86400 + (h * 3600 + i * 60 + c)))])) : Ck.pres y m d h i c e := by unfold Ck.pres; rw [if_pos hall]; exact he
theorem Ck.pres_bad {y m d h i c : Int} {e : Ending} (hall : ¬ (Ck.vld y m d = true ∧ 0 ≤ h ∧ h ≤ 23 ∧ 0 ≤ i ∧ i ≤ 59 ∧ 0 ≤ c ∧ c ≤ 59)) (he : e = .returned (.tuple #[.int .i64 0, .int .i64 7])) : Ck.pres y m d h i c e := by unfold Ck.pres; rw [if_neg hall]; exact he
set_option maxRecDepth 100000 in
set_option maxHeartbeats 4000000 in
theorem rparse_ok (s : ByteArray) (w : World) (hs : s.size = 19) (hsep : Ck.seps s.data.toList) (y m d h i c : Int)
    (hy : (Ck.seg s.data.toList 0 4).getD (-1) = y) (hm : (Ck.seg s.data.toList 5 2).getD (-1) = m) (hd : (Ck.seg s.data.toList 8 2).getD (-1) = d) (hh : (Ck.seg s.data.toList 11 2).getD (-1) = h) (hi : (Ck.seg s.data.toList 14 2).getD (-1) = i) (hc : (Ck.seg s.data.toList 17 2).getD (-1) = c) :
    Calls Tryd.prog 33 #[.string s] w fun e w' => Ck.pres y m d h i c e ∧ Gr w w' := by
  have l0 : 19 ≤ s.size := by omega
  have l1 : s.size ≤ 19 := by omega
  have p1 := fun W => rnum_piece_any s 0 4 W (by omega) (by omega) (by omega)
  have p2 := fun W => rnum_piece_any s 5 7 W (by omega) (by omega) (by omega)
  have p3 := fun W => rnum_piece_any s 8 10 W (by omega) (by omega) (by omega)
  have p4 := fun W => rnum_piece_any s 11 13 W (by omega) (by omega) (by omega)
  have p5 := fun W => rnum_piece_any s 14 16 W (by omega) (by omega) (by omega)
  have p6 := fun W => rnum_piece_any s 17 s.size W (by omega) (by omega) (by omega)
  rw [hs] at p6
  simp only [Nat.reduceSub] at p1 p2 p3 p4 p5 p6
  have yb := Ck.seg_getD s.data.toList 0 4 (by omega); have mb := Ck.seg_getD s.data.toList 5 2 (by omega); have db := Ck.seg_getD s.data.toList 8 2 (by omega)
  have hb := Ck.seg_getD s.data.toList 11 2 (by omega); have ib := Ck.seg_getD s.data.toList 14 2 (by omega); have cb := Ck.seg_getD s.data.toList 17 2 (by omega)
  rw [hy] at p1 yb; rw [hm] at p2 mb; rw [hd] at p3 db; rw [hh] at p4 hb; rw [hi] at p5 ib; rw [hc] at p6 cb
  clear hy hm hd hh hi hc
  obtain ⟨h0, h1⟩ := hb; obtain ⟨i0, i1⟩ := ib; obtain ⟨c0, c1⟩ := cb
  have P1 := Lib.hid p1; have P2 := Lib.hid p2; have P3 := Lib.hid p3; have P4 := Lib.hid p4; have P5 := Lib.hid p5
  have P6 := Lib.hid (show ∀ W, _ from by intro W; have := p6 W; rw [← hs] at this; exact this)
  clear p1 p2 p3 p4 p5 p6 yb mb db
  have t0 : ((s.size : Int) != 19) = false := by simp [hs]
  clear hs
  unfold Ck.seps at hsep
  rw [getD_byte s 4 (by omega), getD_byte s 7 (by omega), getD_byte s 10 (by omega), getD_byte s 13 (by omega), getD_byte s 16 (by omega)] at hsep
  obtain ⟨e4, e7, e10, e13, e16⟩ := hsep
  have t4 : ((s[4].toNat : Int) != 45) = false := by simp [e4]
  have t7 : ((s[7].toNat : Int) != 45) = false := by simp [e7]
  have t10 : ((s[10].toNat : Int) != 32) = false := by simp [e10]
  have t13 : ((s[13].toNat : Int) != 58) = false := by simp [e13]
  have t16 : ((s[16].toNat : Int) != 58) = false := by simp [e16]
  clear e4 e7 e10 e13 e16
  have z4 : (4 : Int) ≤ (s.size : Int) := by omega
  have z7 : (7 : Int) ≤ (s.size : Int) := by omega
  have z10 : (10 : Int) ≤ (s.size : Int) := by omega
  have z13 : (13 : Int) ≤ (s.size : Int) := by omega
  have z16 : (16 : Int) ≤ (s.size : Int) := by omega
  have z17 : (17 : Int) ≤ (s.size : Int) := by omega
  have HV := Lib.hid (fun W => rvalid_any y m d W)
  go_enter Tryd.func33, Tryd.ntmps33
  go_upto_region 3 with fail
  go_cut [4] (fun s4 wx => ∃ D : Nat, s4 = .pointer (some ⟨D, 0, none⟩) ∧ wx.cell? ⟨D, 0, none⟩ = some (.int .i64 y) ∧ wx.cell? ⟨D, 1, none⟩ = some (.int .i64 m) ∧ wx.cell? ⟨D, 2, none⟩ = some (.int .i64 d) ∧ Gr w wx)
  case first =>
    refine name_world ?_; intro W0 hW0
    have g0 : Gr w W0 := by rw [hW0]; exact (by repeat' (first | (with_reducible exact Gr.refl _) | (with_reducible assumption) | (with_reducible refine Gr.alloc ?_ _) | (with_reducible refine Gr.drew ?_) | (with_reducible refine Gr.drewN ?_ _) | (with_reducible refine Gr.setCell ?_ ?_ _) | (with_reducible refine Gr.trans ?_ (by with_reducible assumption)) | go_size))
    clear hW0
    have zW0 := Gr.size g0
    go_region_held3 (fun w' => Gr W0 w') (repeat' (first | (with_reducible exact Gr.refl _) | (with_reducible assumption) | (with_reducible refine Gr.alloc ?_ _) | (with_reducible refine Gr.drew ?_) | (with_reducible refine Gr.drewN ?_ _) | (with_reducible refine Gr.setCell ?_ ?_ _) | (with_reducible refine Gr.trans ?_ (by with_reducible assumption)) | go_size)) (first | (go_at_call 51; with_reducible refine (P1.out _).mono ?_; rintro e w' ⟨rfl, rfl⟩) | (go_at_call 51; with_reducible refine (P2.out _).mono ?_; rintro e w' ⟨rfl, rfl⟩) | (go_at_call 51; with_reducible refine (P3.out _).mono ?_; rintro e w' ⟨rfl, rfl⟩))
    all_goals
      go_wp2_with fail
      go_meet
      exact ⟨_, rfl, (by first | (simp [go_sem, *]; done) | ((try simp [go_sem, *]); refine World.cell?_setCell_same' _ _ _ ?_; simp [go_sem, *]; done)), (by first | (simp [go_sem, *]; done) | ((try simp [go_sem, *]); refine World.cell?_setCell_same' _ _ _ ?_; simp [go_sem, *]; done)), (by first | (simp [go_sem, *]; done) | ((try simp [go_sem, *]); refine World.cell?_setCell_same' _ _ _ ?_; simp [go_sem, *]; done)), (by repeat' (first | (with_reducible exact Gr.refl _) | (with_reducible assumption) | (with_reducible refine Gr.alloc ?_ _) | (with_reducible refine Gr.drew ?_) | (with_reducible refine Gr.drewN ?_ _) | (with_reducible refine Gr.setCell ?_ ?_ _) | (with_reducible refine Gr.trans ?_ (by with_reducible assumption)) | go_size))⟩
  case rest =>
    obtain ⟨D, rfl, d0, d1, d2, hg⟩ := hcut
    go_upto_region 4 with fail
    go_cut [5, 6, 7] (fun s5 s6 s7 wx => s5 = .int .i64 h ∧ s6 = .int .i64 i ∧ s7 = .int .i64 c ∧ wx.cell? ⟨D, 0, none⟩ = some (.int .i64 y) ∧ wx.cell? ⟨D, 1, none⟩ = some (.int .i64 m) ∧ wx.cell? ⟨D, 2, none⟩ = some (.int .i64 d) ∧ Gr w wx)
    case first =>
      refine name_world ?_; intro W1 hW1
      have g1 : Gr w W1 := by rw [hW1]; exact (by repeat' (first | (with_reducible exact Gr.refl _) | (with_reducible assumption) | (with_reducible refine Gr.alloc ?_ _) | (with_reducible refine Gr.drew ?_) | (with_reducible refine Gr.drewN ?_ _) | (with_reducible refine Gr.setCell ?_ ?_ _) | (with_reducible refine Gr.trans ?_ (by with_reducible assumption)) | go_size))
      have k1_0 : ∀ w', Gr W1 w' → w'.cell? ⟨D, 0, none⟩ = some (.int .i64 y) := fun w' hgW => by first | exact (Gr.at hgW (by rw [hW1]; simp [go_sem, *]))
      have k1_1 : ∀ w', Gr W1 w' → w'.cell? ⟨D, 1, none⟩ = some (.int .i64 m) := fun w' hgW => by first | exact (Gr.at hgW (by rw [hW1]; simp [go_sem, *]))
      have k1_2 : ∀ w', Gr W1 w' → w'.cell? ⟨D, 2, none⟩ = some (.int .i64 d) := fun w' hgW => by first | exact (Gr.at hgW (by rw [hW1]; simp [go_sem, *]))
      clear hW1
      have zW1 := Gr.size g1
      go_region_held3 (fun w' => Gr W1 w') (repeat' (first | (with_reducible exact Gr.refl _) | (with_reducible assumption) | (with_reducible refine Gr.alloc ?_ _) | (with_reducible refine Gr.drew ?_) | (with_reducible refine Gr.drewN ?_ _) | (with_reducible refine Gr.setCell ?_ ?_ _) | (with_reducible refine Gr.trans ?_ (by with_reducible assumption)) | go_size)) (first | (go_at_call 51; with_reducible refine (P4.out _).mono ?_; rintro e w' ⟨rfl, rfl⟩) | (go_at_call 51; with_reducible refine (P5.out _).mono ?_; rintro e w' ⟨rfl, rfl⟩) | (go_at_call 51; with_reducible refine (P6.out _).mono ?_; rintro e w' ⟨rfl, rfl⟩))
      all_goals
        go_wp2_with fail
        go_meet
        exact ⟨rfl, rfl, rfl, (by first | (simp [go_sem, *]; done) | ((try simp [go_sem, *]); refine World.cell?_setCell_same' _ _ _ ?_; simp [go_sem, *]; done)), (by first | (simp [go_sem, *]; done) | ((try simp [go_sem, *]); refine World.cell?_setCell_same' _ _ _ ?_; simp [go_sem, *]; done)), (by first | (simp [go_sem, *]; done) | ((try simp [go_sem, *]); refine World.cell?_setCell_same' _ _ _ ?_; simp [go_sem, *]; done)), (by repeat' (first | (with_reducible exact Gr.refl _) | (with_reducible assumption) | (with_reducible refine Gr.alloc ?_ _) | (with_reducible refine Gr.drew ?_) | (with_reducible refine Gr.drewN ?_ _) | (with_reducible refine Gr.setCell ?_ ?_ _) | (with_reducible refine Gr.trans ?_ (by with_reducible assumption)) | go_size))⟩
    case rest =>
      obtain ⟨rfl, rfl, rfl, f0, f1, f2, hg2⟩ := hcut
      clear d0 d1 d2 hg P1 P2 P3 P4 P5 P6 t0 t4 t7 t10 t13 t16 z4 z7 z10 z13 z16 z17
      go_wp2_with fail
      refine (HV.out _).mono ?_
      rintro e w2 ⟨rfl, hb2⟩
      have k0 := Gr.at hb2 f0; have k1 := Gr.at hb2 f1; have k2 := Gr.at hb2 f2
      have hg3 : Gr w w2 := hg2.trans hb2
      clear f0 f1 f2 hb2 hg2
      cases hv : Ck.vld y m d
      · go_wp2
        go_ret2
        exact ⟨Ck.pres_bad (fun hh => by rw [hv] at hh; exact absurd hh.1 (by decide)) rfl, (by repeat' (first | (with_reducible exact Gr.refl _) | (with_reducible assumption) | (with_reducible refine Gr.alloc ?_ _) | (with_reducible refine Gr.drew ?_) | (with_reducible refine Gr.drewN ?_ _) | (with_reducible refine Gr.setCell ?_ ?_ _) | (with_reducible refine Gr.trans ?_ (by with_reducible assumption)) | go_size))⟩
      · by_cases q0 : h < 0
        case pos =>
          have r0 : decide (h < 0) = true := decide_eq_true q0
          clear hv
          go_wp2
          go_ret2
          exact ⟨Ck.pres_bad (fun hh => by have := hh.2.1; omega) rfl, (by repeat' (first | (with_reducible exact Gr.refl _) | (with_reducible assumption) | (with_reducible refine Gr.alloc ?_ _) | (with_reducible refine Gr.drew ?_) | (with_reducible refine Gr.drewN ?_ _) | (with_reducible refine Gr.setCell ?_ ?_ _) | (with_reducible refine Gr.trans ?_ (by with_reducible assumption)) | go_size))⟩
        have r0 : decide (h < 0) = false := decide_eq_false q0
        by_cases q1 : 23 < h
        case pos =>
          have r1 : decide (23 < h) = true := decide_eq_true q1
          clear hv
          go_wp2
          go_ret2
          exact ⟨Ck.pres_bad (fun hh => by have := hh.2.2.1; omega) rfl, (by repeat' (first | (with_reducible exact Gr.refl _) | (with_reducible assumption) | (with_reducible refine Gr.alloc ?_ _) | (with_reducible refine Gr.drew ?_) | (with_reducible refine Gr.drewN ?_ _) | (with_reducible refine Gr.setCell ?_ ?_ _) | (with_reducible refine Gr.trans ?_ (by with_reducible assumption)) | go_size))⟩
        have r1 : decide (23 < h) = false := decide_eq_false q1
        by_cases q2 : i < 0
        case pos =>
          have r2 : decide (i < 0) = true := decide_eq_true q2
          clear hv
          go_wp2
          go_ret2
          exact ⟨Ck.pres_bad (fun hh => by have := hh.2.2.2.1; omega) rfl, (by repeat' (first | (with_reducible exact Gr.refl _) | (with_reducible assumption) | (with_reducible refine Gr.alloc ?_ _) | (with_reducible refine Gr.drew ?_) | (with_reducible refine Gr.drewN ?_ _) | (with_reducible refine Gr.setCell ?_ ?_ _) | (with_reducible refine Gr.trans ?_ (by with_reducible assumption)) | go_size))⟩
        have r2 : decide (i < 0) = false := decide_eq_false q2
        by_cases q3 : 59 < i
        case pos =>
          have r3 : decide (59 < i) = true := decide_eq_true q3
          clear hv
          go_wp2
          go_ret2
          exact ⟨Ck.pres_bad (fun hh => by have := hh.2.2.2.2.1; omega) rfl, (by repeat' (first | (with_reducible exact Gr.refl _) | (with_reducible assumption) | (with_reducible refine Gr.alloc ?_ _) | (with_reducible refine Gr.drew ?_) | (with_reducible refine Gr.drewN ?_ _) | (with_reducible refine Gr.setCell ?_ ?_ _) | (with_reducible refine Gr.trans ?_ (by with_reducible assumption)) | go_size))⟩
        have r3 : decide (59 < i) = false := decide_eq_false q3
        by_cases q4 : c < 0
        case pos =>
          have r4 : decide (c < 0) = true := decide_eq_true q4
          clear hv
          go_wp2
          go_ret2
          exact ⟨Ck.pres_bad (fun hh => by have := hh.2.2.2.2.2.1; omega) rfl, (by repeat' (first | (with_reducible exact Gr.refl _) | (with_reducible assumption) | (with_reducible refine Gr.alloc ?_ _) | (with_reducible refine Gr.drew ?_) | (with_reducible refine Gr.drewN ?_ _) | (with_reducible refine Gr.setCell ?_ ?_ _) | (with_reducible refine Gr.trans ?_ (by with_reducible assumption)) | go_size))⟩
        have r4 : decide (c < 0) = false := decide_eq_false q4
        by_cases q5 : 59 < c
        case pos =>
          have r5 : decide (59 < c) = true := decide_eq_true q5
          clear hv
          go_wp2
          go_ret2
          exact ⟨Ck.pres_bad (fun hh => by have := hh.2.2.2.2.2.2; omega) rfl, (by repeat' (first | (with_reducible exact Gr.refl _) | (with_reducible assumption) | (with_reducible refine Gr.alloc ?_ _) | (with_reducible refine Gr.drew ?_) | (with_reducible refine Gr.drewN ?_ _) | (with_reducible refine Gr.setCell ?_ ?_ _) | (with_reducible refine Gr.trans ?_ (by with_reducible assumption)) | go_size))⟩
        have r5 : decide (59 < c) = false := decide_eq_false q5
        have hall : Ck.vld y m d = true ∧ 0 ≤ h ∧ h ≤ 23 ∧ 0 ≤ i ∧ i ≤ 59 ∧ 0 ≤ c ∧ c ≤ 59 := ⟨hv, by omega, by omega, by omega, by omega, by omega, by omega⟩
        have HALL := Lib.hid hall
        have HA := Lib.hid (fun W => rat_any y m d (h * 3600 + i * 60 + c) W hv (by omega) (by omega))
        clear hall
        go_wp2_with fail
        refine (HA.out _).mono ?_
        rintro e w3 ⟨rfl, hb3⟩
        go_wp2
        go_ret2
        exact ⟨Ck.pres_ok HALL.out rfl, (by repeat' (first | (with_reducible exact Gr.refl _) | (with_reducible assumption) | (with_reducible refine Gr.alloc ?_ _) | (with_reducible refine Gr.drew ?_) | (with_reducible refine Gr.drewN ?_ _) | (with_reducible refine Gr.setCell ?_ ?_ _) | (with_reducible refine Gr.trans ?_ (by with_reducible assumption)) | go_size))⟩
end Go.Proofs.YtlcbjkkcfenlmaaDoor
