import Derived.Test.YtlcbjkkcfenlmaaDoorCkWalkI
set_option linter.unusedVariables false
set_option linter.unusedSimpArgs false
namespace Go.Proofs.YtlcbjkkcfenlmaaDoor
open Go.RowKit
/-- Six numbers in a row. -/
def Six (w : World) (g : Nat) (y m d h i s : Int) : Prop :=
  w.cell? ⟨g, 0, none⟩ = some (.int .i64 y) ∧ w.cell? ⟨g, 1, none⟩ = some (.int .i64 m) ∧ w.cell? ⟨g, 2, none⟩ = some (.int .i64 d) ∧ w.cell? ⟨g, 3, none⟩ = some (.int .i64 h) ∧ w.cell? ⟨g, 4, none⟩ = some (.int .i64 i) ∧ w.cell? ⟨g, 5, none⟩ = some (.int .i64 s)
theorem six_of {w : World} {base e : Nat} {v : Value} {y m d h i s : Int} (ho : w.ownsRow base e 1 v 6 ([y, m, d, h, i, s].map (Value.int .i64))) : ∃ g cap, v = .slice (some ⟨g, 0, none⟩) 6 cap ∧ Six w g y m d h i s := by
  obtain ⟨hl, ⟨_, h0⟩ | ⟨g, cap, cur, rfl, _⟩⟩ := ho
  · omega
  · refine ⟨g, cap, rfl, ?_, ?_, ?_, ?_, ?_, ?_⟩ <;> exact (by first | exact (World.ownsRow.cellAt ⟨hl, Or.inr ⟨g, cap, cur, rfl, by assumption⟩⟩ _ (by omega)).trans rfl)
theorem numbers_none (s : ByteArray) (w : World) (hs : s.size = 19) (hr : Ck.run Ck.pat s.data.toList 19 = none) :
    Calls Tryd.prog 50 #[.string s, .string ⟨#[48, 48, 48, 48, 45, 48, 48, 45, 48, 48, 32, 48, 48, 58, 48, 48, 58, 48, 48]⟩] w fun e w' => e = .returned (.tuple #[.slice none 0 0, .bool false]) ∧ Gr w w' := by
  refine (numbers_any s _ w rfl hs rfl).mono fun e w' h => ?_
  unfold NumPost at h; rw [hr] at h; exact h
theorem numbers_six (s : ByteArray) (w : World) (hs : s.size = 19) {y m d h i c : Int} {o : Bool} (hr : Ck.run Ck.pat s.data.toList 19 = some ([y, m, d, h, i], c, o)) :
    Calls Tryd.prog 50 #[.string s, .string ⟨#[48, 48, 48, 48, 45, 48, 48, 45, 48, 48, 32, 48, 48, 58, 48, 48, 58, 48, 48]⟩] w fun e w' => ∃ g cap, e = .returned (.tuple #[.slice (some ⟨g, 0, none⟩) 6 cap, .bool true]) ∧ Six w' g y m d h i c ∧ Gr w w' := by
  refine (numbers_any s _ w rfl hs rfl).mono fun e w' hp => ?_
  unfold NumPost at hp; rw [hr] at hp
  obtain ⟨v, he, ho, hg⟩ := hp
  obtain ⟨g, cap, rfl, h6⟩ := six_of ho
  exact ⟨g, cap, he, h6, hg⟩
set_option maxHeartbeats 400000 in
theorem parse_size (s : ByteArray) (w : World) (hm : s.size ≤ 9223372036854775807) (hs : s.size ≠ 19 ∨ s.size = 19 ∧ Ck.run Ck.pat s.data.toList 19 = none) :
    Calls Tryd.prog 32 #[.string s] w fun e w' => e = .returned (.tuple #[.int .i64 0, .int .i64 7]) ∧ Gr w w' := by
  have hn : ∀ W : World, Calls Tryd.prog 50 #[.string s, .string ⟨#[48, 48, 48, 48, 45, 48, 48, 45, 48, 48, 32, 48, 48, 58, 48, 48, 58, 48, 48]⟩] W fun e w' => e = .returned (.tuple #[.slice none 0 0, .bool false]) ∧ Gr W w' := fun W => by
    rcases hs with hs | ⟨hs, hr⟩
    · exact numbers_size s _ W rfl hs hm
    · exact numbers_none s W hs hr
  have HN := Lib.hid hn; clear hn hs
  go_enter Tryd.func32, Tryd.ntmps32
  go_wp2_with fail; refine (HN.out _).mono ?_; rintro e w1 ⟨rfl, hb1⟩; obtain ⟨hc1, hf1⟩ := Gr.cells hb1; have hz1 := Gr.size hb1; (try simp at hz1); (try have hy1_0 : w.heap.size < w1.heap.size := by omega); (try have hy1_1 : w.heap.size + 1 < w1.heap.size := by omega); (try have hy1_2 : w.heap.size + 1 + 1 < w1.heap.size := by omega); (try have hy1_3 : w.heap.size + 1 + 1 + 1 < w1.heap.size := by omega); (try have hy1_4 : w.heap.size + 1 + 1 + 1 + 1 < w1.heap.size := by omega); (try have hy1_5 : w.heap.size + 1 + 1 + 1 + 1 + 1 < w1.heap.size := by omega)
  go_wp2
  go_ret2
  exact ⟨rfl, (by repeat' (first | (with_reducible exact Gr.refl _) | (with_reducible assumption) | (with_reducible refine Gr.alloc ?_ _) | (with_reducible refine Gr.drew ?_) | (with_reducible refine Gr.drewN ?_ _) | (with_reducible refine Gr.setCell ?_ ?_ _) | (with_reducible refine Gr.trans ?_ (by with_reducible assumption)) | go_size))⟩
set_option maxHeartbeats 2000000 in
theorem parse_six (s : ByteArray) (w : World) (hs : s.size = 19) {y m d h i c : Int} {o : Bool} (hr : Ck.run Ck.pat s.data.toList 19 = some ([y, m, d, h, i], c, o)) (x0 : 0 ≤ h) (x1 : 0 ≤ i) (x2 : 0 ≤ c) :
    Calls Tryd.prog 32 #[.string s] w fun e w' => (if Ck.vld y m d = true ∧ h ≤ 23 ∧ i ≤ 59 ∧ c ≤ 59 then e = .returned (.tuple #[.int .i64 (Ck.atQ (Ck.num y m d * 86400 + (h * 3600 + i * 60 + c))), .int .i64 (Ck.atE (Ck.num y m d * 86400 + (h * 3600 + i * 60 + c)))]) else e = .returned (.tuple #[.int .i64 0, .int .i64 7])) ∧ Gr w w' := by
  have HN := Lib.hid (fun W => numbers_six s W hs hr)
  have HV := Lib.hid (fun W => valid_any y m d W)
  clear hr hs
  by_cases hall : Ck.vld y m d = true ∧ h ≤ 23 ∧ i ≤ 59 ∧ c ≤ 59
  · simp only [if_pos hall]
    obtain ⟨hv, h23, h59, h60⟩ := hall
    have HA := Lib.hid (fun W => at_any y m d (h * 3600 + i * 60 + c) W hv (by omega) (by omega))
    rw [hv] at HV
    have t1 : decide (23 < h) = false := decide_eq_false (by omega)
    have t2 : decide (59 < i) = false := decide_eq_false (by omega)
    have t3 : decide (59 < c) = false := decide_eq_false (by omega)
    clear hv
    generalize Ck.atQ (Ck.num y m d * 86400 + (h * 3600 + i * 60 + c)) = Q at *
    generalize Ck.atE (Ck.num y m d * 86400 + (h * 3600 + i * 60 + c)) = E at *
    go_enter Tryd.func32, Tryd.ntmps32
    go_wp2_with fail
    refine (HN.out _).mono ?_
    rintro e w1 ⟨g, cap, rfl, hsix, hb1⟩
    have HX := Lib.hid hsix; clear hsix
    go_upto_region 4 with fail
    go_cut [6] (fun s6 wx => ∃ D : Nat, s6 = .pointer (some ⟨D, 0, none⟩) ∧ Six wx g y m d h i c ∧ wx.cell? ⟨D, 0, none⟩ = some (.int .i64 y) ∧ wx.cell? ⟨D, 1, none⟩ = some (.int .i64 m) ∧ wx.cell? ⟨D, 2, none⟩ = some (.int .i64 d) ∧ Gr w wx)
    case first =>
      obtain ⟨a0, a1, a2, a3, a4, a5⟩ := HX.out
      refine name_world ?_; intro W0 hW0
      have g0 : Gr w W0 := by rw [hW0]; exact (by repeat' (first | (with_reducible exact Gr.refl _) | (with_reducible assumption) | (with_reducible refine Gr.alloc ?_ _) | (with_reducible refine Gr.drew ?_) | (with_reducible refine Gr.drewN ?_ _) | (with_reducible refine Gr.setCell ?_ ?_ _) | (with_reducible refine Gr.trans ?_ (by with_reducible assumption)) | go_size))
      have k0_0 : ∀ w', Gr W0 w' → w'.cell? ⟨g, 0, none⟩ = some (.int .i64 y) := fun w' hgW => by first | exact (Gr.at hgW (by rw [hW0]; simp [go_sem, *]))
      have k0_1 : ∀ w', Gr W0 w' → w'.cell? ⟨g, 1, none⟩ = some (.int .i64 m) := fun w' hgW => by first | exact (Gr.at hgW (by rw [hW0]; simp [go_sem, *]))
      have k0_2 : ∀ w', Gr W0 w' → w'.cell? ⟨g, 2, none⟩ = some (.int .i64 d) := fun w' hgW => by first | exact (Gr.at hgW (by rw [hW0]; simp [go_sem, *]))
      have k0_3 : ∀ w', Gr W0 w' → w'.cell? ⟨g, 3, none⟩ = some (.int .i64 h) := fun w' hgW => by first | exact (Gr.at hgW (by rw [hW0]; simp [go_sem, *]))
      have k0_4 : ∀ w', Gr W0 w' → w'.cell? ⟨g, 4, none⟩ = some (.int .i64 i) := fun w' hgW => by first | exact (Gr.at hgW (by rw [hW0]; simp [go_sem, *]))
      have k0_5 : ∀ w', Gr W0 w' → w'.cell? ⟨g, 5, none⟩ = some (.int .i64 c) := fun w' hgW => by first | exact (Gr.at hgW (by rw [hW0]; simp [go_sem, *]))
      clear hW0
      have zW0 := Gr.size g0
      go_region_held3 (fun w' => Gr W0 w') (repeat' (first | (with_reducible exact Gr.refl _) | (with_reducible assumption) | (with_reducible refine Gr.alloc ?_ _) | (with_reducible refine Gr.drew ?_) | (with_reducible refine Gr.drewN ?_ _) | (with_reducible refine Gr.setCell ?_ ?_ _) | (with_reducible refine Gr.trans ?_ (by with_reducible assumption)) | go_size)) (fail)
      all_goals
        go_wp2_with fail
        go_meet
        exact ⟨_, rfl, ⟨(by first | (simp [go_sem, *]; done) | ((try simp [go_sem, *]); refine World.cell?_setCell_same' _ _ _ ?_; simp [go_sem, *]; done)), (by first | (simp [go_sem, *]; done) | ((try simp [go_sem, *]); refine World.cell?_setCell_same' _ _ _ ?_; simp [go_sem, *]; done)), (by first | (simp [go_sem, *]; done) | ((try simp [go_sem, *]); refine World.cell?_setCell_same' _ _ _ ?_; simp [go_sem, *]; done)), (by first | (simp [go_sem, *]; done) | ((try simp [go_sem, *]); refine World.cell?_setCell_same' _ _ _ ?_; simp [go_sem, *]; done)), (by first | (simp [go_sem, *]; done) | ((try simp [go_sem, *]); refine World.cell?_setCell_same' _ _ _ ?_; simp [go_sem, *]; done)), (by first | (simp [go_sem, *]; done) | ((try simp [go_sem, *]); refine World.cell?_setCell_same' _ _ _ ?_; simp [go_sem, *]; done))⟩, (by first | (simp [go_sem, *]; done) | ((try simp [go_sem, *]); refine World.cell?_setCell_same' _ _ _ ?_; simp [go_sem, *]; done)), (by first | (simp [go_sem, *]; done) | ((try simp [go_sem, *]); refine World.cell?_setCell_same' _ _ _ ?_; simp [go_sem, *]; done)), (by first | (simp [go_sem, *]; done) | ((try simp [go_sem, *]); refine World.cell?_setCell_same' _ _ _ ?_; simp [go_sem, *]; done)), (by repeat' (first | (with_reducible exact Gr.refl _) | (with_reducible assumption) | (with_reducible refine Gr.alloc ?_ _) | (with_reducible refine Gr.drew ?_) | (with_reducible refine Gr.drewN ?_ _) | (with_reducible refine Gr.setCell ?_ ?_ _) | (with_reducible refine Gr.trans ?_ (by with_reducible assumption)) | go_size))⟩
    case rest =>
      obtain ⟨D, rfl, ⟨a0, a1, a2, a3, a4, a5⟩, d0, d1, d2, hg⟩ := hcut
      clear HX hb1 HN
      go_wp2_with fail
      refine (HV.out _).mono ?_
      rintro e w2 ⟨rfl, hb2⟩
      have b0 := Gr.at hb2 a0; have b1 := Gr.at hb2 a1; have b2 := Gr.at hb2 a2; have b3 := Gr.at hb2 a3; have b4 := Gr.at hb2 a4; have b5 := Gr.at hb2 a5
      have c0 := Gr.at hb2 d0; have c1 := Gr.at hb2 d1; have c2 := Gr.at hb2 d2
      have hg2 : Gr w w2 := hg.trans hb2
      clear a0 a1 a2 a3 a4 a5 d0 d1 d2 hb2 hg
      have x3 : IntKind.i64.wrap (h * 3600) = h * 3600 := IntWalk.i64_in _ (by omega)
      have x4 : IntKind.i64.wrap (i * 60) = i * 60 := IntWalk.i64_in _ (by omega)
      have x5 : IntKind.i64.wrap (h * 3600 + i * 60) = h * 3600 + i * 60 := IntWalk.i64_in _ (by omega)
      have x6 : IntKind.i64.wrap (h * 3600 + i * 60 + c) = h * 3600 + i * 60 + c := IntWalk.i64_in _ (by omega)
      have X3 := Lib.hid x3; have X4 := Lib.hid x4; have X5 := Lib.hid x5; have X6 := Lib.hid x6
      clear x3 x4 x5 x6
      go_wp2_with fail
      have x3 := X3.out; have x4 := X4.out; have x5 := X5.out; have x6 := X6.out
      refine name_world ?_; intro W5 hW5
      have g5 : Gr w W5 := by rw [hW5]; exact (by repeat' (first | (with_reducible exact Gr.refl _) | (with_reducible assumption) | (with_reducible refine Gr.alloc ?_ _) | (with_reducible refine Gr.drew ?_) | (with_reducible refine Gr.drewN ?_ _) | (with_reducible refine Gr.setCell ?_ ?_ _) | (with_reducible refine Gr.trans ?_ (by with_reducible assumption)) | go_size))
      have k5_0 : ∀ w', Gr W5 w' → w'.cell? ⟨g, 0, none⟩ = some (.int .i64 y) := fun w' hgW => by first | exact (Gr.at hgW (by rw [hW5]; simp [go_sem, *]))
      have k5_1 : ∀ w', Gr W5 w' → w'.cell? ⟨g, 1, none⟩ = some (.int .i64 m) := fun w' hgW => by first | exact (Gr.at hgW (by rw [hW5]; simp [go_sem, *]))
      have k5_2 : ∀ w', Gr W5 w' → w'.cell? ⟨g, 2, none⟩ = some (.int .i64 d) := fun w' hgW => by first | exact (Gr.at hgW (by rw [hW5]; simp [go_sem, *]))
      have k5_3 : ∀ w', Gr W5 w' → w'.cell? ⟨g, 3, none⟩ = some (.int .i64 h) := fun w' hgW => by first | exact (Gr.at hgW (by rw [hW5]; simp [go_sem, *]))
      have k5_4 : ∀ w', Gr W5 w' → w'.cell? ⟨g, 4, none⟩ = some (.int .i64 i) := fun w' hgW => by first | exact (Gr.at hgW (by rw [hW5]; simp [go_sem, *]))
      have k5_5 : ∀ w', Gr W5 w' → w'.cell? ⟨g, 5, none⟩ = some (.int .i64 c) := fun w' hgW => by first | exact (Gr.at hgW (by rw [hW5]; simp [go_sem, *]))
      have k5_6 : ∀ w', Gr W5 w' → w'.cell? ⟨D, 0, none⟩ = some (.int .i64 y) := fun w' hgW => by first | exact (Gr.at hgW (by rw [hW5]; simp [go_sem, *]))
      have k5_7 : ∀ w', Gr W5 w' → w'.cell? ⟨D, 1, none⟩ = some (.int .i64 m) := fun w' hgW => by first | exact (Gr.at hgW (by rw [hW5]; simp [go_sem, *]))
      have k5_8 : ∀ w', Gr W5 w' → w'.cell? ⟨D, 2, none⟩ = some (.int .i64 d) := fun w' hgW => by first | exact (Gr.at hgW (by rw [hW5]; simp [go_sem, *]))
      clear hW5
      have zW5 := Gr.size g5
      go_region_held3 (fun w' => Gr W5 w') (repeat' (first | (with_reducible exact Gr.refl _) | (with_reducible assumption) | (with_reducible refine Gr.alloc ?_ _) | (with_reducible refine Gr.drew ?_) | (with_reducible refine Gr.drewN ?_ _) | (with_reducible refine Gr.setCell ?_ ?_ _) | (with_reducible refine Gr.trans ?_ (by with_reducible assumption)) | go_size)) (first | (go_at_call 26; refine (HA.out _).mono ?_; rintro e w6 ⟨rfl, hb6⟩; have q6 : Gr W5 w6 := (by repeat' (first | (with_reducible exact Gr.refl _) | (with_reducible assumption) | (with_reducible refine Gr.alloc ?_ _) | (with_reducible refine Gr.drew ?_) | (with_reducible refine Gr.drewN ?_ _) | (with_reducible refine Gr.setCell ?_ ?_ _) | (with_reducible refine Gr.trans ?_ (by with_reducible assumption)) | go_size)); have z6 := Gr.size q6; obtain ⟨hc6, hf6⟩ := Gr.cells hb6; have hz6 := Gr.size hb6; (try simp at hz6); (try have hy6_0 : w.heap.size < w6.heap.size := by omega); (try have hy6_1 : w.heap.size + 1 < w6.heap.size := by omega); (try have hy6_2 : w.heap.size + 1 + 1 < w6.heap.size := by omega); (try have hy6_3 : w.heap.size + 1 + 1 + 1 < w6.heap.size := by omega); (try have hy6_4 : w.heap.size + 1 + 1 + 1 + 1 < w6.heap.size := by omega); (try have hy6_5 : w.heap.size + 1 + 1 + 1 + 1 + 1 < w6.heap.size := by omega); (try have hy6_W5_0 : W5.heap.size < w6.heap.size := by omega); (try have hy6_W5_1 : W5.heap.size + 1 < w6.heap.size := by omega); (try have hy6_1_0 : w1.heap.size < w6.heap.size := by omega); (try have hy6_1_1 : w1.heap.size + 1 < w6.heap.size := by omega); (try have hy6_2_0 : w2.heap.size < w6.heap.size := by omega); (try have hy6_2_1 : w2.heap.size + 1 < w6.heap.size := by omega); (try have hy6_3_0 : w3.heap.size < w6.heap.size := by omega); (try have hy6_3_1 : w3.heap.size + 1 < w6.heap.size := by omega); (try have hy6_4_0 : w4.heap.size < w6.heap.size := by omega); (try have hy6_4_1 : w4.heap.size + 1 < w6.heap.size := by omega); (try have hy6_5_0 : w5.heap.size < w6.heap.size := by omega); (try have hy6_5_1 : w5.heap.size + 1 < w6.heap.size := by omega)))
      all_goals
        clear x3 x4 x5 x6
        go_wp2
        go_ret2
        exact ⟨rfl, (by repeat' (first | (with_reducible exact Gr.refl _) | (with_reducible assumption) | (with_reducible refine Gr.alloc ?_ _) | (with_reducible refine Gr.drew ?_) | (with_reducible refine Gr.drewN ?_ _) | (with_reducible refine Gr.setCell ?_ ?_ _) | (with_reducible refine Gr.trans ?_ (by with_reducible assumption)) | go_size))⟩
  · simp only [if_neg hall]
    cases hv : Ck.vld y m d
    · rw [hv] at HV
      clear hall hv
      go_enter Tryd.func32, Tryd.ntmps32
      go_wp2_with fail
      refine (HN.out _).mono ?_
      rintro e w1 ⟨g, cap, rfl, hsix, hb1⟩
      have HX := Lib.hid hsix; clear hsix
      go_upto_region 4 with fail
      go_cut [6] (fun s6 wx => ∃ D : Nat, s6 = .pointer (some ⟨D, 0, none⟩) ∧ Six wx g y m d h i c ∧ wx.cell? ⟨D, 0, none⟩ = some (.int .i64 y) ∧ wx.cell? ⟨D, 1, none⟩ = some (.int .i64 m) ∧ wx.cell? ⟨D, 2, none⟩ = some (.int .i64 d) ∧ Gr w wx)
      case first =>
        obtain ⟨a0, a1, a2, a3, a4, a5⟩ := HX.out
        refine name_world ?_; intro W0 hW0
        have g0 : Gr w W0 := by rw [hW0]; exact (by repeat' (first | (with_reducible exact Gr.refl _) | (with_reducible assumption) | (with_reducible refine Gr.alloc ?_ _) | (with_reducible refine Gr.drew ?_) | (with_reducible refine Gr.drewN ?_ _) | (with_reducible refine Gr.setCell ?_ ?_ _) | (with_reducible refine Gr.trans ?_ (by with_reducible assumption)) | go_size))
        have k0_0 : ∀ w', Gr W0 w' → w'.cell? ⟨g, 0, none⟩ = some (.int .i64 y) := fun w' hgW => by first | exact (Gr.at hgW (by rw [hW0]; simp [go_sem, *]))
        have k0_1 : ∀ w', Gr W0 w' → w'.cell? ⟨g, 1, none⟩ = some (.int .i64 m) := fun w' hgW => by first | exact (Gr.at hgW (by rw [hW0]; simp [go_sem, *]))
        have k0_2 : ∀ w', Gr W0 w' → w'.cell? ⟨g, 2, none⟩ = some (.int .i64 d) := fun w' hgW => by first | exact (Gr.at hgW (by rw [hW0]; simp [go_sem, *]))
        have k0_3 : ∀ w', Gr W0 w' → w'.cell? ⟨g, 3, none⟩ = some (.int .i64 h) := fun w' hgW => by first | exact (Gr.at hgW (by rw [hW0]; simp [go_sem, *]))
        have k0_4 : ∀ w', Gr W0 w' → w'.cell? ⟨g, 4, none⟩ = some (.int .i64 i) := fun w' hgW => by first | exact (Gr.at hgW (by rw [hW0]; simp [go_sem, *]))
        have k0_5 : ∀ w', Gr W0 w' → w'.cell? ⟨g, 5, none⟩ = some (.int .i64 c) := fun w' hgW => by first | exact (Gr.at hgW (by rw [hW0]; simp [go_sem, *]))
        clear hW0
        have zW0 := Gr.size g0
        go_region_held3 (fun w' => Gr W0 w') (repeat' (first | (with_reducible exact Gr.refl _) | (with_reducible assumption) | (with_reducible refine Gr.alloc ?_ _) | (with_reducible refine Gr.drew ?_) | (with_reducible refine Gr.drewN ?_ _) | (with_reducible refine Gr.setCell ?_ ?_ _) | (with_reducible refine Gr.trans ?_ (by with_reducible assumption)) | go_size)) (fail)
        all_goals
          go_wp2_with fail
          go_meet
          exact ⟨_, rfl, ⟨(by first | (simp [go_sem, *]; done) | ((try simp [go_sem, *]); refine World.cell?_setCell_same' _ _ _ ?_; simp [go_sem, *]; done)), (by first | (simp [go_sem, *]; done) | ((try simp [go_sem, *]); refine World.cell?_setCell_same' _ _ _ ?_; simp [go_sem, *]; done)), (by first | (simp [go_sem, *]; done) | ((try simp [go_sem, *]); refine World.cell?_setCell_same' _ _ _ ?_; simp [go_sem, *]; done)), (by first | (simp [go_sem, *]; done) | ((try simp [go_sem, *]); refine World.cell?_setCell_same' _ _ _ ?_; simp [go_sem, *]; done)), (by first | (simp [go_sem, *]; done) | ((try simp [go_sem, *]); refine World.cell?_setCell_same' _ _ _ ?_; simp [go_sem, *]; done)), (by first | (simp [go_sem, *]; done) | ((try simp [go_sem, *]); refine World.cell?_setCell_same' _ _ _ ?_; simp [go_sem, *]; done))⟩, (by first | (simp [go_sem, *]; done) | ((try simp [go_sem, *]); refine World.cell?_setCell_same' _ _ _ ?_; simp [go_sem, *]; done)), (by first | (simp [go_sem, *]; done) | ((try simp [go_sem, *]); refine World.cell?_setCell_same' _ _ _ ?_; simp [go_sem, *]; done)), (by first | (simp [go_sem, *]; done) | ((try simp [go_sem, *]); refine World.cell?_setCell_same' _ _ _ ?_; simp [go_sem, *]; done)), (by repeat' (first | (with_reducible exact Gr.refl _) | (with_reducible assumption) | (with_reducible refine Gr.alloc ?_ _) | (with_reducible refine Gr.drew ?_) | (with_reducible refine Gr.drewN ?_ _) | (with_reducible refine Gr.setCell ?_ ?_ _) | (with_reducible refine Gr.trans ?_ (by with_reducible assumption)) | go_size))⟩
      case rest =>
        obtain ⟨D, rfl, ⟨a0, a1, a2, a3, a4, a5⟩, d0, d1, d2, hg⟩ := hcut
        clear HX hb1 HN
        go_wp2_with fail
        refine (HV.out _).mono ?_
        rintro e w2 ⟨rfl, hb2⟩
        have b0 := Gr.at hb2 a0; have b1 := Gr.at hb2 a1; have b2 := Gr.at hb2 a2; have b3 := Gr.at hb2 a3; have b4 := Gr.at hb2 a4; have b5 := Gr.at hb2 a5
        have c0 := Gr.at hb2 d0; have c1 := Gr.at hb2 d1; have c2 := Gr.at hb2 d2
        have hg2 : Gr w w2 := hg.trans hb2
        clear a0 a1 a2 a3 a4 a5 d0 d1 d2 hb2 hg
        go_wp2
        go_ret2
        exact ⟨rfl, (by repeat' (first | (with_reducible exact Gr.refl _) | (with_reducible assumption) | (with_reducible refine Gr.alloc ?_ _) | (with_reducible refine Gr.drew ?_) | (with_reducible refine Gr.drewN ?_ _) | (with_reducible refine Gr.setCell ?_ ?_ _) | (with_reducible refine Gr.trans ?_ (by with_reducible assumption)) | go_size))⟩
    · rw [hv] at HV
      by_cases h23 : h ≤ 23
      · have t1 : decide (23 < h) = false := decide_eq_false (by omega)
        by_cases h59 : i ≤ 59
        · have t2 : decide (59 < i) = false := decide_eq_false (by omega)
          have t3 : decide (59 < c) = true := decide_eq_true (by have : ¬ c ≤ 59 := fun h60 => hall ⟨hv, h23, h59, h60⟩; omega)
          clear hall hv
          go_enter Tryd.func32, Tryd.ntmps32
          go_wp2_with fail
          refine (HN.out _).mono ?_
          rintro e w1 ⟨g, cap, rfl, hsix, hb1⟩
          have HX := Lib.hid hsix; clear hsix
          go_upto_region 4 with fail
          go_cut [6] (fun s6 wx => ∃ D : Nat, s6 = .pointer (some ⟨D, 0, none⟩) ∧ Six wx g y m d h i c ∧ wx.cell? ⟨D, 0, none⟩ = some (.int .i64 y) ∧ wx.cell? ⟨D, 1, none⟩ = some (.int .i64 m) ∧ wx.cell? ⟨D, 2, none⟩ = some (.int .i64 d) ∧ Gr w wx)
          case first =>
            obtain ⟨a0, a1, a2, a3, a4, a5⟩ := HX.out
            refine name_world ?_; intro W0 hW0
            have g0 : Gr w W0 := by rw [hW0]; exact (by repeat' (first | (with_reducible exact Gr.refl _) | (with_reducible assumption) | (with_reducible refine Gr.alloc ?_ _) | (with_reducible refine Gr.drew ?_) | (with_reducible refine Gr.drewN ?_ _) | (with_reducible refine Gr.setCell ?_ ?_ _) | (with_reducible refine Gr.trans ?_ (by with_reducible assumption)) | go_size))
            have k0_0 : ∀ w', Gr W0 w' → w'.cell? ⟨g, 0, none⟩ = some (.int .i64 y) := fun w' hgW => by first | exact (Gr.at hgW (by rw [hW0]; simp [go_sem, *]))
            have k0_1 : ∀ w', Gr W0 w' → w'.cell? ⟨g, 1, none⟩ = some (.int .i64 m) := fun w' hgW => by first | exact (Gr.at hgW (by rw [hW0]; simp [go_sem, *]))
            have k0_2 : ∀ w', Gr W0 w' → w'.cell? ⟨g, 2, none⟩ = some (.int .i64 d) := fun w' hgW => by first | exact (Gr.at hgW (by rw [hW0]; simp [go_sem, *]))
            have k0_3 : ∀ w', Gr W0 w' → w'.cell? ⟨g, 3, none⟩ = some (.int .i64 h) := fun w' hgW => by first | exact (Gr.at hgW (by rw [hW0]; simp [go_sem, *]))
            have k0_4 : ∀ w', Gr W0 w' → w'.cell? ⟨g, 4, none⟩ = some (.int .i64 i) := fun w' hgW => by first | exact (Gr.at hgW (by rw [hW0]; simp [go_sem, *]))
            have k0_5 : ∀ w', Gr W0 w' → w'.cell? ⟨g, 5, none⟩ = some (.int .i64 c) := fun w' hgW => by first | exact (Gr.at hgW (by rw [hW0]; simp [go_sem, *]))
            clear hW0
            have zW0 := Gr.size g0
            go_region_held3 (fun w' => Gr W0 w') (repeat' (first | (with_reducible exact Gr.refl _) | (with_reducible assumption) | (with_reducible refine Gr.alloc ?_ _) | (with_reducible refine Gr.drew ?_) | (with_reducible refine Gr.drewN ?_ _) | (with_reducible refine Gr.setCell ?_ ?_ _) | (with_reducible refine Gr.trans ?_ (by with_reducible assumption)) | go_size)) (fail)
            all_goals
              go_wp2_with fail
              go_meet
              exact ⟨_, rfl, ⟨(by first | (simp [go_sem, *]; done) | ((try simp [go_sem, *]); refine World.cell?_setCell_same' _ _ _ ?_; simp [go_sem, *]; done)), (by first | (simp [go_sem, *]; done) | ((try simp [go_sem, *]); refine World.cell?_setCell_same' _ _ _ ?_; simp [go_sem, *]; done)), (by first | (simp [go_sem, *]; done) | ((try simp [go_sem, *]); refine World.cell?_setCell_same' _ _ _ ?_; simp [go_sem, *]; done)), (by first | (simp [go_sem, *]; done) | ((try simp [go_sem, *]); refine World.cell?_setCell_same' _ _ _ ?_; simp [go_sem, *]; done)), (by first | (simp [go_sem, *]; done) | ((try simp [go_sem, *]); refine World.cell?_setCell_same' _ _ _ ?_; simp [go_sem, *]; done)), (by first | (simp [go_sem, *]; done) | ((try simp [go_sem, *]); refine World.cell?_setCell_same' _ _ _ ?_; simp [go_sem, *]; done))⟩, (by first | (simp [go_sem, *]; done) | ((try simp [go_sem, *]); refine World.cell?_setCell_same' _ _ _ ?_; simp [go_sem, *]; done)), (by first | (simp [go_sem, *]; done) | ((try simp [go_sem, *]); refine World.cell?_setCell_same' _ _ _ ?_; simp [go_sem, *]; done)), (by first | (simp [go_sem, *]; done) | ((try simp [go_sem, *]); refine World.cell?_setCell_same' _ _ _ ?_; simp [go_sem, *]; done)), (by repeat' (first | (with_reducible exact Gr.refl _) | (with_reducible assumption) | (with_reducible refine Gr.alloc ?_ _) | (with_reducible refine Gr.drew ?_) | (with_reducible refine Gr.drewN ?_ _) | (with_reducible refine Gr.setCell ?_ ?_ _) | (with_reducible refine Gr.trans ?_ (by with_reducible assumption)) | go_size))⟩
          case rest =>
            obtain ⟨D, rfl, ⟨a0, a1, a2, a3, a4, a5⟩, d0, d1, d2, hg⟩ := hcut
            clear HX hb1 HN
            go_wp2_with fail
            refine (HV.out _).mono ?_
            rintro e w2 ⟨rfl, hb2⟩
            have b0 := Gr.at hb2 a0; have b1 := Gr.at hb2 a1; have b2 := Gr.at hb2 a2; have b3 := Gr.at hb2 a3; have b4 := Gr.at hb2 a4; have b5 := Gr.at hb2 a5
            have c0 := Gr.at hb2 d0; have c1 := Gr.at hb2 d1; have c2 := Gr.at hb2 d2
            have hg2 : Gr w w2 := hg.trans hb2
            clear a0 a1 a2 a3 a4 a5 d0 d1 d2 hb2 hg
            go_wp2
            go_ret2
            exact ⟨rfl, (by repeat' (first | (with_reducible exact Gr.refl _) | (with_reducible assumption) | (with_reducible refine Gr.alloc ?_ _) | (with_reducible refine Gr.drew ?_) | (with_reducible refine Gr.drewN ?_ _) | (with_reducible refine Gr.setCell ?_ ?_ _) | (with_reducible refine Gr.trans ?_ (by with_reducible assumption)) | go_size))⟩
        · have t2 : decide (59 < i) = true := decide_eq_true (by omega)
          clear hall hv
          go_enter Tryd.func32, Tryd.ntmps32
          go_wp2_with fail
          refine (HN.out _).mono ?_
          rintro e w1 ⟨g, cap, rfl, hsix, hb1⟩
          have HX := Lib.hid hsix; clear hsix
          go_upto_region 4 with fail
          go_cut [6] (fun s6 wx => ∃ D : Nat, s6 = .pointer (some ⟨D, 0, none⟩) ∧ Six wx g y m d h i c ∧ wx.cell? ⟨D, 0, none⟩ = some (.int .i64 y) ∧ wx.cell? ⟨D, 1, none⟩ = some (.int .i64 m) ∧ wx.cell? ⟨D, 2, none⟩ = some (.int .i64 d) ∧ Gr w wx)
          case first =>
            obtain ⟨a0, a1, a2, a3, a4, a5⟩ := HX.out
            refine name_world ?_; intro W0 hW0
            have g0 : Gr w W0 := by rw [hW0]; exact (by repeat' (first | (with_reducible exact Gr.refl _) | (with_reducible assumption) | (with_reducible refine Gr.alloc ?_ _) | (with_reducible refine Gr.drew ?_) | (with_reducible refine Gr.drewN ?_ _) | (with_reducible refine Gr.setCell ?_ ?_ _) | (with_reducible refine Gr.trans ?_ (by with_reducible assumption)) | go_size))
            have k0_0 : ∀ w', Gr W0 w' → w'.cell? ⟨g, 0, none⟩ = some (.int .i64 y) := fun w' hgW => by first | exact (Gr.at hgW (by rw [hW0]; simp [go_sem, *]))
            have k0_1 : ∀ w', Gr W0 w' → w'.cell? ⟨g, 1, none⟩ = some (.int .i64 m) := fun w' hgW => by first | exact (Gr.at hgW (by rw [hW0]; simp [go_sem, *]))
            have k0_2 : ∀ w', Gr W0 w' → w'.cell? ⟨g, 2, none⟩ = some (.int .i64 d) := fun w' hgW => by first | exact (Gr.at hgW (by rw [hW0]; simp [go_sem, *]))
            have k0_3 : ∀ w', Gr W0 w' → w'.cell? ⟨g, 3, none⟩ = some (.int .i64 h) := fun w' hgW => by first | exact (Gr.at hgW (by rw [hW0]; simp [go_sem, *]))
            have k0_4 : ∀ w', Gr W0 w' → w'.cell? ⟨g, 4, none⟩ = some (.int .i64 i) := fun w' hgW => by first | exact (Gr.at hgW (by rw [hW0]; simp [go_sem, *]))
            have k0_5 : ∀ w', Gr W0 w' → w'.cell? ⟨g, 5, none⟩ = some (.int .i64 c) := fun w' hgW => by first | exact (Gr.at hgW (by rw [hW0]; simp [go_sem, *]))
            clear hW0
            have zW0 := Gr.size g0
            go_region_held3 (fun w' => Gr W0 w') (repeat' (first | (with_reducible exact Gr.refl _) | (with_reducible assumption) | (with_reducible refine Gr.alloc ?_ _) | (with_reducible refine Gr.drew ?_) | (with_reducible refine Gr.drewN ?_ _) | (with_reducible refine Gr.setCell ?_ ?_ _) | (with_reducible refine Gr.trans ?_ (by with_reducible assumption)) | go_size)) (fail)
            all_goals
              go_wp2_with fail
              go_meet
              exact ⟨_, rfl, ⟨(by first | (simp [go_sem, *]; done) | ((try simp [go_sem, *]); refine World.cell?_setCell_same' _ _ _ ?_; simp [go_sem, *]; done)), (by first | (simp [go_sem, *]; done) | ((try simp [go_sem, *]); refine World.cell?_setCell_same' _ _ _ ?_; simp [go_sem, *]; done)), (by first | (simp [go_sem, *]; done) | ((try simp [go_sem, *]); refine World.cell?_setCell_same' _ _ _ ?_; simp [go_sem, *]; done)), (by first | (simp [go_sem, *]; done) | ((try simp [go_sem, *]); refine World.cell?_setCell_same' _ _ _ ?_; simp [go_sem, *]; done)), (by first | (simp [go_sem, *]; done) | ((try simp [go_sem, *]); refine World.cell?_setCell_same' _ _ _ ?_; simp [go_sem, *]; done)), (by first | (simp [go_sem, *]; done) | ((try simp [go_sem, *]); refine World.cell?_setCell_same' _ _ _ ?_; simp [go_sem, *]; done))⟩, (by first | (simp [go_sem, *]; done) | ((try simp [go_sem, *]); refine World.cell?_setCell_same' _ _ _ ?_; simp [go_sem, *]; done)), (by first | (simp [go_sem, *]; done) | ((try simp [go_sem, *]); refine World.cell?_setCell_same' _ _ _ ?_; simp [go_sem, *]; done)), (by first | (simp [go_sem, *]; done) | ((try simp [go_sem, *]); refine World.cell?_setCell_same' _ _ _ ?_; simp [go_sem, *]; done)), (by repeat' (first | (with_reducible exact Gr.refl _) | (with_reducible assumption) | (with_reducible refine Gr.alloc ?_ _) | (with_reducible refine Gr.drew ?_) | (with_reducible refine Gr.drewN ?_ _) | (with_reducible refine Gr.setCell ?_ ?_ _) | (with_reducible refine Gr.trans ?_ (by with_reducible assumption)) | go_size))⟩
          case rest =>
            obtain ⟨D, rfl, ⟨a0, a1, a2, a3, a4, a5⟩, d0, d1, d2, hg⟩ := hcut
            clear HX hb1 HN
            go_wp2_with fail
            refine (HV.out _).mono ?_
            rintro e w2 ⟨rfl, hb2⟩
            have b0 := Gr.at hb2 a0; have b1 := Gr.at hb2 a1; have b2 := Gr.at hb2 a2; have b3 := Gr.at hb2 a3; have b4 := Gr.at hb2 a4; have b5 := Gr.at hb2 a5
            have c0 := Gr.at hb2 d0; have c1 := Gr.at hb2 d1; have c2 := Gr.at hb2 d2
            have hg2 : Gr w w2 := hg.trans hb2
            clear a0 a1 a2 a3 a4 a5 d0 d1 d2 hb2 hg
            go_wp2
            go_ret2
            exact ⟨rfl, (by repeat' (first | (with_reducible exact Gr.refl _) | (with_reducible assumption) | (with_reducible refine Gr.alloc ?_ _) | (with_reducible refine Gr.drew ?_) | (with_reducible refine Gr.drewN ?_ _) | (with_reducible refine Gr.setCell ?_ ?_ _) | (with_reducible refine Gr.trans ?_ (by with_reducible assumption)) | go_size))⟩
      · have t1 : decide (23 < h) = true := decide_eq_true (by omega)
        clear hall hv
        go_enter Tryd.func32, Tryd.ntmps32
        go_wp2_with fail
        refine (HN.out _).mono ?_
        rintro e w1 ⟨g, cap, rfl, hsix, hb1⟩
        have HX := Lib.hid hsix; clear hsix
        go_upto_region 4 with fail
        go_cut [6] (fun s6 wx => ∃ D : Nat, s6 = .pointer (some ⟨D, 0, none⟩) ∧ Six wx g y m d h i c ∧ wx.cell? ⟨D, 0, none⟩ = some (.int .i64 y) ∧ wx.cell? ⟨D, 1, none⟩ = some (.int .i64 m) ∧ wx.cell? ⟨D, 2, none⟩ = some (.int .i64 d) ∧ Gr w wx)
        case first =>
          obtain ⟨a0, a1, a2, a3, a4, a5⟩ := HX.out
          refine name_world ?_; intro W0 hW0
          have g0 : Gr w W0 := by rw [hW0]; exact (by repeat' (first | (with_reducible exact Gr.refl _) | (with_reducible assumption) | (with_reducible refine Gr.alloc ?_ _) | (with_reducible refine Gr.drew ?_) | (with_reducible refine Gr.drewN ?_ _) | (with_reducible refine Gr.setCell ?_ ?_ _) | (with_reducible refine Gr.trans ?_ (by with_reducible assumption)) | go_size))
          have k0_0 : ∀ w', Gr W0 w' → w'.cell? ⟨g, 0, none⟩ = some (.int .i64 y) := fun w' hgW => by first | exact (Gr.at hgW (by rw [hW0]; simp [go_sem, *]))
          have k0_1 : ∀ w', Gr W0 w' → w'.cell? ⟨g, 1, none⟩ = some (.int .i64 m) := fun w' hgW => by first | exact (Gr.at hgW (by rw [hW0]; simp [go_sem, *]))
          have k0_2 : ∀ w', Gr W0 w' → w'.cell? ⟨g, 2, none⟩ = some (.int .i64 d) := fun w' hgW => by first | exact (Gr.at hgW (by rw [hW0]; simp [go_sem, *]))
          have k0_3 : ∀ w', Gr W0 w' → w'.cell? ⟨g, 3, none⟩ = some (.int .i64 h) := fun w' hgW => by first | exact (Gr.at hgW (by rw [hW0]; simp [go_sem, *]))
          have k0_4 : ∀ w', Gr W0 w' → w'.cell? ⟨g, 4, none⟩ = some (.int .i64 i) := fun w' hgW => by first | exact (Gr.at hgW (by rw [hW0]; simp [go_sem, *]))
          have k0_5 : ∀ w', Gr W0 w' → w'.cell? ⟨g, 5, none⟩ = some (.int .i64 c) := fun w' hgW => by first | exact (Gr.at hgW (by rw [hW0]; simp [go_sem, *]))
          clear hW0
          have zW0 := Gr.size g0
          go_region_held3 (fun w' => Gr W0 w') (repeat' (first | (with_reducible exact Gr.refl _) | (with_reducible assumption) | (with_reducible refine Gr.alloc ?_ _) | (with_reducible refine Gr.drew ?_) | (with_reducible refine Gr.drewN ?_ _) | (with_reducible refine Gr.setCell ?_ ?_ _) | (with_reducible refine Gr.trans ?_ (by with_reducible assumption)) | go_size)) (fail)
          all_goals
            go_wp2_with fail
            go_meet
            exact ⟨_, rfl, ⟨(by first | (simp [go_sem, *]; done) | ((try simp [go_sem, *]); refine World.cell?_setCell_same' _ _ _ ?_; simp [go_sem, *]; done)), (by first | (simp [go_sem, *]; done) | ((try simp [go_sem, *]); refine World.cell?_setCell_same' _ _ _ ?_; simp [go_sem, *]; done)), (by first | (simp [go_sem, *]; done) | ((try simp [go_sem, *]); refine World.cell?_setCell_same' _ _ _ ?_; simp [go_sem, *]; done)), (by first | (simp [go_sem, *]; done) | ((try simp [go_sem, *]); refine World.cell?_setCell_same' _ _ _ ?_; simp [go_sem, *]; done)), (by first | (simp [go_sem, *]; done) | ((try simp [go_sem, *]); refine World.cell?_setCell_same' _ _ _ ?_; simp [go_sem, *]; done)), (by first | (simp [go_sem, *]; done) | ((try simp [go_sem, *]); refine World.cell?_setCell_same' _ _ _ ?_; simp [go_sem, *]; done))⟩, (by first | (simp [go_sem, *]; done) | ((try simp [go_sem, *]); refine World.cell?_setCell_same' _ _ _ ?_; simp [go_sem, *]; done)), (by first | (simp [go_sem, *]; done) | ((try simp [go_sem, *]); refine World.cell?_setCell_same' _ _ _ ?_; simp [go_sem, *]; done)), (by first | (simp [go_sem, *]; done) | ((try simp [go_sem, *]); refine World.cell?_setCell_same' _ _ _ ?_; simp [go_sem, *]; done)), (by repeat' (first | (with_reducible exact Gr.refl _) | (with_reducible assumption) | (with_reducible refine Gr.alloc ?_ _) | (with_reducible refine Gr.drew ?_) | (with_reducible refine Gr.drewN ?_ _) | (with_reducible refine Gr.setCell ?_ ?_ _) | (with_reducible refine Gr.trans ?_ (by with_reducible assumption)) | go_size))⟩
        case rest =>
          obtain ⟨D, rfl, ⟨a0, a1, a2, a3, a4, a5⟩, d0, d1, d2, hg⟩ := hcut
          clear HX hb1 HN
          go_wp2_with fail
          refine (HV.out _).mono ?_
          rintro e w2 ⟨rfl, hb2⟩
          have b0 := Gr.at hb2 a0; have b1 := Gr.at hb2 a1; have b2 := Gr.at hb2 a2; have b3 := Gr.at hb2 a3; have b4 := Gr.at hb2 a4; have b5 := Gr.at hb2 a5
          have c0 := Gr.at hb2 d0; have c1 := Gr.at hb2 d1; have c2 := Gr.at hb2 d2
          have hg2 : Gr w w2 := hg.trans hb2
          clear a0 a1 a2 a3 a4 a5 d0 d1 d2 hb2 hg
          go_wp2
          go_ret2
          exact ⟨rfl, (by repeat' (first | (with_reducible exact Gr.refl _) | (with_reducible assumption) | (with_reducible refine Gr.alloc ?_ _) | (with_reducible refine Gr.drew ?_) | (with_reducible refine Gr.drewN ?_ _) | (with_reducible refine Gr.setCell ?_ ?_ _) | (with_reducible refine Gr.trans ?_ (by with_reducible assumption)) | go_size))⟩
theorem run_ex : Ck.run Ck.pat [50, 48, 50, 52, 45, 48, 50, 45, 50, 57, 32, 49, 52, 58, 48, 53, 58, 48, 57] 19 = some ([2024, 2, 29, 14, 5], 9, true) := by decide
theorem vld_ex : Ck.vld 2024 2 29 = true := by decide
theorem num_ex : Ck.num 2024 2 29 = 8825 := by decide
theorem at_ex : Ck.atQ (8825 * 86400 + (14 * 3600 + 5 * 60 + 9)) = 762530709 ∧ Ck.atE (8825 * 86400 + (14 * 3600 + 5 * 60 + 9)) = 0 := by decide
theorem dur_ex : Ck.dur 93784 = [49, 100, 32, 48, 50, 58, 48, 51, 58, 48, 52] := by
  unfold Ck.dur Ck.hrs Ck.dig
  simp [Lib.decDigits_one]
set_option maxHeartbeats 1000000 in
theorem awake_any (w : World) : Calls Tryd.prog 11 #[] w fun e w' => e = .returned (.bool true) ∧ Gr w w' := by
  have h1 := fun W => number_any 2024 2 29 W vld_ex
  rw [num_ex] at h1
  have h2 := fun W => parse_six ⟨#[50, 48, 50, 52, 45, 48, 50, 45, 50, 57, 32, 49, 52, 58, 48, 53, 58, 48, 57]⟩ W rfl run_ex (by decide) (by decide) (by decide)
  simp only [if_pos (show Ck.vld 2024 2 29 = true ∧ (14 : Int) ≤ 23 ∧ (5 : Int) ≤ 59 ∧ (9 : Int) ≤ 59 from ⟨vld_ex, by decide, by decide, by decide⟩)] at h2
  rw [num_ex, at_ex.1, at_ex.2] at h2
  have h3 := fun W => step_any 100 60 99 W (by decide) (by decide) (by decide)
  rw [show ((99 : Int) - 100) / 60 = -1 by decide] at h3
  have h4 := fun W => over_any 0 60 1 30 100 W (by decide) (by decide) (by decide) (by decide) (by decide) (by decide) (by decide)
  rw [show Ck.lap (0 + 1 * 60) 60 30 100 = 40 by decide] at h4
  have h5 := fun W => duration_any 93784 W (by decide) (by decide) (Or.inl (by decide))
  rw [dur_ex] at h5
  have H1 := Lib.hid h1; have H2 := Lib.hid h2; have H3 := Lib.hid h3; have H4 := Lib.hid h4; have H5 := Lib.hid h5
  clear h1 h2 h3 h4 h5
  go_enter Tryd.func11, Tryd.ntmps11
  go_wp2_with fail; refine (H1.out _).mono ?_; rintro e w1 ⟨rfl, hb1⟩; obtain ⟨hc1, hf1⟩ := Gr.cells hb1; have hz1 := Gr.size hb1; (try simp at hz1); (try have hy1_0 : w.heap.size < w1.heap.size := by omega); (try have hy1_1 : w.heap.size + 1 < w1.heap.size := by omega); (try have hy1_2 : w.heap.size + 1 + 1 < w1.heap.size := by omega); (try have hy1_3 : w.heap.size + 1 + 1 + 1 < w1.heap.size := by omega); (try have hy1_4 : w.heap.size + 1 + 1 + 1 + 1 < w1.heap.size := by omega); (try have hy1_5 : w.heap.size + 1 + 1 + 1 + 1 + 1 < w1.heap.size := by omega)
  go_wp2_with fail; refine (H2.out _).mono ?_; rintro e w2 ⟨rfl, hb2⟩; obtain ⟨hc2, hf2⟩ := Gr.cells hb2; have hz2 := Gr.size hb2; (try simp at hz2); (try have hy2_0 : w.heap.size < w2.heap.size := by omega); (try have hy2_1 : w.heap.size + 1 < w2.heap.size := by omega); (try have hy2_2 : w.heap.size + 1 + 1 < w2.heap.size := by omega); (try have hy2_3 : w.heap.size + 1 + 1 + 1 < w2.heap.size := by omega); (try have hy2_4 : w.heap.size + 1 + 1 + 1 + 1 < w2.heap.size := by omega); (try have hy2_5 : w.heap.size + 1 + 1 + 1 + 1 + 1 < w2.heap.size := by omega); (try have hy2_1_0 : w1.heap.size < w2.heap.size := by omega); (try have hy2_1_1 : w1.heap.size + 1 < w2.heap.size := by omega)
  go_wp2_with fail
  refine (H3.out _).mono ?_
  rintro e w3 ⟨rfl, rfl⟩
  go_wp2_with fail
  refine (H4.out _).mono ?_
  rintro e w4 ⟨rfl, rfl⟩
  go_wp2_with fail; refine (H5.out _).mono ?_; rintro e w5 ⟨rfl, hb5⟩; obtain ⟨hc5, hf5⟩ := Gr.cells hb5; have hz5 := Gr.size hb5; (try simp at hz5); (try have hy5_0 : w.heap.size < w5.heap.size := by omega); (try have hy5_1 : w.heap.size + 1 < w5.heap.size := by omega); (try have hy5_2 : w.heap.size + 1 + 1 < w5.heap.size := by omega); (try have hy5_3 : w.heap.size + 1 + 1 + 1 < w5.heap.size := by omega); (try have hy5_4 : w.heap.size + 1 + 1 + 1 + 1 < w5.heap.size := by omega); (try have hy5_5 : w.heap.size + 1 + 1 + 1 + 1 + 1 < w5.heap.size := by omega); (try have hy5_1_0 : w1.heap.size < w5.heap.size := by omega); (try have hy5_1_1 : w1.heap.size + 1 < w5.heap.size := by omega); (try have hy5_2_0 : w2.heap.size < w5.heap.size := by omega); (try have hy5_2_1 : w2.heap.size + 1 < w5.heap.size := by omega); (try have hy5_3_0 : w3.heap.size < w5.heap.size := by omega); (try have hy5_3_1 : w3.heap.size + 1 < w5.heap.size := by omega); (try have hy5_4_0 : w4.heap.size < w5.heap.size := by omega); (try have hy5_4_1 : w4.heap.size + 1 < w5.heap.size := by omega)
  go_wp2
  go_ret
  exact ⟨rfl, (by repeat' (first | (with_reducible exact Gr.refl _) | (with_reducible assumption) | (with_reducible refine Gr.alloc ?_ _) | (with_reducible refine Gr.drew ?_) | (with_reducible refine Gr.drewN ?_ _) | (with_reducible refine Gr.setCell ?_ ?_ _) | (with_reducible refine Gr.trans ?_ (by with_reducible assumption)) | go_size))⟩
end Go.Proofs.YtlcbjkkcfenlmaaDoor
