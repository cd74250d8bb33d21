import Derived.Test.YtbaahlofabmljaaDoorWdTexts
set_option linter.unusedVariables false
set_option linter.unusedSimpArgs false
namespace Go.Proofs.YtbaahlofabmljaaDoor
open Go.RowKit
theorem of_zero (w : World) : Calls Tryd.prog 13 #[.int .i64 0] w fun e w' => e = .returned (.agg #[.int .i64 0, .int .i64 0]) ∧ Gr w w' := of_any 0 w (by decide) (by decide)
theorem trim_any (D : ByteArray) (w : World) (n : Nat) (hD : D.data.toList = Lib.decDigits n) (hs : D.size ≤ 1000) : Calls Tryd.prog 15 #[.string D, .string ⟨#[48, 49, 50, 51, 52, 53, 54, 55, 56, 57]⟩] w fun e w' => e = .returned (.string ⟨#[]⟩) ∧ Gr w w' := by
  refine (Tryd.strings_Trim D ⟨#[48, 49, 50, 51, 52, 53, 54, 55, 56, 57]⟩ w (by omega) (by decide) (ascii_of_all (by decide))).mono fun e w' ⟨he, hw⟩ => ⟨?_, hw⟩
  rw [he, hD, show (⟨#[48, 49, 50, 51, 52, 53, 54, 55, 56, 57]⟩ : ByteArray).data.toList = Wd.nums from rfl, Wd.trim_dec]
set_option maxRecDepth 100000 in
set_option maxHeartbeats 4000000 in
theorem texts_walk (h l h' l' c : Int) (S T D : ByteArray) (w : World) (HA : Hid (∀ W, Gr w W → Calls Tryd.prog 7 #[.agg #[.int .i64 h, .int .i64 l]] W fun en w' => en = .returned (.tuple #[.string S, .int .i64 0]) ∧ Gr W w'))
    (HB : Hid (∀ W, Gr w W → Calls Tryd.prog 7 #[.agg #[.int .i64 h', .int .i64 l']] W fun en w' => en = .returned (.tuple #[.string T, .int .i64 0]) ∧ Gr W w'))
    (HC : Hid (∀ W, Calls Tryd.prog 12 #[.agg #[.int .i64 h, .int .i64 l], .agg #[.int .i64 0, .int .i64 0]] W fun en w' => en = .returned (.tuple #[.int .i64 c, .int .i64 0]) ∧ Gr W w'))
    (HP : Hid (∀ W, Calls Tryd.prog 14 #[.string S, .string ⟨#[45]⟩] W fun en w' => en = .returned (.string D) ∧ w' = W))
    (HR : Hid (∀ W, Calls Tryd.prog 15 #[.string D, .string ⟨#[48, 49, 50, 51, 52, 53, 54, 55, 56, 57]⟩] W fun en w' => en = .returned (.string ⟨#[]⟩) ∧ Gr W w'))
    (hE : (h = h' ∧ l = l' ∧ S = T) ∨ ((S.toList == T.toList) = false ∧ ((h == h') = false ∨ ((h == h') = true ∧ (l == l') = false)))) (h0 : 0 < D.size) (hd1 : D.toList.isEmpty = false) (hd2 : (D.toList == []) = false)
    (hS : (c = -1 ∧ (D.toList == S.toList) = false ∧ ((D[0].toNat : Int) != 48) = true) ∨ (c = 1 ∧ D = S ∧ ((D[0].toNat : Int) != 48) = true) ∨ (c = 0 ∧ D = S ∧ ((D[0].toNat : Int) != 48) = false ∧ (D.toList == [48]) = true ∧ (D.toList == (⟨#[48]⟩ : ByteArray).toList) = true)) :
    Calls Tryd.prog 4 #[.agg #[.int .i64 h, .int .i64 l], .agg #[.int .i64 h', .int .i64 l']] w fun e w' => e = .returned (.bool true) ∧ Gr w w' := by
  have HOF := Lib.hid of_zero
  rcases hS with ⟨rfl, s1, s2⟩ | ⟨rfl, rfl, s2⟩ | ⟨rfl, rfl, s2, s3, s4⟩
  all_goals
    rcases hE with ⟨rfl, rfl, rfl⟩ | ⟨e1, e2⟩
    · go_enter Tryd.func4, Tryd.ntmps4
      go_wp2_with fail
      refine (awake_any _).mono ?_; rintro e w1 ⟨rfl, hb1⟩; obtain ⟨hc1, hf1⟩ := Gr.cells hb1; have hz1 := Gr.size hb1; (try simp at hz1); (try have hy1_0 : w.heap.size < w1.heap.size := by omega); (try have hy1_1 : w.heap.size + 1 < w1.heap.size := by omega); (try have hy1_2 : w.heap.size + 1 + 1 < w1.heap.size := by omega); (try have hy1_3 : w.heap.size + 1 + 1 + 1 < w1.heap.size := by omega); (try have hy1_4 : w.heap.size + 1 + 1 + 1 + 1 < w1.heap.size := by omega); (try have hy1_5 : w.heap.size + 1 + 1 + 1 + 1 + 1 < w1.heap.size := by omega)
      have kc1_0 := hc1 (w.heap.size) 0 (by first | omega | (simp; done) | (simp; omega))
      have kc1_1 := hc1 (w.heap.size) 1 (by first | omega | (simp; done) | (simp; omega))
      have kc1_2 := hc1 (w.heap.size + 1) 0 (by first | omega | (simp; done) | (simp; omega))
      have kc1_3 := hc1 (w.heap.size + 1) 1 (by first | omega | (simp; done) | (simp; omega))
      clear hc1
      (try simp [go_sem, *] at kc1_0)
      (try simp [go_sem, *] at kc1_1)
      (try simp [go_sem, *] at kc1_2)
      (try simp [go_sem, *] at kc1_3)
      go_wp2_with fail
      refine (HA.out _ (by repeat' (first | (with_reducible exact Gr.refl _) | (with_reducible assumption) | (with_reducible refine Gr.alloc ?_ _) | (with_reducible refine Gr.drew ?_) | (with_reducible refine Gr.drewN ?_ _) | (with_reducible refine Gr.setCell ?_ ?_ _) | (with_reducible refine Gr.trans ?_ (by with_reducible assumption)) | go_size))).mono ?_; rintro e w2 ⟨rfl, hb2⟩; obtain ⟨hc2, hf2⟩ := Gr.cells hb2; have hz2 := Gr.size hb2; (try simp at hz2); (try have hy2_0 : w.heap.size < w2.heap.size := by omega); (try have hy2_1 : w.heap.size + 1 < w2.heap.size := by omega); (try have hy2_2 : w.heap.size + 1 + 1 < w2.heap.size := by omega); (try have hy2_3 : w.heap.size + 1 + 1 + 1 < w2.heap.size := by omega); (try have hy2_4 : w.heap.size + 1 + 1 + 1 + 1 < w2.heap.size := by omega); (try have hy2_5 : w.heap.size + 1 + 1 + 1 + 1 + 1 < w2.heap.size := by omega); (try have hy2_1_0 : w1.heap.size < w2.heap.size := by omega); (try have hy2_1_1 : w1.heap.size + 1 < w2.heap.size := by omega)
      have kc2_0 := hc2 (w.heap.size) 0 (by first | omega | (simp; done) | (simp; omega))
      have kc2_1 := hc2 (w.heap.size) 1 (by first | omega | (simp; done) | (simp; omega))
      have kc2_2 := hc2 (w.heap.size + 1) 0 (by first | omega | (simp; done) | (simp; omega))
      have kc2_3 := hc2 (w.heap.size + 1) 1 (by first | omega | (simp; done) | (simp; omega))
      clear hc2
      (try simp [go_sem, *] at kc2_0)
      (try simp [go_sem, *] at kc2_1)
      (try simp [go_sem, *] at kc2_2)
      (try simp [go_sem, *] at kc2_3)
      go_wp2_with fail
      refine (HB.out _ (by repeat' (first | (with_reducible exact Gr.refl _) | (with_reducible assumption) | (with_reducible refine Gr.alloc ?_ _) | (with_reducible refine Gr.drew ?_) | (with_reducible refine Gr.drewN ?_ _) | (with_reducible refine Gr.setCell ?_ ?_ _) | (with_reducible refine Gr.trans ?_ (by with_reducible assumption)) | go_size))).mono ?_; rintro e w3 ⟨rfl, hb3⟩; obtain ⟨hc3, hf3⟩ := Gr.cells hb3; have hz3 := Gr.size hb3; (try simp at hz3); (try have hy3_0 : w.heap.size < w3.heap.size := by omega); (try have hy3_1 : w.heap.size + 1 < w3.heap.size := by omega); (try have hy3_2 : w.heap.size + 1 + 1 < w3.heap.size := by omega); (try have hy3_3 : w.heap.size + 1 + 1 + 1 < w3.heap.size := by omega); (try have hy3_4 : w.heap.size + 1 + 1 + 1 + 1 < w3.heap.size := by omega); (try have hy3_5 : w.heap.size + 1 + 1 + 1 + 1 + 1 < w3.heap.size := by omega); (try have hy3_1_0 : w1.heap.size < w3.heap.size := by omega); (try have hy3_1_1 : w1.heap.size + 1 < w3.heap.size := by omega); (try have hy3_2_0 : w2.heap.size < w3.heap.size := by omega); (try have hy3_2_1 : w2.heap.size + 1 < w3.heap.size := by omega)
      have kc3_0 := hc3 (w.heap.size) 0 (by first | omega | (simp; done) | (simp; omega))
      have kc3_1 := hc3 (w.heap.size) 1 (by first | omega | (simp; done) | (simp; omega))
      have kc3_2 := hc3 (w.heap.size + 1) 0 (by first | omega | (simp; done) | (simp; omega))
      have kc3_3 := hc3 (w.heap.size + 1) 1 (by first | omega | (simp; done) | (simp; omega))
      clear hc3
      (try simp [go_sem, *] at kc3_0)
      (try simp [go_sem, *] at kc3_1)
      (try simp [go_sem, *] at kc3_2)
      (try simp [go_sem, *] at kc3_3)
      go_wp2_with fail
      refine name_world ?_; intro W0 hW0
      have g0 : Gr w W0 := by rw [hW0]; exact (by repeat' (first | (with_reducible exact Gr.refl _) | (with_reducible assumption) | (with_reducible refine Gr.alloc ?_ _) | (with_reducible refine Gr.drew ?_) | (with_reducible refine Gr.drewN ?_ _) | (with_reducible refine Gr.setCell ?_ ?_ _) | (with_reducible refine Gr.trans ?_ (by with_reducible assumption)) | go_size))
      have k0_0 : ∀ w', Gr W0 w' → w'.cell? ⟨w.heap.size, 0, none⟩ = some (.int .i64 h) := fun w' hgW => by first | exact (Gr.at hgW (by rw [hW0]; simp [go_sem, *]))
      have k0_1 : ∀ w', Gr W0 w' → w'.cell? ⟨w.heap.size, 1, none⟩ = some (.int .i64 l) := fun w' hgW => by first | exact (Gr.at hgW (by rw [hW0]; simp [go_sem, *]))
      have k0_2 : ∀ w', Gr W0 w' → w'.cell? ⟨w.heap.size + 1, 0, none⟩ = some (.int .i64 h) := fun w' hgW => by first | exact (Gr.at hgW (by rw [hW0]; simp [go_sem, *]))
      have k0_3 : ∀ w', Gr W0 w' → w'.cell? ⟨w.heap.size + 1, 1, none⟩ = some (.int .i64 l) := fun w' hgW => by first | exact (Gr.at hgW (by rw [hW0]; simp [go_sem, *]))
      clear hW0
      have zW0 := Gr.size g0
      go_region_held3 (fun w' => Gr W0 w') (repeat' (first | (with_reducible exact Gr.refl _) | (with_reducible assumption) | (with_reducible refine Gr.alloc ?_ _) | (with_reducible refine Gr.drew ?_) | (with_reducible refine Gr.drewN ?_ _) | (with_reducible refine Gr.setCell ?_ ?_ _) | (with_reducible refine Gr.trans ?_ (by with_reducible assumption)) | go_size)) (first | (go_at_call 13; refine (HOF.out _).mono ?_; rintro e w4 ⟨rfl, hb4⟩; have q4 : Gr W0 w4 := (by repeat' (first | (with_reducible exact Gr.refl _) | (with_reducible assumption) | (with_reducible refine Gr.alloc ?_ _) | (with_reducible refine Gr.drew ?_) | (with_reducible refine Gr.drewN ?_ _) | (with_reducible refine Gr.setCell ?_ ?_ _) | (with_reducible refine Gr.trans ?_ (by with_reducible assumption)) | go_size)); have z4 := Gr.size q4; obtain ⟨hc4, hf4⟩ := Gr.cells hb4; have hz4 := Gr.size hb4; (try simp at hz4); (try have hy4_0 : w.heap.size < w4.heap.size := by omega); (try have hy4_1 : w.heap.size + 1 < w4.heap.size := by omega); (try have hy4_2 : w.heap.size + 1 + 1 < w4.heap.size := by omega); (try have hy4_3 : w.heap.size + 1 + 1 + 1 < w4.heap.size := by omega); (try have hy4_4 : w.heap.size + 1 + 1 + 1 + 1 < w4.heap.size := by omega); (try have hy4_5 : w.heap.size + 1 + 1 + 1 + 1 + 1 < w4.heap.size := by omega); (try have hy4_W0_0 : W0.heap.size < w4.heap.size := by omega); (try have hy4_W0_1 : W0.heap.size + 1 < w4.heap.size := by omega); (try have hy4_1_0 : w1.heap.size < w4.heap.size := by omega); (try have hy4_1_1 : w1.heap.size + 1 < w4.heap.size := by omega); (try have hy4_2_0 : w2.heap.size < w4.heap.size := by omega); (try have hy4_2_1 : w2.heap.size + 1 < w4.heap.size := by omega); (try have hy4_3_0 : w3.heap.size < w4.heap.size := by omega); (try have hy4_3_1 : w3.heap.size + 1 < w4.heap.size := by omega)) | (go_at_call 12; refine (HC.out _).mono ?_; rintro e w5 ⟨rfl, hb5⟩; have q5 : Gr W0 w5 := (by repeat' (first | (with_reducible exact Gr.refl _) | (with_reducible assumption) | (with_reducible refine Gr.alloc ?_ _) | (with_reducible refine Gr.drew ?_) | (with_reducible refine Gr.drewN ?_ _) | (with_reducible refine Gr.setCell ?_ ?_ _) | (with_reducible refine Gr.trans ?_ (by with_reducible assumption)) | go_size)); have z5 := Gr.size q5; obtain ⟨hc5, hf5⟩ := Gr.cells hb5; have hz5 := Gr.size hb5; (try simp at hz5); (try have hy5_0 : w.heap.size < w5.heap.size := by omega); (try have hy5_1 : w.heap.size + 1 < w5.heap.size := by omega); (try have hy5_2 : w.heap.size + 1 + 1 < w5.heap.size := by omega); (try have hy5_3 : w.heap.size + 1 + 1 + 1 < w5.heap.size := by omega); (try have hy5_4 : w.heap.size + 1 + 1 + 1 + 1 < w5.heap.size := by omega); (try have hy5_5 : w.heap.size + 1 + 1 + 1 + 1 + 1 < w5.heap.size := by omega); (try have hy5_W0_0 : W0.heap.size < w5.heap.size := by omega); (try have hy5_W0_1 : W0.heap.size + 1 < w5.heap.size := by omega); (try have hy5_1_0 : w1.heap.size < w5.heap.size := by omega); (try have hy5_1_1 : w1.heap.size + 1 < w5.heap.size := by omega); (try have hy5_2_0 : w2.heap.size < w5.heap.size := by omega); (try have hy5_2_1 : w2.heap.size + 1 < w5.heap.size := by omega); (try have hy5_3_0 : w3.heap.size < w5.heap.size := by omega); (try have hy5_3_1 : w3.heap.size + 1 < w5.heap.size := by omega); (try have hy5_4_0 : w4.heap.size < w5.heap.size := by omega); (try have hy5_4_1 : w4.heap.size + 1 < w5.heap.size := by omega)))
      go_wp2_with (first | (go_at_call 14; with_reducible refine (HP.out _).mono ?_; rintro e w' ⟨rfl, rfl⟩) | (go_at_call 15; with_reducible refine (HR.out _).mono ?_; rintro e w8 ⟨rfl, hb8⟩; obtain ⟨hc8, hf8⟩ := Gr.cells hb8; have hz8 := Gr.size hb8; (try simp at hz8); (try have hy8_0 : w.heap.size < w8.heap.size := by omega); (try have hy8_1 : w.heap.size + 1 < w8.heap.size := by omega); (try have hy8_2 : w.heap.size + 1 + 1 < w8.heap.size := by omega); (try have hy8_3 : w.heap.size + 1 + 1 + 1 < w8.heap.size := by omega); (try have hy8_4 : w.heap.size + 1 + 1 + 1 + 1 < w8.heap.size := by omega); (try have hy8_5 : w.heap.size + 1 + 1 + 1 + 1 + 1 < w8.heap.size := by omega); (try have hy8_1_0 : w1.heap.size < w8.heap.size := by omega); (try have hy8_1_1 : w1.heap.size + 1 < w8.heap.size := by omega); (try have hy8_2_0 : w2.heap.size < w8.heap.size := by omega); (try have hy8_2_1 : w2.heap.size + 1 < w8.heap.size := by omega); (try have hy8_3_0 : w3.heap.size < w8.heap.size := by omega); (try have hy8_3_1 : w3.heap.size + 1 < w8.heap.size := by omega)))
      go_ret
      exact ⟨by first | rfl | exact ret_bool' (by simp), (by repeat' (first | (with_reducible exact Gr.refl _) | (with_reducible assumption) | (with_reducible refine Gr.alloc ?_ _) | (with_reducible refine Gr.drew ?_) | (with_reducible refine Gr.drewN ?_ _) | (with_reducible refine Gr.setCell ?_ ?_ _) | (with_reducible refine Gr.trans ?_ (by with_reducible assumption)) | go_size))⟩
    · rcases e2 with e2 | ⟨e2, e3⟩
      all_goals
        go_enter Tryd.func4, Tryd.ntmps4
        go_wp2_with fail
        refine (awake_any _).mono ?_; rintro e w1 ⟨rfl, hb1⟩; obtain ⟨hc1, hf1⟩ := Gr.cells hb1; have hz1 := Gr.size hb1; (try simp at hz1); (try have hy1_0 : w.heap.size < w1.heap.size := by omega); (try have hy1_1 : w.heap.size + 1 < w1.heap.size := by omega); (try have hy1_2 : w.heap.size + 1 + 1 < w1.heap.size := by omega); (try have hy1_3 : w.heap.size + 1 + 1 + 1 < w1.heap.size := by omega); (try have hy1_4 : w.heap.size + 1 + 1 + 1 + 1 < w1.heap.size := by omega); (try have hy1_5 : w.heap.size + 1 + 1 + 1 + 1 + 1 < w1.heap.size := by omega)
        have kc1_0 := hc1 (w.heap.size) 0 (by first | omega | (simp; done) | (simp; omega))
        have kc1_1 := hc1 (w.heap.size) 1 (by first | omega | (simp; done) | (simp; omega))
        have kc1_2 := hc1 (w.heap.size + 1) 0 (by first | omega | (simp; done) | (simp; omega))
        have kc1_3 := hc1 (w.heap.size + 1) 1 (by first | omega | (simp; done) | (simp; omega))
        clear hc1
        (try simp [go_sem, *] at kc1_0)
        (try simp [go_sem, *] at kc1_1)
        (try simp [go_sem, *] at kc1_2)
        (try simp [go_sem, *] at kc1_3)
        go_wp2_with fail
        refine (HA.out _ (by repeat' (first | (with_reducible exact Gr.refl _) | (with_reducible assumption) | (with_reducible refine Gr.alloc ?_ _) | (with_reducible refine Gr.drew ?_) | (with_reducible refine Gr.drewN ?_ _) | (with_reducible refine Gr.setCell ?_ ?_ _) | (with_reducible refine Gr.trans ?_ (by with_reducible assumption)) | go_size))).mono ?_; rintro e w2 ⟨rfl, hb2⟩; obtain ⟨hc2, hf2⟩ := Gr.cells hb2; have hz2 := Gr.size hb2; (try simp at hz2); (try have hy2_0 : w.heap.size < w2.heap.size := by omega); (try have hy2_1 : w.heap.size + 1 < w2.heap.size := by omega); (try have hy2_2 : w.heap.size + 1 + 1 < w2.heap.size := by omega); (try have hy2_3 : w.heap.size + 1 + 1 + 1 < w2.heap.size := by omega); (try have hy2_4 : w.heap.size + 1 + 1 + 1 + 1 < w2.heap.size := by omega); (try have hy2_5 : w.heap.size + 1 + 1 + 1 + 1 + 1 < w2.heap.size := by omega); (try have hy2_1_0 : w1.heap.size < w2.heap.size := by omega); (try have hy2_1_1 : w1.heap.size + 1 < w2.heap.size := by omega)
        have kc2_0 := hc2 (w.heap.size) 0 (by first | omega | (simp; done) | (simp; omega))
        have kc2_1 := hc2 (w.heap.size) 1 (by first | omega | (simp; done) | (simp; omega))
        have kc2_2 := hc2 (w.heap.size + 1) 0 (by first | omega | (simp; done) | (simp; omega))
        have kc2_3 := hc2 (w.heap.size + 1) 1 (by first | omega | (simp; done) | (simp; omega))
        clear hc2
        (try simp [go_sem, *] at kc2_0)
        (try simp [go_sem, *] at kc2_1)
        (try simp [go_sem, *] at kc2_2)
        (try simp [go_sem, *] at kc2_3)
        go_wp2_with fail
        refine (HB.out _ (by repeat' (first | (with_reducible exact Gr.refl _) | (with_reducible assumption) | (with_reducible refine Gr.alloc ?_ _) | (with_reducible refine Gr.drew ?_) | (with_reducible refine Gr.drewN ?_ _) | (with_reducible refine Gr.setCell ?_ ?_ _) | (with_reducible refine Gr.trans ?_ (by with_reducible assumption)) | go_size))).mono ?_; rintro e w3 ⟨rfl, hb3⟩; obtain ⟨hc3, hf3⟩ := Gr.cells hb3; have hz3 := Gr.size hb3; (try simp at hz3); (try have hy3_0 : w.heap.size < w3.heap.size := by omega); (try have hy3_1 : w.heap.size + 1 < w3.heap.size := by omega); (try have hy3_2 : w.heap.size + 1 + 1 < w3.heap.size := by omega); (try have hy3_3 : w.heap.size + 1 + 1 + 1 < w3.heap.size := by omega); (try have hy3_4 : w.heap.size + 1 + 1 + 1 + 1 < w3.heap.size := by omega); (try have hy3_5 : w.heap.size + 1 + 1 + 1 + 1 + 1 < w3.heap.size := by omega); (try have hy3_1_0 : w1.heap.size < w3.heap.size := by omega); (try have hy3_1_1 : w1.heap.size + 1 < w3.heap.size := by omega); (try have hy3_2_0 : w2.heap.size < w3.heap.size := by omega); (try have hy3_2_1 : w2.heap.size + 1 < w3.heap.size := by omega)
        have kc3_0 := hc3 (w.heap.size) 0 (by first | omega | (simp; done) | (simp; omega))
        have kc3_1 := hc3 (w.heap.size) 1 (by first | omega | (simp; done) | (simp; omega))
        have kc3_2 := hc3 (w.heap.size + 1) 0 (by first | omega | (simp; done) | (simp; omega))
        have kc3_3 := hc3 (w.heap.size + 1) 1 (by first | omega | (simp; done) | (simp; omega))
        clear hc3
        (try simp [go_sem, *] at kc3_0)
        (try simp [go_sem, *] at kc3_1)
        (try simp [go_sem, *] at kc3_2)
        (try simp [go_sem, *] at kc3_3)
        go_wp2_with fail
        refine name_world ?_; intro W0 hW0
        have g0 : Gr w W0 := by rw [hW0]; exact (by repeat' (first | (with_reducible exact Gr.refl _) | (with_reducible assumption) | (with_reducible refine Gr.alloc ?_ _) | (with_reducible refine Gr.drew ?_) | (with_reducible refine Gr.drewN ?_ _) | (with_reducible refine Gr.setCell ?_ ?_ _) | (with_reducible refine Gr.trans ?_ (by with_reducible assumption)) | go_size))
        have k0_0 : ∀ w', Gr W0 w' → w'.cell? ⟨w.heap.size, 0, none⟩ = some (.int .i64 h) := fun w' hgW => by first | exact (Gr.at hgW (by rw [hW0]; simp [go_sem, *]))
        have k0_1 : ∀ w', Gr W0 w' → w'.cell? ⟨w.heap.size, 1, none⟩ = some (.int .i64 l) := fun w' hgW => by first | exact (Gr.at hgW (by rw [hW0]; simp [go_sem, *]))
        have k0_2 : ∀ w', Gr W0 w' → w'.cell? ⟨w.heap.size + 1, 0, none⟩ = some (.int .i64 h') := fun w' hgW => by first | exact (Gr.at hgW (by rw [hW0]; simp [go_sem, *]))
        have k0_3 : ∀ w', Gr W0 w' → w'.cell? ⟨w.heap.size + 1, 1, none⟩ = some (.int .i64 l') := fun w' hgW => by first | exact (Gr.at hgW (by rw [hW0]; simp [go_sem, *]))
        clear hW0
        have zW0 := Gr.size g0
        go_region_held3 (fun w' => Gr W0 w') (repeat' (first | (with_reducible exact Gr.refl _) | (with_reducible assumption) | (with_reducible refine Gr.alloc ?_ _) | (with_reducible refine Gr.drew ?_) | (with_reducible refine Gr.drewN ?_ _) | (with_reducible refine Gr.setCell ?_ ?_ _) | (with_reducible refine Gr.trans ?_ (by with_reducible assumption)) | go_size)) (first | (go_at_call 13; refine (HOF.out _).mono ?_; rintro e w4 ⟨rfl, hb4⟩; have q4 : Gr W0 w4 := (by repeat' (first | (with_reducible exact Gr.refl _) | (with_reducible assumption) | (with_reducible refine Gr.alloc ?_ _) | (with_reducible refine Gr.drew ?_) | (with_reducible refine Gr.drewN ?_ _) | (with_reducible refine Gr.setCell ?_ ?_ _) | (with_reducible refine Gr.trans ?_ (by with_reducible assumption)) | go_size)); have z4 := Gr.size q4; obtain ⟨hc4, hf4⟩ := Gr.cells hb4; have hz4 := Gr.size hb4; (try simp at hz4); (try have hy4_0 : w.heap.size < w4.heap.size := by omega); (try have hy4_1 : w.heap.size + 1 < w4.heap.size := by omega); (try have hy4_2 : w.heap.size + 1 + 1 < w4.heap.size := by omega); (try have hy4_3 : w.heap.size + 1 + 1 + 1 < w4.heap.size := by omega); (try have hy4_4 : w.heap.size + 1 + 1 + 1 + 1 < w4.heap.size := by omega); (try have hy4_5 : w.heap.size + 1 + 1 + 1 + 1 + 1 < w4.heap.size := by omega); (try have hy4_W0_0 : W0.heap.size < w4.heap.size := by omega); (try have hy4_W0_1 : W0.heap.size + 1 < w4.heap.size := by omega); (try have hy4_1_0 : w1.heap.size < w4.heap.size := by omega); (try have hy4_1_1 : w1.heap.size + 1 < w4.heap.size := by omega); (try have hy4_2_0 : w2.heap.size < w4.heap.size := by omega); (try have hy4_2_1 : w2.heap.size + 1 < w4.heap.size := by omega); (try have hy4_3_0 : w3.heap.size < w4.heap.size := by omega); (try have hy4_3_1 : w3.heap.size + 1 < w4.heap.size := by omega)) | (go_at_call 12; refine (HC.out _).mono ?_; rintro e w5 ⟨rfl, hb5⟩; have q5 : Gr W0 w5 := (by repeat' (first | (with_reducible exact Gr.refl _) | (with_reducible assumption) | (with_reducible refine Gr.alloc ?_ _) | (with_reducible refine Gr.drew ?_) | (with_reducible refine Gr.drewN ?_ _) | (with_reducible refine Gr.setCell ?_ ?_ _) | (with_reducible refine Gr.trans ?_ (by with_reducible assumption)) | go_size)); have z5 := Gr.size q5; obtain ⟨hc5, hf5⟩ := Gr.cells hb5; have hz5 := Gr.size hb5; (try simp at hz5); (try have hy5_0 : w.heap.size < w5.heap.size := by omega); (try have hy5_1 : w.heap.size + 1 < w5.heap.size := by omega); (try have hy5_2 : w.heap.size + 1 + 1 < w5.heap.size := by omega); (try have hy5_3 : w.heap.size + 1 + 1 + 1 < w5.heap.size := by omega); (try have hy5_4 : w.heap.size + 1 + 1 + 1 + 1 < w5.heap.size := by omega); (try have hy5_5 : w.heap.size + 1 + 1 + 1 + 1 + 1 < w5.heap.size := by omega); (try have hy5_W0_0 : W0.heap.size < w5.heap.size := by omega); (try have hy5_W0_1 : W0.heap.size + 1 < w5.heap.size := by omega); (try have hy5_1_0 : w1.heap.size < w5.heap.size := by omega); (try have hy5_1_1 : w1.heap.size + 1 < w5.heap.size := by omega); (try have hy5_2_0 : w2.heap.size < w5.heap.size := by omega); (try have hy5_2_1 : w2.heap.size + 1 < w5.heap.size := by omega); (try have hy5_3_0 : w3.heap.size < w5.heap.size := by omega); (try have hy5_3_1 : w3.heap.size + 1 < w5.heap.size := by omega); (try have hy5_4_0 : w4.heap.size < w5.heap.size := by omega); (try have hy5_4_1 : w4.heap.size + 1 < w5.heap.size := by omega)))
        go_wp2_with (first | (go_at_call 14; with_reducible refine (HP.out _).mono ?_; rintro e w' ⟨rfl, rfl⟩) | (go_at_call 15; with_reducible refine (HR.out _).mono ?_; rintro e w8 ⟨rfl, hb8⟩; obtain ⟨hc8, hf8⟩ := Gr.cells hb8; have hz8 := Gr.size hb8; (try simp at hz8); (try have hy8_0 : w.heap.size < w8.heap.size := by omega); (try have hy8_1 : w.heap.size + 1 < w8.heap.size := by omega); (try have hy8_2 : w.heap.size + 1 + 1 < w8.heap.size := by omega); (try have hy8_3 : w.heap.size + 1 + 1 + 1 < w8.heap.size := by omega); (try have hy8_4 : w.heap.size + 1 + 1 + 1 + 1 < w8.heap.size := by omega); (try have hy8_5 : w.heap.size + 1 + 1 + 1 + 1 + 1 < w8.heap.size := by omega); (try have hy8_1_0 : w1.heap.size < w8.heap.size := by omega); (try have hy8_1_1 : w1.heap.size + 1 < w8.heap.size := by omega); (try have hy8_2_0 : w2.heap.size < w8.heap.size := by omega); (try have hy8_2_1 : w2.heap.size + 1 < w8.heap.size := by omega); (try have hy8_3_0 : w3.heap.size < w8.heap.size := by omega); (try have hy8_3_1 : w3.heap.size + 1 < w8.heap.size := by omega)))
        go_ret
        exact ⟨by first | rfl | exact ret_bool' (by simp), (by repeat' (first | (with_reducible exact Gr.refl _) | (with_reducible assumption) | (with_reducible refine Gr.alloc ?_ _) | (with_reducible refine Gr.drew ?_) | (with_reducible refine Gr.drewN ?_ _) | (with_reducible refine Gr.setCell ?_ ?_ _) | (with_reducible refine Gr.trans ?_ (by with_reducible assumption)) | go_size))⟩
end Go.Proofs.YtbaahlofabmljaaDoor
