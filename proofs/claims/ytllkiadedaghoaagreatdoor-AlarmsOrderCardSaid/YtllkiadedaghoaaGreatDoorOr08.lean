/-
  
-/
import Derived.Test.YtllkiadedaghoaaGreatDoorOr07

set_option linter.unusedVariables false
set_option linter.unusedSimpArgs false
namespace Go.Proofs.YtllkiadedaghoaaGreatDoor
open Go.RowKit
namespace Ck
/-- The text of an instant. -/
def txt (y m d s : Int) : List UInt8 := dig y.toNat 4 ++ [45] ++ dig m.toNat 2 ++ [45] ++ dig d.toNat 2 ++ [32] ++ hrs s
theorem dig4_len {n : Nat} (h : n < 10000) : (dig n 4).length = 4 := by
  have e : dig n 4 = Dg.dig n 4 := rfl
  rw [e, Dg.dig_pad (by omega) (by omega), Dg.pd_len]
theorem txt_len {y m d s : Int} (hv : vld y m d = true) (s0 : 0 ≤ s) (s1 : s < 86400) : (txt y m d s).length = 19 := by
  obtain ⟨v1, v2, v3, v4, v5, v6⟩ := (vld_iff y m d).1 hv
  have := mlen_bd y m
  unfold txt
  simp only [List.length_append, List.length_cons, List.length_nil]
  rw [dig4_len (by omega), dig_len (by omega), dig_len (by omega), hrs_len s0 s1]
theorem split_secs (t : Int) : 0 ≤ t - t / 86400 * 86400 ∧ t - t / 86400 * 86400 < 86400 := by omega
end Ck
set_option maxHeartbeats 400000 in
theorem text_cut (t e' : Int) (w : World) (he : (e' != 0) = true) (HS : ∀ W : World, Calls Tryz.prog 59 #[.int .i64 t] W fun e w' => e = .returned (.tuple #[.agg #[.int .i64 0, .int .i64 0, .int .i64 0], .int .i64 0, .int .i64 e']) ∧ Gr W w') :
    Calls Tryz.prog 29 #[.int .i64 t] w fun e w' => e = .returned (.tuple #[.string ⟨#[]⟩, .int .i64 e']) ∧ Gr w w' := by
  have HS := Lib.hid HS
  go_enter Tryz.func29, Tryz.ntmps29
  go_wp2_with fail; refine (HS.out _).mono ?_; rintro e w1 ⟨rfl, hb1⟩; obtain ⟨hc1, hf1⟩ := Gr.cells hb1; have hz1 := Gr.size hb1; (try simp at hz1); (try have hy1_0 : w.heap.size < w1.heap.size := by omega); (try have hy1_1 : w.heap.size + 1 < w1.heap.size := by omega); (try have hy1_2 : w.heap.size + 1 + 1 < w1.heap.size := by omega); (try have hy1_3 : w.heap.size + 1 + 1 + 1 < w1.heap.size := by omega); (try have hy1_4 : w.heap.size + 1 + 1 + 1 + 1 < w1.heap.size := by omega); (try have hy1_5 : w.heap.size + 1 + 1 + 1 + 1 + 1 < w1.heap.size := by omega)
  go_wp2
  go_ret2
  exact ⟨rfl, gr_auto⟩
theorem text_bad (t : Int) (w : World) (hi : Ck.inst t = false) :
    Calls Tryz.prog 29 #[.int .i64 t] w fun e w' => e = .returned (.tuple #[.string ⟨#[]⟩, .int .i64 2]) ∧ Gr w w' := text_cut t 2 w (by decide) fun W => split_bad t W hi
theorem text_none (t : Int) (w : World) (hi : Ck.inst t = true) (hd : t / 86400 < -730119 ∨ 2921940 ≤ t / 86400) :
    Calls Tryz.prog 29 #[.int .i64 t] w fun e w' => e = .returned (.tuple #[.string ⟨#[]⟩, .int .i64 20]) ∧ Gr w w' := text_cut t 20 w (by decide) fun W => split_none t W hi hd
set_option maxHeartbeats 2000000 in
theorem text_any (t y m d : Int) (w : World) (hi : Ck.inst t = true) (hv : Ck.vld y m d = true) (hn : Ck.num y m d = t / 86400) (ht : Tab w) :
    Calls Tryz.prog 29 #[.int .i64 t] w fun e w' => e = .returned (.tuple #[.string ⟨(Ck.txt y m d (t - t / 86400 * 86400)).toArray⟩, .int .i64 0]) ∧ Gr w w' := by
  obtain ⟨v1, v2, v3, v4, v5, v6⟩ := (Ck.vld_iff y m d).1 hv
  have ml := Ck.mlen_bd y m
  obtain ⟨u0, u1⟩ := Ck.split_secs t
  have HS := Lib.hid (fun W => split_any t y m d W hi hv hn)
  have HX := Lib.hid (show Ck.txt y m d (t - t / 86400 * 86400) = Ck.dig y.toNat 4 ++ [45] ++ Ck.dig m.toNat 2 ++ [45] ++ Ck.dig d.toNat 2 ++ [32] ++ Ck.hrs (t - t / 86400 * 86400) from rfl)
  have H1 := Lib.hid (fun W (hg : Gr w W) => digits_any y 4 W (by omega) (by omega) (by omega) (by omega) (Or.inr (ht.gr hg)))
  have H2 := Lib.hid (fun W => digits_any m 2 W (by omega) (by omega) (by omega) (by omega) (Or.inl (by omega)))
  have H3 := Lib.hid (fun W => digits_any d 2 W (by omega) (by omega) (by omega) (by omega) (Or.inl (by omega)))
  have H4 := Lib.hid (fun W => hours_any (t - t / 86400 * 86400) W u0 u1)
  rw [show (4 : Int).toNat = 4 from rfl] at H1
  rw [show (2 : Int).toNat = 2 from rfl] at H2 H3
  have l1 : (Ck.dig y.toNat 4).length ≤ 4 := by rw [Ck.dig4_len (by omega)]; omega
  have l2 : (Ck.dig m.toNat 2).length ≤ 2 := by rw [Ck.dig_len (by omega)]; omega
  have l3 : (Ck.dig d.toNat 2).length ≤ 2 := by rw [Ck.dig_len (by omega)]; omega
  have l4 : (Ck.hrs (t - t / 86400 * 86400)).length ≤ 8 := by rw [Ck.hrs_len u0 u1]; omega
  clear hv hn hi u0 u1 ml v1 v2 v3 v4 v5 v6 ht
  generalize Ck.dig y.toNat 4 = a at *
  generalize Ck.dig m.toNat 2 = b at *
  generalize Ck.dig d.toNat 2 = c at *
  generalize Ck.hrs (t - t / 86400 * 86400) = h at *
  generalize t - t / 86400 * 86400 = u at *
  go_enter Tryz.func29, Tryz.ntmps29
  go_wp2_with fail; refine (HS.out _).mono ?_; rintro e w1 ⟨rfl, hb1⟩; obtain ⟨hc1, hf1⟩ := Gr.cells hb1; have hz1 := Gr.size hb1; (try simp at hz1); (try have hy1_0 : w.heap.size < w1.heap.size := by omega); (try have hy1_1 : w.heap.size + 1 < w1.heap.size := by omega); (try have hy1_2 : w.heap.size + 1 + 1 < w1.heap.size := by omega); (try have hy1_3 : w.heap.size + 1 + 1 + 1 < w1.heap.size := by omega); (try have hy1_4 : w.heap.size + 1 + 1 + 1 + 1 < w1.heap.size := by omega); (try have hy1_5 : w.heap.size + 1 + 1 + 1 + 1 + 1 < w1.heap.size := by omega)
  have x0 : ∀ W : World, (Op.stringOp .add (⟨a.toArray⟩ : ByteArray) ⟨#[45]⟩).run Tryz.prog W = .ok (.string ((⟨a.toArray⟩ : ByteArray) ++ ⟨#[45]⟩)) W := fun W => run_string_add_sum W _ _ (by simp only [ByteArray.size_append', ByteArray.size_mk', List.size_toArray]; simp; omega)
  have x1 : ∀ W : World, (Op.stringOp .add ((⟨a.toArray⟩ : ByteArray) ++ ⟨#[45]⟩) ⟨b.toArray⟩).run Tryz.prog W = .ok (.string (((⟨a.toArray⟩ : ByteArray) ++ ⟨#[45]⟩) ++ ⟨b.toArray⟩)) W := fun W => run_string_add_sum W _ _ (by simp only [ByteArray.size_append', ByteArray.size_mk', List.size_toArray]; simp; omega)
  have x2 : ∀ W : World, (Op.stringOp .add (((⟨a.toArray⟩ : ByteArray) ++ ⟨#[45]⟩) ++ ⟨b.toArray⟩) ⟨#[45]⟩).run Tryz.prog W = .ok (.string ((((⟨a.toArray⟩ : ByteArray) ++ ⟨#[45]⟩) ++ ⟨b.toArray⟩) ++ ⟨#[45]⟩)) W := fun W => run_string_add_sum W _ _ (by simp only [ByteArray.size_append', ByteArray.size_mk', List.size_toArray]; simp; omega)
  have x3 : ∀ W : World, (Op.stringOp .add ((((⟨a.toArray⟩ : ByteArray) ++ ⟨#[45]⟩) ++ ⟨b.toArray⟩) ++ ⟨#[45]⟩) ⟨c.toArray⟩).run Tryz.prog W = .ok (.string (((((⟨a.toArray⟩ : ByteArray) ++ ⟨#[45]⟩) ++ ⟨b.toArray⟩) ++ ⟨#[45]⟩) ++ ⟨c.toArray⟩)) W := fun W => run_string_add_sum W _ _ (by simp only [ByteArray.size_append', ByteArray.size_mk', List.size_toArray]; simp; omega)
  have x4 : ∀ W : World, (Op.stringOp .add (((((⟨a.toArray⟩ : ByteArray) ++ ⟨#[45]⟩) ++ ⟨b.toArray⟩) ++ ⟨#[45]⟩) ++ ⟨c.toArray⟩) ⟨#[32]⟩).run Tryz.prog W = .ok (.string ((((((⟨a.toArray⟩ : ByteArray) ++ ⟨#[45]⟩) ++ ⟨b.toArray⟩) ++ ⟨#[45]⟩) ++ ⟨c.toArray⟩) ++ ⟨#[32]⟩)) W := fun W => run_string_add_sum W _ _ (by simp only [ByteArray.size_append', ByteArray.size_mk', List.size_toArray]; simp; omega)
  have x5 : ∀ W : World, (Op.stringOp .add ((((((⟨a.toArray⟩ : ByteArray) ++ ⟨#[45]⟩) ++ ⟨b.toArray⟩) ++ ⟨#[45]⟩) ++ ⟨c.toArray⟩) ++ ⟨#[32]⟩) ⟨h.toArray⟩).run Tryz.prog W = .ok (.string (((((((⟨a.toArray⟩ : ByteArray) ++ ⟨#[45]⟩) ++ ⟨b.toArray⟩) ++ ⟨#[45]⟩) ++ ⟨c.toArray⟩) ++ ⟨#[32]⟩) ++ ⟨h.toArray⟩)) W := fun W => run_string_add_sum W _ _ (by simp only [ByteArray.size_append', ByteArray.size_mk', List.size_toArray]; simp; omega)
  go_wp2_with fail
  refine name_world ?_; intro W0 hW0
  have g0 : Gr w W0 := by rw [hW0]; exact gr_auto
  have k0_0 : ∀ w', Gr W0 w' → w'.cell? ⟨w1.heap.size, 0, none⟩ = some (.int .i64 y) := fun w' hgW => by first | exact (Gr.at hgW (by rw [hW0]; simp [go_sem, *]))
  have k0_1 : ∀ w', Gr W0 w' → w'.cell? ⟨w1.heap.size, 1, none⟩ = some (.int .i64 m) := fun w' hgW => by first | exact (Gr.at hgW (by rw [hW0]; simp [go_sem, *]))
  have k0_2 : ∀ w', Gr W0 w' → w'.cell? ⟨w1.heap.size, 2, none⟩ = some (.int .i64 d) := fun w' hgW => by first | exact (Gr.at hgW (by rw [hW0]; simp [go_sem, *]))
  clear hW0
  have zW0 := Gr.size g0
  go_region_held3 (fun w' => Gr W0 w') (exact gr_auto) (first | (go_at_call 60; with_reducible refine (H1.out _ (Gr.trans g0 (by assumption))).mono ?_; rintro e w2 ⟨rfl, hb2⟩; have q2 : Gr W0 w2 := gr_auto; have z2 := Gr.size q2; obtain ⟨hc2, hf2⟩ := Gr.cells hb2; have hz2 := Gr.size hb2; (try simp at hz2); (try have hy2_0 : w.heap.size < w2.heap.size := by omega); (try have hy2_1 : w.heap.size + 1 < w2.heap.size := by omega); (try have hy2_2 : w.heap.size + 1 + 1 < w2.heap.size := by omega); (try have hy2_3 : w.heap.size + 1 + 1 + 1 < w2.heap.size := by omega); (try have hy2_4 : w.heap.size + 1 + 1 + 1 + 1 < w2.heap.size := by omega); (try have hy2_5 : w.heap.size + 1 + 1 + 1 + 1 + 1 < w2.heap.size := by omega); (try have hy2_W0_0 : W0.heap.size < w2.heap.size := by omega); (try have hy2_W0_1 : W0.heap.size + 1 < w2.heap.size := by omega); (try have hy2_1_0 : w1.heap.size < w2.heap.size := by omega); (try have hy2_1_1 : w1.heap.size + 1 < w2.heap.size := by omega)) | (go_at_call 60; with_reducible refine (H2.out _).mono ?_; rintro e w3 ⟨rfl, hb3⟩; have q3 : Gr W0 w3 := gr_auto; have z3 := Gr.size q3; obtain ⟨hc3, hf3⟩ := Gr.cells hb3; have hz3 := Gr.size hb3; (try simp at hz3); (try have hy3_0 : w.heap.size < w3.heap.size := by omega); (try have hy3_1 : w.heap.size + 1 < w3.heap.size := by omega); (try have hy3_2 : w.heap.size + 1 + 1 < w3.heap.size := by omega); (try have hy3_3 : w.heap.size + 1 + 1 + 1 < w3.heap.size := by omega); (try have hy3_4 : w.heap.size + 1 + 1 + 1 + 1 < w3.heap.size := by omega); (try have hy3_5 : w.heap.size + 1 + 1 + 1 + 1 + 1 < w3.heap.size := by omega); (try have hy3_W0_0 : W0.heap.size < w3.heap.size := by omega); (try have hy3_W0_1 : W0.heap.size + 1 < w3.heap.size := by omega); (try have hy3_1_0 : w1.heap.size < w3.heap.size := by omega); (try have hy3_1_1 : w1.heap.size + 1 < w3.heap.size := by omega); (try have hy3_2_0 : w2.heap.size < w3.heap.size := by omega); (try have hy3_2_1 : w2.heap.size + 1 < w3.heap.size := by omega)) | (go_at_call 60; with_reducible refine (H3.out _).mono ?_; rintro e w4 ⟨rfl, hb4⟩; have q4 : Gr W0 w4 := gr_auto; have z4 := Gr.size q4; obtain ⟨hc4, hf4⟩ := Gr.cells hb4; have hz4 := Gr.size hb4; (try simp at hz4); (try have hy4_0 : w.heap.size < w4.heap.size := by omega); (try have hy4_1 : w.heap.size + 1 < w4.heap.size := by omega); (try have hy4_2 : w.heap.size + 1 + 1 < w4.heap.size := by omega); (try have hy4_3 : w.heap.size + 1 + 1 + 1 < w4.heap.size := by omega); (try have hy4_4 : w.heap.size + 1 + 1 + 1 + 1 < w4.heap.size := by omega); (try have hy4_5 : w.heap.size + 1 + 1 + 1 + 1 + 1 < w4.heap.size := by omega); (try have hy4_W0_0 : W0.heap.size < w4.heap.size := by omega); (try have hy4_W0_1 : W0.heap.size + 1 < w4.heap.size := by omega); (try have hy4_1_0 : w1.heap.size < w4.heap.size := by omega); (try have hy4_1_1 : w1.heap.size + 1 < w4.heap.size := by omega); (try have hy4_2_0 : w2.heap.size < w4.heap.size := by omega); (try have hy4_2_1 : w2.heap.size + 1 < w4.heap.size := by omega); (try have hy4_3_0 : w3.heap.size < w4.heap.size := by omega); (try have hy4_3_1 : w3.heap.size + 1 < w4.heap.size := by omega)) | (go_at_call 61; with_reducible refine (H4.out _).mono ?_; rintro e w5 ⟨rfl, hb5⟩; have q5 : Gr W0 w5 := gr_auto; have z5 := Gr.size q5; obtain ⟨hc5, hf5⟩ := Gr.cells hb5; have hz5 := Gr.size hb5; (try simp at hz5); (try have hy5_0 : w.heap.size < w5.heap.size := by omega); (try have hy5_1 : w.heap.size + 1 < w5.heap.size := by omega); (try have hy5_2 : w.heap.size + 1 + 1 < w5.heap.size := by omega); (try have hy5_3 : w.heap.size + 1 + 1 + 1 < w5.heap.size := by omega); (try have hy5_4 : w.heap.size + 1 + 1 + 1 + 1 < w5.heap.size := by omega); (try have hy5_5 : w.heap.size + 1 + 1 + 1 + 1 + 1 < w5.heap.size := by omega); (try have hy5_W0_0 : W0.heap.size < w5.heap.size := by omega); (try have hy5_W0_1 : W0.heap.size + 1 < w5.heap.size := by omega); (try have hy5_1_0 : w1.heap.size < w5.heap.size := by omega); (try have hy5_1_1 : w1.heap.size + 1 < w5.heap.size := by omega); (try have hy5_2_0 : w2.heap.size < w5.heap.size := by omega); (try have hy5_2_1 : w2.heap.size + 1 < w5.heap.size := by omega); (try have hy5_3_0 : w3.heap.size < w5.heap.size := by omega); (try have hy5_3_1 : w3.heap.size + 1 < w5.heap.size := by omega); (try have hy5_4_0 : w4.heap.size < w5.heap.size := by omega); (try have hy5_4_1 : w4.heap.size + 1 < w5.heap.size := by omega)))
  all_goals
    clear x0 x1 x2 x3 x4 x5
    go_wp2
    go_ret2
    refine ⟨ret_si ?_ rfl, gr_auto⟩
    rw [HX.out]
    simp only [← bytes_app]
set_option maxHeartbeats 400000 in
theorem rtext_cut (t e' : Int) (w : World) (he : (e' != 0) = true) (HS : ∀ W : World, Calls Tryz.prog 85 #[.int .i64 t] W fun e w' => e = .returned (.tuple #[.agg #[.int .i64 0, .int .i64 0, .int .i64 0], .int .i64 0, .int .i64 e']) ∧ Gr W w') :
    Calls Tryz.prog 44 #[.int .i64 t] w fun e w' => e = .returned (.tuple #[.string ⟨#[]⟩, .int .i64 e']) ∧ Gr w w' := by
  have HS := Lib.hid HS
  go_enter Tryz.func44, Tryz.ntmps44
  go_wp2_with fail; refine (HS.out _).mono ?_; rintro e w1 ⟨rfl, hb1⟩; obtain ⟨hc1, hf1⟩ := Gr.cells hb1; have hz1 := Gr.size hb1; (try simp at hz1); (try have hy1_0 : w.heap.size < w1.heap.size := by omega); (try have hy1_1 : w.heap.size + 1 < w1.heap.size := by omega); (try have hy1_2 : w.heap.size + 1 + 1 < w1.heap.size := by omega); (try have hy1_3 : w.heap.size + 1 + 1 + 1 < w1.heap.size := by omega); (try have hy1_4 : w.heap.size + 1 + 1 + 1 + 1 < w1.heap.size := by omega); (try have hy1_5 : w.heap.size + 1 + 1 + 1 + 1 + 1 < w1.heap.size := by omega)
  go_wp2
  go_ret2
  exact ⟨rfl, gr_auto⟩
theorem rtext_bad (t : Int) (w : World) (hi : Ck.inst t = false) :
    Calls Tryz.prog 44 #[.int .i64 t] w fun e w' => e = .returned (.tuple #[.string ⟨#[]⟩, .int .i64 2]) ∧ Gr w w' := rtext_cut t 2 w (by decide) fun W => rsplit_bad t W hi
theorem rtext_none (t : Int) (w : World) (hi : Ck.inst t = true) (hd : Ck.dated (t / 86400) = false) :
    Calls Tryz.prog 44 #[.int .i64 t] w fun e w' => e = .returned (.tuple #[.string ⟨#[]⟩, .int .i64 20]) ∧ Gr w w' := rtext_cut t 20 w (by decide) fun W => rsplit_none t W hi hd
set_option maxHeartbeats 2000000 in
theorem rtext_any (t y m d : Int) (w : World) (hi : Ck.inst t = true) (hd : Ck.dated (t / 86400) = true) (hv : Ck.vld y m d = true) (hn : Ck.num y m d = t / 86400) :
    Calls Tryz.prog 44 #[.int .i64 t] w fun e w' => e = .returned (.tuple #[.string ⟨(Ck.txt y m d (t - t / 86400 * 86400)).toArray⟩, .int .i64 0]) ∧ Gr w w' := by
  obtain ⟨v1, v2, v3, v4, v5, v6⟩ := (Ck.vld_iff y m d).1 hv
  have ml := Ck.mlen_bd y m
  obtain ⟨u0, u1⟩ := Ck.split_secs t
  have HS := Lib.hid (fun W => rsplit_any t y m d W hi hd hv hn)
  have HX := Lib.hid (show Ck.txt y m d (t - t / 86400 * 86400) = Ck.dig y.toNat 4 ++ [45] ++ Ck.dig m.toNat 2 ++ [45] ++ Ck.dig d.toNat 2 ++ [32] ++ Ck.hrs (t - t / 86400 * 86400) from rfl)
  have H1 := Lib.hid (fun W => rdigits_any y 4 W (by omega) (by omega) (by omega) (by omega))
  have H2 := Lib.hid (fun W => rdigits_any m 2 W (by omega) (by omega) (by omega) (by omega))
  have H3 := Lib.hid (fun W => rdigits_any d 2 W (by omega) (by omega) (by omega) (by omega))
  have H4 := Lib.hid (fun W => rhours_any (t - t / 86400 * 86400) W u0 u1)
  rw [show (4 : Int).toNat = 4 from rfl] at H1
  rw [show (2 : Int).toNat = 2 from rfl] at H2 H3
  have l1 : (Ck.dig y.toNat 4).length ≤ 4 := by rw [Ck.dig4_len (by omega)]; omega
  have l2 : (Ck.dig m.toNat 2).length ≤ 2 := by rw [Ck.dig_len (by omega)]; omega
  have l3 : (Ck.dig d.toNat 2).length ≤ 2 := by rw [Ck.dig_len (by omega)]; omega
  have l4 : (Ck.hrs (t - t / 86400 * 86400)).length ≤ 8 := by rw [Ck.hrs_len u0 u1]; omega
  clear hv hn hi u0 u1 ml v1 v2 v3 v4 v5 v6 hd
  generalize Ck.dig y.toNat 4 = a at *
  generalize Ck.dig m.toNat 2 = b at *
  generalize Ck.dig d.toNat 2 = c at *
  generalize Ck.hrs (t - t / 86400 * 86400) = h at *
  generalize t - t / 86400 * 86400 = u at *
  go_enter Tryz.func44, Tryz.ntmps44
  go_wp2_with fail; refine (HS.out _).mono ?_; rintro e w1 ⟨rfl, hb1⟩; obtain ⟨hc1, hf1⟩ := Gr.cells hb1; have hz1 := Gr.size hb1; (try simp at hz1); (try have hy1_0 : w.heap.size < w1.heap.size := by omega); (try have hy1_1 : w.heap.size + 1 < w1.heap.size := by omega); (try have hy1_2 : w.heap.size + 1 + 1 < w1.heap.size := by omega); (try have hy1_3 : w.heap.size + 1 + 1 + 1 < w1.heap.size := by omega); (try have hy1_4 : w.heap.size + 1 + 1 + 1 + 1 < w1.heap.size := by omega); (try have hy1_5 : w.heap.size + 1 + 1 + 1 + 1 + 1 < w1.heap.size := by omega)
  have x0 : ∀ W : World, (Op.stringOp .add (⟨a.toArray⟩ : ByteArray) ⟨#[45]⟩).run Tryz.prog W = .ok (.string ((⟨a.toArray⟩ : ByteArray) ++ ⟨#[45]⟩)) W := fun W => run_string_add_sum W _ _ (by simp only [ByteArray.size_append', ByteArray.size_mk', List.size_toArray]; simp; omega)
  have x1 : ∀ W : World, (Op.stringOp .add ((⟨a.toArray⟩ : ByteArray) ++ ⟨#[45]⟩) ⟨b.toArray⟩).run Tryz.prog W = .ok (.string (((⟨a.toArray⟩ : ByteArray) ++ ⟨#[45]⟩) ++ ⟨b.toArray⟩)) W := fun W => run_string_add_sum W _ _ (by simp only [ByteArray.size_append', ByteArray.size_mk', List.size_toArray]; simp; omega)
  have x2 : ∀ W : World, (Op.stringOp .add (((⟨a.toArray⟩ : ByteArray) ++ ⟨#[45]⟩) ++ ⟨b.toArray⟩) ⟨#[45]⟩).run Tryz.prog W = .ok (.string ((((⟨a.toArray⟩ : ByteArray) ++ ⟨#[45]⟩) ++ ⟨b.toArray⟩) ++ ⟨#[45]⟩)) W := fun W => run_string_add_sum W _ _ (by simp only [ByteArray.size_append', ByteArray.size_mk', List.size_toArray]; simp; omega)
  have x3 : ∀ W : World, (Op.stringOp .add ((((⟨a.toArray⟩ : ByteArray) ++ ⟨#[45]⟩) ++ ⟨b.toArray⟩) ++ ⟨#[45]⟩) ⟨c.toArray⟩).run Tryz.prog W = .ok (.string (((((⟨a.toArray⟩ : ByteArray) ++ ⟨#[45]⟩) ++ ⟨b.toArray⟩) ++ ⟨#[45]⟩) ++ ⟨c.toArray⟩)) W := fun W => run_string_add_sum W _ _ (by simp only [ByteArray.size_append', ByteArray.size_mk', List.size_toArray]; simp; omega)
  have x4 : ∀ W : World, (Op.stringOp .add (((((⟨a.toArray⟩ : ByteArray) ++ ⟨#[45]⟩) ++ ⟨b.toArray⟩) ++ ⟨#[45]⟩) ++ ⟨c.toArray⟩) ⟨#[32]⟩).run Tryz.prog W = .ok (.string ((((((⟨a.toArray⟩ : ByteArray) ++ ⟨#[45]⟩) ++ ⟨b.toArray⟩) ++ ⟨#[45]⟩) ++ ⟨c.toArray⟩) ++ ⟨#[32]⟩)) W := fun W => run_string_add_sum W _ _ (by simp only [ByteArray.size_append', ByteArray.size_mk', List.size_toArray]; simp; omega)
  have x5 : ∀ W : World, (Op.stringOp .add ((((((⟨a.toArray⟩ : ByteArray) ++ ⟨#[45]⟩) ++ ⟨b.toArray⟩) ++ ⟨#[45]⟩) ++ ⟨c.toArray⟩) ++ ⟨#[32]⟩) ⟨h.toArray⟩).run Tryz.prog W = .ok (.string (((((((⟨a.toArray⟩ : ByteArray) ++ ⟨#[45]⟩) ++ ⟨b.toArray⟩) ++ ⟨#[45]⟩) ++ ⟨c.toArray⟩) ++ ⟨#[32]⟩) ++ ⟨h.toArray⟩)) W := fun W => run_string_add_sum W _ _ (by simp only [ByteArray.size_append', ByteArray.size_mk', List.size_toArray]; simp; omega)
  go_wp2_with fail
  refine name_world ?_; intro W0 hW0
  have g0 : Gr w W0 := by rw [hW0]; exact gr_auto
  have k0_0 : ∀ w', Gr W0 w' → w'.cell? ⟨w1.heap.size, 0, none⟩ = some (.int .i64 y) := fun w' hgW => by first | exact (Gr.at hgW (by rw [hW0]; simp [go_sem, *]))
  have k0_1 : ∀ w', Gr W0 w' → w'.cell? ⟨w1.heap.size, 1, none⟩ = some (.int .i64 m) := fun w' hgW => by first | exact (Gr.at hgW (by rw [hW0]; simp [go_sem, *]))
  have k0_2 : ∀ w', Gr W0 w' → w'.cell? ⟨w1.heap.size, 2, none⟩ = some (.int .i64 d) := fun w' hgW => by first | exact (Gr.at hgW (by rw [hW0]; simp [go_sem, *]))
  clear hW0
  have zW0 := Gr.size g0
  go_region_held3 (fun w' => Gr W0 w') (exact gr_auto) (first | (go_at_call 86; with_reducible refine (H1.out _).mono ?_; rintro e w2 ⟨rfl, hb2⟩; have q2 : Gr W0 w2 := gr_auto; have z2 := Gr.size q2; obtain ⟨hc2, hf2⟩ := Gr.cells hb2; have hz2 := Gr.size hb2; (try simp at hz2); (try have hy2_0 : w.heap.size < w2.heap.size := by omega); (try have hy2_1 : w.heap.size + 1 < w2.heap.size := by omega); (try have hy2_2 : w.heap.size + 1 + 1 < w2.heap.size := by omega); (try have hy2_3 : w.heap.size + 1 + 1 + 1 < w2.heap.size := by omega); (try have hy2_4 : w.heap.size + 1 + 1 + 1 + 1 < w2.heap.size := by omega); (try have hy2_5 : w.heap.size + 1 + 1 + 1 + 1 + 1 < w2.heap.size := by omega); (try have hy2_W0_0 : W0.heap.size < w2.heap.size := by omega); (try have hy2_W0_1 : W0.heap.size + 1 < w2.heap.size := by omega); (try have hy2_1_0 : w1.heap.size < w2.heap.size := by omega); (try have hy2_1_1 : w1.heap.size + 1 < w2.heap.size := by omega)) | (go_at_call 86; with_reducible refine (H2.out _).mono ?_; rintro e w3 ⟨rfl, hb3⟩; have q3 : Gr W0 w3 := gr_auto; have z3 := Gr.size q3; obtain ⟨hc3, hf3⟩ := Gr.cells hb3; have hz3 := Gr.size hb3; (try simp at hz3); (try have hy3_0 : w.heap.size < w3.heap.size := by omega); (try have hy3_1 : w.heap.size + 1 < w3.heap.size := by omega); (try have hy3_2 : w.heap.size + 1 + 1 < w3.heap.size := by omega); (try have hy3_3 : w.heap.size + 1 + 1 + 1 < w3.heap.size := by omega); (try have hy3_4 : w.heap.size + 1 + 1 + 1 + 1 < w3.heap.size := by omega); (try have hy3_5 : w.heap.size + 1 + 1 + 1 + 1 + 1 < w3.heap.size := by omega); (try have hy3_W0_0 : W0.heap.size < w3.heap.size := by omega); (try have hy3_W0_1 : W0.heap.size + 1 < w3.heap.size := by omega); (try have hy3_1_0 : w1.heap.size < w3.heap.size := by omega); (try have hy3_1_1 : w1.heap.size + 1 < w3.heap.size := by omega); (try have hy3_2_0 : w2.heap.size < w3.heap.size := by omega); (try have hy3_2_1 : w2.heap.size + 1 < w3.heap.size := by omega)) | (go_at_call 86; with_reducible refine (H3.out _).mono ?_; rintro e w4 ⟨rfl, hb4⟩; have q4 : Gr W0 w4 := gr_auto; have z4 := Gr.size q4; obtain ⟨hc4, hf4⟩ := Gr.cells hb4; have hz4 := Gr.size hb4; (try simp at hz4); (try have hy4_0 : w.heap.size < w4.heap.size := by omega); (try have hy4_1 : w.heap.size + 1 < w4.heap.size := by omega); (try have hy4_2 : w.heap.size + 1 + 1 < w4.heap.size := by omega); (try have hy4_3 : w.heap.size + 1 + 1 + 1 < w4.heap.size := by omega); (try have hy4_4 : w.heap.size + 1 + 1 + 1 + 1 < w4.heap.size := by omega); (try have hy4_5 : w.heap.size + 1 + 1 + 1 + 1 + 1 < w4.heap.size := by omega); (try have hy4_W0_0 : W0.heap.size < w4.heap.size := by omega); (try have hy4_W0_1 : W0.heap.size + 1 < w4.heap.size := by omega); (try have hy4_1_0 : w1.heap.size < w4.heap.size := by omega); (try have hy4_1_1 : w1.heap.size + 1 < w4.heap.size := by omega); (try have hy4_2_0 : w2.heap.size < w4.heap.size := by omega); (try have hy4_2_1 : w2.heap.size + 1 < w4.heap.size := by omega); (try have hy4_3_0 : w3.heap.size < w4.heap.size := by omega); (try have hy4_3_1 : w3.heap.size + 1 < w4.heap.size := by omega)) | (go_at_call 87; with_reducible refine (H4.out _).mono ?_; rintro e w5 ⟨rfl, hb5⟩; have q5 : Gr W0 w5 := gr_auto; have z5 := Gr.size q5; obtain ⟨hc5, hf5⟩ := Gr.cells hb5; have hz5 := Gr.size hb5; (try simp at hz5); (try have hy5_0 : w.heap.size < w5.heap.size := by omega); (try have hy5_1 : w.heap.size + 1 < w5.heap.size := by omega); (try have hy5_2 : w.heap.size + 1 + 1 < w5.heap.size := by omega); (try have hy5_3 : w.heap.size + 1 + 1 + 1 < w5.heap.size := by omega); (try have hy5_4 : w.heap.size + 1 + 1 + 1 + 1 < w5.heap.size := by omega); (try have hy5_5 : w.heap.size + 1 + 1 + 1 + 1 + 1 < w5.heap.size := by omega); (try have hy5_W0_0 : W0.heap.size < w5.heap.size := by omega); (try have hy5_W0_1 : W0.heap.size + 1 < w5.heap.size := by omega); (try have hy5_1_0 : w1.heap.size < w5.heap.size := by omega); (try have hy5_1_1 : w1.heap.size + 1 < w5.heap.size := by omega); (try have hy5_2_0 : w2.heap.size < w5.heap.size := by omega); (try have hy5_2_1 : w2.heap.size + 1 < w5.heap.size := by omega); (try have hy5_3_0 : w3.heap.size < w5.heap.size := by omega); (try have hy5_3_1 : w3.heap.size + 1 < w5.heap.size := by omega); (try have hy5_4_0 : w4.heap.size < w5.heap.size := by omega); (try have hy5_4_1 : w4.heap.size + 1 < w5.heap.size := by omega)))
  all_goals
    clear x0 x1 x2 x3 x4 x5
    go_wp2
    go_ret2
    refine ⟨ret_si ?_ rfl, gr_auto⟩
    rw [HX.out]
    simp only [← bytes_app]
end Go.Proofs.YtllkiadedaghoaaGreatDoor
